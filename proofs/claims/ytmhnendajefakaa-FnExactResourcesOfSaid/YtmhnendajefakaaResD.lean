/- ResourcesOf, told as the law's walk wants it. -/
import Derived.Test.YtmhnendajefakaaResC
import Derived.Test.YtmhnendajefakaaMarkQ
namespace Go.Proofs.Ytmhnendajefakaa
open Go.RowKit Go.Shelf Go.Sort

theorem own_sep {w : World} {base : Nat} {e : TypeId} {v : Value} {R : List ByteArray} (ho : w.ownsRow base e 1 v R.length (R.map Value.string)) (hs : smallS R) (hb : base ≤ w.heap.size) (hl : R.length ≤ maxLen) : SepIn w base w.heap.size (strs R) v := by
  have hS : D.Seps w (R.flatMap strD) [] (R.map Value.string) := by
    clear ho hl
    induction R with
    | nil => exact D.Seps.nil
    | cons s r ih => exact D.Seps.append (l1 := []) (l2 := []) (D.Seps.cons (l1 := []) (l2 := []) (D.Sep.str_ (hs s (by simp)) w) D.Seps.nil) (ih (fun x hx => hs x (by simp [hx])))
  rcases Nat.eq_zero_or_pos R.length with h0 | h0
  · have hR : R = [] := List.eq_nil_of_length_eq_zero h0
    subst hR
    rcases ho.2 with ⟨rfl, -⟩ | ⟨g, cap, cur, rfl, -, -, -, hm, -⟩
    · exact ⟨hb, [], D.Sep.empty (Nat.zero_le _), List.nodup_nil, fun b hb => by cases hb⟩
    · exact ⟨hb, [], D.Sep.empty hm, List.nodup_nil, fun b hb => by cases hb⟩
  · obtain ⟨g, hg, h⟩ := D.Sep.of_own ho hS h0
    have hlt := ho.lt g hg
    refine ⟨hb, [g], h, by simp, fun b hb => ?_⟩
    simp at hb
    subst hb
    exact hlt
theorem resOr_len {x : Ty} {R : List ByteArray} (hr : resOr x = R) : R.length ≤ 24 := by
  subst hr
  unfold resOr
  split
  · rename_i h
    have h1 := putBs_len [] x.res
    have h2 := Ty.res_len x
    have h3 := tyOk_parts h
    simp only [List.length_nil] at h1
    omega
  · exact Nat.zero_le _
theorem resOr_small {x : Ty} {R : List ByteArray} {w : World} {S : Nat → Prop} {cs : List Value} (hr : resOr x = R) (h : D.Ats w S x.ds cs) : smallS R := by
  subst hr
  unfold resOr
  split
  · exact putBs_small (fun s hs => by cases hs) (Ty.res_small h)
  · exact fun s hs => by cases hs
theorem resRet_s_count (x : Ty) (R : List ByteArray) (hr : resOr x = R) : 1 + D.count (strs R) ≤ 1000000000000 := by
  have e : D.count (strs R) = R.length := strs_counts R
  have := resOr_len hr
  omega
theorem resRet_s (x : Ty) (R : List ByteArray) (cs : List Value) (w : World) (hr : resOr x = R) (hcs : D.Ats w anyB x.ds cs) (ht : D.totals x.ds ≤ 1048576) : Calls Try.prog 10 #[.agg cs.toArray] w (RetS (strs R) w) := by
  have h3 := Ty.parts_total x
  refine (askRes_s x R cs w hr hcs (by omega)).mono ?_
  rintro e w' ⟨v, rfl, ho, hb⟩
  exact ⟨v, rfl, own_sep ho (resOr_small hr hcs) hb.size (by have := resOr_len hr; unfold maxLen; omega), hb⟩
theorem resRet_i (x : Ty) (R : List ByteArray) (cs : List Value) (w : World) (hr : resOr x = R) (hcs : D.Ats w anyB x.ds cs) (ht : D.totals x.ds ≤ 1048576) : Calls Try.prog 12 #[.agg cs.toArray] w (RetS (strs R) w) := by
  have h3 := Ty.parts_total x
  refine (askRes_i x R cs w hr hcs (by omega)).mono ?_
  rintro e w' ⟨v, rfl, ho, hb⟩
  exact ⟨v, rfl, own_sep ho (resOr_small hr hcs) hb.size (by have := resOr_len hr; unfold maxLen; omega), hb⟩
end Go.Proofs.Ytmhnendajefakaa
