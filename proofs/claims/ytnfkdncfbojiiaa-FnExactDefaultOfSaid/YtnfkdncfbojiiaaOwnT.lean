/- Copies of a type, every slice of it in a block of its own: by the reference. -/
import Derived.Test.YtnfkdncfbojiiaaCore
import Derived.Test.YtnfkdncfbojiiaaOwnS
import Derived.Test.YtnfkdncfbojiiaaTyM
import Derived.Deep.RegionLaw
import Derived.Deep.RegionHeld3
import Derived.Deep.DeepCutAuto
namespace Go.Proofs.Ytnfkdncfbojiiaa
open Go.RowKit

/-- A function hands back a copy of a type, every slice of it in a block of its own. -/
def OwnTo (F : FuncId) (x : Ty) : Prop := ∀ (cs : List Value) (w : World), D.Ats w anyB x.ds cs → D.totals x.ds ≤ 4194304 → Calls Try.prog F #[.agg cs.toArray] w (RetSs x.ds w)
theorem own_sizes {k : Int} {n : ByteArray} {l : List ByteArray} {kids : List Ty} (h : D.totals (Ty.ds (.mk k n l kids)) ≤ 4194304) : l.length ≤ 4194304 ∧ kids.length ≤ 4194304 ∧ ∀ x ∈ kids, D.totals x.ds ≤ 4194304 := by
  have e : D.totals (Ty.ds (.mk k n l kids)) = n.size + ((strs l).total + ((rows Ty.ds 4 kids).total + 0)) := by rw [Ty.ds_eq]; simp [D.totals, D.total]
  have e1 : (strs l).total = l.length + D.totals (l.flatMap strD) := rows_total ..
  have e2 : (rows Ty.ds 4 kids).total = kids.length + D.totals (kids.flatMap Ty.ds) := rows_total ..
  refine ⟨by omega, by omega, fun x hx => ?_⟩
  have := totals_mem (f := Ty.ds) hx
  omega
theorem box_grown {w w' : World} {g G : Nat} {t : TypeId} {cs : List Value} (h : Box w g t cs) (hg : w.grownBy w' (some G)) (hne : g ≠ G) : Box w' g t cs := (hg.block g h.lt (by simpa using hne)).trans h
theorem below_grown {B G : Nat} {w0 W w' : World} (m : Below B w0 W) (hg : W.grownBy w' (some G)) (hG : B ≤ G) (hB : B ≤ W.heap.size) : Below B w0 w' := m.grown hg hB (fun k hk => by cases hk; exact hG)
theorem keep3 {w0 W : World} {h : Nat} {a b c : Value} (zA : h < w0.heap.size) (e1 : w0.cell? ⟨h, 0, none⟩ = some a) (e2 : w0.cell? ⟨h, 1, none⟩ = some b) (e3 : w0.cell? ⟨h, 2, none⟩ = some c)
    (G : Below w0.heap.size w0 W) : W.cell? ⟨h, 0, none⟩ = some a ∧ W.cell? ⟨h, 1, none⟩ = some b ∧ W.cell? ⟨h, 2, none⟩ = some c :=
  ⟨(G.cell (p := ⟨h, 0, none⟩) zA).trans e1, (G.cell (p := ⟨h, 1, none⟩) zA).trans e2, (G.cell (p := ⟨h, 2, none⟩) zA).trans e3⟩
/-- Behind the first statement: the labels' row apart from the block that holds it. -/
theorem own_cutA {w0 w' wx : World} {l : List ByteArray} {v : Value} {g B : Nat} (h : ∃ bl, D.Sep w' (strs l) bl v ∧ bl.Nodup ∧ ∀ b ∈ bl, v.ownBlock = some b ∧ B ≤ b ∧ b < w'.heap.size) (_hb : Below B w0 w') (hne : v.ownBlock ≠ some g)
    (hk : ∀ b, b ≠ g → b < w'.heap.size → wx.heap[b]? = w'.heap[b]?) (hs : w'.heap.size ≤ wx.heap.size) : ∃ bl, D.Sep wx (strs l) bl v ∧ bl.Nodup ∧ ∀ b ∈ bl, B ≤ b ∧ b < wx.heap.size ∧ b ≠ g := by
  obtain ⟨bl, h1, h2, h3⟩ := h
  have hg : ∀ b ∈ bl, b ≠ g := fun b hb e => hne (e ▸ (h3 b hb).1)
  exact ⟨bl, D.Sep.keep _ _ _ (fun b hb => hk b (hg b hb) (h3 b hb).2.2) h1, h2, fun b hb => ⟨(h3 b hb).2.1, Nat.lt_of_lt_of_le (h3 b hb).2.2 hs, hg b hb⟩⟩
theorem own_ne {v : Value} {g G H : Nat} (h : v.ownBlock = some G ∨ v.ownBlock = some H) (h1 : G ≠ g) (h2 : H ≠ g) : v.ownBlock ≠ some g := by
  intro e
  rcases h with h | h
  · rw [h] at e; injection e with e; exact h1 e
  · rw [h] at e; injection e with e; exact h2 e
theorem strs_small {w : World} {S : Nat → Prop} {l : List ByteArray} {v : Value} (h : D.At w S (strs l) v) : ∀ s ∈ l, s.size ≤ maxLen := by
  unfold strs rows at h
  simp only [D.At] at h
  obtain ⟨A, cap, xs, -, -, -, -, -, h5⟩ := h
  exact (strs_xs h5).2
theorem at_world {P : Program} {ops : Array Oper} {o : Oper} {a : Act} {K : Act → World → Prop} {Q : Exit → Act → World → Prop} {E : Prop} (W : World) (h : if Region.wanted o (yielded ops a.tmps) = true then Oper.wp P o a W K Q else E) : if Region.wanted o (yielded ops a.tmps) = true then Oper.wp P o a W K Q else E := h
theorem own_cutB {w0 w' : World} {g : Nat} {t : TypeId} {a b c d a' b' c' d' : Value} {l : List ByteArray} {B : Nat} (hz : Box w' g t [a', b', c', d']) (h : ∃ bl, D.Sep w' (strs l) bl c ∧ bl.Nodup ∧ ∀ b ∈ bl, c.ownBlock = some b ∧ B ≤ b ∧ b < w'.heap.size) (hb : Below B w0 w') (hg : B ≤ g) (hne : c.ownBlock ≠ some g) :
    B ≤ g ∧ Box ((((w'.setCell ⟨g, 0, none⟩ a).setCell ⟨g, 1, none⟩ b).setCell ⟨g, 2, none⟩ c).setCell ⟨g, 3, none⟩ d) g t [a, b, c, d] ∧
      (∃ bl, D.Sep ((((w'.setCell ⟨g, 0, none⟩ a).setCell ⟨g, 1, none⟩ b).setCell ⟨g, 2, none⟩ c).setCell ⟨g, 3, none⟩ d) (strs l) bl c ∧ bl.Nodup ∧ ∀ x ∈ bl, B ≤ x ∧ x < ((((w'.setCell ⟨g, 0, none⟩ a).setCell ⟨g, 1, none⟩ b).setCell ⟨g, 2, none⟩ c).setCell ⟨g, 3, none⟩ d).heap.size ∧ x ≠ g) ∧
      Below B w0 ((((w'.setCell ⟨g, 0, none⟩ a).setCell ⟨g, 1, none⟩ b).setCell ⟨g, 2, none⟩ c).setCell ⟨g, 3, none⟩ d) :=
  ⟨hg, (((hz.set 0 a).set 1 b).set 2 c).set 3 d, own_cutA h hb hne (fun x hx _ => by rw [Below.heap_setCell _ _ _ _ hx, Below.heap_setCell _ _ _ _ hx, Below.heap_setCell _ _ _ _ hx, Below.heap_setCell _ _ _ _ hx]) (by simp [World.setCell]),
    (((hb.setCell hg _).setCell hg _).setCell hg _).setCell hg _⟩
theorem own_cutC {w0 w' : World} {t : TypeId} {a b c d : Value} {l : List ByteArray} {B : Nat} (h : ∃ bl, D.Sep w' (strs l) bl c ∧ bl.Nodup ∧ ∀ b ∈ bl, c.ownBlock = some b ∧ B ≤ b ∧ b < w'.heap.size) (hb : Below B w0 w') (hne : c.ownBlock ≠ some w'.heap.size) (hB : B ≤ w'.heap.size) :
    B ≤ w'.heap.size ∧ Box (w'.alloc (.cells #[a, b, c, d] t)) w'.heap.size t [a, b, c, d] ∧
      (∃ bl, D.Sep (w'.alloc (.cells #[a, b, c, d] t)) (strs l) bl c ∧ bl.Nodup ∧ ∀ x ∈ bl, B ≤ x ∧ x < (w'.alloc (.cells #[a, b, c, d] t)).heap.size ∧ x ≠ w'.heap.size) ∧ Below B w0 (w'.alloc (.cells #[a, b, c, d] t)) :=
  ⟨hB, Box.new w' t [a, b, c, d], own_cutA h hb hne (fun x _ hx => Below.heap_alloc w' _ x hx) (by simp), hb.alloc hB _⟩
/-- Behind the loop: the parts of the copy, one behind the other. -/
theorem own_end {w w' : World} {h : Nat} {k : Int} {n : ByteArray} {l : List ByteArray} {kids : List Ty} {vL vK : Value} {bl : List Nat} {B : Nat} (hk : -9223372036854775808 ≤ k ∧ k ≤ 9223372036854775807) (hn : n.size ≤ maxLen) (hL : D.Sep w (strs l) bl vL) (hd : bl.Nodup) (hb : ∀ b ∈ bl, h ≤ b ∧ b < B)
    (hB : h ≤ B) (hK : SepIn w B w.heap.size (rows Ty.ds 4 kids) vK) (hw : w'.heap.size = w.heap.size) (hkeep : ∀ b, (b ∈ bl ∨ B ≤ b) → w'.heap[b]? = w.heap[b]?) : SepsIn w' h w'.heap.size (Ty.ds (.mk k n l kids)) [.int .i64 k, .string n, vL, vK] := by
  have hL' : SepIn w' h B (strs l) vL := ⟨hB, bl, D.Sep.keep _ _ _ (fun b hm => hkeep b (.inl hm)) hL, hd, hb⟩
  have hK' : SepIn w' B w'.heap.size (rows Ty.ds 4 kids) vK := by
    rw [hw]
    exact hK.keep (fun b h1 _ => hkeep b (.inr h1))
  rw [Ty.ds_eq]
  exact SepsIn.cons (SepIn.int hk) (SepsIn.cons (SepIn.str hn) (SepsIn.cons hL' (SepsIn.cons hK' (SepsIn.nil (Nat.le_refl _)))))
theorem info_tTerm : (Try.prog.info? 29).map (fun i => (i.zero, i.size, i.bytes)) = some (some (.agg #[.int .i64 0, .string ⟨#[]⟩, .slice none 0 0, .slice none 0 0]), 4, 72) := by kernel_rfl
theorem info_sTerm : (Try.prog.info? 9).map (fun i => (i.zero, i.size, i.bytes)) = some (some (.string ⟨#[]⟩), 1, 16) := by kernel_rfl
set_option maxHeartbeats 4000000 in
set_option maxRecDepth 20000 in
theorem l06Of_s (x : Ty) : OwnTo 28 x := by
  refine Ty.ind (fun k n l kids ih => ?_) x
  intro cs w hcs ht
  obtain ⟨A, c, A', c', rfl, hk, hn, hl, hkids⟩ := Ty.open_ hcs
  obtain ⟨-, hnl, hcl⟩ := rows_bound hl
  obtain ⟨-, hnk, hck⟩ := rows_bound hkids
  obtain ⟨hl4, hk4, hkt⟩ := own_sizes ht
  unfold maxLen at hcl hck
  have HK := Lib.hid (And.intro hk (And.intro hn (strs_small hl)))
  have hlm : l.length ≤ maxLen := by unfold maxLen; omega
  have HI := Lib.hid ih
  have HT := Lib.hid hkt
  obtain ⟨i0, hi, hz0, hz1, hz2⟩ := info_parts info_sTerm
  obtain ⟨j0, hj, hy0, hy1, hy2⟩ := info_parts info_tTerm
  have HS := Lib.hid (And.intro hi (And.intro hz0 (And.intro hz1 hz2)))
  have HJ := Lib.hid (And.intro hj (And.intro hy0 (And.intro hy1 hy2)))
  obtain ⟨w0, hw0⟩ : ∃ w0, w0 = (w.alloc (.cells #[.int .i64 k, .string n, .slice A l.length c, .slice A' kids.length c'] 33)).alloc (.cells #[.int .i64 0, .string ⟨#[]⟩, .slice none 0 0, .slice none 0 0] 29) := ⟨_, rfl⟩
  have bA : Box w0 w.heap.size 33 [.int .i64 k, .string n, .slice A l.length c, .slice A' kids.length c'] := by rw [hw0]; exact (Box.new w _ _).alloc _
  have bR : Box w0 (w.heap.size + 1) 29 [.int .i64 0, .string ⟨#[]⟩, .slice none 0 0, .slice none 0 0] := by rw [hw0]; have := Box.new (w.alloc (.cells #[.int .i64 k, .string n, .slice A l.length c, .slice A' kids.length c'] 33)) 29 [.int .i64 0, .string ⟨#[]⟩, .slice none 0 0, .slice none 0 0]; simpa using this
  have B0 : Below w.heap.size w w0 := by rw [hw0]; exact ((Below.refl _ _).alloc (Nat.le_refl _) _).alloc (by simp) _
  have hs0 : w0.heap.size = w.heap.size + 2 := by rw [hw0]; simp
  have HL := Lib.hid (D.At.below hl B0)
  have HV := Lib.hid (D.At.below hkids B0)
  have HS0 := Lib.hid hs0
  clear hcs hk hn hl hkids ih ht hkt hi hz0 hz1 hz2 hj hy0 hy1 hy2 hs0
  change Calls Try.prog 28 #[.agg #[.int .i64 k, .string n, .slice A l.length c, .slice A' kids.length c']] w _
  have kA := bA.cell
  go_enter Try.func28, Try.ntmps28
  go_upto_region 1 with fail
  rw [← hw0]
  clear hw0
  have a0 : w0.cell? ⟨w.heap.size, 0, none⟩ = some (.int .i64 k) := kA 0
  have a1 : w0.cell? ⟨w.heap.size, 1, none⟩ = some (.string n) := kA 1
  have a2 : w0.cell? ⟨w.heap.size, 2, none⟩ = some (.slice A l.length c) := kA 2
  clear kA
  have zA := bA.lt
  go_cut [3] (fun s wx => ∃ (g : Nat) (vL : Value), s = .pointer (some ⟨g, 0, none⟩) ∧ w0.heap.size ≤ g ∧ Box wx g 29 [.int .i64 k, .string n, vL, .slice none 0 0] ∧ (∃ bl, D.Sep wx (strs l) bl vL ∧ bl.Nodup ∧ ∀ b ∈ bl, w0.heap.size ≤ b ∧ b < wx.heap.size ∧ b ≠ g) ∧ Below w0.heap.size w0 wx)
  case first =>
    have k0 : (w0.alloc (.cells #[] 9)).drew.heap[w0.heap.size]? = some (.cells #[] 9 (0, 0)) := Box.new w0 9 []
    have k1 : ((w0.alloc (.cells #[] 9)).alloc (.cells #[.int .i64 0, .string ⟨#[]⟩, .slice none 0 0, .slice none 0 0] 29)).drew.heap[w0.heap.size]? = some (.cells #[] 9 (0, 0)) := (Box.new w0 9 []).alloc _
    have k2 : ((w0.alloc (.cells #[.int .i64 0, .string ⟨#[]⟩, .slice none 0 0, .slice none 0 0] 29)).alloc (.cells #[] 9)).drew.heap[w0.heap.size + 1]? = some (.cells #[] 9 (0, 0)) := by
      have h := Box.new (w0.alloc (.cells #[.int .i64 0, .string ⟨#[]⟩, .slice none 0 0, .slice none 0 0] 29)) 9 []
      rw [show (w0.alloc (.cells #[.int .i64 0, .string ⟨#[]⟩, .slice none 0 0, .slice none 0 0] 29)).heap.size = w0.heap.size + 1 by simp] at h
      exact h
    have b1 : Box ((w0.alloc (.cells #[] 9)).alloc (.cells #[.int .i64 0, .string ⟨#[]⟩, .slice none 0 0, .slice none 0 0] 29)).drew (w0.heap.size + 1) 29 [.int .i64 0, .string ⟨#[]⟩, .slice none 0 0, .slice none 0 0] := by
      have h := Box.new (w0.alloc (.cells #[] 9)) 29 [.int .i64 0, .string ⟨#[]⟩, .slice none 0 0, .slice none 0 0]
      rw [show (w0.alloc (.cells #[] 9)).heap.size = w0.heap.size + 1 by simp] at h
      exact h
    have b2 : Box ((w0.alloc (.cells #[.int .i64 0, .string ⟨#[]⟩, .slice none 0 0, .slice none 0 0] 29)).alloc (.cells #[] 9)).drew w0.heap.size 29 [.int .i64 0, .string ⟨#[]⟩, .slice none 0 0, .slice none 0 0] := (Box.new w0 _ [.int .i64 0, .string ⟨#[]⟩, .slice none 0 0, .slice none 0 0]).alloc _
    have m0 : Below w0.heap.size w0 (w0.alloc (.cells #[] 9)).drew := ((Below.refl _ w0).alloc (Nat.le_refl _) _).drew
    have m1 : Below w0.heap.size w0 ((w0.alloc (.cells #[] 9)).alloc (.cells #[.int .i64 0, .string ⟨#[]⟩, .slice none 0 0, .slice none 0 0] 29)).drew := (((Below.refl _ w0).alloc (Nat.le_refl _) _).alloc (by simp) _).drew
    have m2 : Below w0.heap.size w0 ((w0.alloc (.cells #[.int .i64 0, .string ⟨#[]⟩, .slice none 0 0, .slice none 0 0] 29)).alloc (.cells #[] 9)).drew := (((Below.refl _ w0).alloc (Nat.le_refl _) _).alloc (by simp) _).drew
    have m3 : Below w0.heap.size w0 (w0.alloc (.cells #[.int .i64 0, .string ⟨#[]⟩, .slice none 0 0, .slice none 0 0] 29)).drew := ((Below.refl _ w0).alloc (Nat.le_refl _) _).drew
    have x0 := HL.out.below m0
    have x1 := HL.out.below m1
    have x2 := HL.out.below m2
    have K0 : Below w0.heap.size w0 w0.drew := (Below.refl _ w0).drew
    go_region_held3 (fun w' => w'.cell? ⟨w.heap.size, 0, none⟩ = some (.int .i64 k) ∧ w'.cell? ⟨w.heap.size, 1, none⟩ = some (.string n) ∧ w'.cell? ⟨w.heap.size, 2, none⟩ = some (.slice A l.length c))
      (first | with_reducible exact ⟨e0, e1, e2⟩ | ((refine keep3 zA a0 a1 a2 ?_); (repeat (first | with_reducible exact m0 | with_reducible exact m1 | with_reducible exact m2 | with_reducible exact m3 | with_reducible exact bw | with_reducible exact Below.refl _ _ | with_reducible refine Below.drew ?_ | (with_reducible refine Below.setCell ?_ ?_ _; rotate_left; (first | with_reducible exact Nat.le_refl _ | with_reducible exact Nat.le_succ _ | with_reducible exact bw.size | (simp; done))) | (with_reducible refine Below.alloc ?_ ?_ _; rotate_left; (first | with_reducible exact Nat.le_refl _ | with_reducible exact bw.size | (simp; done) | (simp; omega))))); done) | (trace_state; fail))
      (first
      | ((with_reducible refine at_world ((w0.alloc (.cells #[] 9)).drew) ?_); refine step_texts k0 (Nat.le_refl _) x0 hl4 (.tmp 9) (.tmp 11) Try.underlying22 HS.out.1 HS.out.2.1 HS.out.2.2.1 HS.out.2.2.2 ?_; intro v' w' ho' hg' hat'; have bw := below_grown m0 hg' (Nat.le_refl _) m0.size; have e0 := (bw.cell (p := ⟨w.heap.size, 0, none⟩) zA).trans a0; have e1 := (bw.cell (p := ⟨w.heap.size, 1, none⟩) zA).trans a1; have e2 := (bw.cell (p := ⟨w.heap.size, 2, none⟩) zA).trans a2; have zB := Nat.lt_of_lt_of_le zA bw.size; obtain ⟨A2, c2, rfl⟩ := own_slice ho')
      | ((with_reducible refine at_world (((w0.alloc (.cells #[] 9)).alloc (.cells #[.int .i64 0, .string ⟨#[]⟩, .slice none 0 0, .slice none 0 0] 29)).drew) ?_); refine step_texts k1 (Nat.le_refl _) x1 hl4 (.tmp 9) (.tmp 11) Try.underlying22 HS.out.1 HS.out.2.1 HS.out.2.2.1 HS.out.2.2.2 ?_; intro v' w' ho' hg' hat'; have bw := below_grown m1 hg' (Nat.le_refl _) m1.size; have e0 := (bw.cell (p := ⟨w.heap.size, 0, none⟩) zA).trans a0; have e1 := (bw.cell (p := ⟨w.heap.size, 1, none⟩) zA).trans a1; have e2 := (bw.cell (p := ⟨w.heap.size, 2, none⟩) zA).trans a2; have zB := Nat.lt_of_lt_of_le zA bw.size; obtain ⟨A2, c2, rfl⟩ := own_slice ho'; have bZ := box_grown b1 hg' (Nat.succ_ne_self _); have cz := bZ.cell; have fz := bZ.frozen; have lz := bZ.lt)
      | ((with_reducible refine at_world (((w0.alloc (.cells #[.int .i64 0, .string ⟨#[]⟩, .slice none 0 0, .slice none 0 0] 29)).alloc (.cells #[] 9)).drew) ?_); refine step_texts k2 (Nat.le_succ _) x2 hl4 (.tmp 9) (.tmp 11) Try.underlying22 HS.out.1 HS.out.2.1 HS.out.2.2.1 HS.out.2.2.2 ?_; intro v' w' ho' hg' hat'; have bw := below_grown m2 hg' (Nat.le_succ _) m2.size; have e0 := (bw.cell (p := ⟨w.heap.size, 0, none⟩) zA).trans a0; have e1 := (bw.cell (p := ⟨w.heap.size, 1, none⟩) zA).trans a1; have e2 := (bw.cell (p := ⟨w.heap.size, 2, none⟩) zA).trans a2; have zB := Nat.lt_of_lt_of_le zA bw.size; obtain ⟨A2, c2, rfl⟩ := own_slice ho'; have bZ := box_grown b2 hg' (fun e => by omega); have cz := bZ.cell; have fz := bZ.frozen; have lz := bZ.lt))
    all_goals
      go_wp2_with fail
      go_meet
      first
        | (have hz : Box w' (w0.heap.size + 1) 29 [.int .i64 0, .string ⟨#[]⟩, .slice none 0 0, .slice none 0 0] := (by with_reducible exact bZ)
           exact ⟨w0.heap.size + 1, .slice A2 l.length c2, rfl, own_cutB hz (own_texts ho' HK.out.2.2 hlm) bw (Nat.le_succ _) (own_ne hat' (by first | (simp; done) | (simp; omega)) (by first | (simp; done) | (simp; omega)))⟩)
        | (have hz : Box w' w0.heap.size 29 [.int .i64 0, .string ⟨#[]⟩, .slice none 0 0, .slice none 0 0] := (by with_reducible exact bZ)
           exact ⟨w0.heap.size, .slice A2 l.length c2, rfl, own_cutB hz (own_texts ho' HK.out.2.2 hlm) bw (Nat.le_refl _) (own_ne hat' (by first | (simp; done) | (simp; omega)) (by first | (simp; done) | (simp; omega)))⟩)
        | exact ⟨w'.heap.size, .slice A2 l.length c2, rfl, own_cutC (own_texts ho' HK.out.2.2 hlm) bw (fun e => Nat.lt_irrefl _ (ho'.lt _ e).2) bw.size⟩
  case rest =>
    obtain ⟨g, vL, rfl, hg, bG, ⟨bl, sL, nd, hbl⟩, B1⟩ := hcut
    obtain ⟨W1, hW1⟩ : ∃ W1, W1 = wc := ⟨_, rfl⟩
    rw [← hW1] at bG sL hbl B1 ⊢
    clear hW1 a0 a1 a2 zA
    obtain ⟨AL, cL, rfl, -, -, -⟩ := sL.sl_form
    have hs1 := B1.size
    have hgl := bG.lt
    have zA := bA.lt
    have zR := bR.lt
    have HS1 := Lib.hid (And.intro sL (And.intro nd hbl))
    have HB1 := Lib.hid (And.intro B0 (And.intro bA bR))
    have HG := Lib.hid bG
    have HB1' := Lib.hid B1
    have kA1 := (bA.call B1).cell
    have kG1 := bG.cell
    clear sL nd hbl bA bR B0 bG HL B1
    go_wp2
    go_loopw [4] (fun i wr => ∃ (q : Nat) (vK : Value), q ≤ kids.length ∧ i = .int .i64 q ∧ Box wr g 29 [.int .i64 k, .string n, .slice AL l.length cL, vK] ∧ OwnP wr W1.heap.size 29 4 vK q ((kids.take q).flatMap Ty.ds) ∧ (∀ b, b < W1.heap.size → b ≠ g → wr.heap[b]? = W1.heap[b]?) ∧ Below w0.heap.size w0 wr) (fun i _ => kids.length - (intOf i).toNat)
    case atStart => exact ⟨0, _, Nat.zero_le _, rfl, HG.out, OwnP.nil (Nat.le_refl _), fun _ _ _ => rfl, HB1'.out⟩
    clear kA1 kG1
    case round =>
      obtain ⟨q, vK, hq, rfl, bG, hO, hkp, hb⟩ := hrel
      obtain ⟨AK, cK, rfl⟩ := hO.form
      have lG := bG.lt
      have bA : Box wr w.heap.size 33 [.int .i64 k, .string n, .slice A l.length c, .slice A' kids.length c'] := (hb.block _ zA).trans HB1.out.2.1
      by_cases hlt : q < kids.length
      · obtain ⟨x, hx⟩ : ∃ x, kids[q]? = some x := ⟨kids[q], List.getElem?_eq_getElem hlt⟩
        have hk0 : (0 : Int) ≤ (q : Int) := by omega
        have hk1 : (q : Int) < (kids.length : Int) := by omega
        obtain ⟨b, off, u0, u1, u2, u3, e, -, hbl, hat, d0, d1, d2, d3⟩ := rows_at4 Ty.len (HV.out.below hb) hx
        subst e
        obtain ⟨f0, f1, f2, f3, f4, f5, f6, f7, exx⟩ := Ty.form hat
        simp only [List.cons.injEq, and_true] at exx
        obtain ⟨rfl, rfl, rfl, rfl⟩ := exx
        have hxm := List.mem_of_getElem? hx
        have HC := Lib.hid (HI.out x hxm _ wr.drew hat.drew (HT.out x hxm))
        have hOd := hO.drew
        have bGd : Box wr.drew g 29 [.int .i64 k, .string n, .slice AL l.length cL, .slice AK q cK] := bG
        have HN := Lib.hid (take_next (f := Ty.ds) hx)
        have HKP := Lib.hid (And.intro hkp hb)
        have kA := bA.cell
        have kG := bG.cell
        clear hx hxm hat hO bG hkp hb bA
        go_upto_region 5 with fail
        go_region_law (first
          | (go_simp; go_at_call 28; ((refine HC.out.mono ?_); rintro e w3 ⟨cs3, rfl, hs3, hb3⟩; obtain ⟨z0, z1, z2, z3, z4, z5, z6, z7, rfl⟩ := Ty.form hs3.ats; have bG3 := Box.call (w := wr.drew) bGd hb3; have c9 := bG3.cell; have l9 := bG3.lt))
          | ((with_reducible refine at_world (w3.alloc (.cells #[.int .i64 z0, .string z1, .slice z2 z3 z4, .slice z5 z6 z7] 29)) ?_); refine step_ownP (vs := [.int .i64 z0, .string z1, .slice z2 z3 z4, .slice z5 z6 z7]) hOd hb3 hs3 (.tmp 22) (.tmp 29) Try.underlying27 HJ.out.1 HJ.out.2.1 HJ.out.2.2.1 HJ.out.2.2.2 rfl (by decide) rfl (by simp [Value.oneCell']) (by unfold maxLen; omega) (by omega) ?_; intro v' w' ho' hb'; obtain ⟨A2, c2, rfl⟩ := ho'.form; have bG2 : Box w' g 29 [.int .i64 k, .string n, .slice AL l.length cL, .slice AK q cK] := (hb'.block g hgl).trans bGd; have cg := bG2.cell; have fg := bG2.frozen; have lg := bG2.lt))
        all_goals
          have HON := Lib.hid (ho'.set (p := ⟨g, 3, none⟩) hgl (.slice A2 (q + 1) c2))
          have HBN := Lib.hid (show Box (w'.setCell ⟨g, 3, none⟩ (.slice A2 (q + 1) c2)) g 29 [.int .i64 k, .string n, .slice AL l.length cL, .slice A2 (q + 1) c2] from bG2.set 3 _)
          have HKN := Lib.hid (show ∀ b, b < W1.heap.size → b ≠ g → (w'.setCell ⟨g, 3, none⟩ (.slice A2 (q + 1) c2)).heap[b]? = W1.heap[b]? from fun b h1 h2 => ((Below.heap_setCell _ _ _ _ h2).trans (hb'.block b h1)).trans (HKP.out.1 b h1 h2))
          have HWN := Lib.hid (show Below w0.heap.size w0 (w'.setCell ⟨g, 3, none⟩ (.slice A2 (q + 1) c2)) from (HKP.out.2.drew.trans (hb'.mono hs1)).setCell hg _)
          clear kA kG d0 d1 d2 d3 cg fg lg bG2 bGd hOd ho' hb'
          go_wp2
          go_roundw
          case rel => exact ⟨q + 1, _, by omega, by go_num, HBN.out, by rw [HN.out]; exact HON.out, HKN.out, HWN.out⟩
          case measure => simp [intOf]; omega
      · obtain rfl : q = kids.length := by omega
        have hD := hO.done (fun h0 => by rw [List.take_length, List.eq_nil_of_length_eq_zero h0]; rfl)
        rw [List.take_length] at hD
        have HD := Lib.hid hD
        have HKP := Lib.hid (And.intro hkp hb)
        have bR : Box wr (w.heap.size + 1) 29 [.int .i64 0, .string ⟨#[]⟩, .slice none 0 0, .slice none 0 0] := (hb.block _ zR).trans HB1.out.2.2
        have kA := bA.cell
        have kG := bG.cell
        have kR := bR.cell
        have fR := bR.frozen
        have lR := bR.lt
        clear hD hO hkp hb
        go_wp2
        refine bodyPost_ret (v := .agg #[.int .i64 k, .string n, .slice AL l.length cL, .slice AK kids.length cK]) (by simp [results, Try.results28, go_sem, kR]) rfl ⟨[.int .i64 k, .string n, .slice AL l.length cL, .slice AK kids.length cK], rfl, ?_, ?_⟩
        · have h3 : ∀ b ∈ bl, b ≠ w.heap.size + 1 := fun b hb => by have := HS1.out.2.2 b hb; have := HS0.out; omega
          have hsz := HKP.out.2.size
          refine own_end (w := wr) (B := W1.heap.size) HK.out.1 HK.out.2.1 (D.Sep.keep _ _ _ (fun b hb => HKP.out.1 b (HS1.out.2.2 b hb).2.1 (HS1.out.2.2 b hb).2.2) HS1.out.1) HS1.out.2.1 (fun b hb => ⟨by have := HS1.out.2.2 b hb; have := HS0.out; omega, (HS1.out.2.2 b hb).2.1⟩) (by have := HS0.out; omega) HD.out (by simp [World.setCell]) (fun b hb => ?_)
          have hne : b ≠ w.heap.size + 1 := by
            rcases hb with hb | hb
            · exact h3 b hb
            · have := HS0.out; omega
          rw [Below.heap_setCell _ _ _ _ hne, Below.heap_setCell _ _ _ _ hne, Below.heap_setCell _ _ _ _ hne, Below.heap_setCell _ _ _ _ hne]
        · have := HB1.out.1.trans (HKP.out.2.mono HB1.out.1.size)
          with_reducible refine Below.setCell (Below.setCell (Below.setCell (Below.setCell ?_ ?_ _) ?_ _) ?_ _) ?_ _
          · exact this
          all_goals exact Nat.le_succ _
end Go.Proofs.Ytnfkdncfbojiiaa
