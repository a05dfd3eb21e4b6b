/- TermOf on both sides, as the law wants it. -/
import Derived.Test.YtnfkdncfbojiiaaTermI
import Derived.Test.YtnfkdncfbojiiaaTyOkS
import Derived.Test.YtnfkdncfbojiiaaTyOkI
import Derived.Test.YtnfkdncfbojiiaaMarkQ
import Derived.Test.YtnfkdncfbojiiaaSepIn
namespace Go.Proofs.Ytnfkdncfbojiiaa
open Go.RowKit

def termOr (x : Ty) : Ty := if tyOk x = true then x else .mk 0 ⟨#[]⟩ [] []
theorem topC_le (d : D) : D.topC d ≤ D.count d := by cases d <;> simp [D.topC, D.count]
theorem topsC_le_counts (l : List D) : D.topsC l ≤ D.counts l := by
  induction l with
  | nil => simp [D.topsC, D.counts]
  | cons d r ih => have := topC_le d; simp only [D.topsC, D.counts]; omega
theorem sep_nil {α : Type} {f : α → List D} {size : Nat} {w : World} (lo hi : Nat) (h : lo ≤ hi) : SepIn w lo hi (rows f size ([] : List α)) (.slice none 0 0) := ⟨h, [], D.Sep.empty (Nat.zero_le _), List.nodup_nil, fun b hb => by cases hb⟩
theorem tyOk_all {x : Ty} (h : tyOk x = true) : Ty.all shape x = true := by
  unfold tyOk at h
  rw [Bool.and_eq_true, Bool.and_eq_true] at h
  exact h.2.2
theorem tyOk_parts {x : Ty} (h1 : tyOk x = true) : x.parts ≤ 24 := by
  unfold tyOk at h1
  rw [Bool.and_eq_true, Bool.and_eq_true, decide_eq_true_eq, decide_eq_true_eq] at h1
  exact h1.2.1
theorem termRet_s_count (x : Ty) (R : Ty) (hr : termOr x = R) (ht : D.totals x.ds ≤ 1048576) : 1 + D.topsC R.ds ≤ 1000000000000 := by
  subst hr
  unfold termOr
  split
  · have := Ty.topsC_le x; omega
  · rw [Ty.ds_eq]; simp [D.topsC, D.topC, D.counts, strs, rows]
set_option maxHeartbeats 2000000 in
set_option maxRecDepth 20000 in
theorem termRet_s (x : Ty) (R : Ty) (cs : List Value) (w : World) (hr : termOr x = R) (hcs : D.Ats w anyB x.ds cs) (ht : D.totals x.ds ≤ 1048576) : Calls Try.prog 7 #[.agg cs.toArray] w (RetSs R.ds w) := by
  have HX := Lib.hid hcs
  obtain ⟨k, n, A0, m0, c0, A0', m0', c0', rfl⟩ := Ty.form hcs
  clear hcs
  have HR := Lib.hid hr
  clear hr
  go_enter Try.func7, Try.ntmps7
  go_wp2_with fail
  refine (typeOk_s x _ _ (HX.out.below (by repeat (first | exact Below.refl _ _ | refine Below.alloc ?_ (by first | omega | (simp <;> omega)) _)))).mono ?_
  rintro e w1 ⟨rfl, hb1⟩
  obtain ⟨B1, bA, bR⟩ := box2 (cA := [_, _, _, _]) (cB := [.int .i64 0, .string ⟨#[]⟩, .slice none 0 0, .slice none 0 0]) hb1
  clear hb1
  have c := bA.cell
  cases h1 : tyOk x
  · have E1 := Lib.hid (show R = .mk 0 ⟨#[]⟩ [] [] by rw [← HR.out, termOr, if_neg (by rw [h1]; decide)])
    have HB := Lib.hid B1
    have kR := bR.cell
    have fR := bR.frozen
    have lR := bR.lt
    clear h1 B1
    go_wp2
    refine bodyPost_ret (v := .agg #[.int .i64 0, .string ⟨#[]⟩, .slice none 0 0, .slice none 0 0]) (by simp [results, Try.results7, go_sem, kR]) rfl ⟨[.int .i64 0, .string ⟨#[]⟩, .slice none 0 0, .slice none 0 0], rfl, ?_, ?_⟩
    · rw [E1.out, Ty.ds_eq]
      have hsz := HB.out.size
      refine SepsIn.weaken (lo := w.heap.size) (hi := w.heap.size) ?_ (Nat.le_refl _) (by simp [World.setCell]; omega)
      exact SepsIn.cons (SepIn.int (by omega)) (SepsIn.cons (SepIn.str (by decide)) (SepsIn.cons (sep_nil _ _ (Nat.le_refl _)) (SepsIn.cons (sep_nil _ _ (by omega)) (SepsIn.nil (Nat.le_refl _)))))
    · have := HB.out
      repeat (first | exact this | with_reducible refine Below.setCell ?_ (by simp) _)
  · have E1 := Lib.hid (show R = x by rw [← HR.out, termOr, if_pos h1])
    have H2 := Lib.hid ((fun cs w h => l06Of_s x cs w h (by omega)))
    clear h1
    go_wp2_with fail
    refine (H2.out _ _ (HX.out.below B1)).mono ?_
    rintro e w2 ⟨cs2, rfl, hs2, hb2⟩
    obtain ⟨f0, f1, f2, f3, f4, f5, f6, f7, rfl⟩ := Ty.form hs2.ats
    have bR2 := bR.call hb2
    have HB := Lib.hid (B1.trans (hb2.mono B1.size))
    have HS := Lib.hid (hs2.weaken (lo' := w1.heap.size) (Nat.le_refl _) (Nat.le_refl _))
    have hs1 := B1.size
    have l1 := bR.lt
    have kR := bR2.cell
    have fR := bR2.frozen
    have lR := bR2.lt
    clear c hs2 hb2 B1
    go_wp2
    refine bodyPost_ret (v := .agg #[.int .i64 f0, .string f1, .slice f2 f3 f4, .slice f5 f6 f7]) (by simp [results, Try.results7, go_sem, kR]) rfl ⟨[.int .i64 f0, .string f1, .slice f2 f3 f4, .slice f5 f6 f7], rfl, ?_, ?_⟩
    · rw [E1.out]
      refine SepsIn.weaken (lo := w1.heap.size) (hi := w2.heap.size) ?_ (by omega) (by simp [World.setCell])
      have := HS.out
      repeat (first | exact this | with_reducible refine SepsIn.set ?_ (.inl l1) _)
    · have := HB.out
      repeat (first | exact this | with_reducible refine Below.setCell ?_ (by simp) _)
set_option maxHeartbeats 2000000 in
set_option maxRecDepth 20000 in
theorem termRet_i (x : Ty) (R : Ty) (cs : List Value) (w : World) (hr : termOr x = R) (hcs : D.Ats w anyB x.ds cs) (ht : D.totals x.ds ≤ 1048576) : Calls Try.prog 9 #[.agg cs.toArray] w (RetSs R.ds w) := by
  have HX := Lib.hid hcs
  obtain ⟨k, n, A0, m0, c0, A0', m0', c0', rfl⟩ := Ty.form hcs
  clear hcs
  have HR := Lib.hid hr
  clear hr
  go_enter Try.func9, Try.ntmps9
  go_wp2_with fail
  refine (typeOk_i x _ _ (HX.out.below (by repeat (first | exact Below.refl _ _ | refine Below.alloc ?_ (by first | omega | (simp <;> omega)) _))) (by have := Ty.parts_total x; omega)).mono ?_
  rintro e w1 ⟨rfl, hb1⟩
  obtain ⟨B1, bA, bR⟩ := box2 (cA := [_, _, _, _]) (cB := [.int .i64 0, .string ⟨#[]⟩, .slice none 0 0, .slice none 0 0]) hb1
  clear hb1
  have c := bA.cell
  cases h1 : tyOk x
  · have E1 := Lib.hid (show R = .mk 0 ⟨#[]⟩ [] [] by rw [← HR.out, termOr, if_neg (by rw [h1]; decide)])
    have HB := Lib.hid B1
    have kR := bR.cell
    have fR := bR.frozen
    have lR := bR.lt
    clear h1 B1
    go_wp2
    refine bodyPost_ret (v := .agg #[.int .i64 0, .string ⟨#[]⟩, .slice none 0 0, .slice none 0 0]) (by simp [results, Try.results9, go_sem, kR]) rfl ⟨[.int .i64 0, .string ⟨#[]⟩, .slice none 0 0, .slice none 0 0], rfl, ?_, ?_⟩
    · rw [E1.out, Ty.ds_eq]
      have hsz := HB.out.size
      refine SepsIn.weaken (lo := w.heap.size) (hi := w.heap.size) ?_ (Nat.le_refl _) (by simp [World.setCell]; omega)
      exact SepsIn.cons (SepIn.int (by omega)) (SepsIn.cons (SepIn.str (by decide)) (SepsIn.cons (sep_nil _ _ (Nat.le_refl _)) (SepsIn.cons (sep_nil _ _ (by omega)) (SepsIn.nil (Nat.le_refl _)))))
    · have := HB.out
      repeat (first | exact this | with_reducible refine Below.setCell ?_ (by simp) _)
  · have E1 := Lib.hid (show R = x by rw [← HR.out, termOr, if_pos h1])
    have H2 := Lib.hid ((fun cs w h => termOf_i x cs w h (by omega)))
    clear h1
    go_wp2_with fail
    refine (H2.out _ _ (HX.out.below B1)).mono ?_
    rintro e w2 ⟨cs2, rfl, hs2, hb2⟩
    obtain ⟨f0, f1, f2, f3, f4, f5, f6, f7, rfl⟩ := Ty.form hs2.ats
    have bR2 := bR.call hb2
    have HB := Lib.hid (B1.trans (hb2.mono B1.size))
    have HS := Lib.hid (hs2.weaken (lo' := w1.heap.size) (Nat.le_refl _) (Nat.le_refl _))
    have hs1 := B1.size
    have l1 := bR.lt
    have kR := bR2.cell
    have fR := bR2.frozen
    have lR := bR2.lt
    clear c hs2 hb2 B1
    go_wp2
    refine bodyPost_ret (v := .agg #[.int .i64 f0, .string f1, .slice f2 f3 f4, .slice f5 f6 f7]) (by simp [results, Try.results9, go_sem, kR]) rfl ⟨[.int .i64 f0, .string f1, .slice f2 f3 f4, .slice f5 f6 f7], rfl, ?_, ?_⟩
    · rw [E1.out]
      refine SepsIn.weaken (lo := w1.heap.size) (hi := w2.heap.size) ?_ (by omega) (by simp [World.setCell])
      have := HS.out
      repeat (first | exact this | with_reducible refine SepsIn.set ?_ (.inl l1) _)
    · have := HB.out
      repeat (first | exact this | with_reducible refine Below.setCell ?_ (by simp) _)
end Go.Proofs.Ytnfkdncfbojiiaa
