/- Value: its slices marked and held. -/
import Derived.Test.YtnfkdncfbojiiaaMkValue
import Derived.Test.YtnfkdncfbojiiaaMtBase
namespace Go.Proofs.Ytnfkdncfbojiiaa
open Go.RowKit

set_option maxHeartbeats 1000000 in
set_option maxRecDepth 20000 in
theorem markValue_w (x : Va) : MkT 18 x.ds := by
  obtain ⟨k, m, t, kids⟩ := x
  intro cs bl k0 z w hz h1 hk hv hnd
  subst hz
  obtain ⟨n3, hn3⟩ : ∃ n, D.counts (kids.flatMap Va.ds) = n := ⟨_, rfl⟩
  have e1 : D.topsC (Va.mk k m t kids).ds = n3 := by rw [Va.ds_eq]; simp [D.topsC, D.topC, rows, hn3]
  have e2 : D.topsM k0 (Va.mk k m t kids).ds = [D.int k, D.int m, D.str t, D.sl kids.length 4 (D.marks (k0) (kids.flatMap Va.ds))] := by rw [Va.ds_eq]; simp [D.topsM, D.topM, D.topC, rows]
  rw [e1] at hk ⊢
  rw [e2]
  rw [Va.ds_eq] at hv
  obtain ⟨A, c, rfl, -, -, -, -⟩ := Va.open_ (D.Seps.at_ (S := anyB) _ _ _ (fun _ _ => trivial) (by rw [← Va.ds_eq] at hv; exact hv))
  have KS := Lib.hid hv
  have HL0 := Lib.hid hv
  clear hv
  have HN3 := Lib.hid hn3
  clear e1 e2 hn3
  have bA := Box.new w 42 [.int .i64 k, .int .i64 m, .string t, .slice A kids.length c]
  have BW : Below w.heap.size w (w.alloc (.cells #[.int .i64 k, .int .i64 m, .string t, .slice A kids.length c] 42)) := (Below.refl _ _).alloc (Nat.le_refl _) _
  have HB := Lib.hid (And.intro BW bA)
  clear BW bA
  go_enter Try.func18, Try.ntmps18
  have KW := Lib.hid (Wr.of_below (l := bl) HB.out.1)
  have KS1 := Lib.hid (D.Seps.below KS.out HB.out.1)
  clear KS
  have KS := KS1
  clear KS1
  have KB := Lib.hid HB.out.2
  obtain ⟨l3, x3, hx3, s3, nd3, sub3, f3⟩ := D.Seps.field (P := [D.int k, D.int m, D.str t]) (d := rows Va.ds 4 kids) (R := []) KS.out hnd
  obtain rfl : x3 = .slice A kids.length c := by simpa using hx3.symm
  have K3 := Lib.hid (And.intro s3 (And.intro nd3 (And.intro sub3 f3)))
  clear s3 nd3 sub3 f3 hx3
  go_wp2_with fail
  refine ((markValueS_all kids) _ l3 (k0) _ _ (by push_cast; first | rfl | omega) (by omega) (by rw [rows_count, HN3.out]; omega) K3.out.1 K3.out.2.1).mono ?_
  rintro e w1 ⟨m3, hm3, rfl, s3, wr3⟩
  have HM3 := Lib.hid (show m3 = k0 + n3 from by rw [hm3, rows_count, HN3.out])
  have hmb3 : m3 ≤ 1000000000000 := by have := HM3.out; omega
  have KS1 := Lib.hid (K3.out.2.2.2 _ _ wr3 s3)
  have KW1 := Lib.hid (KW.out.trans (wr3.mono K3.out.2.2.1))
  have KB1 := Lib.hid (show Box w1 w.heap.size 42 [.int .i64 k, .int .i64 m, .string t, .slice A kids.length c] from (wr3.block _ KB.out.lt (fun hmm => Nat.lt_irrefl _ (D.Seps.lt _ _ _ HL0.out _ (K3.out.2.2.1 _ hmm)))).trans KB.out)
  clear KS KW KB hm3 s3 wr3 K3
  have KS := KS1
  have KW := KW1
  have KB := KB1
  clear KS1 KW1 KB1
  go_wp2
  go_ret
  exact ⟨m3, by have := HM3.out; omega, rfl, KS.out, KW.out⟩
set_option maxHeartbeats 1000000 in
set_option maxRecDepth 20000 in
theorem heldValue_w (x : Va) : HdT 19 x.ds := by
  obtain ⟨k, m, t, kids⟩ := x
  intro cs k0 z w hz h1 hk hv
  subst hz
  obtain ⟨n3, hn3⟩ : ∃ n, D.counts (kids.flatMap Va.ds) = n := ⟨_, rfl⟩
  have e1 : D.topsC (Va.mk k m t kids).ds = n3 := by rw [Va.ds_eq]; simp [D.topsC, D.topC, rows, hn3]
  have e2 : D.topsM k0 (Va.mk k m t kids).ds = [D.int k, D.int m, D.str t, D.sl kids.length 4 (D.marks (k0) (kids.flatMap Va.ds))] := by rw [Va.ds_eq]; simp [D.topsM, D.topM, D.topC, rows]
  rw [e1] at hk ⊢
  rw [e2] at hv
  have hl := hv.length
  obtain ⟨v0, hx0, at0⟩ := D.Ats.field (P := []) (d := D.int k) (R := [D.int m, D.str t, D.sl kids.length 4 (D.marks (k0) (kids.flatMap Va.ds))]) hv
  obtain rfl := at0.int_form
  obtain ⟨v1, hx1, at1⟩ := D.Ats.field (P := [D.int k]) (d := D.int m) (R := [D.str t, D.sl kids.length 4 (D.marks (k0) (kids.flatMap Va.ds))]) hv
  obtain rfl := at1.int_form
  obtain ⟨v2, hx2, at2⟩ := D.Ats.field (P := [D.int k, D.int m]) (d := D.str t) (R := [D.sl kids.length 4 (D.marks (k0) (kids.flatMap Va.ds))]) hv
  obtain rfl := at2.str_form
  obtain ⟨v3, hx3, at3⟩ := D.Ats.field (P := [D.int k, D.int m, D.str t]) (d := D.sl kids.length 4 (D.marks (k0) (kids.flatMap Va.ds))) (R := []) hv
  obtain ⟨A3, c3, rfl, -, -⟩ := at3.sl_form
  obtain rfl : cs = [.int .i64 k, .int .i64 m, .string t, .slice A3 kids.length c3] := by
    simp only [List.length_cons, List.length_nil] at hl
    match cs, hl with
    | [y0, y1, y2, y3], _ => simp at hx0 hx1 hx2 hx3; simp [hx0, hx1, hx2, hx3]
  have S3 := Lib.hid at3
  clear hv hl hx0 hx1 hx2 hx3 at0 at1 at2 at3
  have HN3 := Lib.hid hn3
  clear e1 e2 hn3
  have bA := Box.new w 42 [.int .i64 k, .int .i64 m, .string t, .slice A3 kids.length c3]
  have BW : Below w.heap.size w (w.alloc (.cells #[.int .i64 k, .int .i64 m, .string t, .slice A3 kids.length c3] 42)) := (Below.refl _ _).alloc (Nat.le_refl _) _
  have HB := Lib.hid (And.intro BW bA)
  clear BW bA
  go_enter Try.func19, Try.ntmps19
  replace S3 := Lib.hid (D.At.below S3.out HB.out.1)
  have KB := HB
  go_wp2_with fail
  refine ((heldValueS_all kids) _ (k0) _ _ (by push_cast; first | rfl | omega) (by omega) (by rw [rows_count, HN3.out]; omega) S3.out).mono ?_
  rintro e w1 ⟨m3, hm3, rfl, hb1⟩
  have HM3 := Lib.hid (show m3 = k0 + n3 from by rw [hm3, rows_count, HN3.out])
  have hmb3 : ¬ ((m3 : Int) < 0) := by omega
  have KB1 := Lib.hid (And.intro (KB.out.1.trans (hb1.mono KB.out.1.size)) (KB.out.2.call hb1))
  clear KB hm3 hb1
  have KB := KB1
  clear KB1
  go_wp2
  go_ret
  exact ⟨m3, by have := HM3.out; omega, rfl, KB.out.1⟩
end Go.Proofs.Ytnfkdncfbojiiaa
