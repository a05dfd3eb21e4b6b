/- Type: its slices marked and held. -/
import Derived.Test.YtnfkdncfbojiiaaMkType
import Derived.Test.YtnfkdncfbojiiaaMtBase
namespace Go.Proofs.Ytnfkdncfbojiiaa
open Go.RowKit

set_option maxHeartbeats 1000000 in
set_option maxRecDepth 20000 in
theorem markType_w (x : Ty) : MkT 12 x.ds := by
  obtain ⟨k, n, l, kids⟩ := x
  intro cs bl k0 z w hz h1 hk hv hnd
  subst hz
  obtain ⟨n2, hn2⟩ : ∃ n, D.counts (l.flatMap strD) = n := ⟨_, rfl⟩
  obtain ⟨n3, hn3⟩ : ∃ n, D.counts (kids.flatMap Ty.ds) = n := ⟨_, rfl⟩
  have e1 : D.topsC (Ty.mk k n l kids).ds = n2 + n3 := by rw [Ty.ds_eq]; simp [D.topsC, D.topC, strs, rows, hn2, hn3]
  have e2 : D.topsM k0 (Ty.mk k n l kids).ds = [D.int k, D.str n, D.sl l.length 1 (D.marks (k0) (l.flatMap strD)), D.sl kids.length 4 (D.marks (k0 + n2) (kids.flatMap Ty.ds))] := by rw [Ty.ds_eq]; simp [D.topsM, D.topM, D.topC, strs, rows, hn2]
  rw [e1] at hk ⊢
  rw [e2]
  rw [Ty.ds_eq] at hv
  obtain ⟨A, c, A', c', rfl, -, -, -, -⟩ := Ty.open_ (D.Seps.at_ (S := anyB) _ _ _ (fun _ _ => trivial) (by rw [← Ty.ds_eq] at hv; exact hv))
  have KS := Lib.hid hv
  have HL0 := Lib.hid hv
  clear hv
  have HN2 := Lib.hid hn2
  have HN3 := Lib.hid hn3
  clear e1 e2 hn2 hn3
  have bA := Box.new w 33 [.int .i64 k, .string n, .slice A l.length c, .slice A' kids.length c']
  have BW : Below w.heap.size w (w.alloc (.cells #[.int .i64 k, .string n, .slice A l.length c, .slice A' kids.length c'] 33)) := (Below.refl _ _).alloc (Nat.le_refl _) _
  have HB := Lib.hid (And.intro BW bA)
  clear BW bA
  go_enter Try.func12, Try.ntmps12
  have KW := Lib.hid (Wr.of_below (l := bl) HB.out.1)
  have KS1 := Lib.hid (D.Seps.below KS.out HB.out.1)
  clear KS
  have KS := KS1
  clear KS1
  have KB := Lib.hid HB.out.2
  obtain ⟨l2, x2, hx2, s2, nd2, sub2, f2⟩ := D.Seps.field (P := [D.int k, D.str n]) (d := strs l) (R := [rows Ty.ds 4 kids]) KS.out hnd
  obtain rfl : x2 = .slice A l.length c := by simpa using hx2.symm
  have K2 := Lib.hid (And.intro s2 (And.intro nd2 (And.intro sub2 f2)))
  clear s2 nd2 sub2 f2 hx2
  go_wp2_with fail
  refine ((markStringS_w l) _ l2 (k0) _ _ (by push_cast; first | rfl | omega) (by omega) (by rw [rows_count, HN2.out]; omega) K2.out.1 K2.out.2.1).mono ?_
  rintro e w1 ⟨m2, hm2, rfl, s2, wr2⟩
  have HM2 := Lib.hid (show m2 = k0 + n2 from by rw [hm2, rows_count, HN2.out])
  have hmb2 : m2 ≤ 1000000000000 := by have := HM2.out; omega
  have KS1 := Lib.hid (K2.out.2.2.2 _ _ wr2 s2)
  have KW1 := Lib.hid (KW.out.trans (wr2.mono K2.out.2.2.1))
  have KB1 := Lib.hid (show Box w1 w.heap.size 33 [.int .i64 k, .string n, .slice A l.length c, .slice A' kids.length c'] from (wr2.block _ KB.out.lt (fun hmm => Nat.lt_irrefl _ (D.Seps.lt _ _ _ HL0.out _ (K2.out.2.2.1 _ hmm)))).trans KB.out)
  clear KS KW KB hm2 s2 wr2 K2
  have KS := KS1
  have KW := KW1
  have KB := KB1
  clear KS1 KW1 KB1
  have cb := KB.out.cell
  obtain ⟨l3, x3, hx3, s3, nd3, sub3, f3⟩ := D.Seps.field (P := [D.int k, D.str n, D.sl l.length 1 (D.marks (k0) (l.flatMap strD))]) (d := rows Ty.ds 4 kids) (R := []) KS.out hnd
  obtain rfl : x3 = .slice A' kids.length c' := by simpa using hx3.symm
  have K3 := Lib.hid (And.intro s3 (And.intro nd3 (And.intro sub3 f3)))
  clear s3 nd3 sub3 f3 hx3
  go_wp2_with fail
  refine ((markTypeS_all kids) _ l3 (k0 + n2) _ _ (by have := HM2.out; push_cast; first | rfl | omega) (by omega) (by rw [rows_count, HN3.out]; omega) K3.out.1 K3.out.2.1).mono ?_
  rintro e w2 ⟨m3, hm3, rfl, s3, wr3⟩
  have HM3 := Lib.hid (show m3 = k0 + n2 + n3 from by rw [hm3, rows_count, HN3.out])
  have hmb3 : m3 ≤ 1000000000000 := by have := HM3.out; have := HM2.out; omega
  have KS1 := Lib.hid (K3.out.2.2.2 _ _ wr3 s3)
  have KW1 := Lib.hid (KW.out.trans (wr3.mono K3.out.2.2.1))
  have KB1 := Lib.hid (show Box w2 w.heap.size 33 [.int .i64 k, .string n, .slice A l.length c, .slice A' kids.length c'] from (wr3.block _ KB.out.lt (fun hmm => Nat.lt_irrefl _ (D.Seps.lt _ _ _ HL0.out _ (K3.out.2.2.1 _ hmm)))).trans KB.out)
  clear KS KW KB hm3 s3 wr3 K3 cb
  have KS := KS1
  have KW := KW1
  have KB := KB1
  clear KS1 KW1 KB1
  go_wp2
  go_ret
  exact ⟨m3, by have := HM2.out; have := HM3.out; omega, rfl, KS.out, KW.out⟩
end Go.Proofs.Ytnfkdncfbojiiaa
