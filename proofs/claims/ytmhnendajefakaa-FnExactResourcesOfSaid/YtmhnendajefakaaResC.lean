/- ResourcesOf: by the reference and by the program. -/
import Derived.Test.YtmhnendajefakaaResB
namespace Go.Proofs.Ytmhnendajefakaa
open Go.RowKit Go.Shelf Go.Sort

theorem putBs_all (L ss : List ByteArray) : (putBs L ss).map (·.data.toList) = putAll (L.map (·.data.toList)) (ss.map (·.data.toList)) := by
  induction ss generalizing L with
  | nil => rfl
  | cons s r ih =>
    show (putBs (putB s L) r).map (·.data.toList) = putAll (putT s.data.toList (L.map (·.data.toList))) (r.map (·.data.toList))
    rw [ih, putB_putT]
theorem putBs_sorted (ss : List ByteArray) : (putBs [] ss).map (·.data.toList) = Lib.compact ((ss.map (·.data.toList)).mergeSort fun x y => decide (x ≤ y)) := by
  rw [putBs_all, ← putAll_sorted]; rfl
theorem own_fit {w : World} {base base' : Nat} {e : TypeId} {v : Value} {n : Nat} {xs : List Value} (h : w.ownsRow base e 1 v n xs) (hb : base' ≤ base) : w.ownsRow base' e 1 v n xs := own_mono h hb
set_option maxHeartbeats 1000000 in
set_option maxRecDepth 20000 in
theorem sorted_core (b off n cap : Nat) (zs T : List (List UInt8)) (hT : (zs.mergeSort fun x y => decide (x ≤ y)) = T) (hn : zs.length = n) (hreach : n ≤ 1000) (w : World) (hb : b < w.heap.size)
    (hc : ∀ j, j < n → w.cell? ⟨b, off + j, none⟩ = some (encStr (zs[j]?.getD []))) :
    Calls Try.prog 47 #[.slice (some ⟨b, off, none⟩) n cap] w fun e w' => ∃ v, e = .returned v ∧ w'.ownsRow w.heap.size 9 1 v (Lib.compact T).length ((Lib.compact T).map encStr) ∧ Below w.heap.size w w' := by
  have HT := Lib.hid (show T.length = n from by rw [← hT, List.length_mergeSort, hn])
  have HS := Lib.hid hT
  have HC := Lib.hid hc
  have HZ := Lib.hid hn
  clear hc hn hT
  go_enter Try.func47, Try.ntmps47
  go_wp2_with fail
  refine (sqvalues_any _ _ _ _).mono ?_
  rintro e w1 ⟨rfl, rfl⟩
  go_wp2_with fail
  refine (sqsortedValues w.heap.size b off n cap zs HZ.out hreach _ (by simp) (by simp; omega) (Box.cell (cs := [_]) (Box.new w _ [.slice (some ⟨b, off, none⟩) n cap]) 0)
    (fun j hj => (((Below.refl _ w).alloc (Nat.le_refl _) _).cell (p := ⟨b, off + j, none⟩) hb).trans (HC.out j hj))).mono ?_
  rintro e w2 ⟨v, rfl, hown, hbel⟩
  have Bw : Below w.heap.size w w2 := ((Below.refl _ w).alloc (Nat.le_refl _) _).trans (hbel.mono (by simp))
  have hown' : w2.ownsRow w.heap.size 9 1 v n (T.map encStr) := by
    rw [← HS.out]
    exact own_fit hown (by simp)
  clear hbel hown
  rcases hown'.2 with ⟨rfl, hz⟩ | ⟨g, cap', cur, rfl, hbase, hgb, r1, r2, r3, r4⟩
  · have hTn : T = [] := List.eq_nil_of_length_eq_zero (by rw [HT.out]; exact hz)
    subst hz
    have HO := Lib.hid hTn
    clear hown' hTn
    go_wp2_with fail
    refine (Try.slices_Compact_string_empty none 0 w2).mono ?_
    rintro e w3 ⟨rfl, rfl⟩
    go_wp2
    go_ret
    refine ⟨_, rfl, ?_, Bw⟩
    rw [HO.out]
    exact World.ownsRow_nil _ _ _ _
  · have HH := Lib.hid (show Holds encStr w2 g 0 T.toArray from holds_of_block hgb (by rw [HT.out]; simpa using r4))
    have hcap : n ≤ cap' := by omega
    have HO := Lib.hid hown'
    clear hgb r1 r2 r3 r4 hown'
    have hkl : (Lib.compact T).length ≤ n := by
      have : (Lib.compact T).length ≤ T.length := by
        unfold Lib.compact Lib.compactUpTo
        rw [List.length_map]
        exact Nat.le_trans (List.length_filter_le _ _) (by simp)
      have := HT.out
      omega
    obtain ⟨K, hK⟩ : ∃ K, Lib.compact T = K := ⟨_, rfl⟩
    have cC : Calls Try.prog 82 #[.slice (some ⟨g, 0, none⟩) n cap'] w2 fun e w' => e = .returned (.slice (some ⟨g, 0, none⟩) K.length cap') ∧ w'.ownsRow w.heap.size 9 1 (.slice (some ⟨g, 0, none⟩) K.length cap') K.length (K.map encStr) ∧ Below w.heap.size w w' := by
      have := Try.slices_Compact_string g 0 cap' T w2 HH.out (by have := HT.out; omega) (by have := HT.out; omega)
      rw [HT.out, hK] at this
      refine this.mono ?_
      rintro e w3 ⟨rfl, q, rfl⟩
      rw [hK] at hkl
      have hp := Lib.ownsRow_putRow (q := q) (k := K.length) (ys := K ++ List.replicate (n - K.length) []) HO.out (by simp; omega) hkl
      rw [List.take_left] at hp
      exact ⟨rfl, hp, Lib.below_putRow Bw hbase⟩
    have CC := Lib.hid cC
    clear cC
    go_wp2_with fail
    refine CC.out.mono ?_
    rintro e w3 ⟨rfl, hO3, hb3⟩
    have HO3 := Lib.hid hO3
    clear hO3
    go_wp2
    go_ret
    rw [hK]
    exact ⟨_, rfl, HO3.out, hb3⟩
theorem sorted_own (l : List ByteArray) (g cap base : Nat) (w : World) (ho : w.ownsRow base 9 1 (.slice (some ⟨g, 0, none⟩) l.length cap) l.length (l.map Value.string)) (h16 : l.length ≤ 1000) :
    Calls Try.prog 47 #[.slice (some ⟨g, 0, none⟩) l.length cap] w fun e w' => ∃ v, e = .returned v ∧ w'.ownsRow w.heap.size 9 1 v (putBs [] l).length ((putBs [] l).map Value.string) ∧ Below w.heap.size w w' := by
  have hg : g < w.heap.size := by
    rcases ho.2 with ⟨h, _⟩ | ⟨g', cap', cur, h, _, hg, _⟩
    · cases h
    · cases h; exact (Array.getElem?_eq_some_iff.1 hg).1
  have hc : ∀ j, j < l.length → w.cell? ⟨g, 0 + j, none⟩ = some (encStr ((l.map (·.data.toList))[j]?.getD [])) := by
    intro j hj
    have := ho.cells (g := g) rfl j (.string l[j]) (by rw [List.getElem?_map, List.getElem?_eq_getElem hj]; rfl)
    rw [Addr.add_lit] at this
    rw [this]
    simp [hj]
  have := sorted_core g 0 l.length cap (l.map (·.data.toList)) _ rfl (by simp) h16 w hg hc
  rw [← putBs_sorted] at this
  refine this.mono ?_
  rintro e w' ⟨v, rfl, h1, h2⟩
  rw [Lib.map_encStr] at h1
  exact ⟨v, rfl, by simpa using h1, h2⟩
theorem tyOk_all {x : Ty} (h : tyOk x = true) : Ty.all shape x = true := by
  unfold tyOk at h
  rw [Bool.and_eq_true, Bool.and_eq_true] at h
  exact h.2.2
theorem tyOk_parts {x : Ty} (h1 : tyOk x = true) : x.parts ≤ 24 := by
  unfold tyOk at h1
  rw [Bool.and_eq_true, Bool.and_eq_true, decide_eq_true_eq, decide_eq_true_eq] at h1
  exact h1.2.1
/-- The names in order, of a valid type. -/
def resOr (x : Ty) : List ByteArray := if tyOk x = true then putBs [] x.res else []
set_option maxHeartbeats 1000000 in
set_option maxRecDepth 20000 in
theorem askRes_s (x : Ty) (R : List ByteArray) (cs : List Value) (w : World) (hr : resOr x = R) (hcs : D.Ats w anyB x.ds cs) (hp : x.parts ≤ 2000000) :
    Calls Try.prog 10 #[.agg cs.toArray] w fun e w' => ∃ v, e = .returned v ∧ w'.ownsRow w.heap.size 9 1 v R.length (R.map Value.string) ∧ Below w.heap.size w w' := by
  have HX := Lib.hid hcs
  obtain ⟨k, n, A0, m0, c0, A0', m0', c0', rfl⟩ := Ty.form hcs
  clear hcs
  have HR := Lib.hid hr
  clear hr
  go_enter Try.func10, Try.ntmps10
  go_wp2_with fail
  refine (l03Ok_s x _ _ (HX.out.below ((Below.refl _ _).alloc (Nat.le_refl _) _))).mono ?_
  rintro e w1 ⟨rfl, hb1⟩
  obtain ⟨B1, bA⟩ := box1 (cA := [_, _, _, _]) hb1
  clear hb1
  have c := bA.cell
  cases h1 : tyOk x
  · have E1 := Lib.hid (show R = [] by rw [← HR.out, resOr, if_neg (by rw [h1]; decide)])
    have O1 := Lib.hid (own_empty' w1 w.heap.size B1.size 9 _ rfl)
    have B2 := Lib.hid (B1.alloc B1.size (.cells #[] 9))
    clear c h1
    go_wp2
    go_ret
    exact ⟨_, rfl, by rw [E1.out]; exact O1.out, B2.out⟩
  · have E1 := Lib.hid (show R = putBs [] x.res by rw [← HR.out, resOr, if_pos h1])
    have E2 := Lib.hid (l03Resources_s x (tyOk_all h1))
    have h24 := tyOk_parts h1
    have O1 := Lib.hid (own_empty' w1 w.heap.size B1.size 9 _ rfl)
    have B2 := Lib.hid (B1.alloc B1.size (.cells #[] 9))
    clear h1
    go_wp2_with fail
    refine (E2.out [] _ _ w.heap.size _ (HX.out.below B2.out) O1.out (fun s hs => by cases hs) B2.out.size (by simp; omega)).mono ?_
    rintro e w2 ⟨v2, rfl, ho2, hb2⟩
    have HO2 := Lib.hid (And.intro ho2 (B2.out.trans (hb2.mono B2.out.size)))
    clear c hb2 ho2
    go_wp2
    go_ret
    exact ⟨_, rfl, by rw [E1.out]; exact HO2.out.1, HO2.out.2⟩
set_option maxHeartbeats 1000000 in
set_option maxRecDepth 20000 in
theorem askRes_i (x : Ty) (R : List ByteArray) (cs : List Value) (w : World) (hr : resOr x = R) (hcs : D.Ats w anyB x.ds cs) (hp : x.parts ≤ 2000000) :
    Calls Try.prog 12 #[.agg cs.toArray] w fun e w' => ∃ v, e = .returned v ∧ w'.ownsRow w.heap.size 9 1 v R.length (R.map Value.string) ∧ Below w.heap.size w w' := by
  have HX := Lib.hid hcs
  obtain ⟨k, n, A0, m0, c0, A0', m0', c0', rfl⟩ := Ty.form hcs
  clear hcs
  have HR := Lib.hid hr
  clear hr
  go_enter Try.func12, Try.ntmps12
  go_wp2_with fail
  refine (typeOk_i x _ _ (HX.out.below ((Below.refl _ _).alloc (Nat.le_refl _) _)) (by omega)).mono ?_
  rintro e w1 ⟨rfl, hb1⟩
  obtain ⟨B1, bA⟩ := box1 (cA := [_, _, _, _]) hb1
  clear hb1
  have c := bA.cell
  cases h1 : tyOk x
  · have E1 := Lib.hid (show R = [] by rw [← HR.out, resOr, if_neg (by rw [h1]; decide)])
    clear c h1
    go_wp2
    go_ret
    exact ⟨_, rfl, by rw [E1.out]; exact World.ownsRow_nil _ _ _ _, B1⟩
  · have E1 := Lib.hid (show R = putBs [] x.res by rw [← HR.out, resOr, if_pos h1])
    have h24' := tyOk_parts h1
    have E2 := Lib.hid (resources_i x (by omega))
    have h24 : x.res.length ≤ 1000 := by have := Ty.res_len x; omega
    clear h1
    go_wp2_with fail
    refine (E2.out _ _ (HX.out.below B1)).mono ?_
    rintro e w2 ⟨g, cp, rfl, ho2, hb2⟩
    have HO2 := Lib.hid (And.intro ho2 (B1.trans (hb2.mono B1.size)))
    clear c hb2 ho2
    go_wp2_with fail
    refine (sorted_own x.res g cp _ _ HO2.out.1 h24).mono ?_
    rintro e w3 ⟨v3, rfl, ho3, hb3⟩
    have HO3 := Lib.hid (And.intro (own_mono ho3 HO2.out.2.size) (HO2.out.2.trans (hb3.mono HO2.out.2.size)))
    clear ho3 hb3
    go_wp2
    go_ret
    exact ⟨_, rfl, by rw [E1.out]; exact HO3.out.1, HO3.out.2⟩
end Go.Proofs.Ytmhnendajefakaa
