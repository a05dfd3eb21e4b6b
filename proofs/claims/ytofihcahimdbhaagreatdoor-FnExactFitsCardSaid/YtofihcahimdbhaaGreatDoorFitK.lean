/- The types of a value's kids: by the program. -/
import Derived.Test.YtofihcahimdbhaaGreatDoorFitN
namespace Go.Proofs.YtofihcahimdbhaaGreatDoor
open Go.RowKit

def RetKids (S : Nat → Prop) (L : List Ty) (w : World) (e : Ending) (w' : World) : Prop := ∃ A c, e = .returned (.tuple #[.slice A L.length c, .bool true]) ∧ D.At w' S (rows Ty.ds 4 L) (.slice A L.length c) ∧ Below w.heap.size w w'
set_option maxHeartbeats 4000000 in
set_option maxRecDepth 20000 in
theorem kidTypes_i {S : Nat → Prop} (k m : Int) (s n : ByteArray) (l : List ByteArray) (kids : List Ty) (vA A A' : Option Addr) (N vc c c' : Nat) (w : World) (k0 : Int) (hs : shape (.mk k n l kids) = true) (hn : numFits k l.length m = true) (hSS : ∀ b, w.heap.size ≤ b → S b)
    (hv : D.At w S (rows Ty.ds 4 kids) (.slice A' kids.length c')) (ts : List Ty) (hts : kts k m N kids = some ts) :
    Calls Tryz.prog 119 #[.agg #[.int .i64 k0, .int .i64 m, .string s, .slice vA N vc], .agg #[.int .i64 k, .string n, .slice A l.length c, .slice A' kids.length c']] w (RetKids S ts w) := by
  have HV := Lib.hid hv
  have HSS := Lib.hid hSS
  clear hv hSS
  by_cases h12 : k = 12
  · subst h12
    obtain ⟨x, rfl, -⟩ := fit_one hs (.inl rfl)
    rw [kts_12] at hts
    obtain rfl := Option.some.inj hts
    obtain ⟨q, hq⟩ : ∃ q, min N 8 = q := ⟨_, rfl⟩
    have hq8 : q ≤ 8 := by omega
    have hmin : min (N : Int) 8 = (q : Int) := by omega
    rw [hq]
    have HM := Lib.hid hmin
    clear hts hs hn hq hmin
    go_enter Tryz.func119, Tryz.ntmps119
    go_wp2_with fail
    rw [HM.out]
    refine (repeat_i x A' c' q hq8 _ (HSS.out _ (by simp <;> omega)) (HV.out.below (by repeat (first | exact Below.refl _ _ | with_reducible refine Below.setCell ?_ (by simp <;> omega) _ | refine Below.alloc ?_ (by first | omega | (simp <;> omega)) _)))).mono ?_
    rintro e w1 ⟨B, d, rfl, hat, hb⟩
    have HB := Lib.hid (show Below w.heap.size w w1 from Below.trans (by repeat (first | exact Below.refl _ _ | with_reducible refine Below.setCell ?_ (by simp <;> omega) _ | refine Below.alloc ?_ (by first | omega | (simp <;> omega)) _)) (hb.mono (by simp <;> omega)))
    have HA := Lib.hid hat
    clear hb hat
    go_wp2
    go_ret2
    exact ⟨B, d, by rw [List.length_replicate]; try rfl, by rw [List.length_replicate]; exact HA.out, HB.out⟩
  by_cases h15 : k = 15 ∨ k = 16
  · rw [kts_all h15] at hts
    obtain rfl := Option.some.inj hts
    have g12 : (k == 12) = false := beq_eq_false_iff_ne.2 h12
    have g : (k == 15) = true ∨ ((k == 15) = false ∧ (k == 16) = true) := by rcases h15 with rfl | rfl <;> simp
    clear hs h15 h12 hts hn
    rcases g with g15 | ⟨g15, g16⟩
    all_goals
      go_enter Tryz.func119, Tryz.ntmps119
      go_wp2
      go_ret2
      exact ⟨_, _, rfl, HV.out.below (by repeat (first | exact Below.refl _ _ | with_reducible refine Below.setCell ?_ (by simp <;> omega) _ | refine Below.alloc ?_ (by first | omega | (simp <;> omega)) _)), (by repeat (first | exact Below.refl _ _ | with_reducible refine Below.setCell ?_ (by simp <;> omega) _ | refine Below.alloc ?_ (by first | omega | (simp <;> omega)) _))⟩
  have g12 : (k == 12) = false := beq_eq_false_iff_ne.2 h12
  have g15 : (k == 15) = false := beq_eq_false_iff_ne.2 (by omega)
  have g16 : (k == 16) = false := beq_eq_false_iff_ne.2 (by omega)
  by_cases h1 : k = 13 ∨ k = 14 ∨ k = 17
  · -- the case's type, and what of it comes back
    have hcs : ∃ y, (∀ W, Below w.heap.size w W → Calls Tryz.prog 141 #[.agg #[.int .i64 k, .string n, .slice A l.length c, .slice A' kids.length c'], .int .i64 m] W (RetCase S y W)) ∧ ts = if isU y = true then [] else [y] := by
      by_cases h13 : k = 13
      · subst h13
        obtain ⟨x, rfl, hx⟩ := fit_one hs (.inr rfl)
        have hm := num_2 (.inr (.inl rfl)) hn
        rcases (by omega : m = 0 ∨ m = 1) with rfl | rfl
        · rw [kts_13_0] at hts
          exact ⟨.mk 1 ⟨#[]⟩ [] [], fun W _ => caseType_none n A A' _ c _ c' W, by rw [← Option.some.inj hts]; rfl⟩
        · rw [kts_13_1 hx] at hts
          refine ⟨x, fun W hW => caseType_some 13 1 0 n l [x] A A' c c' W rfl (fun _ => rfl) x rfl (HV.out.below hW), ?_⟩
          rw [← Option.some.inj hts, if_neg (by rw [hx]; decide)]
      · have h14 : k = 14 ∨ k = 17 := by omega
        obtain ⟨h0, x, hx⟩ := case_at hs h14 hn
        rw [kts_case h14 h0 hx] at hts
        exact ⟨x, fun W hW => caseType_some k m m.toNat n l kids A A' c c' W (by rw [caseNo, if_neg h13]; omega) (fun h => absurd h h13) x hx (HV.out.below hW), (Option.some.inj hts).symm⟩
    obtain ⟨y, hcase, hty⟩ := hcs
    have HC := Lib.hid hcase
    have HT := Lib.hid hty
    have g : (k == 13) = true ∨ ((k == 13) = false ∧ (k == 14) = true) ∨ ((k == 13) = false ∧ (k == 14) = false ∧ (k == 17) = true) := by rcases h1 with rfl | rfl | rfl <;> simp
    clear hcase hty hs hn hts h1 h12 h15
    rcases g with g13 | ⟨g13, g14⟩ | ⟨g13, g14, g17⟩
    all_goals
      go_enter Tryz.func119, Tryz.ntmps119
      go_wp2_with fail
      refine (HC.out _ (by repeat (first | exact Below.refl _ _ | with_reducible refine Below.setCell ?_ (by simp <;> omega) _ | refine Below.alloc ?_ (by first | omega | (simp <;> omega)) _))).mono ?_
      rintro e w1 ⟨cs1, rfl, hat, hb⟩
      have HB := Lib.hid (show Below w.heap.size w w1 from Below.trans (by repeat (first | exact Below.refl _ _ | with_reducible refine Below.setCell ?_ (by simp <;> omega) _ | refine Below.alloc ?_ (by first | omega | (simp <;> omega)) _)) (hb.mono (by simp <;> omega)))
      have hsz := HB.out.size
      obtain ⟨yk, yn, yl, ykids⟩ := y
      obtain ⟨f2, f4, f5, f7, rfl, -⟩ := Ty.open_ hat
      have HA := Lib.hid hat
      clear hb hat
      have bK := Box.new w1 30 [.int .i64 yk, .string yn, .slice f2 yl.length f4, .slice f5 ykids.length f7]
      go_wp2_with fail
      refine (isUnit_v yk _ _ _ _ _ _ _ _ _ rfl rfl _).mono ?_
      rintro e w2 ⟨rfl, hb2⟩
      have HB2 := Lib.hid (show Below w.heap.size w w2 from (HB.out.alloc hsz _).trans (hb2.mono (by simp <;> omega)))
      have bK2 := bK.call hb2
      have kK := bK2.cell
      have lK := bK2.lt
      have hs2 := HB2.out.size
      have HA2 := Lib.hid ((HA.out.below ((Below.refl _ _).alloc (Nat.le_refl _) _)).below hb2)
      clear hb2 bK
      cases hu : (yk == 1)
      · have HU := Lib.hid (show ts = [.mk yk yn yl ykids] by rw [HT.out, if_neg (by show ¬ (yk == 1) = true; rw [hu]; decide)])
        clear hu
        go_wp2
        go_ret2
        rw [HU.out]
        exact ⟨_, _, rfl, at_one (HSS.out _ HB2.out.size) (Box.new w2 30 _) (HA2.out.below ((Below.refl _ _).alloc (Nat.le_refl _) _)), HB2.out.alloc hs2 _⟩
      · have HU := Lib.hid (show ts = [] by rw [HT.out, if_pos (show isU (.mk yk yn yl ykids) = true from hu)])
        clear hu
        go_wp2
        go_ret2
        rw [HU.out]
        exact ⟨_, _, rfl, at_nil (Nat.zero_le _), HB2.out⟩
  have g13 : (k == 13) = false := beq_eq_false_iff_ne.2 (by omega)
  have g14 : (k == 14) = false := beq_eq_false_iff_ne.2 (by omega)
  have g17 : (k == 17) = false := beq_eq_false_iff_ne.2 (by omega)
  rw [kts_none (by omega)] at hts
  obtain rfl := Option.some.inj hts
  clear hs h12 h1 h15 hts hn
  go_enter Tryz.func119, Tryz.ntmps119
  go_wp2
  go_ret2
  exact ⟨_, _, rfl, at_nil (Nat.zero_le _), (by repeat (first | exact Below.refl _ _ | with_reducible refine Below.setCell ?_ (by simp <;> omega) _ | refine Below.alloc ?_ (by first | omega | (simp <;> omega)) _))⟩
end Go.Proofs.YtofihcahimdbhaaGreatDoor
