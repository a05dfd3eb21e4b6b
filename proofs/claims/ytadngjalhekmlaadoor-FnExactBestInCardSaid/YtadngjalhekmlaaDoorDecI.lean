/- readDecimal: the program's walk. -/
import Derived.Test.YtadngjalhekmlaaDoorDecP
import Derived.Test.YtadngjalhekmlaaDoorShelf
namespace Go.Proofs.YtadngjalhekmlaaDoor
open Go.RowKit Go.Shelf

/-- The two errors of strconv hold an error each. -/
def Errs (w : World) : Prop := (∃ te pe, w.cell? ⟨Tryd.laysC174_ren.g 15, 0, none⟩ = some (.iface te pe)) ∧ ∃ te pe, w.cell? ⟨Tryd.laysC174_ren.g 16, 0, none⟩ = some (.iface te pe)
theorem cell_lt {w : World} {a : Addr} {v : Value} (h : w.cell? a = some v) : a.block < w.heap.size := by
  unfold World.cell? at h
  cases hb : w.heap[a.block]? with
  | none => simp [hb] at h
  | some o => exact (Array.getElem?_eq_some_iff.1 hb).1
theorem Errs.below {w w' : World} (h : Errs w) (hb : Below w.heap.size w w') : Errs w' := by
  obtain ⟨⟨a, b, h1⟩, c, d, h2⟩ := h
  exact ⟨⟨a, b, (hb.cell (cell_lt h1)).trans h1⟩, c, d, (hb.cell (cell_lt h2)).trans h2⟩
theorem below_bytes (w : World) (t : ByteArray) : Below w.heap.size w (Lib.bytesWorld w 5 t) :=
  ⟨rfl, rfl, rfl, by rw [Lib.bytesWorld_size]; omega, fun j hj => Lib.bytesWorld_at_old w 5 t j hj⟩
/-- What decimal writes of any number. -/
def decI (n : Int) : ByteArray := ⟨(Lib.itoa n).toArray⟩
theorem decI_nat (n : Nat) : decI (n : Int) = decT n := by rw [decI, Lib.itoa_nonneg]; rfl
theorem decimalI_i (n : Int) (h0 : -9223372036854775808 ≤ n ∧ n ≤ 9223372036854775807) (w : World) (ht : Tab10 w) : Calls Tryd.prog 59 #[.int .i64 n] w fun e w' => e = .returned (.string (decI n)) ∧ Below w.heap.size w w' := by
  have HC := Lib.hid (Tryd.strconv_FormatInt_10 n h0.1 h0.2 w ht)
  clear ht
  go_enter Tryd.func59, Tryd.ntmps59
  go_wp2_with fail
  refine HC.out.mono ?_
  rintro e w1 ⟨rfl, k, os, rfl⟩
  have B := Lib.hid (below_grow w k os)
  obtain ⟨w1, hw1⟩ : ∃ w1, Sort.grow (w.drewN k) os = w1 := ⟨_, rfl⟩
  rw [hw1] at B ⊢
  obtain ⟨R, hR⟩ : ∃ R, decI n = R := ⟨_, rfl⟩
  rw [show (⟨(Lib.itoa n).toArray⟩ : ByteArray) = R from hR]
  have HR := Lib.hid hR
  clear hR
  go_wp2
  go_ret
  exact ⟨ret_eq (by rw [HR.out]; rfl), B.out⟩
def RetDec (s : ByteArray) (w : World) (e : Ending) (w' : World) : Prop := ∃ (n : Int) (ok : Bool), e = .returned (.tuple #[.int .i64 n, .bool ok]) ∧ IsDec s n ok ∧ -9223372036854775808 ≤ n ∧ n ≤ 9223372036854775807 ∧ Below w.heap.size w w'
theorem isDec_no {s : ByteArray} (h : ∀ k : Nat, k ≤ 999 → s ≠ decT k) : IsDec s 0 false := ⟨fun h => (by cases h), fun k hk hs => absurd hs (h k hk)⟩
theorem dec_parse {s : ByteArray} {k : Nat} (hk : k ≤ 999) (hs : s = decT k) : Lib.parseIntB 64 s.data.toList = .ok (k : Int) := by
  rw [hs, decT_list, parse_dec k hk]
set_option maxHeartbeats 1000000 in
set_option maxRecDepth 20000 in
theorem readDecimal_i (s : ByteArray) (hs : s.size ≤ 1048576) (w : World) (ht : Tab10 w) (he : Errs w) : Calls Tryd.prog 51 #[.string s] w (RetDec s w) := by
  obtain ⟨⟨te, pe, h15⟩, te2, pe2, h16⟩ := he
  have HT := Lib.hid ht
  have C15 := Lib.hid h15
  have C16 := Lib.hid h16
  clear ht h15 h16
  go_enter Tryd.func51, Tryd.ntmps51
  go_wp2_with fail
  rcases h : Lib.parseIntB 64 s.data.toList with v | _ | _
  rotate_left
  · have HN := Lib.hid (isDec_no (s := s) (fun k hk hs => by rw [dec_parse hk hs] at h; cases h))
    refine (Any.strconv_ParseInt_10_at64_syntax Tryd.laysC174 s (by omega) h _ _ C15.out (.inr ⟨_, _, rfl⟩)).mono ?_
    rintro e w1 ⟨N, rfl, _, _, hb⟩
    clear h
    go_wp2
    exact bodyPost_ret (v := .tuple #[.int .i64 0, .bool false]) (by simp [results, Tryd.results51, go_sem]) rfl ⟨0, false, rfl, HN.out, by decide, by decide, hb⟩
  · have HN := Lib.hid (isDec_no (s := s) (fun k hk hs => by rw [dec_parse hk hs] at h; cases h))
    refine (Tryd.strconv_ParseInt_10_at64_range s (by omega) h _ _ C16.out (.inr ⟨_, _, rfl⟩)).mono ?_
    rintro e w1 ⟨N, rfl, _, _, hb⟩
    clear h
    go_wp2
    exact bodyPost_ret (v := .tuple #[.int .i64 0, .bool false]) (by simp [results, Tryd.results51, go_sem]) rfl ⟨0, false, rfl, HN.out, by decide, by decide, hb⟩
  · have hv : -9223372036854775808 ≤ v ∧ v ≤ 9223372036854775807 := by
      have := Lib.parseIntB_bounds h
      simp at this
      omega
    refine (Tryd.strconv_ParseInt_10_at64_ok s (by omega) v h _).mono ?_
    rintro e w1 ⟨rfl, hw⟩
    have hb : Below w.heap.size w w1 := by
      rcases hw with rfl | ⟨t, rfl⟩
      · exact Below.refl _ _
      · exact below_bytes w t
    clear hw
    have HD := Lib.hid (decimalI_i v hv w1 (HT.out.below hb))
    by_cases hq : decI v = s
    · have HI := Lib.hid (show IsDec s v true from ⟨fun _ h0 _ => (by rw [← hq, ← decI_nat, Int.toNat_of_nonneg h0]), fun k hk hs => (by rw [dec_parse hk hs] at h; exact ⟨(by cases h; rfl), rfl⟩)⟩)
      have e : ((decI v).toList == s.toList) = true := by rw [hq]; simp
      have e' : ((decI v).toList != s.toList) = false := by rw [hq]; simp
      clear hq h
      obtain ⟨R, hR⟩ : ∃ R, decI v = R := ⟨_, rfl⟩
      rw [hR] at e e' HD
      clear hR
      go_wp2_with (go_at_call 59; refine HD.out.mono ?_; rintro e w2 ⟨rfl, hb2⟩)
      exact bodyPost_ret (v := .tuple #[.int .i64 v, .bool true]) (by simp [results, Tryd.results51, go_sem]) rfl ⟨v, true, rfl, HI.out, hv.1, hv.2, hb.trans (hb2.mono hb.size)⟩
    · have HI := Lib.hid (isDec_no (s := s) (fun k hk hs => by rw [dec_parse hk hs] at h; cases h; exact hq (by rw [decI_nat, hs])))
      have e' : ((decI v).toList != s.toList) = true := by
        simp only [bne, Bool.not_eq_true', beq_eq_false_iff_ne]
        intro h
        rw [ByteArray.toList_eq, ByteArray.toList_eq] at h
        exact hq (ByteArray.ext (Array.toList_inj.1 h))
      have e : ((decI v).toList == s.toList) = false := by simpa [bne] using e'
      clear hq h
      obtain ⟨R, hR⟩ : ∃ R, decI v = R := ⟨_, rfl⟩
      rw [hR] at e e' HD
      clear hR
      go_wp2_with (go_at_call 59; refine HD.out.mono ?_; rintro e w2 ⟨rfl, hb2⟩)
      exact bodyPost_ret (v := .tuple #[.int .i64 0, .bool false]) (by simp [results, Tryd.results51, go_sem]) rfl ⟨0, false, rfl, HI.out, by decide, by decide, hb.trans (hb2.mono hb.size)⟩
end Go.Proofs.YtadngjalhekmlaaDoor
