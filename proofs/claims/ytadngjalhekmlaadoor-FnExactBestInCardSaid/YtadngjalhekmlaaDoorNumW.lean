/- VersionNumber: the program's walk, and the law's. -/
import Derived.Test.YtadngjalhekmlaaDoorNumI
import Derived.Test.YtadngjalhekmlaaDoorNumS
namespace Go.Proofs.YtadngjalhekmlaaDoor
open Go.RowKit Go.Shelf

def SomeMax (w : World) : Prop := ∃ m, w.cell? ⟨0, 0, none⟩ = some (.int .i64 m)
theorem SomeMax.below {w w' : World} (h : SomeMax w) (hb : Below w.heap.size w w') : SomeMax w' := by
  obtain ⟨m, h⟩ := h
  exact ⟨m, (hb.cell (cell_lt h)).trans h⟩
/-- A version's number, and whether there is one. -/
def RetNum (s : ByteArray) (w : World) (e : Ending) (w' : World) : Prop := ∃ (n : Int) (ok : Bool), e = .returned (.tuple #[.int .i64 n, .bool ok]) ∧ (ok = true ∧ 0 ≤ n ∧ IsNum s n ∨ ok = false ∧ n = 0 ∧ IsNum s (-1)) ∧ Below w.heap.size w w'
set_option maxHeartbeats 2000000 in
set_option maxRecDepth 20000 in
theorem versionNumber_i (s : ByteArray) (hs : s.size ≤ 1048576) (w : World) (ht : Tab10 w) (he : Errs w) (hm : SomeMax w) : Calls Tryd.prog 32 #[.string s] w (RetNum s w) := by
  obtain ⟨mx, hmx⟩ := hm
  have HT := Lib.hid ht
  have HE := Lib.hid he
  have HS := Lib.hid (Tryd.strings_Split s ⟨#[46]⟩ mx w (by omega) hmx (by decide))
  clear ht he hmx
  go_enter Tryd.func32, Tryd.ntmps32
  go_wp2_with fail
  refine HS.out.mono ?_
  rintro e w1 ⟨rfl, hw1⟩
  have hb1 : Below w.heap.size w w1 := by rw [hw1]; exact (Below.refl _ _).alloc (Nat.le_refl _) _
  have hlen := pieces_len s
  have hcell : ∀ (j : Nat) (p : ByteArray), (piecesD s)[j]? = some p → w1.cell? ⟨w.heap.size, j, none⟩ = some (.string p) := by
    intro j p hp
    have hp' : (Lib.splitB ⟨#[46]⟩ 0 (Lib.countB s ⟨#[46]⟩) s)[j]? = some p := hp
    rw [hw1, cell_of_row _ _ _ _ _ _ (heap_alloc_new w _)]
    simp [hp']
  have hsz := pieces_size s
  have hg : w.heap.size < w1.heap.size := by rw [hw1]; simp
  obtain ⟨K, hK⟩ : ∃ K, Lib.countB s ⟨#[46]⟩ = K := ⟨_, rfl⟩
  rw [hK] at hlen ⊢
  clear hw1 hK
  by_cases h2 : K = 2
  · subst h2
    have HC := Lib.hid hcell
    have HZ := Lib.hid hsz
    have HL := Lib.hid hlen
    clear hcell hsz hlen
    go_wp2_with fail
    go_loopw [5, 17] (fun n i wr => ∃ N j : Nat, n = .int .i64 N ∧ i = .int .i64 j ∧ j ≤ 3 ∧ Good (piecesD s) j N ∧ Below w1.heap.size w1 wr) (fun _ i _ => (3 - intOf i).toNat)
    case atStart => exact ⟨0, 0, rfl, rfl, by decide, ⟨[], rfl, fun _ h => (by cases h), rfl, rfl, by decide⟩, Below.refl _ _⟩
    case round =>
      obtain ⟨N, j, rfl, rfl, hj3, hgd, hb⟩ := hrel
      have HG := Lib.hid hgd
      have hN : N < 1000000000 := by
        obtain ⟨_, _, _, _, _, h5⟩ := hgd
        exact Nat.lt_of_lt_of_le h5 (Nat.pow_le_pow_right (by decide) hj3 : 1000 ^ j ≤ 1000 ^ 3)
      have hbw := hb1.trans (hb.mono hb1.size)
      clear hgd
      by_cases hj : j < 3
      · have ij : (j : Int) < 3 := by omega
        have hpl : j < (piecesD s).length := by rw [HL.out]; omega
        obtain ⟨p, hp⟩ : ∃ p, (piecesD s)[j]? = some p := ⟨_, List.getElem?_eq_getElem hpl⟩
        have hc : wr.cell? ⟨w.heap.size, j, none⟩ = some (.string p) := (hb.cell (p := ⟨w.heap.size, j, none⟩) hg).trans (HC.out j p hp)
        have hps := HZ.out p (List.mem_of_getElem? hp)
        have HP := Lib.hid hp
        clear hp hpl
        go_wp2_with fail
        refine (readDecimal_i p (by omega) _ (HT.out.below hbw) (HE.out.below hbw)).mono ?_
        rintro e w2 ⟨n, ok, rfl, hd, hn1, hn2, hb2⟩
        have hb' := hb.trans (hb2.mono hb.size)
        have hbw' := hbw.trans (hb2.mono hbw.size)
        have HD := Lib.hid hd
        clear hd hb hbw hb2 hc
        cases ok with
        | false =>
          have HN := Lib.hid (no_piece HP.out (fun k hk e => by have := (HD.out.2 k hk e).2; cases this))
          go_wp2
          exact bodyPost_ret (v := .tuple #[.int .i64 0, .bool false]) (by simp [results, Tryd.results32, go_sem]) rfl ⟨0, false, rfl, .inr ⟨rfl, rfl, HN.out⟩, hbw'⟩
        | true =>
          by_cases hin : inR 0 n 999 = true
          · obtain ⟨a, rfl⟩ := Int.eq_ofNat_of_zero_le (inR_iff.1 hin).1
            have ha : a ≤ 999 := by have := (inR_iff.1 hin).2; omega
            have HG2 := Lib.hid (HG.out.next HP.out ha (HD.out.1 rfl (by omega) (by omega)))
            go_wp2_with (go_at_call 35; refine (within_any _ _ _ _).mono ?_; rintro e w3 ⟨rfl, rfl⟩)
            exact ⟨⟨N * 1000 + a, j + 1, by simp, by simp, by omega, HG2.out, hb'⟩, by simp [intOf]; omega⟩
          · have hin' : inR 0 n 999 = false := by simpa using hin
            have HN := Lib.hid (no_piece HP.out (fun k hk e => hin (inR_iff.2 (by have := (HD.out.2 k hk e).1; omega))))
            clear hin
            go_wp2_with (go_at_call 35; refine (within_any _ _ _ _).mono ?_; rintro e w3 ⟨rfl, rfl⟩)
            exact bodyPost_ret (v := .tuple #[.int .i64 0, .bool false]) (by simp [results, Tryd.results32, go_sem]) rfl ⟨0, false, rfl, .inr ⟨rfl, rfl, HN.out⟩, hbw'⟩
      · obtain rfl : j = 3 := by omega
        have HN := Lib.hid (HG.out.end_ HL.out)
        go_wp2
        exact bodyPost_ret (v := .tuple #[.int .i64 N, .bool true]) (by simp [results, Tryd.results32, go_sem]) rfl ⟨N, true, rfl, .inl ⟨rfl, by omega, HN.out⟩, hbw⟩
  · have i2 : ¬ (K : Int) + 1 = 3 := by omega
    have HN := Lib.hid (no_three (s := s) (by rw [hlen]; omega))
    clear hcell hlen hsz
    go_wp2
    exact bodyPost_ret (v := .tuple #[.int .i64 0, .bool false]) (by simp [results, Tryd.results32, go_sem]) rfl ⟨0, false, rfl, .inr ⟨rfl, rfl, HN.out⟩, hb1⟩
end Go.Proofs.YtadngjalhekmlaaDoor
