/- Tokens: white space and comments are passed. -/
import Derived.Test.YtofihcahimdbhaaTokP
namespace Go.Proofs.Ytofihcahimdbhaa
open Go.RowKit Go.PlainAid

def cmtAt (s : ByteArray) (i : Nat) : Bool := (bt s i == 47) && (decide (i + 1 < s.size) && (bt s (i + 1) == 47))
def lineAt (s : ByteArray) (i : Nat) : Bool := bt s i != 10
def skipF (s : ByteArray) : Nat → Nat → Int → Nat × Int
  | 0, i, l => (i, l)
  | f + 1, i, l => if i < s.size then (if (bt s i == 10) = true then skipF s f (i + 1) (l + 1) else if (bt s i == 32) = true then skipF s f (i + 1) l else if cmtAt s i = true then skipF s f (scan (lineAt s) s.size i) l else (i, l)) else (i, l)
theorem cmt_scan {s : ByteArray} {i : Nat} (h : i < s.size) (hc : cmtAt s i = true) : i + 1 ≤ scan (lineAt s) s.size i := by
  have h1 : (bt s i == 47) = true := by
    unfold cmtAt at hc
    simp only [Bool.and_eq_true] at hc
    exact hc.1
  have h2 : lineAt s i = true := by
    unfold lineAt
    rw [beq_iff_eq] at h1
    rw [h1]
    decide
  rw [scan_yes h h2]
  exact (scan_le (by omega)).1
theorem skipF_more (s : ByteArray) (f g i : Nat) (l : Int) (hf : s.size - i ≤ f) (hg : s.size - i ≤ g) : skipF s f i l = skipF s g i l := by
  induction f generalizing g i l with
  | zero =>
    cases g with
    | zero => rfl
    | succ g => rw [skipF, skipF, if_neg (by omega)]
  | succ f ih =>
    cases g with
    | zero => rw [skipF, skipF, if_neg (by omega)]
    | succ g =>
      rw [skipF, skipF]
      by_cases h : i < s.size
      · rw [if_pos h, if_pos h]
        split
        · exact ih g _ _ (by omega) (by omega)
        · split
          · exact ih g _ _ (by omega) (by omega)
          · split
            · rename_i hc
              have := cmt_scan h hc
              exact ih g _ _ (by omega) (by omega)
            · rfl
      · rw [if_neg h, if_neg h]
/-- Behind white space and comments: the place, the line. -/
def skipT (s : ByteArray) (i : Nat) (l : Int) : Nat × Int := skipF s (s.size - i) i l
theorem skipT_stop {s : ByteArray} {i : Nat} {l : Int} (h : ¬ i < s.size) : skipT s i l = (i, l) := by
  unfold skipT
  rw [show s.size - i = 0 by omega]
  rfl
theorem skipT_step {s : ByteArray} {i : Nat} {l : Int} (h : i < s.size) : skipT s i l = if (bt s i == 10) = true then skipT s (i + 1) (l + 1) else if (bt s i == 32) = true then skipT s (i + 1) l else if cmtAt s i = true then skipT s (scan (lineAt s) s.size i) l else (i, l) := by
  have h0 : skipT s i l = skipF s (s.size - i + 1) i l := skipF_more s _ _ i l (Nat.le_refl _) (by omega)
  rw [h0, skipF, if_pos h]
  unfold skipT
  split
  · exact skipF_more s _ _ _ _ (by omega) (Nat.le_refl _)
  · split
    · exact skipF_more s _ _ _ _ (by omega) (Nat.le_refl _)
    · split
      · rename_i hc
        have := cmt_scan h hc
        exact skipF_more s _ _ _ _ (by omega) (Nat.le_refl _)
      · rfl
theorem skip_ways (s : ByteArray) (i : Nat) : ((bt s i == 10) = true) ∨ ((bt s i == 10) = false ∧ (bt s i == 32) = true) ∨ ((bt s i == 10) = false ∧ (bt s i == 32) = false ∧ (bt s i == 47) = false ∧ cmtAt s i = false) ∨
    ((bt s i == 10) = false ∧ (bt s i == 32) = false ∧ (bt s i == 47) = true ∧ ¬ ((i : Int) + 1 < (s.size : Int)) ∧ cmtAt s i = false) ∨
    ((bt s i == 10) = false ∧ (bt s i == 32) = false ∧ (bt s i == 47) = true ∧ (i : Int) + 1 < (s.size : Int) ∧ (bt s (i + 1) == 47) = true ∧ cmtAt s i = true) ∨
    ((bt s i == 10) = false ∧ (bt s i == 32) = false ∧ (bt s i == 47) = true ∧ (i : Int) + 1 < (s.size : Int) ∧ (bt s (i + 1) == 47) = false ∧ cmtAt s i = false) := by
  unfold cmtAt
  have e : decide (i + 1 < s.size) = decide ((i : Int) + 1 < (s.size : Int)) := by rw [Bool.eq_iff_iff, decide_eq_true_eq, decide_eq_true_eq]; omega
  rw [e]
  by_cases h4 : (i : Int) + 1 < (s.size : Int) <;> cases (bt s i == 10) <;> cases (bt s i == 32) <;> cases (bt s i == 47) <;> cases (bt s (i + 1) == 47) <;> simp [h4]
theorem skip_step {s : ByteArray} {i : Nat} {l : Int} (h : i < s.size) (h1 : (bt s i == 10) = false) (h2 : (bt s i == 32) = false) : skipT s i l = if cmtAt s i = true then skipT s (scan (lineAt s) s.size i) l else (i, l) := by
  rw [skipT_step h, h1, h2]; simp
def RetSkip (s : ByteArray) (i : Nat) (l : Int) (w : World) (e : Ending) (w' : World) : Prop := e = .returned (.tuple #[.int .i64 ((skipT s i l).1 : Nat), .int .i64 (skipT s i l).2]) ∧ w = w'
set_option maxHeartbeats 2000000 in
set_option maxRecDepth 20000 in
theorem l05Skip_s (s : ByteArray) (hs : s.size ≤ 1048576) (i : Nat) (hi : i ≤ s.size) (l : Int) (hl : 0 ≤ l) (hl2 : l ≤ 1048577 + i) (w : World) :
    Calls Try.prog 14 #[.string s, .int .i64 i, .int .i64 l] w (RetSkip s i l w) := by
  have hbt := get_bt s
  obtain ⟨R, hR⟩ : ∃ R, skipT s i l = R := ⟨_, rfl⟩
  unfold RetSkip
  rw [hR]
  go_enter Try.func14, Try.ntmps14
  go_wp2
  go_loopw [1, 2] (fun j m wr => ∃ (k : Nat) (q : Int), k ≤ s.size ∧ j = .int .i64 k ∧ m = .int .i64 q ∧ 0 ≤ q ∧ q ≤ 1048577 + k ∧ skipT s k q = R ∧ w = wr) (fun j _ _ => s.size - (intOf j).toNat)
  case atStart => exact ⟨i, l, hi, rfl, rfl, hl, hl2, hR, rfl⟩
  case round =>
    obtain ⟨k, q, hk, rfl, rfl, hq0, hq1, hsc, rfl⟩ := hrel
    have HSC := Lib.hid hsc
    clear hsc
    by_cases hlt : k < s.size
    · have h0 : (0 : Int) ≤ (k : Int) := by omega
      have h1 : (k : Int) < (s.size : Int) := by omega
      have h2 : (0 : Int) ≤ (k : Int) + 1 := by omega
      have h3 : ((k : Int) + 1).toNat = k + 1 := by omega
      have HST := Lib.hid (skipT_step (l := q) hlt)
      rcases skip_ways s k with hn | ⟨hn, hp⟩ | ⟨hn, hp, hc, ho⟩ | ⟨hn, hp, hc, h4, ho⟩ | ⟨hn, hp, hc, h4, hc2, ho⟩ | ⟨hn, hp, hc, h4, hc2, ho⟩
      · have HV := Lib.hid (show skipT s (k + 1) (q + 1) = R by rw [← HSC.out, HST.out, if_pos hn])
        go_wp2
        go_roundw
        case rel => exact ⟨k + 1, q + 1, by omega, by go_num, by go_num, by omega, by omega, HV.out, by first | rfl | trivial⟩
        case measure => simp [intOf]; omega
      · have HV := Lib.hid (show skipT s (k + 1) q = R by rw [← HSC.out, HST.out, if_neg (by rw [hn]; decide), if_pos hp])
        go_wp2
        go_roundw
        case rel => exact ⟨k + 1, q, by omega, by go_num, rfl, by omega, by omega, HV.out, by first | rfl | trivial⟩
        case measure => simp [intOf]; omega
      · have HV := Lib.hid (show R = (k, q) by rw [← HSC.out, skip_step hlt hn hp, if_neg (by rw [ho]; decide)])
        clear ho
        go_wp2
        go_ret2
        exact ⟨(by rw [HV.out]; try rfl), rfl⟩
      · have HV := Lib.hid (show R = (k, q) by rw [← HSC.out, skip_step hlt hn hp, if_neg (by rw [ho]; decide)])
        clear ho
        go_wp2
        go_ret2
        exact ⟨(by rw [HV.out]; try rfl), rfl⟩
      · have HV := Lib.hid (show skipT s (scan (lineAt s) s.size k) q = R by rw [← HSC.out, skip_step hlt hn hp, if_pos ho])
        have HGE := Lib.hid (cmt_scan hlt ho)
        have HLE := Lib.hid (scan_le (p := lineAt s) hk)
        clear ho
        go_wp2
        go_loopw [1] (fun j wr => ∃ p : Nat, k ≤ p ∧ p ≤ s.size ∧ j = .int .i64 p ∧ scan (lineAt s) s.size k = scan (lineAt s) s.size p ∧ w = wr) (fun j _ => s.size - (intOf j).toNat)
        case atStart => exact ⟨k, Nat.le_refl _, hk, rfl, rfl, rfl⟩
        case round =>
          obtain ⟨p, hp0, hp1, rfl, hsp, rfl⟩ := hrel
          have HSP := Lib.hid hsp
          clear hsp
          by_cases hpl : p < s.size
          · have i0 : (0 : Int) ≤ (p : Int) := by omega
            have i1 : (p : Int) < (s.size : Int) := by omega
            cases hz : (bt s p == 10)
            · have hz' : (bt s p != 10) = true := by simp [bne, hz]
              have HY := Lib.hid (HSP.out.trans (scan_yes hpl (show lineAt s p = true from hz')))
              go_wp2
              go_roundw
              case rel => exact ⟨p + 1, by omega, by omega, by go_num, HY.out, by first | rfl | trivial⟩
              case measure => simp [intOf]; omega
            · have hz' : (bt s p != 10) = false := by simp [bne, hz]
              have HY := Lib.hid (HSP.out.trans (scan_no hpl (show lineAt s p = false from hz')))
              go_wp2
              go_roundw
              case rel => exact ⟨p, q, by omega, rfl, rfl, by omega, by omega, by rw [← HY.out]; exact HV.out, by first | rfl | trivial⟩
              case measure => have := HY.out; have := HGE.out; simp [intOf]; omega
          · obtain rfl : p = s.size := by omega
            have HY := Lib.hid (HSP.out.trans (scan_stop hpl))
            go_wp2
            go_roundw
            case rel => exact ⟨s.size, q, by omega, rfl, rfl, by omega, by omega, by rw [← HY.out]; exact HV.out, by first | rfl | trivial⟩
            case measure => simp [intOf]; omega
      · have HV := Lib.hid (show R = (k, q) by rw [← HSC.out, skip_step hlt hn hp, if_neg (by rw [ho]; decide)])
        clear ho
        go_wp2
        go_ret2
        exact ⟨(by rw [HV.out]; try rfl), rfl⟩
    · have HV := Lib.hid (show R = (k, q) by rw [← HSC.out, skipT_stop hlt])
      go_wp2
      go_ret2
      exact ⟨(by rw [HV.out]; try rfl), rfl⟩
end Go.Proofs.Ytofihcahimdbhaa
