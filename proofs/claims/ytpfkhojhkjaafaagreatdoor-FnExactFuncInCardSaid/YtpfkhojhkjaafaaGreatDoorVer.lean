/- The text of a version's number: by the reference and by the program. -/
import Derived.Test.YtpfkhojhkjaafaaGreatDoorDec
namespace Go.Proofs.YtpfkhojhkjaafaaGreatDoor
open Go.RowKit Go.Shelf

/-- What the listed table holds. -/
def Tab10 (w : World) : Prop := Lib.TabIs Tryz.prog w "internal/strconv.uint64pow10" .u64 Lib.pow10Tab
theorem var_keep {P : Program} {w w' : World} {n : String} {cs : Array Value} (h : w.var? P n = some cs) (hb : Below w.heap.size w w') : w'.var? P n = some cs := by
  unfold World.var? at h ⊢
  cases hg : P.globalNamed n with
  | none => rw [hg] at h; simp at h
  | some g =>
    rw [hg] at h
    simp only [Option.bind_some] at h ⊢
    have hlt : g < w.heap.size := by
      rcases Nat.lt_or_ge g w.heap.size with h1 | h1
      · exact h1
      · rw [Array.getElem?_eq_none h1] at h; cases h
    rw [hb.block g hlt]
    exact h
theorem Tab10.below {w w' : World} (h : Tab10 w) (hb : Below w.heap.size w w') : Tab10 w' := var_keep h hb
theorem below_grow (w : World) (k : Nat) (os : Array Obj) : Below w.heap.size w (Sort.grow (w.drewN k) os) :=
  ⟨rfl, rfl, rfl, by simp [Sort.grow, World.drewN], fun b hb => by simp [Sort.grow, World.drewN, Array.getElem?_append, hb]⟩
/-- The version with a number. -/
def verT (n : Nat) : ByteArray := decT (n / 1000000) ++ ⟨#[46]⟩ ++ decT (n / 1000 % 1000) ++ ⟨#[46]⟩ ++ decT (n % 1000)
theorem verT_size (n : Nat) (h : n ≤ 999999999) : (verT n).size ≤ 65 := by
  have h1 := decT_size (n / 1000000) (by omega)
  have h2 := decT_size (n / 1000 % 1000) (by omega)
  have h3 := decT_size (n % 1000) (by omega)
  unfold verT
  simp only [ByteArray.size_append]
  have e : (ByteArray.mk #[46]).size = 1 := rfl
  omega
theorem decimal_i (n : Nat) (hn : n ≤ 9223372036854775807) (w : World) (ht : Tab10 w) : Calls Tryz.prog 122 #[.int .i64 n] w fun e w' => e = .returned (.string (decT n)) ∧ Below w.heap.size w w' := by
  have HT := Lib.hid ht
  clear ht
  have HC := Lib.hid (Tryz.strconv_FormatInt_10 (n : Int) (by omega) (by omega) w HT.out)
  go_enter Tryz.func122, Tryz.ntmps122
  go_wp2_with fail
  refine HC.out.mono ?_
  rintro e w1 ⟨rfl, k, os, rfl⟩
  have B := Lib.hid (below_grow w k os)
  obtain ⟨w1, hw1⟩ : ∃ w1, Sort.grow (w.drewN k) os = w1 := ⟨_, rfl⟩
  rw [hw1] at B ⊢
  have HI := Lib.hid (show (⟨(Lib.itoa (n : Int)).toArray⟩ : ByteArray) = decT n by rw [Lib.itoa_nonneg]; rfl)
  rw [HI.out]
  go_wp2
  go_ret
  exact ⟨rfl, B.out⟩
set_option maxHeartbeats 1000000 in
set_option maxRecDepth 20000 in
theorem l02Text_s (n : Nat) (hn : n ≤ 999999999) (w : World) : Calls Tryz.prog 159 #[.int .i64 n] w fun e w' => e = .returned (.string (verT n)) ∧ Below w.heap.size w w' := by
  have HV := Lib.hid (show decT (n / 1000000) ++ ⟨#[46]⟩ ++ decT (n / 1000 % 1000) ++ ⟨#[46]⟩ ++ decT (n % 1000) = verT n from rfl)
  have s1 := decT_size (n / 1000000) (by omega)
  have s2 := decT_size (n / 1000 % 1000) (by omega)
  have s3 := decT_size (n % 1000) (by omega)
  have H1 := Lib.hid (fun w => l02Dec_s (n / 1000000) (by omega) w)
  have H2 := Lib.hid (fun w => l02Dec_s (n / 1000 % 1000) (by omega) w)
  have H3 := Lib.hid (fun w => l02Dec_s (n % 1000) (by omega) w)
  have e1 : (n : Int) / 1000000 = ((n / 1000000 : Nat) : Int) := by omega
  have e2 : (n : Int) / 1000 % 1000 = ((n / 1000 % 1000 : Nat) : Int) := by omega
  have e3 : (n : Int) % 1000 = ((n % 1000 : Nat) : Int) := by omega
  obtain ⟨X, hX⟩ : ∃ X, decT (n / 1000000) = X := ⟨_, rfl⟩
  obtain ⟨Y, hY⟩ : ∃ Y, decT (n / 1000 % 1000) = Y := ⟨_, rfl⟩
  obtain ⟨Z, hZ⟩ : ∃ Z, decT (n % 1000) = Z := ⟨_, rfl⟩
  rw [hX] at s1 HV H1
  rw [hY] at s2 HV H2
  rw [hZ] at s3 HV H3
  rw [← e1] at H1
  rw [← e2] at H2
  rw [← e3] at H3
  clear e1 e2 e3 hX hY hZ
  go_enter Tryz.func159, Tryz.ntmps159
  go_wp2_with fail
  refine (H1.out _).mono ?_
  rintro e w1 ⟨rfl, hb1⟩
  go_wp2_with fail
  refine (H2.out _).mono ?_
  rintro e w2 ⟨rfl, hb2⟩
  have B2 := hb1.trans (hb2.mono hb1.size)
  clear hb2
  go_wp2_with fail
  refine (H3.out _).mono ?_
  rintro e w3 ⟨rfl, hb3⟩
  have B3 := B2.trans (hb3.mono B2.size)
  clear hb3
  go_wp2
  go_ret
  exact ⟨ret_eq (congrArg Value.string HV.out), B3⟩
/-- The version with a number, or none. -/
def verOr (n : Int) : ByteArray := if 0 ≤ n ∧ n ≤ 999999999 then verT n.toNat else ⟨#[]⟩
end Go.Proofs.YtpfkhojhkjaafaaGreatDoor
