/- Plain laws of a version's number: what a reading of the digits and dots gives. Plain laws: the decimal text of a small number reads back as it. The plain law of a split at dots. readDecimal: the program's walk. VersionNumber: the program's walk. The number of a version: the reference's walk. VersionNumber: the program's walk, and the law's. VersionNumber: the reference's walk, and what a walk over versions wants of the world. What asks for the number of a version: VersionOk, Serves, CompareVersions, InRange, by the reference and by the program. -/
import Derived.Test.YtpfkhojhkjaafaaGreatDoorVer
import Derived.PlainAid
import Derived.Lib.ParseIntBCases
import Derived.Lib.Split
import Derived.Lib.SplitLaws
import Derived.Lib.CountLaws
import Derived.Lib.IndexBytes
import Derived.Test.YtpfkhojhkjaafaaGreatDoorShelf
import Derived.BigQuiet
namespace Go.Proofs.YtpfkhojhkjaafaaGreatDoor
open Go.RowKit Go.PlainAid

theorem w64 (x : Int) (h : -9223372036854775808 ≤ x ∧ x ≤ 9223372036854775807) : wrap64 x = x := by unfold wrap64; omega
/-- One byte more: the sum so far, the part, the dots. -/
def stepV : Option (Int × Nat × Nat) → UInt8 → Option (Int × Nat × Nat)
  | none, _ => none
  | some (t, p, d), c => if c.toNat = 46 then some (wrap64 (wrap64 (t + p) * 1000), 0, d + 1) else if c.toNat < 48 ∨ 57 < c.toNat then none else some (t, 10 * p + (c.toNat - 48), d)
def stV (l : List UInt8) : Option (Int × Nat × Nat) := l.foldl stepV (some (0, 0, 0))
theorem step_none : ∀ l : List UInt8, l.foldl stepV none = none
  | [] => rfl
  | _ :: l => step_none l
theorem step_dec (t : Int) (d : Nat) : ∀ n : Nat, (Lib.decDigits n).foldl stepV (some (t, 0, d)) = some (t, n, d) := by
  intro n
  induction n using Nat.strongRecOn with
  | ind n ih =>
    rw [Lib.decDigits]
    have h8 : ∀ k, k < 10 → (UInt8.ofNat (48 + k)).toNat = 48 + k := fun k hk => UInt8.toNat_ofNat_of_lt' (show 48 + k < 256 by omega)
    by_cases h : n < 10
    · rw [dif_pos h]
      simp only [List.foldl_cons, List.foldl_nil, stepV]
      rw [h8 n h, if_neg (by omega), if_neg (by omega)]
      congr 2
      simp
    · rw [dif_neg h, List.foldl_append, ih (n / 10) (by omega)]
      simp only [List.foldl_cons, List.foldl_nil, stepV]
      rw [h8 _ (Nat.mod_lt _ (by decide)), if_neg (by omega), if_neg (by omega)]
      congr 3
      omega
theorem stV_ver (m : Nat) (hm : m ≤ 999999999) : stV (verT m).data.toList = some (((m / 1000 * 1000 : Nat) : Int), m % 1000, 2) := by
  have e : (verT m).data.toList = Lib.decDigits (m / 1000000) ++ [46] ++ Lib.decDigits (m / 1000 % 1000) ++ [46] ++ Lib.decDigits (m % 1000) := by simp [verT, decT]
  have h46 : (46 : UInt8).toNat = 46 := rfl
  rw [e, stV, List.foldl_append, List.foldl_append, List.foldl_append, List.foldl_append, step_dec]
  simp only [List.foldl_cons, List.foldl_nil, stepV, h46, if_true]
  rw [step_dec]
  simp only [h46, if_true]
  rw [step_dec]
  congr 2
  rw [w64 (0 + ((m / 1000000 : Nat) : Int)) (by omega), w64 ((0 + ((m / 1000000 : Nat) : Int)) * 1000) (by omega), w64 ((0 + ((m / 1000000 : Nat) : Int)) * 1000 + ((m / 1000 % 1000 : Nat) : Int)) (by omega), w64 _ (by omega)]
  omega
theorem ver_inj {m n : Nat} (hm : m ≤ 999999999) (hn : n ≤ 999999999) (h : verT m = verT n) : m = n := by
  have h1 := stV_ver m hm
  rw [h, stV_ver n hn] at h1
  simp only [Option.some.injEq, Prod.mk.injEq] at h1
  omega
theorem dec3_size (n : Nat) (h : n ≤ 999) : (decT n).size ≤ 3 := by
  by_cases h1 : n < 10
  · rw [decT_small h1]; exact (by decide : 1 ≤ 3)
  · rw [decT_big h1, ByteArray.size_append]
    have e : (ByteArray.mk #[UInt8.ofNat (48 + n % 10)]).size = 1 := rfl
    by_cases h2 : n / 10 < 10
    · rw [decT_small h2]
      have e2 : (ByteArray.mk #[UInt8.ofNat (48 + n / 10)]).size = 1 := rfl
      omega
    · rw [decT_big h2, decT_small (show n / 10 / 10 < 10 by omega), ByteArray.size_append]
      have e2 : (ByteArray.mk #[UInt8.ofNat (48 + n / 10 % 10)]).size = 1 := rfl
      have e3 : (ByteArray.mk #[UInt8.ofNat (48 + n / 10 / 10)]).size = 1 := rfl
      omega
theorem ver_size (m : Nat) (hm : m ≤ 999999999) : (verT m).size ≤ 11 := by
  have h1 := dec3_size (m / 1000000) (by omega)
  have h2 := dec3_size (m / 1000 % 1000) (by omega)
  have h3 := dec3_size (m % 1000) (by omega)
  unfold verT
  simp only [ByteArray.size_append]
  have e : (ByteArray.mk #[46]).size = 1 := rfl
  omega
/-- r is the number of the version s; -1: s is none. -/
def IsNum (s : ByteArray) (r : Int) : Prop := (r = -1 ∧ ∀ m : Nat, m ≤ 999999999 → s ≠ verT m) ∨ ∃ m : Nat, m ≤ 999999999 ∧ r = (m : Int) ∧ s = verT m
theorem IsNum.eq {s : ByteArray} {r q : Int} (h : IsNum s r) (k : IsNum s q) : r = q := by
  rcases h with ⟨rfl, h⟩ | ⟨m, hm, rfl, h⟩
  · rcases k with ⟨rfl, _⟩ | ⟨n, hn, _, k⟩
    · rfl
    · exact absurd k (h n hn)
  · rcases k with ⟨_, k⟩ | ⟨n, hn, rfl, k⟩
    · exact absurd h (k m hm)
    · rw [ver_inj hm hn (h.symm.trans k)]
end Go.Proofs.YtpfkhojhkjaafaaGreatDoor
namespace Go.Proofs.YtpfkhojhkjaafaaGreatDoor
open Go.RowKit

theorem dig_nat {k : Nat} (h : k < 10) : (UInt8.ofNat (48 + k)).toNat = 48 + k := UInt8.toNat_ofNat_of_lt' (show 48 + k < 256 by omega)
theorem dec_list (n : Nat) (h : n ≤ 999) : Lib.decDigits n = (if n < 10 then [UInt8.ofNat (48 + n)] else if n < 100 then [UInt8.ofNat (48 + n / 10), UInt8.ofNat (48 + n % 10)] else [UInt8.ofNat (48 + n / 100), UInt8.ofNat (48 + n / 10 % 10), UInt8.ofNat (48 + n % 10)]) := by
  by_cases h1 : n < 10
  · rw [Lib.decDigits, dif_pos h1, if_pos h1]
  rw [if_neg h1, Lib.decDigits, dif_neg h1]
  by_cases h2 : n < 100
  · rw [if_pos h2, Lib.decDigits, dif_pos (by omega)]; rfl
  rw [if_neg h2, Lib.decDigits, dif_neg (by omega), Lib.decDigits, dif_pos (by omega), show n / 10 / 10 = n / 100 by omega]; rfl
theorem pm_step (M acc k : Nat) (r : List UInt8) (hk : k < 10) (ha : acc ≤ 1000000) (hM : 100000000 ≤ M) : Lib.parseUintM M acc (UInt8.ofNat (48 + k) :: r) = Lib.parseUintM M (acc * 10 + k) r := by
  rw [Lib.parseUintM, dig_nat hk, if_pos (by omega), if_neg (by omega), if_neg (by omega), show 48 + k - 48 = k by omega]
theorem pi_step (k : Nat) (r : List UInt8) (hk : k < 10) (n : Nat) (hn : n ≤ 999) (h : Lib.parseUintM (2 ^ 64 - 1) k r = .ok n) : Lib.parseIntB 64 (UInt8.ofNat (48 + k) :: r) = .ok (n : Int) := by
  rw [Lib.parseIntB_plain 64 _ r (by rw [dig_nat hk]; omega) (by rw [dig_nat hk]; omega), Lib.parseUintB, if_neg (by simp), pm_step _ _ _ _ hk (by omega) (by decide), Nat.zero_mul, Nat.zero_add, h]
  unfold Lib.signlessC
  simp
  omega
theorem parse_dec (n : Nat) (h : n ≤ 999) : Lib.parseIntB 64 (Lib.decDigits n) = .ok (n : Int) := by
  rw [dec_list n h]
  by_cases h1 : n < 10
  · rw [if_pos h1]
    exact pi_step n [] h1 n h rfl
  rw [if_neg h1]
  by_cases h2 : n < 100
  · rw [if_pos h2]
    exact pi_step (n / 10) _ (by omega) n h (by rw [pm_step _ _ _ _ (by omega) (by omega) (by decide), Lib.parseUintM]; congr 1; omega)
  rw [if_neg h2]
  exact pi_step (n / 100) _ (by omega) n h (by rw [pm_step _ _ _ _ (by omega) (by omega) (by decide), pm_step _ _ _ _ (by omega) (by omega) (by decide), Lib.parseUintM]; congr 1; omega)
/-- What readDecimal says of a text. -/
def IsDec (s : ByteArray) (n : Int) (ok : Bool) : Prop := (ok = true → 0 ≤ n → n ≤ 999 → s = decT n.toNat) ∧ ∀ k : Nat, k ≤ 999 → s = decT k → n = (k : Int) ∧ ok = true
end Go.Proofs.YtpfkhojhkjaafaaGreatDoor
namespace Go.Proofs.YtpfkhojhkjaafaaGreatDoor
open Go.RowKit

/-- The pieces between dots. -/
def cutD : List UInt8 → List (List UInt8)
  | [] => [[]]
  | c :: l => if c = 46 then [] :: cutD l else match cutD l with
    | [] => [[c]]
    | h :: t => (c :: h) :: t
theorem cutD_ne : ∀ l, cutD l ≠ []
  | [] => by simp [cutD]
  | c :: l => by
    unfold cutD
    split
    · simp
    · split <;> simp
def joinD : List (List UInt8) → List UInt8
  | [] => []
  | [x] => x
  | x :: y :: r => x ++ 46 :: joinD (y :: r)
theorem joinD_cons (c : UInt8) (h : List UInt8) (t : List (List UInt8)) : joinD ((c :: h) :: t) = c :: joinD (h :: t) := by
  cases t <;> simp [joinD]
theorem join_cut : ∀ l, joinD (cutD l) = l
  | [] => rfl
  | c :: l => by
    have ih := join_cut l
    unfold cutD
    split
    · rename_i h
      subst h
      cases hc : cutD l with
      | nil => exact absurd hc (cutD_ne l)
      | cons x t => rw [hc] at ih; simp only [joinD, List.nil_append]; rw [ih]
    · cases hc : cutD l with
      | nil => exact absurd hc (cutD_ne l)
      | cons x t => rw [hc] at ih; simp only []; rw [joinD_cons, ih]
theorem cut_plain : ∀ (a r : List UInt8), (∀ c ∈ a, c ≠ 46) → cutD (a ++ 46 :: r) = a :: cutD r
  | [], r, _ => by simp [cutD]
  | c :: a, r, h => by
    have ih := cut_plain a r (fun x hx => h x (by simp [hx]))
    rw [List.cons_append, cutD, if_neg (h c (by simp)), ih]
theorem cut_last : ∀ (a : List UInt8), (∀ c ∈ a, c ≠ 46) → cutD a = [a]
  | [], _ => rfl
  | c :: a, h => by
    have ih := cut_last a (fun x hx => h x (by simp [hx]))
    rw [cutD, if_neg (h c (by simp)), ih]
theorem dig_plain {k : Nat} (h : k < 10) : UInt8.ofNat (48 + k) ≠ 46 := fun e => by
  have := congrArg UInt8.toNat e
  rw [dig_nat h] at this
  have h46 : (46 : UInt8).toNat = 46 := rfl
  omega
theorem dec_plain (n : Nat) (h : n ≤ 999) : ∀ c ∈ Lib.decDigits n, c ≠ 46 := by
  rw [dec_list n h]
  intro c hc
  split at hc
  · simp only [List.mem_cons, List.not_mem_nil, or_false] at hc
    subst hc
    exact dig_plain (by omega)
  · split at hc
    · simp only [List.mem_cons, List.not_mem_nil, or_false] at hc
      rcases hc with rfl | rfl <;> exact dig_plain (by omega)
    · simp only [List.mem_cons, List.not_mem_nil, or_false] at hc
      rcases hc with rfl | rfl | rfl <;> exact dig_plain (by omega)
theorem cut_ver (m : Nat) (hm : m ≤ 999999999) : cutD (verT m).data.toList = [Lib.decDigits (m / 1000000), Lib.decDigits (m / 1000 % 1000), Lib.decDigits (m % 1000)] := by
  have e : (verT m).data.toList = Lib.decDigits (m / 1000000) ++ 46 :: (Lib.decDigits (m / 1000 % 1000) ++ 46 :: Lib.decDigits (m % 1000)) := by simp [verT, decT]
  rw [e, cut_plain _ _ (dec_plain _ (by omega)), cut_plain _ _ (dec_plain _ (by omega)), cut_last _ (dec_plain _ (by omega))]
theorem ver_cut (s : ByteArray) (a b c : Nat) (hb : b ≤ 999) (hc : c ≤ 999) (h : cutD s.data.toList = [Lib.decDigits a, Lib.decDigits b, Lib.decDigits c]) : s = verT (a * 1000000 + b * 1000 + c) := by
  have h1 := join_cut s.data.toList
  rw [h] at h1
  refine ByteArray.ext (Array.toList_inj.1 ?_)
  rw [← h1]
  have e1 : (a * 1000000 + b * 1000 + c) / 1000000 = a := by omega
  have e2 : (a * 1000000 + b * 1000 + c) / 1000 % 1000 = b := by omega
  have e3 : (a * 1000000 + b * 1000 + c) % 1000 = c := by omega
  simp [joinD, verT, decT, e1, e2, e3]
theorem ib_plain : ∀ (a r : List UInt8), (∀ c ∈ a, c ≠ 46) → Lib.indexByte (a ++ 46 :: r) 46 = a.length
  | [], r, _ => by simp [Lib.indexByte]
  | c :: a, r, h => by
    have ih := ib_plain a r (fun x hx => h x (by simp [hx]))
    have hc : (c == 46) = false := by simpa using h c (by simp)
    have hn : (((a.length : Int)) == -1) = false := beq_false_of_ne (by omega)
    rw [List.cons_append, Lib.indexByte, hc, ih, hn]
    simp
theorem mem_all {c : UInt8} {l : List UInt8} (h : ¬ c = 46) (k : ∀ x ∈ l, x ≠ 46) : ∀ x ∈ c :: l, x ≠ 46 := by
  intro x hx
  rcases List.mem_cons.1 hx with e | hx
  · rw [e]; exact h
  · exact k x hx
theorem dot_cases : ∀ l : List UInt8, (∀ c ∈ l, c ≠ 46) ∨ ∃ a r, l = a ++ 46 :: r ∧ ∀ c ∈ a, c ≠ 46
  | [] => .inl (fun _ h => by cases h)
  | c :: l => by
    by_cases h : c = 46
    · exact Or.inr ⟨[], l, by simp [h], fun _ h => by cases h⟩
    · rcases dot_cases l with k | ⟨a, r, rfl, k⟩
      · exact Or.inl (mem_all h k)
      · exact Or.inr ⟨c :: a, r, rfl, mem_all h k⟩
theorem count_plain (a : List UInt8) (h : ∀ c ∈ a, c ≠ 46) : a.count 46 = 0 := List.count_eq_zero.2 (fun hm => h 46 hm rfl)
theorem split_cut : ∀ (n : Nat) (l : List UInt8), l.length ≤ n → Lib.splitK [46] 0 (l.count 46) l = cutD l
  | n, l, hn => by
    rcases dot_cases l with h | ⟨a, r, rfl, h⟩
    · rw [count_plain l h, cut_last l h]; rfl
    · have hk : (a ++ 46 :: r).count 46 = r.count 46 + 1 := by rw [List.count_append, count_plain a h, List.count_cons_self]; omega
      have hi : Lib.index (a ++ 46 :: r) [46] = (a.length : Int) := by rw [Lib.index_one, ib_plain a r h]
      have hm : ((a.length : Int) == -1) = false := beq_false_of_ne (by omega)
      cases n with
      | zero => simp at hn
      | succ n =>
        have ih := split_cut n r (by simp at hn; omega)
        rw [hk, Lib.splitK, hi, hm, cut_plain a r h]
        simp
        exact ih
end Go.Proofs.YtpfkhojhkjaafaaGreatDoor
namespace Go.Proofs.YtpfkhojhkjaafaaGreatDoor
open Go.RowKit Go.Shelf

/-- The two errors of strconv hold an error each. -/
def Errs (w : World) : Prop := (∃ te pe, w.cell? ⟨Tryz.laysC174_ren.g 15, 0, none⟩ = some (.iface te pe)) ∧ ∃ te pe, w.cell? ⟨Tryz.laysC174_ren.g 16, 0, none⟩ = some (.iface te pe)
theorem cell_lt {w : World} {a : Addr} {v : Value} (h : w.cell? a = some v) : a.block < w.heap.size := by
  unfold World.cell? at h
  cases hb : w.heap[a.block]? with
  | none => simp [hb] at h
  | some o => exact (Array.getElem?_eq_some_iff.1 hb).1
theorem Errs.below {w w' : World} (h : Errs w) (hb : Below w.heap.size w w') : Errs w' := by
  obtain ⟨⟨a, b, h1⟩, c, d, h2⟩ := h
  exact ⟨⟨a, b, (hb.cell (cell_lt h1)).trans h1⟩, c, d, (hb.cell (cell_lt h2)).trans h2⟩
theorem below_bytes (w : World) (t : ByteArray) : Below w.heap.size w (Lib.bytesWorld w 5 t) :=
  ⟨rfl, rfl, rfl, by rw [Lib.bytesWorld_size]; omega, fun j hj => Lib.bytesWorld_at_old w 5 t j hj⟩
/-- What decimal writes of any number. -/
def decI (n : Int) : ByteArray := ⟨(Lib.itoa n).toArray⟩
theorem decI_nat (n : Nat) : decI (n : Int) = decT n := by rw [decI, Lib.itoa_nonneg]; rfl
theorem decimalI_i (n : Int) (h0 : -9223372036854775808 ≤ n ∧ n ≤ 9223372036854775807) (w : World) (ht : Tab10 w) : Calls Tryz.prog 122 #[.int .i64 n] w fun e w' => e = .returned (.string (decI n)) ∧ Below w.heap.size w w' := by
  have HC := Lib.hid (Tryz.strconv_FormatInt_10 n h0.1 h0.2 w ht)
  clear ht
  go_enter Tryz.func122, Tryz.ntmps122
  go_wp2_with fail
  refine HC.out.mono ?_
  rintro e w1 ⟨rfl, k, os, rfl⟩
  have B := Lib.hid (below_grow w k os)
  obtain ⟨w1, hw1⟩ : ∃ w1, Sort.grow (w.drewN k) os = w1 := ⟨_, rfl⟩
  rw [hw1] at B ⊢
  obtain ⟨R, hR⟩ : ∃ R, decI n = R := ⟨_, rfl⟩
  rw [show (⟨(Lib.itoa n).toArray⟩ : ByteArray) = R from hR]
  have HR := Lib.hid hR
  clear hR
  go_wp2
  go_ret
  exact ⟨ret_eq (by rw [HR.out]; rfl), B.out⟩
def RetDec (s : ByteArray) (w : World) (e : Ending) (w' : World) : Prop := ∃ (n : Int) (ok : Bool), e = .returned (.tuple #[.int .i64 n, .bool ok]) ∧ IsDec s n ok ∧ -9223372036854775808 ≤ n ∧ n ≤ 9223372036854775807 ∧ Below w.heap.size w w'
theorem isDec_no {s : ByteArray} (h : ∀ k : Nat, k ≤ 999 → s ≠ decT k) : IsDec s 0 false := ⟨fun h => (by cases h), fun k hk hs => absurd hs (h k hk)⟩
theorem dec_parse {s : ByteArray} {k : Nat} (hk : k ≤ 999) (hs : s = decT k) : Lib.parseIntB 64 s.data.toList = .ok (k : Int) := by
  rw [hs, decT_list, parse_dec k hk]
set_option maxHeartbeats 1000000 in
set_option maxRecDepth 20000 in
theorem readDecimal_i (s : ByteArray) (hs : s.size ≤ 1048576) (w : World) (ht : Tab10 w) (he : Errs w) : Calls Tryz.prog 165 #[.string s] w (RetDec s w) := by
  obtain ⟨⟨te, pe, h15⟩, te2, pe2, h16⟩ := he
  have HT := Lib.hid ht
  have C15 := Lib.hid h15
  have C16 := Lib.hid h16
  clear ht h15 h16
  go_enter Tryz.func165, Tryz.ntmps165
  go_wp2_with fail
  rcases h : Lib.parseIntB 64 s.data.toList with v | _ | _
  rotate_left
  · have HN := Lib.hid (isDec_no (s := s) (fun k hk hs => by rw [dec_parse hk hs] at h; cases h))
    refine (Any.strconv_ParseInt_10_at64_syntax Tryz.laysC174 s (by omega) h _ _ C15.out (.inr ⟨_, _, rfl⟩)).mono ?_
    rintro e w1 ⟨N, rfl, _, _, hb⟩
    clear h
    go_wp2
    exact bodyPost_ret (v := .tuple #[.int .i64 0, .bool false]) (by simp [results, Tryz.results165, go_sem]) rfl ⟨0, false, rfl, HN.out, by decide, by decide, hb⟩
  · have HN := Lib.hid (isDec_no (s := s) (fun k hk hs => by rw [dec_parse hk hs] at h; cases h))
    refine (Tryz.strconv_ParseInt_10_at64_range s (by omega) h _ _ C16.out (.inr ⟨_, _, rfl⟩)).mono ?_
    rintro e w1 ⟨N, rfl, _, _, hb⟩
    clear h
    go_wp2
    exact bodyPost_ret (v := .tuple #[.int .i64 0, .bool false]) (by simp [results, Tryz.results165, go_sem]) rfl ⟨0, false, rfl, HN.out, by decide, by decide, hb⟩
  · have hv : -9223372036854775808 ≤ v ∧ v ≤ 9223372036854775807 := by
      have := Lib.parseIntB_bounds h
      simp at this
      omega
    refine (Tryz.strconv_ParseInt_10_at64_ok s (by omega) v h _).mono ?_
    rintro e w1 ⟨rfl, hw⟩
    have hb : Below w.heap.size w w1 := by
      rcases hw with rfl | ⟨t, rfl⟩
      · exact Below.refl _ _
      · exact below_bytes w t
    clear hw
    have HD := Lib.hid (decimalI_i v hv w1 (HT.out.below hb))
    by_cases hq : decI v = s
    · have HI := Lib.hid (show IsDec s v true from ⟨fun _ h0 _ => (by rw [← hq, ← decI_nat, Int.toNat_of_nonneg h0]), fun k hk hs => (by rw [dec_parse hk hs] at h; exact ⟨(by cases h; rfl), rfl⟩)⟩)
      have e : ((decI v).toList == s.toList) = true := by rw [hq]; simp
      have e' : ((decI v).toList != s.toList) = false := by rw [hq]; simp
      clear hq h
      obtain ⟨R, hR⟩ : ∃ R, decI v = R := ⟨_, rfl⟩
      rw [hR] at e e' HD
      clear hR
      go_wp2_with (go_at_call 122; refine HD.out.mono ?_; rintro e w2 ⟨rfl, hb2⟩)
      exact bodyPost_ret (v := .tuple #[.int .i64 v, .bool true]) (by simp [results, Tryz.results165, go_sem]) rfl ⟨v, true, rfl, HI.out, hv.1, hv.2, hb.trans (hb2.mono hb.size)⟩
    · have HI := Lib.hid (isDec_no (s := s) (fun k hk hs => by rw [dec_parse hk hs] at h; cases h; exact hq (by rw [decI_nat, hs])))
      have e' : ((decI v).toList != s.toList) = true := by
        simp only [bne, Bool.not_eq_true', beq_eq_false_iff_ne]
        intro h
        rw [ByteArray.toList_eq, ByteArray.toList_eq] at h
        exact hq (ByteArray.ext (Array.toList_inj.1 h))
      have e : ((decI v).toList == s.toList) = false := by simpa [bne] using e'
      clear hq h
      obtain ⟨R, hR⟩ : ∃ R, decI v = R := ⟨_, rfl⟩
      rw [hR] at e e' HD
      clear hR
      go_wp2_with (go_at_call 122; refine HD.out.mono ?_; rintro e w2 ⟨rfl, hb2⟩)
      exact bodyPost_ret (v := .tuple #[.int .i64 0, .bool false]) (by simp [results, Tryz.results165, go_sem]) rfl ⟨0, false, rfl, HI.out, by decide, by decide, hb.trans (hb2.mono hb.size)⟩
end Go.Proofs.YtpfkhojhkjaafaaGreatDoor
namespace Go.Proofs.YtpfkhojhkjaafaaGreatDoor
open Go.RowKit Go.Shelf

/-- The pieces that strings.Split gives. -/
def piecesD (s : ByteArray) : List ByteArray := Lib.splitB ⟨#[46]⟩ 0 (Lib.countB s ⟨#[46]⟩) s
theorem pieces_cut (s : ByteArray) : (piecesD s).map (·.data.toList) = cutD s.data.toList := by
  have hc : Lib.countB s ⟨#[46]⟩ = s.data.toList.count 46 := Lib.count_one 46 s.data.toList
  rw [piecesD, Lib.splitB_data, hc]
  exact split_cut _ _ (Nat.le_refl _)
theorem pieces_len (s : ByteArray) : (piecesD s).length = Lib.countB s ⟨#[46]⟩ + 1 := Lib.splitB_all _ (by decide) 0 _ s rfl
theorem pieces_ver (m : Nat) (hm : m ≤ 999999999) : piecesD (verT m) = [decT (m / 1000000), decT (m / 1000 % 1000), decT (m % 1000)] := by
  have h := pieces_cut (verT m)
  rw [cut_ver m hm] at h
  have inj : ∀ {a b : List ByteArray}, a.map (·.data.toList) = b.map (·.data.toList) → a = b := by
    intro a
    induction a with
    | nil => intro b h; cases b with
      | nil => rfl
      | cons _ _ => cases h
    | cons x a ih => intro b h; cases b with
      | nil => cases h
      | cons y b =>
        simp only [List.map_cons, List.cons.injEq] at h
        rw [ByteArray.ext (Array.toList_inj.1 h.1), ih h.2]
  exact inj (by rw [h]; simp [decT])
theorem ver_pieces (s : ByteArray) (a b c : Nat) (hb : b ≤ 999) (hc : c ≤ 999) (h : piecesD s = [decT a, decT b, decT c]) : s = verT (a * 1000000 + b * 1000 + c) := by
  refine ver_cut s a b c hb hc ?_
  rw [← pieces_cut, h]
  simp [decT]
theorem join_mem : ∀ (l : List (List UInt8)) (x : List UInt8), x ∈ l → x.length ≤ (joinD l).length
  | [], _, h => by cases h
  | [y], x, h => by
    simp only [List.mem_cons, List.not_mem_nil, or_false] at h
    subst h
    exact Nat.le_refl _
  | y :: z :: r, x, h => by
    have ih := join_mem (z :: r) x
    simp only [joinD, List.length_append, List.length_cons]
    rcases List.mem_cons.1 h with rfl | h
    · omega
    · have := ih h
      omega
theorem pieces_size (s p : ByteArray) (h : p ∈ piecesD s) : p.size ≤ s.size := by
  have h1 := join_mem (cutD s.data.toList) p.data.toList (by rw [← pieces_cut]; exact List.mem_map.2 ⟨p, h, rfl⟩)
  rw [join_cut, ← Lib.size_eq, ← Lib.size_eq] at h1
  exact h1
/-- What the first pieces say. -/
def Good (L : List ByteArray) (j N : Nat) : Prop := ∃ ns : List Nat, ns.length = j ∧ (∀ a ∈ ns, a ≤ 999) ∧ L.take j = ns.map decT ∧ N = ns.foldl (fun x a => x * 1000 + a) 0 ∧ N < 1000 ^ j
theorem Good.next {L : List ByteArray} {j N a : Nat} {p : ByteArray} (h : Good L j N) (hp : L[j]? = some p) (ha : a ≤ 999) (hpa : p = decT a) : Good L (j + 1) (N * 1000 + a) := by
  obtain ⟨ns, h1, h2, h3, h4, h5⟩ := h
  refine ⟨ns ++ [a], by simp [h1], fun x hx => ?_, by rw [List.take_add_one, hp, h3, hpa]; simp, by rw [List.foldl_append, ← h4]; rfl, by rw [Nat.pow_succ]; omega⟩
  rcases List.mem_append.1 hx with hx | hx
  · exact h2 x hx
  · simp only [List.mem_cons, List.not_mem_nil, or_false] at hx
    omega
theorem Good.end_ {s : ByteArray} {N : Nat} (hl : (piecesD s).length = 3) (h : Good (piecesD s) 3 N) : IsNum s (N : Int) := by
  obtain ⟨ns, h1, h2, h3, h4, _⟩ := h
  rw [List.take_of_length_le (by omega)] at h3
  match ns, h1 with
  | [a, b, c], _ =>
    have ha := h2 a (by simp)
    have hb := h2 b (by simp)
    have hc := h2 c (by simp)
    have e := ver_pieces s a b c hb hc (by rw [h3]; rfl)
    simp only [List.foldl_cons, List.foldl_nil] at h4
    exact .inr ⟨a * 1000000 + b * 1000 + c, by omega, by omega, e⟩
theorem no_three {s : ByteArray} (h : (piecesD s).length ≠ 3) : IsNum s (-1) := .inl ⟨rfl, fun m hm e => h (by rw [e, pieces_ver m hm]; rfl)⟩
theorem no_piece {s p : ByteArray} {j : Nat} (hp : (piecesD s)[j]? = some p) (h : ∀ k : Nat, k ≤ 999 → p ≠ decT k) : IsNum s (-1) := .inl ⟨rfl, fun m hm e => by
  rw [e, pieces_ver m hm] at hp
  match j, hp with
  | 0, hp => exact h (m / 1000000) (by omega) (by simpa using hp.symm)
  | 1, hp => exact h (m / 1000 % 1000) (by omega) (by simpa using hp.symm)
  | 2, hp => exact h (m % 1000) (by omega) (by simpa using hp.symm)
  | j + 3, hp => simp at hp⟩
end Go.Proofs.YtpfkhojhkjaafaaGreatDoor
namespace Go.Proofs.YtpfkhojhkjaafaaGreatDoor
open Go.RowKit Go.PlainAid

theorem bt_list (s : ByteArray) (i : Nat) (h : i < s.size) : ∃ c : UInt8, s.data.toList[i]? = some c ∧ bt s i = (c.toNat : Int) := by
  have h' : i < s.data.size := h
  refine ⟨s.data[i], by rw [Array.getElem?_toList, Array.getElem?_eq_getElem h'], ?_⟩
  unfold bt
  rw [dif_pos h]
  rfl
theorem stV_next {l : List UInt8} {i : Nat} {c : UInt8} {x : Option (Int × Nat × Nat)} (h : stV (l.take i) = x) (hc : l[i]? = some c) : stV (l.take (i + 1)) = stepV x c := by
  rw [List.take_add_one, hc, stV, List.foldl_append, ← h]
  rfl
theorem stV_bad {l : List UInt8} {i : Nat} (h : stV (l.take i) = none) : stV l = none := by
  rw [← List.take_append_drop i l, stV, List.foldl_append]
  show List.foldl stepV (stV (l.take i)) _ = none
  rw [h, step_none]
theorem pow_next {p i k : Nat} (h : p < 10 ^ i) (hk : k ≤ 9) : 10 * p + k < 10 ^ (i + 1) := by
  rw [Nat.pow_succ]; omega
theorem pow12 {p i : Nat} (h : p < 10 ^ i) (hi : i ≤ 12) : p < 1000000000000 := Nat.lt_of_lt_of_le h (Nat.pow_le_pow_right (by decide) hi : 10 ^ i ≤ 10 ^ 12)
/-- No version, for the reading at the end of the loop says so. -/
theorem num_no {s : ByteArray} {i : Nat} {t : Int} {p d : Nat} (hi : i = s.size ∨ i = 12) (hl : i ≤ s.size) (h : stV (s.data.toList.take i) = some (t, p, d))
    (hno : ∀ m : Nat, m ≤ 999999999 → s = verT m → d = 2 → p ≤ 999 → wrap64 (t + p) = (m : Int) → False) : IsNum s (-1) := by
  refine .inl ⟨rfl, fun m hm hs => ?_⟩
  have hsz := ver_size m hm
  rw [← hs] at hsz
  obtain rfl : i = s.size := by omega
  have hx : s.data.toList.take s.size = s.data.toList := List.take_of_length_le (by rw [← Lib.size_eq]; exact Nat.le_refl _)
  have h1 := stV_ver m hm
  rw [← hs] at h1
  rw [hx, h1] at h
  simp only [Option.some.injEq, Prod.mk.injEq] at h
  obtain ⟨rfl, rfl, rfl⟩ := h
  exact hno m hm hs rfl (by omega) (by rw [w64 _ (by omega)]; omega)
set_option maxHeartbeats 2000000 in
set_option maxRecDepth 20000 in
theorem l02Num_s (s : ByteArray) (_hs : s.size ≤ 9223372036854775807) (w : World) : Calls Tryz.prog 124 #[.string s] w fun e w' => ∃ r, e = .returned (.int .i64 r) ∧ IsNum s r ∧ Below w.heap.size w w' := by
  have hbt := PlainAid.get_bt s
  go_enter Tryz.func124, Tryz.ntmps124
  go_wp2
  go_loopw [3, 4, 5, 6] (fun t p d i wr => ∃ (T : Int) (P D I : Nat), t = .int .i64 T ∧ p = .int .i64 P ∧ d = .int .i64 D ∧ i = .int .i64 I ∧ stV (s.data.toList.take I) = some (T, P, D) ∧ P < 10 ^ I ∧ D ≤ I ∧ I ≤ 12 ∧ I ≤ s.size ∧ Below w.heap.size w wr)
    (fun _ _ _ i _ => (12 - intOf i).toNat)
  case atStart => exact ⟨0, 0, 0, 0, rfl, rfl, rfl, rfl, rfl, by decide, Nat.le_refl _, by decide, Nat.zero_le _, Below.refl _ _⟩
  case round =>
    obtain ⟨T, P, D, I, rfl, rfl, rfl, rfl, hst, hP, hD, hI, hIs, hb⟩ := hrel
    have HST := Lib.hid hst
    have HP := Lib.hid hP
    have hP2 := pow12 hP hI
    clear hst hP
    by_cases hi : I < s.size ∧ I < 12
    · obtain ⟨hi1, hi2⟩ := hi
      have j1 : (I : Int) < (s.size : Int) := by omega
      have j2 : (I : Int) < 12 := by omega
      obtain ⟨c, hc, hcb⟩ := bt_list s I hi1
      have HN := Lib.hid (stV_next HST.out hc)
      have hc9 := c.toNat_lt
      clear hc
      by_cases c1 : c.toNat = 46
      · have d1 : bt s I = 46 := by omega
        have HN2 := Lib.hid (show stV (s.data.toList.take (I + 1)) = some (wrap64 (wrap64 (T + P) * 1000), 0, D + 1) by rw [HN.out]; simp [stepV, c1])
        clear hcb
        go_wp2_with fail
        exact ⟨⟨_, 0, D + 1, I + 1, rfl, rfl, by simp, by simp, HN2.out, Nat.pow_pos (by decide), by omega, by omega, by omega, hb⟩, by simp [intOf]; omega⟩
      · by_cases c2 : c.toNat < 48 ∨ 57 < c.toNat
        · have HB := Lib.hid (stV_bad (show stV (s.data.toList.take (I + 1)) = none by rw [HN.out]; simp only [stepV]; rw [if_neg c1, if_pos c2]))
          have HI := Lib.hid (show IsNum s (-1) from .inl ⟨rfl, fun m hm h => by have := stV_ver m hm; rw [← h, HB.out] at this; cases this⟩)
          have e1 : ¬ bt s I = 46 := by omega
          by_cases c3 : c.toNat < 48
          · have e2 : bt s I < 48 := by omega
            clear hcb
            go_wp2
            go_ret
            exact ⟨_, rfl, HI.out, hb⟩
          · have e2 : ¬ bt s I < 48 := by omega
            have e3 : 57 < bt s I := by omega
            clear hcb
            go_wp2
            go_ret
            exact ⟨_, rfl, HI.out, hb⟩
        · have e1 : ¬ bt s I = 46 := by omega
          have e2 : ¬ bt s I < 48 := by omega
          have e3 : ¬ 57 < bt s I := by omega
          have HN2 := Lib.hid (show stV (s.data.toList.take (I + 1)) = some (T, 10 * P + (c.toNat - 48), D) by rw [HN.out]; simp only [stepV]; rw [if_neg c1, if_neg c2])
          have HP2 := Lib.hid (pow_next HP.out (show c.toNat - 48 ≤ 9 by omega))
          have HC := Lib.hid (show ((10 * P + (c.toNat - 48) : Nat) : Int) = 10 * (P : Int) + (bt s I - 48) by omega)
          clear hcb
          go_wp2_with fail
          exact ⟨⟨T, 10 * P + (c.toNat - 48), D, I + 1, rfl, by rw [HC.out], rfl, by simp, HN2.out, HP2.out, by omega, by omega, by omega, hb⟩, by simp [intOf]; omega⟩
    · have hex : I = s.size ∨ I = 12 := by omega
      have hno := Lib.hid (fun h => num_no hex hIs HST.out h)
      have KX : (¬ (I : Int) < (s.size : Int)) ∨ (I : Int) < (s.size : Int) ∧ ¬ (I : Int) < 12 := by omega
      by_cases d2 : D = 2
      · have j2 : (D : Int) = 2 := by omega
        subst d2
        by_cases p9 : P ≤ 999
        · have j3 : ¬ 999 < (P : Int) := by omega
          by_cases hin : inR 0 (wrap64 (T + P)) 999999999 = true
          · obtain ⟨n, hn⟩ : ∃ n : Nat, wrap64 (T + P) = (n : Int) := ⟨(wrap64 (T + P)).toNat, by have := (inR_iff.1 hin).1; omega⟩
            have hn9 : n ≤ 999999999 := by have := (inR_iff.1 hin).2; omega
            rw [hn] at hin
            have HT := Lib.hid (fun w => l02Text_s n hn9 w)
            by_cases he : verT n = s
            · have HI := Lib.hid (show IsNum s (n : Int) from .inr ⟨n, hn9, rfl, he.symm⟩)
              have HJ := Lib.hid (show IsNum s (wrap64 (T + P)) from by rw [hn]; exact HI.out)
              have e : ((verT n).toList == s.toList) = true := by rw [he]; simp
              have e' : ((verT n).toList != s.toList) = false := by rw [he]; simp
              clear he
              obtain ⟨R, hR⟩ : ∃ R, verT n = R := ⟨_, rfl⟩
              rw [hR] at e e' HT
              clear hR
              rcases KX with k1 | ⟨k1, k2⟩ <;>
              · go_wp2_with (first | (go_at_call 97; refine (l00In_any _ _ _ _).mono ?_; rintro e w1 ⟨rfl, rfl⟩) | (go_at_call 159; refine (HT.out _).mono ?_; rintro e w2 ⟨rfl, hb2⟩))
                go_ret
                first | exact ⟨_, rfl, HI.out, hb.trans (hb2.mono hb.size)⟩ | exact ⟨_, rfl, HJ.out, hb.trans (hb2.mono hb.size)⟩
            · have HI := Lib.hid (hno.out (fun m hm h _ _ hx => he (by rw [hn] at hx; rw [h, Int.ofNat_inj.1 hx])))
              have e' : ((verT n).toList != s.toList) = true := by
                simp only [bne, Bool.not_eq_true', beq_eq_false_iff_ne]
                intro h
                rw [ByteArray.toList_eq, ByteArray.toList_eq] at h
                exact he (ByteArray.ext (Array.toList_inj.1 h))
              have e : ((verT n).toList == s.toList) = false := by simpa [bne] using e'
              clear he
              obtain ⟨R, hR⟩ : ∃ R, verT n = R := ⟨_, rfl⟩
              rw [hR] at e e' HT
              clear hR
              rcases KX with k1 | ⟨k1, k2⟩ <;>
              · go_wp2_with (first | (go_at_call 97; refine (l00In_any _ _ _ _).mono ?_; rintro e w1 ⟨rfl, rfl⟩) | (go_at_call 159; refine (HT.out _).mono ?_; rintro e w2 ⟨rfl, hb2⟩))
                go_ret
                first | exact ⟨_, rfl, HI.out, hb.trans (hb2.mono hb.size)⟩ | exact ⟨_, rfl, HJ.out, hb.trans (hb2.mono hb.size)⟩
          · have hin' : inR 0 (wrap64 (T + P)) 999999999 = false := by simpa using hin
            have HI := Lib.hid (hno.out (fun m hm _ _ _ hx => hin (inR_iff.2 (by omega))))
            clear hin
            rcases KX with k1 | ⟨k1, k2⟩ <;>
            · go_wp2_with (first | (go_at_call 97; refine (l00In_any _ _ _ _).mono ?_; rintro e w1 ⟨rfl, rfl⟩))
              go_ret
              exact ⟨_, rfl, HI.out, hb⟩
        · have j3 : 999 < (P : Int) := by omega
          have HI := Lib.hid (hno.out (fun m hm _ _ hx _ => p9 hx))
          rcases KX with k1 | ⟨k1, k2⟩ <;>
          · go_wp2
            go_ret
            exact ⟨_, rfl, HI.out, hb⟩
      · have j2 : ¬ (D : Int) = 2 := by omega
        have HI := Lib.hid (hno.out (fun m hm _ hx _ _ => d2 hx))
        rcases KX with k1 | ⟨k1, k2⟩ <;>
        · go_wp2
          go_ret
          exact ⟨_, rfl, HI.out, hb⟩
end Go.Proofs.YtpfkhojhkjaafaaGreatDoor
namespace Go.Proofs.YtpfkhojhkjaafaaGreatDoor
open Go.RowKit Go.Shelf

def SomeMax (w : World) : Prop := ∃ m, w.cell? ⟨3, 0, none⟩ = some (.int .i64 m)
theorem SomeMax.below {w w' : World} (h : SomeMax w) (hb : Below w.heap.size w w') : SomeMax w' := by
  obtain ⟨m, h⟩ := h
  exact ⟨m, (hb.cell (cell_lt h)).trans h⟩
/-- A version's number, and whether there is one. -/
def RetNum (s : ByteArray) (w : World) (e : Ending) (w' : World) : Prop := ∃ (n : Int) (ok : Bool), e = .returned (.tuple #[.int .i64 n, .bool ok]) ∧ (ok = true ∧ 0 ≤ n ∧ IsNum s n ∨ ok = false ∧ n = 0 ∧ IsNum s (-1)) ∧ Below w.heap.size w w'
set_option maxHeartbeats 2000000 in
set_option maxRecDepth 20000 in
theorem versionNumber_i (s : ByteArray) (hs : s.size ≤ 1048576) (w : World) (ht : Tab10 w) (he : Errs w) (hm : SomeMax w) : Calls Tryz.prog 129 #[.string s] w (RetNum s w) := by
  obtain ⟨mx, hmx⟩ := hm
  have HT := Lib.hid ht
  have HE := Lib.hid he
  have HS := Lib.hid (Tryz.strings_Split s ⟨#[46]⟩ mx w (by omega) hmx (by decide))
  clear ht he hmx
  go_enter Tryz.func129, Tryz.ntmps129
  go_wp2_with fail
  refine HS.out.mono ?_
  rintro e w1 ⟨rfl, hw1⟩
  have hb1 : Below w.heap.size w w1 := by rw [hw1]; exact (Below.refl _ _).alloc (Nat.le_refl _) _
  have hlen := pieces_len s
  have hcell : ∀ (j : Nat) (p : ByteArray), (piecesD s)[j]? = some p → w1.cell? ⟨w.heap.size, j, none⟩ = some (.string p) := by
    intro j p hp
    have hp' : (Lib.splitB ⟨#[46]⟩ 0 (Lib.countB s ⟨#[46]⟩) s)[j]? = some p := hp
    rw [hw1, cell_of_row _ _ _ _ _ _ (heap_alloc_new w _)]
    simp [hp']
  have hsz := pieces_size s
  have hg : w.heap.size < w1.heap.size := by rw [hw1]; simp
  obtain ⟨K, hK⟩ : ∃ K, Lib.countB s ⟨#[46]⟩ = K := ⟨_, rfl⟩
  rw [hK] at hlen ⊢
  clear hw1 hK
  by_cases h2 : K = 2
  · subst h2
    have HC := Lib.hid hcell
    have HZ := Lib.hid hsz
    have HL := Lib.hid hlen
    clear hcell hsz hlen
    go_wp2_with fail
    go_loopw [5, 17] (fun n i wr => ∃ N j : Nat, n = .int .i64 N ∧ i = .int .i64 j ∧ j ≤ 3 ∧ Good (piecesD s) j N ∧ Below w1.heap.size w1 wr) (fun _ i _ => (3 - intOf i).toNat)
    case atStart => exact ⟨0, 0, rfl, rfl, by decide, ⟨[], rfl, fun _ h => (by cases h), rfl, rfl, by decide⟩, Below.refl _ _⟩
    case round =>
      obtain ⟨N, j, rfl, rfl, hj3, hgd, hb⟩ := hrel
      have HG := Lib.hid hgd
      have hN : N < 1000000000 := by
        obtain ⟨_, _, _, _, _, h5⟩ := hgd
        exact Nat.lt_of_lt_of_le h5 (Nat.pow_le_pow_right (by decide) hj3 : 1000 ^ j ≤ 1000 ^ 3)
      have hbw := hb1.trans (hb.mono hb1.size)
      clear hgd
      by_cases hj : j < 3
      · have ij : (j : Int) < 3 := by omega
        have hpl : j < (piecesD s).length := by rw [HL.out]; omega
        obtain ⟨p, hp⟩ : ∃ p, (piecesD s)[j]? = some p := ⟨_, List.getElem?_eq_getElem hpl⟩
        have hc : wr.cell? ⟨w.heap.size, j, none⟩ = some (.string p) := (hb.cell (p := ⟨w.heap.size, j, none⟩) hg).trans (HC.out j p hp)
        have hps := HZ.out p (List.mem_of_getElem? hp)
        have HP := Lib.hid hp
        clear hp hpl
        go_wp2_with fail
        refine (readDecimal_i p (by omega) _ (HT.out.below hbw) (HE.out.below hbw)).mono ?_
        rintro e w2 ⟨n, ok, rfl, hd, hn1, hn2, hb2⟩
        have hb' := hb.trans (hb2.mono hb.size)
        have hbw' := hbw.trans (hb2.mono hbw.size)
        have HD := Lib.hid hd
        clear hd hb hbw hb2 hc
        cases ok with
        | false =>
          have HN := Lib.hid (no_piece HP.out (fun k hk e => by have := (HD.out.2 k hk e).2; cases this))
          go_wp2
          exact bodyPost_ret (v := .tuple #[.int .i64 0, .bool false]) (by simp [results, Tryz.results129, go_sem]) rfl ⟨0, false, rfl, .inr ⟨rfl, rfl, HN.out⟩, hbw'⟩
        | true =>
          by_cases hin : inR 0 n 999 = true
          · obtain ⟨a, rfl⟩ := Int.eq_ofNat_of_zero_le (inR_iff.1 hin).1
            have ha : a ≤ 999 := by have := (inR_iff.1 hin).2; omega
            have HG2 := Lib.hid (HG.out.next HP.out ha (HD.out.1 rfl (by omega) (by omega)))
            go_wp2_with (go_at_call 61; refine (within_any _ _ _ _).mono ?_; rintro e w3 ⟨rfl, rfl⟩)
            exact ⟨⟨N * 1000 + a, j + 1, by simp, by simp, by omega, HG2.out, hb'⟩, by simp [intOf]; omega⟩
          · have hin' : inR 0 n 999 = false := by simpa using hin
            have HN := Lib.hid (no_piece HP.out (fun k hk e => hin (inR_iff.2 (by have := (HD.out.2 k hk e).1; omega))))
            clear hin
            go_wp2_with (go_at_call 61; refine (within_any _ _ _ _).mono ?_; rintro e w3 ⟨rfl, rfl⟩)
            exact bodyPost_ret (v := .tuple #[.int .i64 0, .bool false]) (by simp [results, Tryz.results129, go_sem]) rfl ⟨0, false, rfl, .inr ⟨rfl, rfl, HN.out⟩, hbw'⟩
      · obtain rfl : j = 3 := by omega
        have HN := Lib.hid (HG.out.end_ HL.out)
        go_wp2
        exact bodyPost_ret (v := .tuple #[.int .i64 N, .bool true]) (by simp [results, Tryz.results129, go_sem]) rfl ⟨N, true, rfl, .inl ⟨rfl, by omega, HN.out⟩, hbw⟩
  · have i2 : ¬ (K : Int) + 1 = 3 := by omega
    have HN := Lib.hid (no_three (s := s) (by rw [hlen]; omega))
    clear hcell hlen hsz
    go_wp2
    exact bodyPost_ret (v := .tuple #[.int .i64 0, .bool false]) (by simp [results, Tryz.results129, go_sem]) rfl ⟨0, false, rfl, .inr ⟨rfl, rfl, HN.out⟩, hb1⟩
end Go.Proofs.YtpfkhojhkjaafaaGreatDoor
namespace Go.Proofs.YtpfkhojhkjaafaaGreatDoor
open Go.RowKit Go.Shelf

theorem ret_uniq {s : ByteArray} {n n' : Int} {ok ok' : Bool} (h : ok = true ∧ 0 ≤ n ∧ IsNum s n ∨ ok = false ∧ n = 0 ∧ IsNum s (-1)) (k : ok' = true ∧ 0 ≤ n' ∧ IsNum s n' ∨ ok' = false ∧ n' = 0 ∧ IsNum s (-1)) : n = n' ∧ ok = ok' := by
  rcases h with ⟨rfl, h0, h⟩ | ⟨rfl, rfl, h⟩ <;> rcases k with ⟨rfl, k0, k⟩ | ⟨rfl, rfl, k⟩
  · exact ⟨h.eq k, rfl⟩
  · have := h.eq k; omega
  · have := h.eq k; omega
  · exact ⟨rfl, rfl⟩
theorem is_neg {s : ByteArray} {r : Int} (hr : IsNum s r) (h : r < 0) : IsNum s (-1) := by
  rcases hr with ⟨_, k⟩ | ⟨m, _, e, _⟩
  · exact .inl ⟨rfl, k⟩
  · omega
/-- What the walk wants of the world. -/
def VerW (w : World) : Prop := Tab10 w ∧ Errs w ∧ SomeMax w
theorem VerW.below {w w' : World} (h : VerW w) (hb : Below w.heap.size w w') : VerW w' := ⟨h.1.below hb, h.2.1.below hb, h.2.2.below hb⟩
/-- The number of a version; -1: it is none. -/
def numV (s : ByteArray) : Int :=
  match stV s.data.toList with
  | some (t, p, _) => if 0 ≤ t + p ∧ t + p ≤ 999999999 ∧ verT (t + p).toNat = s then t + p else -1
  | none => -1
theorem isNum_numV (s : ByteArray) : IsNum s (numV s) := by
  unfold numV
  cases h : stV s.data.toList with
  | none => exact .inl ⟨rfl, fun m hm e => by rw [e, stV_ver m hm] at h; cases h⟩
  | some x =>
    obtain ⟨t, p, d⟩ := x
    show IsNum s (if 0 ≤ t + p ∧ t + p ≤ 999999999 ∧ verT (t + p).toNat = s then t + p else -1)
    by_cases hc : 0 ≤ t + p ∧ t + p ≤ 999999999 ∧ verT (t + p).toNat = s
    · rw [if_pos hc]
      exact .inr ⟨(t + p).toNat, by omega, by omega, hc.2.2.symm⟩
    · rw [if_neg hc]
      refine .inl ⟨rfl, fun m hm e => hc ?_⟩
      rw [e, stV_ver m hm] at h
      simp only [Option.some.injEq, Prod.mk.injEq] at h
      obtain ⟨rfl, rfl, rfl⟩ := h
      have e2 : (((m / 1000 * 1000 : Nat) : Int) + ((m % 1000 : Nat) : Int)) = (m : Int) := by omega
      rw [e2]
      exact ⟨by omega, by omega, e.symm⟩
theorem numV_cases (s : ByteArray) : numV s = -1 ∨ ∃ m : Nat, m ≤ 999999999 ∧ numV s = (m : Int) ∧ s = verT m := by
  rcases isNum_numV s with ⟨h, _⟩ | h
  · exact .inl h
  · exact .inr h
theorem numV_eq {s : ByteArray} {r : Int} (h : IsNum s r) : r = numV s := h.eq (isNum_numV s)
theorem numV_ver (m : Nat) (hm : m ≤ 999999999) : numV (verT m) = (m : Int) := ((numV_eq (.inr ⟨m, hm, rfl, rfl⟩)).symm)
/-- What VersionNumber gives back. -/
def numOr (s : ByteArray) : Int := if numV s < 0 then 0 else numV s
def numIs (s : ByteArray) : Bool := !decide (numV s < 0)
theorem ret_num {s : ByteArray} {n : Int} {ok : Bool} (h : ok = true ∧ 0 ≤ n ∧ IsNum s n ∨ ok = false ∧ n = 0 ∧ IsNum s (-1)) : n = numOr s ∧ ok = numIs s := by
  unfold numOr numIs
  rcases h with ⟨rfl, h0, h⟩ | ⟨rfl, rfl, h⟩
  · have e := numV_eq h
    rw [← e, if_neg (by omega)]
    exact ⟨rfl, by simp [h0]⟩
  · have e := numV_eq h
    rw [← e]
    exact ⟨rfl, rfl⟩
theorem l02Num_v (s : ByteArray) (hs : s.size ≤ 9223372036854775807) (w : World) : Calls Tryz.prog 124 #[.string s] w fun e w' => e = .returned (.int .i64 (numV s)) ∧ Below w.heap.size w w' := by
  refine (l02Num_s s hs w).mono ?_
  rintro e w1 ⟨r, rfl, hr, hb⟩
  exact ⟨by rw [numV_eq hr], hb⟩
theorem versionNumber_v (s : ByteArray) (hs : s.size ≤ 1048576) (w : World) (hv : VerW w) : Calls Tryz.prog 129 #[.string s] w fun e w' => e = .returned (.tuple #[.int .i64 (numOr s), .bool (numIs s)]) ∧ Below w.heap.size w w' := by
  refine (versionNumber_i s hs w hv.1 hv.2.1 hv.2.2).mono ?_
  rintro e w1 ⟨n, ok, rfl, hr, hb⟩
  obtain ⟨rfl, rfl⟩ := ret_num hr
  exact ⟨rfl, hb⟩
end Go.Proofs.YtpfkhojhkjaafaaGreatDoor
namespace Go.Proofs.YtpfkhojhkjaafaaGreatDoor
open Go.RowKit Go.Shelf

theorem numOr_pos {s : ByteArray} {m : Nat} (h : numV s = (m : Int)) : numOr s = (m : Int) ∧ numIs s = true := by
  unfold numOr numIs
  rw [h]
  exact ⟨if_neg (by omega), by simp⟩
theorem numOr_neg {s : ByteArray} (h : numV s = -1) : numOr s = 0 ∧ numIs s = false := by
  unfold numOr numIs
  rw [h]
  exact ⟨rfl, rfl⟩
set_option maxHeartbeats 1000000 in
set_option maxRecDepth 20000 in
theorem versionOk_s (s : ByteArray) (hs : s.size ≤ 9223372036854775807) (w : World) : Calls Tryz.prog 72 #[.string s] w fun e w' => e = .returned (.bool (numIs s)) ∧ Below w.heap.size w w' := by
  rcases numV_cases s with h | ⟨m, hm, h, -⟩
  · have HV := Lib.hid (numOr_neg h).2
    have HN := Lib.hid h
    clear h
    go_enter Tryz.func72, Tryz.ntmps72
    go_wp2_with fail
    refine (l02Num_v s hs _).mono ?_
    rintro e w1 ⟨rfl, hb1⟩
    rw [HN.out]
    go_wp2
    go_ret
    exact ⟨ret_eq (by rw [HV.out]; try rfl), hb1⟩
  · have HV := Lib.hid (numOr_pos h).2
    have HN := Lib.hid h
    clear h
    go_enter Tryz.func72, Tryz.ntmps72
    go_wp2_with fail
    refine (l02Num_v s hs _).mono ?_
    rintro e w1 ⟨rfl, hb1⟩
    rw [HN.out]
    go_wp2
    go_ret
    exact ⟨ret_eq (by rw [HV.out]; try rfl), hb1⟩
set_option maxHeartbeats 1000000 in
set_option maxRecDepth 20000 in
theorem versionOk_i (s : ByteArray) (hs : s.size ≤ 1048576) (w : World) (hv : VerW w) : Calls Tryz.prog 78 #[.string s] w fun e w' => e = .returned (.bool (numIs s)) ∧ Below w.heap.size w w' := by
  have HV := Lib.hid hv
  clear hv
  go_enter Tryz.func78, Tryz.ntmps78
  go_wp2_with fail
  refine (versionNumber_v s hs _ HV.out).mono ?_
  rintro e w1 ⟨rfl, hb1⟩
  go_wp2
  go_ret
  exact ⟨rfl, hb1⟩
end Go.Proofs.YtpfkhojhkjaafaaGreatDoor
