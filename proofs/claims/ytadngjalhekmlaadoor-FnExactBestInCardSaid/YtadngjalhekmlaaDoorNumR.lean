/- VersionNumber: the reference's walk, and what a walk over versions wants of the world. -/
import Derived.Test.YtadngjalhekmlaaDoorNumW
namespace Go.Proofs.YtadngjalhekmlaaDoor
open Go.RowKit Go.Shelf

theorem ret_uniq {s : ByteArray} {n n' : Int} {ok ok' : Bool} (h : ok = true ∧ 0 ≤ n ∧ IsNum s n ∨ ok = false ∧ n = 0 ∧ IsNum s (-1)) (k : ok' = true ∧ 0 ≤ n' ∧ IsNum s n' ∨ ok' = false ∧ n' = 0 ∧ IsNum s (-1)) : n = n' ∧ ok = ok' := by
  rcases h with ⟨rfl, h0, h⟩ | ⟨rfl, rfl, h⟩ <;> rcases k with ⟨rfl, k0, k⟩ | ⟨rfl, rfl, k⟩
  · exact ⟨h.eq k, rfl⟩
  · have := h.eq k; omega
  · have := h.eq k; omega
  · exact ⟨rfl, rfl⟩
theorem is_neg {s : ByteArray} {r : Int} (hr : IsNum s r) (h : r < 0) : IsNum s (-1) := by
  rcases hr with ⟨_, k⟩ | ⟨m, _, e, _⟩
  · exact .inl ⟨rfl, k⟩
  · omega
/-- What the walk wants of the world. -/
def VerW (w : World) : Prop := Tab10 w ∧ Errs w ∧ SomeMax w
theorem VerW.below {w w' : World} (h : VerW w) (hb : Below w.heap.size w w') : VerW w' := ⟨h.1.below hb, h.2.1.below hb, h.2.2.below hb⟩
/-- The number of a version; -1: it is none. -/
def numV (s : ByteArray) : Int :=
  match stV s.data.toList with
  | some (t, p, _) => if 0 ≤ t + p ∧ t + p ≤ 999999999 ∧ verT (t + p).toNat = s then t + p else -1
  | none => -1
theorem isNum_numV (s : ByteArray) : IsNum s (numV s) := by
  unfold numV
  cases h : stV s.data.toList with
  | none => exact .inl ⟨rfl, fun m hm e => by rw [e, stV_ver m hm] at h; cases h⟩
  | some x =>
    obtain ⟨t, p, d⟩ := x
    show IsNum s (if 0 ≤ t + p ∧ t + p ≤ 999999999 ∧ verT (t + p).toNat = s then t + p else -1)
    by_cases hc : 0 ≤ t + p ∧ t + p ≤ 999999999 ∧ verT (t + p).toNat = s
    · rw [if_pos hc]
      exact .inr ⟨(t + p).toNat, by omega, by omega, hc.2.2.symm⟩
    · rw [if_neg hc]
      refine .inl ⟨rfl, fun m hm e => hc ?_⟩
      rw [e, stV_ver m hm] at h
      simp only [Option.some.injEq, Prod.mk.injEq] at h
      obtain ⟨rfl, rfl, rfl⟩ := h
      have e2 : (((m / 1000 * 1000 : Nat) : Int) + ((m % 1000 : Nat) : Int)) = (m : Int) := by omega
      rw [e2]
      exact ⟨by omega, by omega, e.symm⟩
theorem numV_cases (s : ByteArray) : numV s = -1 ∨ ∃ m : Nat, m ≤ 999999999 ∧ numV s = (m : Int) ∧ s = verT m := by
  rcases isNum_numV s with ⟨h, _⟩ | h
  · exact .inl h
  · exact .inr h
theorem numV_eq {s : ByteArray} {r : Int} (h : IsNum s r) : r = numV s := h.eq (isNum_numV s)
theorem numV_ver (m : Nat) (hm : m ≤ 999999999) : numV (verT m) = (m : Int) := ((numV_eq (.inr ⟨m, hm, rfl, rfl⟩)).symm)
/-- What VersionNumber gives back. -/
def numOr (s : ByteArray) : Int := if numV s < 0 then 0 else numV s
def numIs (s : ByteArray) : Bool := !decide (numV s < 0)
theorem ret_num {s : ByteArray} {n : Int} {ok : Bool} (h : ok = true ∧ 0 ≤ n ∧ IsNum s n ∨ ok = false ∧ n = 0 ∧ IsNum s (-1)) : n = numOr s ∧ ok = numIs s := by
  unfold numOr numIs
  rcases h with ⟨rfl, h0, h⟩ | ⟨rfl, rfl, h⟩
  · have e := numV_eq h
    rw [← e, if_neg (by omega)]
    exact ⟨rfl, by simp [h0]⟩
  · have e := numV_eq h
    rw [← e]
    exact ⟨rfl, rfl⟩
theorem l02Num_v (s : ByteArray) (hs : s.size ≤ 9223372036854775807) (w : World) : Calls Tryd.prog 31 #[.string s] w fun e w' => e = .returned (.int .i64 (numV s)) ∧ Below w.heap.size w w' := by
  refine (l02Num_s s hs w).mono ?_
  rintro e w1 ⟨r, rfl, hr, hb⟩
  exact ⟨by rw [numV_eq hr], hb⟩
theorem versionNumber_v (s : ByteArray) (hs : s.size ≤ 1048576) (w : World) (hv : VerW w) : Calls Tryd.prog 32 #[.string s] w fun e w' => e = .returned (.tuple #[.int .i64 (numOr s), .bool (numIs s)]) ∧ Below w.heap.size w w' := by
  refine (versionNumber_i s hs w hv.1 hv.2.1 hv.2.2).mono ?_
  rintro e w1 ⟨n, ok, rfl, hr, hb⟩
  obtain ⟨rfl, rfl⟩ := ret_num hr
  exact ⟨rfl, hb⟩
end Go.Proofs.YtadngjalhekmlaaDoor
