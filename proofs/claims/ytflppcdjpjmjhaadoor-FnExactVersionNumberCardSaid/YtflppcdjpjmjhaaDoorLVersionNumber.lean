/- VersionNumber: the law's walk. -/
import Derived.Test.YtflppcdjpjmjhaaDoorNumW
namespace Go.Proofs.YtflppcdjpjmjhaaDoor
open Go.RowKit Go.Shelf

theorem ret_uniq {s : ByteArray} {n n' : Int} {ok ok' : Bool} (h : ok = true ∧ 0 ≤ n ∧ IsNum s n ∨ ok = false ∧ n = 0 ∧ IsNum s (-1)) (k : ok' = true ∧ 0 ≤ n' ∧ IsNum s n' ∨ ok' = false ∧ n' = 0 ∧ IsNum s (-1)) : n = n' ∧ ok = ok' := by
  rcases h with ⟨rfl, h0, h⟩ | ⟨rfl, rfl, h⟩ <;> rcases k with ⟨rfl, k0, k⟩ | ⟨rfl, rfl, k⟩
  · exact ⟨h.eq k, rfl⟩
  · have := h.eq k; omega
  · have := h.eq k; omega
  · exact ⟨rfl, rfl⟩
theorem is_neg {s : ByteArray} {r : Int} (hr : IsNum s r) (h : r < 0) : IsNum s (-1) := by
  rcases hr with ⟨_, k⟩ | ⟨m, _, e, _⟩
  · exact .inl ⟨rfl, k⟩
  · omega
set_option maxHeartbeats 1000000 in
set_option maxRecDepth 20000 in
theorem versionNumber_s (s : ByteArray) (hs : s.size ≤ 1048576) (w : World) : Calls Tryd.prog 20 #[.string s] w (RetNum s w) := by
  go_enter Tryd.func20, Tryd.ntmps20
  go_wp2_with fail
  refine (l02Num_s s (by omega) _).mono ?_
  rintro e w1 ⟨r, rfl, hr, hb⟩
  by_cases h : r < 0
  · have HR := Lib.hid (is_neg hr h)
    clear hr
    go_wp2
    exact bodyPost_ret (v := .tuple #[.int .i64 0, .bool false]) (by simp [results, Tryd.results20, go_sem]) rfl ⟨0, false, rfl, .inr ⟨rfl, rfl, HR.out⟩, hb⟩
  · have HR := Lib.hid hr
    clear hr
    go_wp2
    exact bodyPost_ret (v := .tuple #[.int .i64 r, .bool true]) (by simp [results, Tryd.results20, go_sem]) rfl ⟨r, true, rfl, .inl ⟨rfl, by omega, HR.out⟩, hb⟩
/-- What the walk wants of the world. -/
def VerW (w : World) : Prop := Tab10 w ∧ Errs w ∧ SomeMax w
theorem VerW.below {w w' : World} (h : VerW w) (hb : Below w.heap.size w w') : VerW w' := ⟨h.1.below hb, h.2.1.below hb, h.2.2.below hb⟩
set_option maxHeartbeats 1000000 in
set_option maxRecDepth 20000 in
theorem law_FnExactVersionNumber (s : ByteArray) (_ws : s.data.toList.length ≤ maxLen) (w : World) (ht : VerW w) :
    Calls Tryd.prog 6 #[.string s] w fun e w' => e = .returned (.bool true) ∧ Below w.heap.size w w' := by
  have HT := Lib.hid ht
  clear ht
  by_cases h : (1048576 : Int) < (s.size : Int)
  · go_enter Tryd.func6, Tryd.ntmps6
    go_wp2
    go_ret
    exact ⟨rfl, Below.refl _ _⟩
  · go_enter Tryd.func6, Tryd.ntmps6
    go_wp2_with fail
    refine (versionNumber_s s (by omega) _).mono ?_
    rintro e w1 ⟨n, ok, rfl, h1, hb1⟩
    go_wp2_with fail
    have HV := HT.out.below hb1
    refine (versionNumber_i s (by omega) _ HV.1 HV.2.1 HV.2.2).mono ?_
    rintro e w2 ⟨n', ok', rfl, h2, hb2⟩
    obtain ⟨rfl, rfl⟩ := ret_uniq h1 h2
    have B2 := hb1.trans (hb2.mono hb1.size)
    clear h1 h2 HV hb1 hb2
    cases ok
    all_goals
      go_wp2
      go_ret
      exact ⟨rfl, B2⟩
end Go.Proofs.YtflppcdjpjmjhaaDoor
