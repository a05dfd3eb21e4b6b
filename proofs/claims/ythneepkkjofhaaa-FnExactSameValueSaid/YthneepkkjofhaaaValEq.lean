/- Values: comparison, by the law's function, the reference's and the program's. -/
import Derived.Test.YthneepkkjofhaaaValTo
namespace Go.Proofs.Ythneepkkjofhaaa
open Go.RowKit

mutual
def Val.same : Val → Val → Bool
  | .mk k n t ks, .mk k' n' t' ks' => (k == k') && ((n == n') && ((t.toList == t'.toList) && Val.sames ks ks'))
def Val.sames : List Val → List Val → Bool
  | [], [] => true
  | x :: r, y :: s => Val.same x y && Val.sames r s
  | [], _ :: _ => false
  | _ :: _, [] => false
end
theorem Val.sames_len {l m : List Val} (h : l.length ≠ m.length) : Val.sames l m = false := by
  induction l generalizing m with
  | nil => cases m with | nil => simp at h | cons => rfl
  | cons x r ih => cases m with | nil => rfl | cons y s => simp only [Val.sames, ih (by simpa using h), Bool.and_false]
/-- As far as k they are the same. -/
def SameTo (l m : List Val) (k : Nat) : Prop := Val.sames (l.take k) (m.take k) = true
theorem sames_snoc (l m : List Val) (x y : Val) (h : l.length = m.length) : Val.sames (l ++ [x]) (m ++ [y]) = (Val.sames l m && Val.same x y) := by
  induction l generalizing m with
  | nil => cases m with | nil => simp [Val.sames] | cons => simp at h
  | cons a r ih => cases m with | nil => simp at h | cons b s => simp only [List.cons_append, Val.sames, ih s (by simpa using h), Bool.and_assoc]
theorem SameTo.next {l m : List Val} {k : Nat} (h : SameTo l m k) (hlm : l.length = m.length) {x y : Val} (hx : l[k]? = some x) (hy : m[k]? = some y) (hs : Val.same x y = true) : SameTo l m (k + 1) := by
  have h1 := (List.getElem?_eq_some_iff.1 hx).1
  unfold SameTo at h ⊢
  rw [List.take_add_one, List.take_add_one, hx, hy]
  simp only [Option.toList_some]
  rw [sames_snoc _ _ _ _ (by simp; omega), h, hs]
  rfl
theorem sames_bad {l m : List Val} {k : Nat} {x y : Val} (hx : l[k]? = some x) (hy : m[k]? = some y) (hs : Val.same x y = false) : Val.sames l m = false := by
  induction k generalizing l m with
  | zero =>
    cases l with | nil => simp at hx | cons a r =>
    cases m with | nil => simp at hy | cons b s =>
    simp at hx hy
    subst hx hy
    simp only [Val.sames, hs, Bool.false_and]
  | succ k ih =>
    cases l with | nil => simp at hx | cons a r =>
    cases m with | nil => simp at hy | cons b s =>
    simp only [Val.sames, ih (by simpa using hx) (by simpa using hy), Bool.and_false]
theorem SameTo.end_ {l m : List Val} (hlm : l.length = m.length) (h : SameTo l m l.length) : Val.sames l m = true := by
  unfold SameTo at h
  rwa [List.take_length, hlm, List.take_length] at h

/-- A function that says whether two values are the same. -/
def IsSame (f : FuncId) (x : Val) : Prop := ∀ (y : Val) (cs cs' : List Value) (w : World), D.Ats w anyB x.ds cs → D.Ats w anyB y.ds cs' →
  Calls Try.prog f #[.agg cs.toArray, .agg cs'.toArray] w fun e w' => e = .returned (.bool (Val.same x y)) ∧ Below w.heap.size w w'

set_option maxHeartbeats 1000000 in
theorem eqValueS_w (l m : List Val) (hl : ∀ x ∈ l, IsSame 23 x) (v v' : Value) (w : World) (hv : D.At w anyB (Val.sl l) v) (hv' : D.At w anyB (Val.sl m) v') :
    Calls Try.prog 78 #[v, v'] w fun e w' => e = .returned (.bool (Val.sames l m)) ∧ Below w.heap.size w w' := by
  obtain ⟨A, cap, rfl, hn, hc⟩ := Val.sl_form hv
  obtain ⟨A', cap', rfl, hn', hc'⟩ := Val.sl_form hv'
  unfold maxLen at hc hc'
  have HV := Lib.hid hv
  have HV' := Lib.hid hv'
  have HL := Lib.hid hl
  clear hv hv' hl
  by_cases hlm : l.length = m.length
  · have g1 : ((l.length : Int) != (m.length : Int)) = false := by simp [hlm]
    have HLM := Lib.hid hlm
    have hle : m.length ≤ l.length := by omega
    clear hlm
    go_enter Try.func78, Try.ntmps78
    go_wp2
    go_loopw [5] (fun i wr => ∃ k : Nat, k ≤ l.length ∧ i = .int .i64 k ∧ SameTo l m k ∧ Below w.heap.size w wr) (fun i _ => l.length - (intOf i).toNat)
    case atStart => exact ⟨0, Nat.zero_le _, rfl, by simp [SameTo, Val.sames], Below.refl _ _⟩
    case round =>
      obtain ⟨k, hk, rfl, hst, hb⟩ := hrel
      by_cases hlt : k < l.length
      · obtain ⟨x, hx⟩ : ∃ x, l[k]? = some x := ⟨l[k], List.getElem?_eq_getElem hlt⟩
        obtain ⟨y, hy⟩ : ∃ y, m[k]? = some y := ⟨m[k]'(by have := HLM.out; omega), List.getElem?_eq_getElem (by have := HLM.out; omega)⟩
        have hltm : (k : Int) < (m.length : Int) := by have := HLM.out; omega
        have hk0 : (0 : Int) ≤ (k : Int) := by omega
        have hk1 : (k : Int) < (l.length : Int) := by omega
        obtain ⟨b, off, u0, u1, u2, u3, rfl, -, hbl, hat, c0, c1, c2, c3⟩ := Val.sl_at HV.out hx
        obtain ⟨b', off', v0, v1, v2, v3, rfl, -, hbl', hat', d0, d1, d2, d3⟩ := Val.sl_at HV'.out hy
        replace c0 := cell_regrown ((hb.cell (p := ⟨b, off + k * 4, none⟩) hbl).trans c0)
        replace c1 := cell_regrown ((hb.cell (p := ⟨b, off + k * 4 + 1, none⟩) hbl).trans c1)
        replace c2 := cell_regrown ((hb.cell (p := ⟨b, off + k * 4 + 2, none⟩) hbl).trans c2)
        replace c3 := cell_regrown ((hb.cell (p := ⟨b, off + k * 4 + 3, none⟩) hbl).trans c3)
        replace d0 := cell_regrown ((hb.cell (p := ⟨b', off' + k * 4, none⟩) hbl').trans d0)
        replace d1 := cell_regrown ((hb.cell (p := ⟨b', off' + k * 4 + 1, none⟩) hbl').trans d1)
        replace d2 := cell_regrown ((hb.cell (p := ⟨b', off' + k * 4 + 2, none⟩) hbl').trans d2)
        replace d3 := cell_regrown ((hb.cell (p := ⟨b', off' + k * 4 + 3, none⟩) hbl').trans d3)
        have hxm : x ∈ l := List.mem_of_getElem? hx
        have HN := Lib.hid (And.intro hx (And.intro hy hst))
        clear hx hy hst
        go_wp2_with fail
        refine wp_region_quiet_below (by kernel_rfl) (by kernel_rfl) ?_
        repeat (quiet_step (exact Calls.regrown_of (HL.out x hxm y _ _ _ ((hat.below hb).below (below_regrown _ _ _)) ((hat'.below hb).below (below_regrown _ _ _)))))
        refine wpQuiet_nil ?_
        intro w2 hw2
        have hb2 := hb.trans ((below_of_regrown hw2).mono hb.size)
        clear hw2 c0 c1 c2 c3 d0 d1 d2 d3
        cases hs : Val.same x y
        · have HB := Lib.hid (sames_bad HN.out.1 HN.out.2.1 hs)
          go_wp2
          go_ret
          exact ⟨ret_eq (by rw [HB.out]; rfl), hb2⟩
        · have HB := Lib.hid (HN.out.2.2.next HLM.out HN.out.1 HN.out.2.1 hs)
          go_wp2
          go_roundw
          case rel => exact ⟨k + 1, by omega, by go_num, HB.out, hb2⟩
          case measure => simp [intOf]; omega
      · obtain rfl : k = l.length := by omega
        have HB := Lib.hid (SameTo.end_ HLM.out hst)
        go_wp2
        go_ret
        exact ⟨ret_eq (by rw [HB.out]; rfl), hb⟩
  · have g1 : ((l.length : Int) != (m.length : Int)) = true := by rw [bne_iff_ne]; omega
    rw [Val.sames_len hlm]
    go_enter Try.func78, Try.ntmps78
    go_wp2
    go_ret
    exact ⟨rfl, Below.refl _ _⟩
end Go.Proofs.Ythneepkkjofhaaa
