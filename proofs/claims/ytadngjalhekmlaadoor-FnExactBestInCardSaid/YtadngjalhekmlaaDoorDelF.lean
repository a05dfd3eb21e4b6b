/- slices.IndexFunc and slices.DeleteFunc at texts, with a function value that only makes memory. -/
import Derived.Test.YtadngjalhekmlaaDoorCore
import Derived.Test.YtadngjalhekmlaaDoorTree
import Derived.Lib.SliceRun
import Derived.Lib.LazyBuf
import Derived.Laws.IdiomCopy
namespace Go.Proofs.YtadngjalhekmlaaDoor
open Go.RowKit

/-- A row of texts at the head of a block. -/
def RowS (w : World) (g : Nat) (d : List ByteArray) : Prop := ∃ cur : Array Value, w.heap[g]? = some (.cells cur 9 (0, 0)) ∧ ∀ (j : Nat) (x : ByteArray), d[j]? = some x → cur[j]? = some (Value.string x)
theorem RowS.lt {w : World} {g : Nat} {d : List ByteArray} (h : RowS w g d) : g < w.heap.size := by
  obtain ⟨cur, h, -⟩ := h
  exact (Array.getElem?_eq_some_iff.1 h).1
theorem RowS.call {w w' : World} {g : Nat} {d : List ByteArray} (h : RowS w g d) (hb : Below w.heap.size w w') : RowS w' g d := by
  have hl := h.lt
  obtain ⟨cur, h, hc⟩ := h
  exact ⟨cur, (hb.block g hl).trans h, hc⟩
theorem RowS.cell {w : World} {g : Nat} {d : List ByteArray} (h : RowS w g d) {j : Nat} {x : ByteArray} (hx : d[j]? = some x) : w.cell? ⟨g, j, none⟩ = some (.string x) ∧ w.frozen? ⟨g, j, none⟩ = false := by
  obtain ⟨cur, h, hc⟩ := h
  refine ⟨(cell_of_row w g j _ 9 (0, 0) h).trans (hc j x hx), ?_⟩
  simp [World.frozen?, h]
theorem RowS.set {w : World} {g : Nat} {d : List ByteArray} (h : RowS w g d) {i : Nat} (x : ByteArray) (hi : i < d.length) : RowS (w.setCell ⟨g, i, none⟩ (.string x)) g (d.set i x) := by
  obtain ⟨cur, h, hc⟩ := h
  have hi2 : i < cur.size := (Array.getElem?_eq_some_iff.1 (hc i d[i] (List.getElem?_eq_getElem hi))).1
  refine ⟨cur.setIfInBounds i (Value.string x), ?_, fun j y hy => ?_⟩
  · simp [World.setCell, Array.getElem?_modify, h]
  · by_cases e : i = j
    · subst e
      rw [List.getElem?_set_self hi] at hy
      obtain rfl := Option.some.inj hy
      simp [hi2]
    · rw [List.getElem?_set_ne e] at hy
      rw [Array.getElem?_setIfInBounds_ne e]
      exact hc j y hy
theorem RowS.set_out {w : World} {g : Nat} {d : List ByteArray} (h : RowS w g d) {i : Nat} (v : Value) (hi : d.length ≤ i) : RowS (w.setCell ⟨g, i, none⟩ v) g d := by
  obtain ⟨cur, h, hc⟩ := h
  refine ⟨cur.setIfInBounds i v, ?_, fun j y hy => ?_⟩
  · simp [World.setCell, Array.getElem?_modify, h]
  · have hj := (List.getElem?_eq_some_iff.1 hy).1
    rw [Array.getElem?_setIfInBounds_ne (by omega)]
    exact hc j y hy
theorem RowS.take {w : World} {g : Nat} {d : List ByteArray} (h : RowS w g d) (a : Nat) : RowS w g (d.take a) := by
  obtain ⟨cur, h, hc⟩ := h
  refine ⟨cur, h, fun j y hy => ?_⟩
  have hj : j < a := by
    have := (List.getElem?_eq_some_iff.1 hy).1
    rw [List.length_take] at this
    omega
  rw [List.getElem?_take_of_lt hj] at hy
  exact hc j y hy
theorem RowS.zero {g : Nat} {d : List ByteArray} : ∀ (vs : List Value) (o : Nat) {w : World}, RowS w g d → d.length ≤ o → RowS (w.setCells g o vs) g d
  | [], _, _, h, _ => h
  | v :: r, o, _, h, ho => RowS.zero r (o + 1) (h.set_out v ho) (by omega)
theorem RowS.of_own {w : World} {B n : Nat} {v : Value} {d : List ByteArray} (h : w.ownsRow B 9 1 v n (d.map Value.string)) (hn : v ≠ .slice none 0 0) : ∃ g cap, v = .slice (some ⟨g, 0, none⟩) n cap ∧ B ≤ g ∧ n ≤ cap ∧ cap ≤ maxLen ∧ d.length = n ∧ RowS w g d := by
  obtain ⟨hl, h⟩ := h
  rcases h with ⟨e, rfl⟩ | ⟨g, cap, cur, rfl, hB, hg, hnc, hcm, hcs, ht⟩
  · exact absurd e hn
  · refine ⟨g, cap, rfl, hB, hnc, hcm, by simpa using hl, cur, hg, fun j x hx => ?_⟩
    have h1 : (d.map Value.string)[j]? = some (.string x) := by simp [hx]
    have hj : j < n * 1 := by
      have := (List.getElem?_eq_some_iff.1 h1).1
      omega
    rw [← ht, List.getElem?_take_of_lt hj, Array.getElem?_toList] at h1
    exact h1
/-- A function that says p of a text. -/
def IsPs (F : FuncId) (p : ByteArray → Bool) (fv : Array Value) (w0 : World) (L : List ByteArray) : Prop := ∀ x ∈ L, ∀ w : World, Below w0.heap.size w0 w →
  Calls Tryd.prog F (#[.string x] ++ fv) w fun e w' => e = .returned (.bool (p x)) ∧ Below w.heap.size w w'
/-- Where the first stands. -/
def FirstAt (p : ByteArray → Bool) (L : List ByteArray) (r : Int) : Prop :=
  (r = -1 ∧ ∀ x ∈ L, p x = false) ∨ ∃ k : Nat, r = (k : Int) ∧ k < L.length ∧ (∀ j x, j < k → L[j]? = some x → p x = false) ∧ ∀ x, L[k]? = some x → p x = true
set_option maxHeartbeats 2000000 in
set_option maxRecDepth 20000 in
theorem indexFuncS (F : FuncId) (p : ByteArray → Bool) (cv : Value) (L : List ByteArray) (w0 : World) (hl : IsPs F p #[cv] w0 L) (hF : ∀ args w, (callFunc F args).run Tryd.prog w = .ok (.enter F args) w) (g cap : Nat) (w : World) (h0 : Below w0.heap.size w0 w) (hv : RowS w g L) (hn : L.length ≤ 1048576) :
    Calls Tryd.prog 54 #[.slice (some ⟨g, 0, none⟩) L.length cap, .func (.func F) #[] #[cv]] w fun e w' => (∃ r : Int, e = .returned (.int .i64 r) ∧ FirstAt p L r) ∧ Below w.heap.size w w' := by
  have HV := Lib.hid hv
  have HL := Lib.hid hl
  clear hv hl
  go_enter Tryd.func54, Tryd.ntmps54
  go_wp2
  go_loopw [5, 8] (fun _ i wr => ∃ k : Nat, k ≤ L.length ∧ i = .int .i64 k ∧ (∀ j x, j < k → L[j]? = some x → p x = false) ∧ Below w.heap.size w wr) (fun _ i _ => L.length - (intOf i).toNat)
  case atStart => exact ⟨0, Nat.zero_le _, rfl, fun j x h => absurd h (by omega), Below.refl _ _⟩
  case round =>
    obtain ⟨k, hk, rfl, hst, hb⟩ := hrel
    have HST := Lib.hid hst
    clear hst
    by_cases hlt : k < L.length
    · obtain ⟨x, hx⟩ : ∃ x, L[k]? = some x := ⟨L[k], List.getElem?_eq_getElem hlt⟩
      have hk0 : (0 : Int) ≤ (k : Int) := by omega
      have hk1 : (k : Int) < (L.length : Int) := by omega
      have c0 := ((HV.out.call hb).cell hx).1
      have HX := Lib.hid (HL.out x (List.mem_of_getElem? hx) _ (h0.trans (hb.mono h0.size)))
      have HN := Lib.hid hx
      clear hx
      go_wp2_with fail
      refine HX.out.mono ?_
      rintro e w2 ⟨rfl, hb1⟩
      have hb2 := hb.trans (hb1.mono hb.size)
      clear hb1 c0
      cases hs : p x
      · have HS := Lib.hid hs
        clear hs
        go_wp2
        go_roundw
        case rel =>
          refine ⟨k + 1, by omega, by go_num, fun j y hj hy => ?_, hb2⟩
          by_cases e : j = k
          · subst e
            rw [HN.out] at hy
            obtain rfl := Option.some.inj hy
            exact HS.out
          · exact HST.out j y (by omega) hy
        case measure => simp [intOf]; omega
      · have HS := Lib.hid hs
        clear hs
        go_wp2
        go_ret
        exact ⟨⟨_, rfl, .inr ⟨k, rfl, hlt, HST.out, fun y hy => by rw [HN.out] at hy; obtain rfl := Option.some.inj hy; exact HS.out⟩⟩, hb2⟩
    · obtain rfl : k = L.length := by omega
      go_wp2
      go_ret
      refine ⟨⟨-1, rfl, .inl ⟨rfl, fun x hx => ?_⟩⟩, hb⟩
      obtain ⟨j, hj⟩ := List.getElem?_of_mem hx
      exact HST.out j x (List.getElem?_eq_some_iff.1 hj).1 hj
/-- Between two rounds: the first i cells hold what is kept of the first j texts; from j on all is as it was. -/
def Kept (p : ByteArray → Bool) (L d : List ByteArray) (i j : Nat) : Prop := d.length = L.length ∧ i < j ∧ j ≤ L.length ∧ d.take i = (L.take j).filter (fun x => !p x) ∧ ∀ q, j ≤ q → d[q]? = L[q]?
theorem Kept.start {p : ByteArray → Bool} {L : List ByteArray} {k : Nat} (hk : k < L.length) (h1 : ∀ j x, j < k → L[j]? = some x → p x = false) (h2 : ∀ x, L[k]? = some x → p x = true) : Kept p L L k (k + 1) := by
  refine ⟨rfl, by omega, by omega, ?_, fun _ _ => rfl⟩
  obtain ⟨x, hx⟩ : ∃ x, L[k]? = some x := ⟨L[k], List.getElem?_eq_getElem hk⟩
  rw [List.take_add_one, hx, List.filter_append]
  have e1 : (L.take k).filter (fun x => !p x) = L.take k := List.filter_eq_self.2 (fun y hy => by
    obtain ⟨j, hj⟩ := List.getElem?_of_mem hy
    have hjk : j < k := by have := (List.getElem?_eq_some_iff.1 hj).1; simp at this; omega
    rw [List.getElem?_take_of_lt hjk] at hj
    rw [h1 j y hjk hj]; rfl)
  rw [e1]
  simp [h2 x hx]
theorem Kept.keep {p : ByteArray → Bool} {L d : List ByteArray} {i j : Nat} {x : ByteArray} (h : Kept p L d i j) (hx : L[j]? = some x) (hp : p x = false) : Kept p L (d.set i x) (i + 1) (j + 1) := by
  obtain ⟨h1, h2, h3, h4, h5⟩ := h
  have hj : j < L.length := (List.getElem?_eq_some_iff.1 hx).1
  refine ⟨by simp [h1], by omega, by omega, ?_, fun q hq => ?_⟩
  · rw [List.take_add_one, List.getElem?_set_self (by omega), List.take_set_of_le (Nat.le_refl _), h4, List.take_add_one (i := j), hx, List.filter_append]
    simp [hp]
  · rw [List.getElem?_set_ne (by omega), h5 q (by omega)]
theorem Kept.skip {p : ByteArray → Bool} {L d : List ByteArray} {i j : Nat} {x : ByteArray} (h : Kept p L d i j) (hx : L[j]? = some x) (hp : p x = true) : Kept p L d i (j + 1) := by
  obtain ⟨h1, h2, h3, h4, h5⟩ := h
  have hj : j < L.length := (List.getElem?_eq_some_iff.1 hx).1
  refine ⟨h1, by omega, by omega, ?_, fun q hq => h5 q (by omega)⟩
  rw [h4, List.take_add_one (i := j), hx, List.filter_append]
  simp [hp]
set_option maxHeartbeats 2000000 in
set_option maxRecDepth 20000 in
theorem deleteFuncS (F : FuncId) (p : ByteArray → Bool) (cv : Value) (L : List ByteArray) (w0 : World) (hl : IsPs F p #[cv] w0 L) (hF : ∀ args w, (callFunc F args).run Tryd.prog w = .ok (.enter F args) w) (g cap : Nat) (w : World) (h0 : Below w0.heap.size w0 w) (hg : w0.heap.size ≤ g) (hv : RowS w g L) (hn : L.length ≤ 1048576) (hcap : L.length ≤ cap) :
    Calls Tryd.prog 40 #[.slice (some ⟨g, 0, none⟩) L.length cap, .func (.func F) #[] #[cv]] w fun e w' => e = .returned (.slice (some ⟨g, 0, none⟩) (L.filter (fun x => !p x)).length cap) ∧ RowS w' g (L.filter (fun x => !p x)) ∧ Below w0.heap.size w0 w' := by
  have HV := Lib.hid hv
  have HL := Lib.hid hl
  have HI := Lib.hid (indexFuncS F p cv L w0 hl hF g cap w h0 hv hn)
  clear hv hl
  go_enter Tryd.func40, Tryd.ntmps40
  go_wp2_with fail
  refine HI.out.mono ?_
  rintro e w1 ⟨⟨r, rfl, hr⟩, hb1⟩
  have hv1 := HV.out.call hb1
  have h01 := h0.trans (hb1.mono h0.size)
  rcases hr with ⟨rfl, hall⟩ | ⟨k, rfl, hk, hlo, hhi⟩
  · have e : L.filter (fun x => !p x) = L := List.filter_eq_self.2 (fun x hx => by rw [hall x hx]; rfl)
    have HE := Lib.hid e
    have HR := Lib.hid (And.intro hv1 h01)
    clear e hall hv1 h01 hb1
    go_wp2
    exact bodyPost_ret (v := .slice (some ⟨g, 0, none⟩) L.length cap) (by simp [results, Tryd.results40, go_sem]) rfl ⟨by rw [HE.out], by rw [HE.out]; exact HR.out.1, HR.out.2⟩
  · have HS := Lib.hid (Kept.start hk hlo hhi)
    have HR := Lib.hid (And.intro hv1 h01)
    clear hlo hhi hv1 h01 hb1
    have hk1 : ((k : Int) == -1) = false := by simp <;> omega
    go_wp2
    go_loopw [5, 6, 7] (fun i j _ wr => ∃ (a b : Nat) (d : List ByteArray), i = .int .i64 a ∧ j = .int .i64 b ∧ Kept p L d a b ∧ RowS wr g d ∧ Below w0.heap.size w0 wr) (fun _ j _ _ => L.length - (intOf j).toNat)
    case atStart => exact ⟨k, k + 1, L, rfl, by go_num, HS.out, HR.out.1, HR.out.2⟩
    case round =>
      obtain ⟨a, b, d, rfl, rfl, hkp, hrow, hb⟩ := hrel
      have hlen := hkp.1
      have hab := hkp.2.1
      have hbl := hkp.2.2.1
      have HK := Lib.hid hkp
      have HROW := Lib.hid hrow
      clear hkp
      by_cases hlt : b < L.length
      · obtain ⟨x, hx⟩ : ∃ x, L[b]? = some x := ⟨L[b], List.getElem?_eq_getElem hlt⟩
        have hk0 : (0 : Int) ≤ (b : Int) := by omega
        have hk1 : (b : Int) < (L.length : Int) := by omega
        have hdx : d[b]? = some x := (HK.out.2.2.2.2 b (Nat.le_refl _)).trans hx
        have c0 := (hrow.cell hdx).1
        have HX := Lib.hid (HL.out x (List.mem_of_getElem? hx) _ hb)
        have HN := Lib.hid hx
        clear hx hdx hrow
        go_wp2_with fail
        refine HX.out.mono ?_
        rintro e w2 ⟨rfl, hb2⟩
        have hb' := hb.trans (hb2.mono hb.size)
        have hrow2 := HROW.out.call hb2
        clear hb2 c0
        cases hs : p x
        · have HS := Lib.hid hs
          have ha0 : (0 : Int) ≤ (a : Int) := by omega
          have ha1 : (a : Int) < (L.length : Int) := by omega
          obtain ⟨y, hy⟩ : ∃ y, d[a]? = some y := ⟨d[a]'(by omega), List.getElem?_eq_getElem (by omega)⟩
          obtain ⟨c1, c2⟩ := hrow2.cell hy
          have HR2 := Lib.hid hrow2
          clear hs hrow2 hy
          go_wp2
          go_roundw
          case rel => exact ⟨a + 1, b + 1, d.set a x, by go_num, by go_num, HK.out.keep HN.out HS.out, HR2.out.set x (by omega), hb'.setCell hg _⟩
          case measure => simp [intOf]; omega
        · have HS := Lib.hid hs
          have HR2 := Lib.hid hrow2
          clear hs hrow2
          go_wp2
          go_roundw
          case rel => exact ⟨a, b + 1, d, rfl, by go_num, HK.out.skip HN.out HS.out, HR2.out, hb'⟩
          case measure => simp [intOf]; omega
      · obtain rfl : b = L.length := by omega
        have ha0 : (0 : Int) ≤ (a : Int) := by omega
        have ha1 : (a : Int) ≤ (L.length : Int) := by omega
        have hrun : ∀ ty, (Builtin.clear_ #[35] ty #[.slice (some ⟨g, a, none⟩) (L.length - a) (cap - a)]).run Tryd.prog wr = .ok (.tuple #[]) (wr.setCells g a (List.replicate (L.length - a) (.string ⟨#[]⟩))) := by
          intro ty
          refine Lib.run_clear_slice wr _ 9 ty _ Tryd.underlying35 Tryd.zeroValue9 rfl rfl g a _ _ (by omega) (fun q hq => ?_) (fun q hq => ?_)
          · obtain ⟨y, hy⟩ : ∃ y, d[a + q]? = some y := ⟨d[a + q]'(by omega), List.getElem?_eq_getElem (by omega)⟩
            rw [(HROW.out.cell hy).1]; rfl
          · obtain ⟨y, hy⟩ : ∃ y, d[a + q]? = some y := ⟨d[a + q]'(by omega), List.getElem?_eq_getElem (by omega)⟩
            exact (HROW.out.cell hy).2
        have hfil : L.filter (fun x => !p x) = d.take a := by rw [HK.out.2.2.2.1, List.take_length]
        have HF := Lib.hid (And.intro hfil (show (L.filter (fun x => !p x)).length = a by rw [hfil, List.length_take]; omega))
        clear hfil
        go_wp2
        exact bodyPost_ret (v := .slice (some ⟨g, 0, none⟩) a cap) (by simp [results, Tryd.results40, go_sem]) rfl ⟨by rw [HF.out.2], by rw [HF.out.1]; exact RowS.zero _ _ (HROW.out.take a) (by rw [List.length_take]; omega), below_setCells hg _ _ _ hb⟩
end Go.Proofs.YtadngjalhekmlaaDoor
