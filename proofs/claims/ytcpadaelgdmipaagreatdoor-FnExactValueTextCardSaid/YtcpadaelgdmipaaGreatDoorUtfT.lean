/- TextOk: the reference's and the program's, and the law's walk. -/
import Derived.Test.YtcpadaelgdmipaaGreatDoorUtfS
import Derived.Test.YtcpadaelgdmipaaGreatDoorLayValid
namespace Go.Proofs.YtcpadaelgdmipaaGreatDoor
open Go.RowKit Go.PlainAid

theorem info_i64 : (Tryz.prog.info? 2).map (fun i => (i.zero, i.size, i.bytes)) = some (some (.int .i64 0), 1, 8) := by kernel_rfl
def iv (n : Int) : Value := .int .i64 n
/-- Append of one number, just laid in a block of its own, to a row of numbers that the call owns. -/
theorem wpList_int {w1 : World} {ops : Array Oper} {rest : List Oper} {o : Oper} {a : Act} {Q : Exit → Act → World → Prop} {base : Nat} {v : Value} {n : Nat} {l : List Int} {fz : Nat × Nat}
    (hown : w1.ownsRow base 2 1 v n (l.map iv)) (c : Int) (s x : Operand)
    (hn : n + 1 ≤ 8796093022208) (hbase : base ≤ w1.heap.size) (g : Nat) (hg : w1.heap.size = g)
    (h : ∀ v' w', w'.ownsRow base 2 1 v' (n + 1) ((l ++ [c]).map iv) → Below base w1 w' → wpList Tryz.prog ops Q rest (a.put o.dst v') w')
    (hgd : o.guard = none := by exact rfl) (ho : o.op = .call { callee := .builtin .append, args := #[s, x], argTypes := #[29, 29] } := by exact rfl)
    (hs : a.eval s = v := by exact rfl) (hx : a.eval x = .slice (some ⟨g, 0, none⟩) 1 1 := by exact rfl) :
    wpList Tryz.prog ops Q (o :: rest) a (w1.alloc (.cells #[.int .i64 c] 2 fz)) := by
  subst hg
  obtain ⟨i0, hi, hz0, hz1, hz2⟩ := info_parts info_i64
  refine wpList_append_own _ hgd s x 29 ho base 2 i0 (.int .i64 0) 1 8 Tryz.underlying29 hi hz0 hz1 hz2 rfl (by decide) v n (l.map iv) hs (hown.alloc _)
    ⟨w1.heap.size, 0, none⟩ 1 1 [.int .i64 c] hx rfl ?_ ?_ (by simp only [maxLen]; omega) (by omega) (by simp; omega) ?_
  · intro j u hj
    match j, hj with
    | 0, hj =>
      simp at hj
      subst hj
      rw [Addr.add_lit, cell_of_row _ _ _ _ _ _ (heap_alloc_new w1 _)]
      rfl
  · intro u hu
    simp at hu
    subst hu
    rfl
  · intro v' w' h1 h2 _
    refine h v' w' (by simpa [iv] using h1) ?_
    have hb : Below base w1 (w1.alloc (.cells #[.int .i64 c] 2 fz)) := (Below.refl _ _).alloc hbase _
    exact hb.grown h2 (by simp; omega) (fun k hk => (hown.lt k hk).1)
def validT (s : ByteArray) : Bool := Lib.validD s.data.toList
theorem valid_nil (s : ByteArray) (h : ¬ 0 < s.size) : validT s = true := by
  have : s.data.toList = [] := List.eq_nil_of_length_eq_zero (by rw [← Lib.size_eq]; omega)
  rw [validT, this]; rfl
theorem ptW_le (s : ByteArray) (hs : 0 < s.size) : ptW s ≤ s.size := by
  unfold ptW
  split
  · omega
  · rw [decode_bn]
    unfold Lib.decodeN
    repeat' split
    all_goals (simp; omega)
theorem valid_step (s : ByteArray) (hs : 0 < s.size) : validT s = if ptW s = 0 then false else validT (s.extract (ptW s) s.size) := by
  have hne : s.data.toList ≠ [] := by
    intro h
    have := congrArg List.length h
    rw [← Lib.size_eq] at this
    simp only [List.length_nil] at this
    omega
  have hw := Lib.decodeL_width s.data.toList
  unfold validT
  rw [Lib.validD_step _ hne]
  by_cases h : (Lib.decodeL s.data.toList).1 = 65533 ∧ (Lib.decodeL s.data.toList).2 = 1
  · rw [if_pos h, if_pos (by unfold ptW; rw [if_pos h])]
  · have e : ptW s = (Lib.decodeL s.data.toList).2 := by unfold ptW; rw [if_neg h]
    rw [if_neg h, e, if_neg (by omega)]
    congr 1
    simp only [ByteArray.data_extract, Array.toList_extract, List.extract_eq_take_drop]
    rw [List.take_of_length_le (by rw [List.length_drop, ← Lib.size_eq]; exact Nat.le_refl _)]
def ptsGo : Nat → ByteArray → List Int
  | 0, _ => []
  | n + 1, s => if 0 < s.size then ((Lib.decodeL s.data.toList).1 : Int) :: ptsGo n (s.extract (ptW s) s.size) else []
/-- The code points of a valid text. -/
def pts (s : ByteArray) : List Int := ptsGo s.size s
theorem ptsGo_fuel : ∀ (n m : Nat) (s : ByteArray), s.size ≤ n → s.size ≤ m → validT s = true → ptsGo n s = ptsGo m s
  | 0, 0, _, _, _, _ => rfl
  | 0, m + 1, s, hn, _, _ => by rw [ptsGo, ptsGo, if_neg (by omega)]
  | n + 1, 0, s, _, hm, _ => by rw [ptsGo, ptsGo, if_neg (by omega)]
  | n + 1, m + 1, s, hn, hm, hv => by
    rw [ptsGo, ptsGo]
    by_cases h : 0 < s.size
    · rw [valid_step s h] at hv
      by_cases hz : ptW s = 0
      · rw [if_pos hz] at hv; cases hv
      · rw [if_neg hz] at hv
        rw [if_pos h, if_pos h, ptsGo_fuel n m _ (by simp; omega) (by simp; omega) hv]
    · rw [if_neg h, if_neg h]
theorem pts_step {s : ByteArray} (h : 0 < s.size) (hz : ptW s ≠ 0) (hv : validT s = true) : pts s = ((Lib.decodeL s.data.toList).1 : Int) :: pts (s.extract (ptW s) s.size) := by
  have hv' := hv
  rw [valid_step s h, if_neg hz] at hv'
  unfold pts
  obtain ⟨n, hn⟩ : ∃ n, s.size = n + 1 := ⟨s.size - 1, by omega⟩
  rw [hn, ptsGo, if_pos h, ← hn, ptsGo_fuel n _ _ (by simp; omega) (Nat.le_refl _) hv']
theorem pts_nil {s : ByteArray} (h : ¬ 0 < s.size) : pts s = [] := by
  unfold pts
  rw [show s.size = 0 by omega]; rfl
/-- What the reference's row of code points says. -/
def RetPts (s : ByteArray) (w : World) (e : Ending) (w' : World) : Prop := ∃ v : Value, e = .returned (.tuple #[v, .bool (validT s)]) ∧ (validT s = true → w'.ownsRow w.heap.size 2 1 v (pts s).length ((pts s).map iv)) ∧ Below w.heap.size w w'
set_option maxHeartbeats 1000000 in
set_option maxRecDepth 20000 in
theorem l04Points_s (s : ByteArray) (hs : s.size ≤ 24) (w : World) : Calls Tryz.prog 59 #[.string s] w (RetPts s w) := by
  obtain ⟨V, hV⟩ : ∃ V, validT s = V := ⟨_, rfl⟩
  obtain ⟨PS, hPS⟩ : ∃ PS, pts s = PS := ⟨_, rfl⟩
  unfold RetPts
  rw [hV, hPS]
  go_enter Tryz.func59, Tryz.ntmps59
  go_wp2
  go_loopw [0, 4] (fun t v wr => ∃ (x : ByteArray) (l : List Int), t = .string x ∧ validT x = V ∧ (V = true → l ++ pts x = PS) ∧ x.size + l.length ≤ 24 ∧ wr.ownsRow w.heap.size 2 1 v l.length (l.map iv) ∧ Below w.heap.size w wr)
    (fun t _ _ => match t with | .string x => x.size | _ => 0)
  case atStart => exact ⟨s, [], rfl, hV, fun _ => hPS, by simp; omega, World.ownsRow_lit _ _ _ (Nat.le_refl _) (by simp) (by simp), (Below.refl _ _).alloc (Nat.le_refl _) _⟩
  case round =>
    obtain ⟨x, l, rfl, hx, hxp, hxl, hown, hb⟩ := hrel
    have HX := Lib.hid hx
    have HXP := Lib.hid hxp
    clear hxp
    have hbs := hb.size
    clear hx
    by_cases h0 : 0 < x.size
    · have i0 : (0 : Int) < (x.size : Int) := by omega
      have HS := Lib.hid (valid_step x h0)
      have HL := Lib.hid (ptW_le x h0)
      go_wp2_with fail
      refine (l04Point_s x h0 (by omega) _).mono ?_
      rintro e w1 ⟨n, hn1, rfl, hb1⟩
      have HPN := Lib.hid (show V = true → ptW x ≠ 0 → l ++ n :: pts (x.extract (ptW x) x.size) = PS from fun hv hz => by rw [← HXP.out hv, pts_step h0 hz (HX.out.trans hv), hn1 hz])
      clear hn1
      have hown1 := own_call hown hb1
      have hb2 := hb.trans (hb1.mono hbs)
      have hbs2 := hb2.size
      obtain ⟨q, hq⟩ : ∃ q, ptW x = q := ⟨_, rfl⟩
      rw [hq] at HS HL HPN ⊢
      clear hq hown hb hb1
      by_cases hz : q = 0
      · subst hz
        have HV := Lib.hid (show V = false by rw [← HX.out, HS.out]; rfl)
        go_wp2
        exact bodyPost_ret (v := .tuple #[.slice none 0 0, .bool false]) (by simp [results, Tryz.results59, go_sem]) rfl ⟨_, ret_eq (by rw [HV.out]), fun h => (by rw [HV.out] at h; cases h), hb2⟩
      · have iz : ¬ (q : Int) = 0 := by omega
        have hq1 : q ≤ x.size := HL.out
        have hq2 : (q : Int) ≤ (x.size : Int) := by omega
        have HV := Lib.hid (show validT (x.extract q x.size) = V by rw [← HX.out, HS.out, if_neg hz])
        have HZ := Lib.hid (show (x.extract q x.size).size + 1 ≤ x.size by simp; omega)
        go_wp2_with (at_builtin; refine wpList_int hown1 n (.tmp 18) (.tmp 20) (by omega) hbs2 w1.heap.size rfl ?_; intro v' w' ho' hb')
        go_roundw
        case rel => exact ⟨x.extract q x.size, l ++ [n], rfl, HV.out, fun hv => by rw [← HPN.out hv hz]; simp, by have := HZ.out; simp at this ⊢; omega, by simpa using ho', hb2.trans hb'⟩
        case measure => have := HZ.out; simp at this ⊢; omega
    · have i0 : ¬ (0 : Int) < (x.size : Int) := by omega
      have HV := Lib.hid (show V = true by rw [← HX.out, valid_nil x h0])
      go_wp2
      refine bodyPost_ret (v := .tuple #[u4, .bool true]) (by simp [results, Tryz.results59, go_sem]) rfl ?_
      exact ⟨u4, ret_eq (by rw [HV.out]), fun hv => (by
        have hl : l = PS := by rw [← HXP.out hv, pts_nil h0, List.append_nil]
        rw [← hl]; exact hown), hb⟩
def Tabs (w : World) : Prop := Lib.Utf8Tabs (Tryz.laysValid_ren.g 3) (Tryz.laysValid_ren.g 4) w
theorem tabs_below {w w1 : World} (h : Tabs w) (hb : Below w.heap.size w w1) : Tabs w1 := Utf8Tabs_below h hb
def textOk (s : ByteArray) : Bool := decide (s.size ≤ 24) && validT s
set_option maxHeartbeats 1000000 in
set_option maxRecDepth 20000 in
theorem textOk_s (s : ByteArray) (w : World) : Calls Tryz.prog 79 #[.string s] w fun e w' => e = .returned (.bool (textOk s)) ∧ Below w.heap.size w w' := by
  by_cases h : s.size ≤ 24
  · have i1 : ¬ (24 : Int) < (s.size : Int) := by omega
    have HT := Lib.hid (show textOk s = validT s by simp [textOk, h])
    go_enter Tryz.func79, Tryz.ntmps79
    go_wp2_with fail
    refine (l04Points_s s h _).mono ?_
    rintro e w1 ⟨v, rfl, -, hb⟩
    go_wp2
    go_ret
    exact ⟨ret_eq (by rw [HT.out]; try rfl), hb⟩
  · have i1 : (24 : Int) < (s.size : Int) := by omega
    have HT := Lib.hid (show textOk s = false by simp [textOk, h])
    go_enter Tryz.func79, Tryz.ntmps79
    go_wp2
    go_ret
    exact ⟨ret_eq (by rw [HT.out]; try rfl), Below.refl _ _⟩
set_option maxHeartbeats 1000000 in
set_option maxRecDepth 20000 in
theorem textOk_i (s : ByteArray) (w : World) (hT : Tabs w) : Calls Tryz.prog 87 #[.string s] w fun e w' => e = .returned (.bool (textOk s)) ∧ Below w.heap.size w w' := by
  by_cases h : s.size ≤ 24
  · have i1 : (s.size : Int) ≤ 24 := by omega
    have HT := Lib.hid (show textOk s = validT s by simp [textOk, h])
    have cV : Calls Tryz.prog 109 #[.string s] w _ := Any.utf8_ValidString Tryz.laysValid s w (by omega) hT
    have e0 : Lib.validD s.data.toList = validT s := rfl
    rw [e0] at cV
    obtain ⟨V, hV⟩ : ∃ V, validT s = V := ⟨_, rfl⟩
    rw [hV] at cV HT
    have HC := Lib.hid cV
    clear cV hV e0 hT
    go_enter Tryz.func87, Tryz.ntmps87
    go_wp2_with (go_at_call 109; refine HC.out.mono ?_; rintro e w' ⟨rfl, hb⟩)
    go_ret
    exact ⟨ret_eq (by rw [HT.out]; try rfl), hb⟩
  · have i1 : ¬ (s.size : Int) ≤ 24 := by omega
    have HT := Lib.hid (show textOk s = false by simp [textOk, h])
    go_enter Tryz.func87, Tryz.ntmps87
    go_wp2
    go_ret
    exact ⟨ret_eq (by rw [HT.out]; try rfl), Below.refl _ _⟩
end Go.Proofs.YtcpadaelgdmipaaGreatDoor
