/- TypeText: by the reference and by the program. The text form of a function's type: by the reference and by the program. FuncText: by the reference and by the program. -/
import Derived.Test.YtklhkdihokgpeaaGreatDoorTextI
import Derived.Test.YtklhkdihokgpeaaGreatDoorTyOkS
import Derived.Test.YtklhkdihokgpeaaGreatDoorTyOkI
import Derived.Test.YtklhkdihokgpeaaGreatDoorPkFn
import Derived.Deep.QuietTactic
import Derived.BigQuiet
import Derived.Deep.RegionLaw
namespace Go.Proofs.YtklhkdihokgpeaaGreatDoor
open Go.RowKit

/-- The text form of a valid type, or none. -/
def textOr (x : Ty) : ByteArray := if tyOk x = true then tyT x else ⟨#[]⟩
theorem tyOk_shape {x : Ty} (h : tyOk x = true) : Ty.all shape x = true := by
  unfold tyOk at h
  rw [Bool.and_eq_true, Bool.and_eq_true] at h
  exact h.2.2
end Go.Proofs.YtklhkdihokgpeaaGreatDoor
namespace Go.Proofs.YtklhkdihokgpeaaGreatDoor
open Go.RowKit Go.Shelf

def Pa.text (p : Pa) : List UInt8 := p.name.data.toList ++ 58 :: p.ty.text
def fnHead (b : Bool) : ByteArray := if b = true then ⟨#[97, 115, 121, 110, 99, 32, 102, 117, 110, 99, 40]⟩ else ⟨#[102, 117, 110, 99, 40]⟩
def fnTail (x : Ty) : List UInt8 := if isU x = true then [] else 45 :: 62 :: x.text
def Fn.text (x : Fn) : List UInt8 := (fnHead x.async).data.toList ++ (Lib.join (x.params.map Pa.text) [44] ++ 41 :: fnTail x.res)
def fnT (x : Fn) : ByteArray := ⟨x.text.toArray⟩
theorem totals_foldr {α : Type} (f : α → List D) (l : List α) : l.foldr (fun x n => D.totals (f x) + n) 0 = D.totals (l.flatMap f) := by
  induction l with
  | nil => simp [D.totals]
  | cons x r ih => rw [List.flatMap_cons, D.totals_append, List.foldr_cons, ih]
theorem fnHead_size (b : Bool) : (fnHead b).size ≤ 11 := by cases b <;> decide
theorem Pa.join_len (l : List Pa) : (Lib.join (l.map Pa.text) [44]).length ≤ 30 * D.totals (l.flatMap Pa.ds) + 12 * l.length := by
  have h1 := TextP_join l
  exact h1
where
  TextP_join (l : List Pa) : (Lib.join (l.map Pa.text) [44]).length ≤ 30 * D.totals (l.flatMap Pa.ds) + 12 * l.length := by
    have h1 := Go.Proofs.YtklhkdihokgpeaaGreatDoor.join_len 44 (l.map Pa.text)
    rw [List.length_map] at h1
    have h3 := len_map_le Pa.text (fun x => D.totals x.ds) l 11 (fun x _ => by
      have h := Ty.text_len x.ty
      have e : D.totals x.ds = x.name.size + D.totals x.ty.ds := by simp [Pa.ds, D.totals, D.total]
      have e2 : x.name.data.toList.length = x.name.size := by simp
      unfold Pa.text
      rw [List.length_append, List.length_cons, e2]
      omega)
    rw [totals_foldr] at h3
    omega
theorem fnOk_parts {x : Fn} (h : fnOk x = true) : (∀ p ∈ x.params, Ty.all shape p.ty = true) ∧ Ty.all shape x.res = true := by
  unfold fnOk pasOk resOk at h
  simp only [Bool.and_eq_true] at h
  refine ⟨fun p hp => ?_, tyOk_shape h.2.1⟩
  have h1 : (x.params.any fun p => !paOk p) = false := by simpa using h.1.2.1
  have h2 := List.any_eq_false.1 h1 p hp
  unfold paOk at h2
  simp at h2
  exact tyOk_shape h2.2.1
theorem Fn.totals_eq (x : Fn) : D.totals x.ds = x.params.length + D.totals (x.params.flatMap Pa.ds) + D.totals x.res.ds := by
  unfold Fn.ds
  show _ + D.totals (x.res.ds ++ [.bool x.async]) = _
  rw [rows_total, D.totals_append]
  simp [D.totals, D.total]
set_option maxHeartbeats 2000000 in
set_option maxRecDepth 20000 in
theorem l03FuncText_s (x : Fn) (cs : List Value) (w : World) (hcs : D.Ats w anyB x.ds cs) (hok : fnOk x = true) (ht : D.totals x.ds ≤ 1048576) :
    Calls Tryz.prog 112 #[.agg cs.toArray] w fun e w' => e = .returned (.string (fnT x)) ∧ Below w.heap.size w w' := by
  have HP := Lib.hid (fnOk_parts hok)
  have he := Fn.totals_eq x
  have hjl := Pa.join_len x.params
  have HT := Lib.hid (show Fn.text x = _ from rfl)
  obtain ⟨ps, res, async⟩ := x
  simp only at he hjl HP
  obtain ⟨B, d, k, n, A, m, c0, A', m', c1, rfl, hp, hr⟩ := Fn.open_ hcs
  simp only at hp hr
  obtain ⟨-, hn, hc⟩ := rows_bound hp
  unfold maxLen at hc
  have HV := Lib.hid hp
  have HR := Lib.hid hr
  obtain ⟨J, hJ⟩ : ∃ J, ps.map Pa.text = J := ⟨_, rfl⟩
  rw [hJ] at hjl
  have hJl : J.length = ps.length := by rw [← hJ, List.length_map]
  have hJs : (Lib.join J [44]).length ≤ 50000000 := by omega
  have HJ := Lib.hid (And.intro hJ (And.intro hJl hJs))
  have htp : D.totals (ps.flatMap Pa.ds) ≤ 1048576 := by omega
  have htr : D.totals res.ds ≤ 1048576 := by omega
  have hH := fnHead_size async
  obtain ⟨H, hHd⟩ : ∃ H, fnHead async = H := ⟨_, rfl⟩
  have HH := Lib.hid hHd
  rw [hHd] at hH
  clear hcs hp hr hok ht he hjl hJ hJl hJs
  go_enter Tryz.func112, Tryz.ntmps112
  have bA := Box.new w 50 [.slice B ps.length d, .int .i64 k, .string n, .slice A m c0, .slice A' m' c1, .bool async]
  have B1 : Below w.heap.size w (w.alloc (.cells #[.slice B ps.length d, .int .i64 k, .string n, .slice A m c0, .slice A' m' c1, .bool async] 50)) := (Below.refl _ _).alloc (Nat.le_refl _) _
  have HBB := Lib.hid (And.intro B1 bA)
  clear B1 bA
  cases async
  all_goals
    go_wp2
    go_loopw [3, 4] (fun s i wr => ∃ (j : Nat) (T : ByteArray), j ≤ ps.length ∧ i = .int .i64 j ∧ s = .string T ∧ T.data.toList = H.data.toList ++ Lib.join (J.take j) [44] ∧ Below w.heap.size w wr ∧ Box wr w.heap.size 50 [.slice B ps.length d, .int .i64 k, .string n, .slice A m c0, .slice A' m' c1, .bool _]) (fun _ i _ => ps.length - (intOf i).toNat)
    case atStart => exact ⟨0, _, Nat.zero_le _, rfl, rfl, by rw [← HH.out]; simp [fnHead, Lib.join_nil], HBB.out⟩
    case round =>
      obtain ⟨j, T, hj, rfl, rfl, hT, Bw, fA⟩ := hrel
      have c := fA.cell
      have hTs : T.size ≤ 50000020 := by
        have h1 := join_take_len J j
        have h2 := HJ.out.2.2
        rw [ba_size, hT, List.length_append]
        have h3 : H.data.toList.length = H.size := by simp
        omega
      have HT2 := Lib.hid hT
      clear hT
      by_cases hlt : j < ps.length
      · obtain ⟨p, hx⟩ : ∃ p, ps[j]? = some p := ⟨ps[j], List.getElem?_eq_getElem hlt⟩
        have hk0 : (0 : Int) ≤ (j : Int) := by omega
        have hk1 : (j : Int) < (ps.length : Int) := by omega
        obtain ⟨b', off', u0, u1, u2, u3, u4, rfl, -, hbl', hat', d0, d1, d2, d3, d4⟩ := rows_at5 Pa.len HV.out hx
        have d0' := cell_regrown ((Bw.cell (p := ⟨b', off' + j * 5, none⟩) hbl').trans d0)
        have d1' := cell_regrown ((Bw.cell (p := ⟨b', off' + j * 5 + 1, none⟩) hbl').trans d1)
        have d2' := cell_regrown ((Bw.cell (p := ⟨b', off' + j * 5 + 2, none⟩) hbl').trans d2)
        have d3' := cell_regrown ((Bw.cell (p := ⟨b', off' + j * 5 + 3, none⟩) hbl').trans d3)
        have d4' := cell_regrown ((Bw.cell (p := ⟨b', off' + j * 5 + 4, none⟩) hbl').trans d4)
        have hxm : p ∈ ps := List.mem_of_getElem? hx
        obtain ⟨t0, t1, t2, t3, t4, t5, t6, t7, ecs, hns, hty⟩ := Pa.open_ hat'
        simp only [List.cons.injEq, and_true] at ecs
        obtain ⟨rfl, rfl, rfl, rfl, rfl⟩ := ecs
        have htm := totals_mem (f := Pa.ds) hxm
        have hte : D.totals p.ds = p.name.size + D.totals p.ty.ds := by simp [Pa.ds, D.totals, D.total]
        have hpn : p.name.size ≤ 1048576 := by omega
        have HIx := Lib.hid (l03Text_s p.ty (HP.out.1 p hxm) (by omega))
        have HXt := Lib.hid (hty.below Bw)
        obtain ⟨Y, hY⟩ : ∃ Y, tyT p.ty = Y := ⟨_, rfl⟩
        have hYs : Y.size ≤ 40000000 := by
          rw [← hY, tyT_size]
          have h1 := Ty.text_len p.ty
          omega
        have hJj : J[j]? = some (p.name.data.toList ++ 58 :: Y.data.toList) := by rw [← HJ.out.1, List.getElem?_map, hx, ← hY, tyT_list]; rfl
        have fin : ∀ (T' : ByteArray), T'.data.toList = T.data.toList ++ (if j = 0 then [] else [44]) ++ (p.name.data.toList ++ 58 :: Y.data.toList) → T'.data.toList = H.data.toList ++ Lib.join (J.take (j + 1)) [44] := by
          intro T' h
          rw [h, HT2.out, join_next hJj]
          by_cases h0 : j = 0
          · subst h0; simp [Lib.join_nil]
          · simp [h0]
        have FIN := Lib.hid fin
        unfold TextIs at HIx
        rw [hY] at HIx
        have cb0 := cell_regrown (show wr.cell? ⟨w.heap.size, 0, none⟩ = some (.slice (some ⟨b', off', none⟩) ps.length d) from c 0)
        clear hat' hx hxm hY hty d0 d1 d2 d3 d4 htm hte fin hJj hns
        have g := Nat.eq_zero_or_pos j
        rcases g with g | g
        · have g1 : ¬ (0 : Int) < (j : Int) := by omega
          have G := Lib.hid g
          clear g
          go_wp2_with fail
          refine wp_region_quiet_below (by kernel_rfl) (by kernel_rfl) ?_
          repeat (first | go_big_quiet_step (exact Calls.regrown_of (HIx.out _ _ (HXt.out.below (below_regrown _ _ _)))) | quiet_step (exact Calls.regrown_of (HIx.out _ _ (HXt.out.below (below_regrown _ _ _)))))
          refine wpQuiet_nil ?_
          intro w2 hw2
          have hb3 := Lib.hid (And.intro (Bw.trans ((below_of_regrown hw2).mono Bw.size)) (fA.call (below_of_regrown hw2)))
          clear hw2 d0' d1' d2' d3' d4' cb0 c
          go_wp2
          go_roundw
          case rel => exact ⟨j + 1, _, by omega, by go_num, rfl, FIN.out _ (by simp [G.out]), hb3.out⟩
          case measure => simp [intOf]; omega
        · have g1 : (0 : Int) < (j : Int) := by omega
          have G := Lib.hid g
          clear g
          go_wp2_with fail
          refine wp_region_quiet_below (by kernel_rfl) (by kernel_rfl) ?_
          repeat (first | go_big_quiet_step (exact Calls.regrown_of (HIx.out _ _ (HXt.out.below (below_regrown _ _ _)))) | quiet_step (exact Calls.regrown_of (HIx.out _ _ (HXt.out.below (below_regrown _ _ _)))))
          refine wpQuiet_nil ?_
          intro w2 hw2
          have hb3 := Lib.hid (And.intro (Bw.trans ((below_of_regrown hw2).mono Bw.size)) (fA.call (below_of_regrown hw2)))
          clear hw2 d0' d1' d2' d3' d4' cb0 c
          go_wp2
          go_roundw
          case rel => exact ⟨j + 1, _, by omega, by go_num, rfl, FIN.out _ (by simp [Nat.ne_of_gt G.out]), hb3.out⟩
          case measure => simp [intOf]; omega
      · obtain rfl : j = ps.length := by omega
        obtain ⟨xk, xn, xl, xs⟩ := res
        obtain ⟨_, _, _, _, ecs, -, -, -, -⟩ := Ty.open_ HR.out
        simp only [List.cons.injEq, and_true] at ecs
        obtain ⟨e0, e1, e2, e3⟩ := ecs
        cases e0
        cases e1
        cases e2
        cases e3
        have HIr := Lib.hid (l03Text_s _ HP.out.2 htr)
        obtain ⟨Y, hY⟩ : ∃ Y, tyT (.mk k n xl xs) = Y := ⟨_, rfl⟩
        have hYs : Y.size ≤ 40000000 := by
          rw [← hY, tyT_size]
          have h1 := Ty.text_len (.mk k n xl xs)
          omega
        unfold TextIs at HIr
        rw [hY] at HIr
        have HY := Lib.hid (show Y.data.toList = Ty.text (.mk k n xl xs) by rw [← hY, tyT_list])
        have hJe := HT2.out
        rw [← HJ.out.2.1, List.take_length] at hJe
        have fin : ∀ (ab : Bool) (T' : ByteArray), fnHead ab = H → T'.data.toList = T.data.toList ++ 41 :: fnTail (.mk k n xl xs) → T' = fnT ⟨ps, .mk k n xl xs, ab⟩ := by
          intro ab T' hab h
          refine ba_of ?_
          rw [h, hJe, Fn.text, HJ.out.1, hab]
          simp
        have FIN := Lib.hid fin
        have HX := Lib.hid (HR.out.below Bw)
        clear hY fin hJe
        by_cases hu : k = 1
        · have gu : (k != 1) = false := by simp [hu]
          have EU := Lib.hid (show fnTail (.mk k n xl xs) = [] by subst hu; rfl)
          clear hu
          go_wp2
          go_ret
          exact ⟨ret_eq (congrArg Value.string (FIN.out _ _ HH.out (by rw [EU.out]; simp))), Bw⟩
        · have gu : (k != 1) = true := by simp [hu]
          have EU := Lib.hid (show fnTail (.mk k n xl xs) = 45 :: 62 :: Y.data.toList by rw [HY.out, fnTail, if_neg (by unfold isU Ty.kind; simpa using hu)])
          clear hu
          go_wp2_with fail
          refine (HIr.out _ _ HX.out).mono ?_
          rintro e w2 ⟨rfl, hb2⟩
          have Bw2 := Bw.trans (hb2.mono Bw.size)
          clear c hb2
          go_wp2
          go_ret
          exact ⟨ret_eq (congrArg Value.string (FIN.out _ _ HH.out (by rw [EU.out]; simp))), Bw2⟩
/-- Append of one text, just laid in a block of its own, as one step of a region that draws its order. -/
theorem step_str {w1 : World} {ops : Array Oper} {o : Oper} {a : Act} {K : Act → World → Prop} {Q : Exit → Act → World → Prop} {E : Prop} {base : Nat} {v : Value} {n : Nat} {l : List ByteArray} {fz : Nat × Nat}
    (hown : w1.ownsRow base 9 1 v n (l.map Value.string)) (c : ByteArray) (s x : Operand)
    (hn : n + 1 ≤ 8796093022208) (hbase : base ≤ w1.heap.size)
    (h : ∀ v' w', w'.ownsRow base 9 1 v' (n + 1) ((l ++ [c]).map Value.string) → Below base w1 w' → K (a.put o.dst v') w')
    (hgd : o.guard = none := by exact rfl) (ho : o.op = .call { callee := .builtin .append, args := #[s, x], argTypes := #[22, 22] } := by exact rfl)
    (hs : a.eval s = v := by simp [Act.eval, Act.put]) (hx : a.eval x = .slice (some ⟨w1.heap.size, 0, none⟩) 1 1 := by simp [Act.eval, Act.put]) :
    if Region.wanted o (yielded ops a.tmps) = true then Oper.wp Tryz.prog o a (w1.alloc (.cells #[.string c] 9 fz)) K Q else E := by
  have hw : Region.wanted o (yielded ops a.tmps) = true := by simp [Region.wanted, hgd]
  rw [if_pos hw]
  obtain ⟨i0, hi, hz0, hz1, hz2⟩ := info_parts info_str''
  refine wp_append_own _ s x 22 ho base 9 i0 (.string ⟨#[]⟩) 1 16 Tryz.underlying22 hi hz0 hz1 hz2 rfl (by decide) v n (l.map Value.string) hs (hown.alloc _)
    ⟨w1.heap.size, 0, none⟩ 1 1 [.string c] hx rfl ?_ ?_ (by simp only [maxLen]; omega) (by omega) (by simp; omega) ?_
  · intro j u hj
    match j, hj with
    | 0, hj =>
      simp at hj
      subst hj
      rw [Addr.add_lit, cell_of_row _ _ _ _ _ _ (heap_alloc_new w1 _)]
      rfl
  · intro u hu
    simp at hu
    subst hu
    rfl
  · intro v' w' h1 h2 _
    refine h v' w' (by simpa using h1) ?_
    have hb : Below base w1 (w1.alloc (.cells #[.string c] 9 fz)) := (Below.refl _ _).alloc hbase _
    exact hb.grown h2 (by simp; omega) (fun k hk => (hown.lt k hk).1)

set_option maxHeartbeats 2000000 in
set_option maxRecDepth 20000 in
theorem funcText_i (x : Fn) (cs : List Value) (w : World) (hcs : D.Ats w anyB x.ds cs) (hok : fnOk x = true) (ht : D.totals x.ds ≤ 1048576) :
    Calls Tryz.prog 89 #[.agg cs.toArray] w fun e w' => e = .returned (.string (fnT x)) ∧ Below w.heap.size w w' := by
  have HP := Lib.hid (fnOk_parts hok)
  have he := Fn.totals_eq x
  have hjl := Pa.join_len x.params
  obtain ⟨ps, res, async⟩ := x
  simp only at he hjl HP
  obtain ⟨B, d, k, n, A, m, c0, A', m', c1, rfl, hp, hr⟩ := Fn.open_ hcs
  simp only at hp hr
  obtain ⟨-, hn, hc⟩ := rows_bound hp
  unfold maxLen at hc
  have HV := Lib.hid hp
  have HR := Lib.hid hr
  obtain ⟨J, hJ⟩ : ∃ J, ps.map Pa.text = J := ⟨_, rfl⟩
  rw [hJ] at hjl
  have hJl : J.length = ps.length := by rw [← hJ, List.length_map]
  have hJs : (Lib.join J [44]).length ≤ 50000000 := by omega
  have HJ := Lib.hid (And.intro hJ (And.intro hJl hJs))
  have htp : D.totals (ps.flatMap Pa.ds) ≤ 1048576 := by omega
  have htr : D.totals res.ds ≤ 1048576 := by omega
  have hpl : ps.length ≤ 1048576 := by omega
  have bA := Box.new w 50 [.slice B ps.length d, .int .i64 k, .string n, .slice A m c0, .slice A' m' c1, .bool async]
  have B1 : Below w.heap.size w (w.alloc (.cells #[.slice B ps.length d, .int .i64 k, .string n, .slice A m c0, .slice A' m' c1, .bool async] 50)) := (Below.refl _ _).alloc (Nat.le_refl _) _
  have O1 : ((w.alloc (.cells #[.slice B ps.length d, .int .i64 k, .string n, .slice A m c0, .slice A' m' c1, .bool async] 50)).alloc (.cells #[] 9)).ownsRow (w.heap.size + 1) 9 1 (.slice (some ⟨w.heap.size + 1, 0, none⟩) 0 0) 0 [] :=
    own_empty _ _ (by simp) _ _ (by simp)
  have HBB := Lib.hid (And.intro (B1.alloc (by simp) (.cells #[] 9)) (And.intro (bA.alloc (.cells #[] 9)) O1))
  clear hcs hp hr hok ht he hjl hJ hJl hJs B1 bA O1
  go_enter Tryz.func89, Tryz.ntmps89
  go_wp2
  go_loopw [3, 6, 11] (fun v _ i wr => ∃ (j : Nat) (T : List ByteArray), j ≤ ps.length ∧ i = .int .i64 j ∧ T.length = j ∧ T.map (·.data.toList) = J.take j ∧ wr.ownsRow (w.heap.size + 1) 9 1 v T.length (T.map Value.string) ∧
    Below w.heap.size w wr ∧ Box wr w.heap.size 50 [.slice B ps.length d, .int .i64 k, .string n, .slice A m c0, .slice A' m' c1, .bool async]) (fun _ _ i _ => ps.length - (intOf i).toNat)
  case atStart => exact ⟨0, [], Nat.zero_le _, rfl, rfl, by simp, HBB.out.2.2, HBB.out.1, HBB.out.2.1⟩
  case round =>
    obtain ⟨j, T, hj, rfl, hTl, hT, hO, Bw, fA⟩ := hrel
    have hbs : w.heap.size + 1 ≤ wr.heap.size := fA.lt
    have c := fA.cell
    have HT2 := Lib.hid (And.intro hTl hT)
    have hTl2 : T.length + 1 ≤ 8796093022208 := by omega
    clear hTl hT
    by_cases hlt : j < ps.length
    · obtain ⟨p, hx⟩ : ∃ p, ps[j]? = some p := ⟨ps[j], List.getElem?_eq_getElem hlt⟩
      have hk0 : (0 : Int) ≤ (j : Int) := by omega
      have hk1 : (j : Int) < (ps.length : Int) := by omega
      obtain ⟨b', off', u0, u1, u2, u3, u4, rfl, -, hbl', hat', d0, d1, d2, d3, d4⟩ := rows_at5 Pa.len HV.out hx
      replace d0 := (Bw.cell (p := ⟨b', off' + j * 5, none⟩) hbl').trans d0
      replace d1 := (Bw.cell (p := ⟨b', off' + j * 5 + 1, none⟩) hbl').trans d1
      replace d2 := (Bw.cell (p := ⟨b', off' + j * 5 + 2, none⟩) hbl').trans d2
      replace d3 := (Bw.cell (p := ⟨b', off' + j * 5 + 3, none⟩) hbl').trans d3
      replace d4 := (Bw.cell (p := ⟨b', off' + j * 5 + 4, none⟩) hbl').trans d4
      have hxm : p ∈ ps := List.mem_of_getElem? hx
      obtain ⟨t0, t1, t2, t3, t4, t5, t6, t7, ecs, hns, hty⟩ := Pa.open_ hat'
      simp only [List.cons.injEq, and_true] at ecs
      obtain ⟨rfl, rfl, rfl, rfl, rfl⟩ := ecs
      have htm := totals_mem (f := Pa.ds) hxm
      have hte : D.totals p.ds = p.name.size + D.totals p.ty.ds := by simp [Pa.ds, D.totals, D.total]
      have hpn : p.name.size ≤ 1048576 := by omega
      have HIx := Lib.hid (typeText_i p.ty (HP.out.1 p hxm) (by omega))
      have HXt := Lib.hid (hty.below Bw)
      obtain ⟨Y, hY⟩ : ∃ Y, tyT p.ty = Y := ⟨_, rfl⟩
      have hYs : Y.size ≤ 40000000 := by
        rw [← hY, tyT_size]
        have h1 := Ty.text_len p.ty
        omega
      have hJj : J[j]? = some (p.name.data.toList ++ 58 :: Y.data.toList) := by rw [← HJ.out.1, List.getElem?_map, hx, ← hY, tyT_list]; rfl
      have FIN := Lib.hid (show (T ++ [p.name ++ ⟨#[58]⟩ ++ Y]).map (·.data.toList) = J.take (j + 1) by
        rw [List.map_append, HT2.out.2, List.take_add_one, hJj]
        simp)
      unfold TextIs at HIx
      rw [hY] at HIx
      clear hat' hx hxm hY hty htm hte hJj hns
      have hq1 : ¬ 9223372036854775807 < p.name.size + 1 := by omega
      have hq2 : ¬ 9223372036854775807 < p.name.size + 1 + Y.size := by omega
      have HC := Lib.hid (HIx.out [.int .i64 t0, .string t1, .slice t2 t3 t4, .slice t5 t6 t7] (wr.alloc (.cells #[.string p.name, .int .i64 t0, .string t1, .slice t2 t3 t4, .slice t5 t6 t7] 104)).drew (D.Ats.below HXt.out (((Below.refl _ _).alloc (Nat.le_refl _) _).drew)))
      have HOd : (wr.alloc (.cells #[.string p.name, .int .i64 t0, .string t1, .slice t2 t3 t4, .slice t5 t6 t7] 104)).drew.ownsRow (w.heap.size + 1) 9 1 _ T.length (T.map Value.string) := hO.alloc (.cells #[.string p.name, .int .i64 t0, .string t1, .slice t2 t3 t4, .slice t5 t6 t7] 104)
      have hsd : w.heap.size + 1 ≤ (wr.alloc (.cells #[.string p.name, .int .i64 t0, .string t1, .slice t2 t3 t4, .slice t5 t6 t7] 104)).drew.heap.size := (by simp; omega)
      have bP : Box (wr.alloc (.cells #[.string p.name, .int .i64 t0, .string t1, .slice t2 t3 t4, .slice t5 t6 t7] 104)).drew wr.heap.size 104 [.string p.name, .int .i64 t0, .string t1, .slice t2 t3 t4, .slice t5 t6 t7] := Box.new wr 104 [.string p.name, .int .i64 t0, .string t1, .slice t2 t3 t4, .slice t5 t6 t7]
      go_upto_region 5 with fail
      go_region_law (first
        | (go_simp; go_at_call 114; ((refine HC.out.mono ?_); rintro e w3 ⟨rfl, hb3⟩; have hO3 := own_below HOd hb3; have hbs3 : w.heap.size + 1 ≤ w3.heap.size := Nat.le_trans hsd hb3.size; have c6 := (Box.call bP hb3).cell))
        | (refine step_str hO3 _ (.tmp 15) (.tmp 23) hTl2 hbs3 ?_; intro v' w' ho' hb'))
      all_goals
        have B3 := ((Bw.alloc Bw.size (.cells #[.string p.name, .int .i64 t0, .string t1, .slice t2 t3 t4, .slice t5 t6 t7] 104)).drew).trans (hb3.mono (Nat.le_trans Bw.size (by simp)))
        have f3 := Box.call (w := (wr.alloc (.cells #[.string p.name, .int .i64 t0, .string t1, .slice t2 t3 t4, .slice t5 t6 t7] 104)).drew) (fA.alloc _) hb3
        have HB := Lib.hid (And.intro (B3.trans (hb'.mono (Nat.le_succ _))) (f3.under hb' (Nat.lt_succ_self _)))
        have HO := Lib.hid ho'
        clear B3 f3 hb' ho' hb3 c6 hO3 hbs3 bP hsd c
        go_wp2
        go_roundw
        case rel => exact ⟨j + 1, T ++ [p.name ++ ⟨#[58]⟩ ++ Y], by omega, by go_num, by have := HT2.out.1; simp; omega, FIN.out, by simpa using HO.out, HB.out⟩
        case measure => simp [intOf]; omega
    · obtain rfl : j = ps.length := by omega
      have hTe : T.map (·.data.toList) = J := by rw [HT2.out.2, ← HJ.out.2.1, List.take_length]
      have hj := join_owned hO ⟨#[44]⟩ (by rw [hTe]; show (Lib.join J [44]).length ≤ _; have := HJ.out.2.2; omega) (by omega)
      rw [hTe] at hj
      have HJo := Lib.hid hj
      obtain ⟨Z, hZ⟩ : ∃ Z : ByteArray, (⟨(Lib.join J (⟨#[44]⟩ : ByteArray).data.toList).toArray⟩ : ByteArray) = Z := ⟨_, rfl⟩
      rw [hZ] at HJo
      have hZs : Z.size ≤ 50000000 := by rw [← hZ]; simp [ByteArray.size]; exact HJ.out.2.2
      have HZ := Lib.hid (show Z.data.toList = Lib.join J [44] by rw [← hZ])
      have HIr := Lib.hid (typeText_i res HP.out.2 htr)
      obtain ⟨Y, hY⟩ : ∃ Y, tyT res = Y := ⟨_, rfl⟩
      have hYs : Y.size ≤ 40000000 := by
        rw [← hY, tyT_size]
        have h1 := Ty.text_len res
        omega
      unfold TextIs at HIr
      rw [hY] at HIr
      have HY := Lib.hid (show Y.data.toList = Ty.text res by rw [← hY, tyT_list])
      have FIN := Lib.hid (show ∀ (T' : ByteArray), T'.data.toList = (fnHead async).data.toList ++ (Lib.join J [44] ++ 41 :: fnTail res) → T' = fnT ⟨ps, res, async⟩ from fun T' h => by
        refine ba_of ?_
        rw [h, Fn.text, HJ.out.1])
      have HXr := Lib.hid (HR.out.below Bw)
      clear hj hTe hZ hO hY
      cases async
      all_goals
        go_wp2_with fail
        refine HJo.out.mono ?_
        rintro e w2 ⟨rfl, hb2⟩
        have Bw2 := Bw.trans (hb2.mono Bw.size)
        have HXq := Lib.hid (D.Ats.below HXr.out hb2)
        have f2 := fA.call hb2
        clear c hb2
        have c := f2.cell
        go_wp2_with fail
        refine (isUnit_t res _ _ HXq.out).mono ?_
        rintro e w3 ⟨rfl, hb3⟩
        have Bw3 := Bw2.trans (hb3.mono Bw2.size)
        have HX3 := Lib.hid (D.Ats.below HXq.out hb3)
        have f3 := f2.call hb3
        clear c hb3 f2 Bw2
        have c := f3.cell
        cases hu : isU res
        · have EU := Lib.hid (show fnTail res = 45 :: 62 :: Y.data.toList by rw [HY.out, fnTail, if_neg (by rw [hu]; decide)])
          clear hu
          go_wp2_with fail
          refine (HIr.out _ _ HX3.out).mono ?_
          rintro e w4 ⟨rfl, hb4⟩
          have Bw4 := Bw3.trans (hb4.mono Bw3.size)
          clear c hb4
          go_wp2
          go_ret
          exact ⟨ret_eq (congrArg Value.string (FIN.out _ (by rw [EU.out]; simp [fnHead, HZ.out]))), Bw4⟩
        · have EU := Lib.hid (show fnTail res = [] by rw [fnTail, if_pos hu])
          clear hu
          go_wp2
          go_ret
          exact ⟨ret_eq (congrArg Value.string (FIN.out _ (by rw [EU.out]; simp [fnHead, HZ.out]))), Bw3⟩
end Go.Proofs.YtklhkdihokgpeaaGreatDoor
namespace Go.Proofs.YtklhkdihokgpeaaGreatDoor
open Go.RowKit Go.Shelf

/-- The text form of a valid function's type, or none. -/
def fnTextOr (x : Fn) : ByteArray := if fnOk x = true then fnT x else ⟨#[]⟩
set_option maxHeartbeats 1000000 in
set_option maxRecDepth 20000 in
theorem askFText_s (x : Fn) (r : ByteArray) (cs : List Value) (w : World) (hr : fnTextOr x = r) (hcs : D.Ats w anyB x.ds cs) (ht : D.totals x.ds ≤ 1048576) :
    Calls Tryz.prog 87 #[.agg cs.toArray] w fun e w' => e = .returned (.string r) ∧ Below w.heap.size w w' := by
  have HX := Lib.hid hcs
  obtain ⟨B, e0, d, k, n, A, m, c0, A', m', c1, ab, rfl⟩ := Fn.form hcs
  clear hcs
  have HR := Lib.hid hr
  clear hr
  go_enter Tryz.func87, Tryz.ntmps87
  go_wp2_with fail
  refine (l03Func_s x _ _ (HX.out.below ((Below.refl _ _).alloc (Nat.le_refl _) _))).mono ?_
  rintro e w1 ⟨rfl, hb1⟩
  obtain ⟨B1, bA⟩ := box1 (cA := [_, _, _, _, _, _]) hb1
  clear hb1
  have c := bA.cell
  cases h1 : fnOk x
  · have E1 := Lib.hid (show r = ⟨#[]⟩ by rw [← HR.out, fnTextOr, if_neg (by rw [h1]; decide)])
    clear c h1
    go_wp2
    go_ret
    exact ⟨ret_eq (by rw [E1.out]; try rfl), B1⟩
  · have E1 := Lib.hid (show r = fnT x by rw [← HR.out, fnTextOr, if_pos h1])
    have E2 := Lib.hid (fun cs w h => l03FuncText_s x cs w h h1 ht)
    clear h1
    go_wp2_with fail
    refine (E2.out _ _ (HX.out.below B1)).mono ?_
    rintro e w2 ⟨rfl, hb2⟩
    have B2 := B1.trans (hb2.mono B1.size)
    clear c hb2
    go_wp2
    go_ret
    exact ⟨ret_eq (by rw [E1.out]; try rfl), B2⟩
end Go.Proofs.YtklhkdihokgpeaaGreatDoor
