/- The text form of a type: by the reference. -/
import Derived.Test.YtklhkdihokgpeaaGreatDoorPkRes
import Derived.Test.YtklhkdihokgpeaaGreatDoorStrs
import Derived.Deep.DeepCutAuto
namespace Go.Proofs.YtklhkdihokgpeaaGreatDoor
open Go.RowKit

def wordsRow : List Value := kwords.map Value.string
theorem l03Words_s (w : World) : Calls Tryz.prog 160 #[] w fun e w' => e = .returned (.slice (some ⟨w.heap.size, 0, none⟩) 24 24) ∧ w' = w.alloc (.cells wordsRow.toArray 9) := by
  go_enter Tryz.func160, Tryz.ntmps160
  go_wp2
  go_ret
  exact ⟨rfl, rfl⟩
theorem words_cell {w : World} {k : Nat} (h : k < 24) : (w.alloc (.cells wordsRow.toArray 9)).cell? ⟨w.heap.size, k, none⟩ = some (.string (kword k)) := by
  rw [cell_of_row _ _ _ _ _ _ (heap_alloc_new w _)]
  have := kword_at (k := (k : Int)) (by omega)
  rw [Int.toNat_natCast] at this
  simp [wordsRow, this]
theorem words_c (F : FuncId) (hF : ∀ w, Calls Tryz.prog F #[] w fun e w' => e = .returned (.slice (some ⟨w.heap.size, 0, none⟩) 24 24) ∧ w' = w.alloc (.cells wordsRow.toArray 9)) (w : World) :
    Calls Tryz.prog F #[] w fun e w' => ∃ g, g < w'.heap.size ∧ e = .returned (.slice (some ⟨g, 0, none⟩) 24 24) ∧ (∀ k, k < 24 → w'.cell? ⟨g, k, none⟩ = some (.string (kword k))) ∧ Below w.heap.size w w' := by
  refine (hF w).mono ?_
  rintro e w' ⟨rfl, rfl⟩
  exact ⟨w.heap.size, by simp, rfl, fun k hk => words_cell hk, (Below.refl _ _).alloc (Nat.le_refl _) _⟩
def TextIs (F : FuncId) (x : Ty) : Prop := ∀ (cs : List Value) (w : World), D.Ats w anyB x.ds cs → Calls Tryz.prog F #[.agg cs.toArray] w fun e w' => e = .returned (.string (tyT x)) ∧ Below w.heap.size w w'

set_option maxHeartbeats 2000000 in
set_option maxRecDepth 20000 in
theorem l03Text_at (k : Int) (n : ByteArray) (l : List ByteArray) (kids : List Ty) (hs : shape (.mk k n l kids) = true) (ih : ∀ x ∈ kids, TextIs 139 x) (ht : D.totals (Ty.ds (.mk k n l kids)) ≤ 1048576) : TextIs 139 (.mk k n l kids) := by
  intro cs w hcs
  obtain ⟨q, rfl⟩ : ∃ q : Nat, k = (q : Int) := ⟨k.toNat, by have := shape_kind hs; omega⟩
  have hq : q < 24 := by have := shape_kind hs; omega
  have hq0 : (0 : Int) ≤ (q : Int) := by omega
  have hq1 : (q : Int) < 24 := by omega
  have HX := Lib.hid hcs
  obtain ⟨A, cap, B, cap2, rfl, -, hnl, hl, hk⟩ := Ty.open_ hcs
  have HK := Lib.hid hk
  have HL := Lib.hid hl
  have HS := Lib.hid hs
  have HI := Lib.hid ih
  clear hcs hl hk hs ih
  go_enter Tryz.func139, Tryz.ntmps139
  go_upto_region 1 with fail
  go_cut [3] (fun s wx => s = .string (kword q) ∧ Below w.heap.size w wx ∧ Box wx w.heap.size 48 [.int .i64 q, .string n, .slice A l.length cap, .slice B kids.length cap2])
  case first =>
    have bA := Box.new w 48 [.int .i64 q, .string n, .slice A l.length cap, .slice B kids.length cap2]
    go_region_with (go_at_call 160; (with_reducible refine (words_c _ l03Words_s _).mono ?_); rintro e w6 ⟨g, hg6, rfl, hc6, hb6⟩; have c6 := hc6 q hq; have d6 := (Box.call (w := (w.alloc (.cells #[.int .i64 q, .string n, .slice A l.length cap, .slice B kids.length cap2] 48)).drew) bA hb6).cell)
    all_goals
      have fin := Lib.hid (And.intro (show Below w.heap.size w w6 from ((Below.refl _ _).alloc (Nat.le_refl _) _).drew.trans (hb6.mono (by simp))) (Box.call (w := (w.alloc (.cells #[.int .i64 q, .string n, .slice A l.length cap, .slice B kids.length cap2] 48)).drew) bA hb6))
      clear hc6 c6 d6 hb6 bA hg6
      go_wp2_with fail
      go_meet
      exact ⟨rfl, fin.out⟩
  case rest =>
    obtain ⟨rfl, B1, bA⟩ := hcut
    have c := bA.cell
    obtain ⟨-, hn, hc⟩ := rows_bound HK.out
    obtain ⟨-, hn', hc'⟩ := rows_bound HL.out
    unfold maxLen at hc hc' hnl
    have hkw := kword_small (q : Int)
    have htot : n.size + (strs l).total + (rows Ty.ds 4 kids).total ≤ 1048576 := by
      have e : D.totals (Ty.ds (.mk (q : Int) n l kids)) = n.size + (strs l).total + (rows Ty.ds 4 kids).total := by simp [Ty.ds_eq, D.totals, D.total]; omega
      omega
    have hsz := Ty.text_len (.mk (q : Int) n l kids)
    rw [Ty.text_mk] at hsz
    have HT := Lib.hid (Ty.text_mk (q : Int) n l kids)
    rcases shape_open HS.out with ⟨e1, e2, e3, e4, rfl, rfl, e5, e6⟩ | ⟨e1, e2, rfl, e3, e4, e5, e6, e7⟩ | ⟨e1, e2, rfl, rfl, e3, e4, e5, e6, e7, e8⟩ | ⟨e1, e2, rfl, rfl, rfl, e3, e4⟩
    · rw [if_pos e1] at hsz
      have E := Lib.hid (And.intro e1 e4)
      have e3' : n.toList.isEmpty = false := by rw [List.isEmpty_eq_false_iff]; exact e3
      have hns : n.size ≤ 1048576 := by omega
      clear e1 e2 e4 e5 e6 e3 hsz hq0 hq1 hq
      go_wp2
      go_ret
      refine ⟨ret_eq ?_, B1⟩
      rw [tyT, HT.out, if_pos E.out.1]
      exact congrArg Value.string (ba_of (by simp))
    · rw [if_neg (by simp [e1]), if_pos e2, List.length_append, List.length_cons, List.length_append] at hsz
      have E := Lib.hid (And.intro e1 e2)
      have hlpos : (0 : Int) < (l.length : Int) := by omega
      obtain ⟨J, hJ⟩ : ∃ J, labs l (kids.map colon) = J := ⟨_, rfl⟩
      rw [hJ] at hsz
      have hJl : J.length = l.length := by rw [← hJ, labs_length]
      have hJs : (Lib.join J [44]).length ≤ 40000000 := by simp at hsz; omega
      have HJ := Lib.hid (And.intro hJ (And.intro hJl hJs))
      clear e1 e2 hsz hJ e6 e7 hq0 hq1 hq hJl hJs
      go_wp2
      go_loopw [3, 4] (fun s i wr => ∃ (j : Nat) (T : ByteArray), j ≤ l.length ∧ i = .int .i64 j ∧ s = .string T ∧ T.data.toList = (kword (q : Int)).data.toList ++ 123 :: Lib.join (J.take j) [44] ∧ Below wc.heap.size wc wr) (fun _ i _ => l.length - (intOf i).toNat)
      case atStart => exact ⟨0, _, Nat.zero_le _, rfl, rfl, by simp [Lib.join_nil], Below.refl _ _⟩
      case round =>
        obtain ⟨j, T, hj, rfl, rfl, hT, hb⟩ := hrel
        have Bw := B1.trans (hb.mono B1.size)
        have fA := bA.call hb
        clear c
        have c := fA.cell
        have hTs : T.size ≤ 40000010 := by
          have h1 := join_take_len J j
          have h2 := HJ.out.2.2
          rw [ba_size, hT, List.length_append, List.length_cons]
          have h3 : (kword (q : Int)).data.toList.length = (kword (q : Int)).size := by simp
          omega
        have HT2 := Lib.hid hT
        clear hT
        by_cases hlt : j < l.length
        · obtain ⟨a, ha⟩ : ∃ a, l[j]? = some a := ⟨l[j], List.getElem?_eq_getElem hlt⟩
          have hk0 : (0 : Int) ≤ (j : Int) := by omega
          have hk1 : (j : Int) < (l.length : Int) := by omega
          obtain ⟨b, off, u0, rfl, -, hbl, hat, d0⟩ := rows_at1 strD_length HL.out ha
          obtain ⟨rfl, -⟩ := str_open hat
          replace d0 := (Bw.cell (p := ⟨b, off + j, none⟩) hbl).trans d0
          have has : a.size ≤ 1048576 := by
            have h1 := totals_mem (f := strD) (List.mem_of_getElem? ha)
            have h2 : D.totals (strD a) = a.size := by simp [strD, D.totals, D.total]
            rw [strs, rows_total] at htot
            omega
          have hJj : J[j]? = some (a.data.toList ++ (kids.map colon)[j]?.getD []) := by rw [← HJ.out.1]; exact labs_at ha
          have HN := Lib.hid (And.intro (join_next hJj) (List.getElem?_eq_some_iff.1 hJj))
          clear hat ha hJj
          have fin : ∀ (T' : ByteArray), T'.data.toList = T.data.toList ++ (if j = 0 then [] else [44]) ++ a.data.toList ++ (kids.map colon)[j]?.getD [] → T'.data.toList = (kword (q : Int)).data.toList ++ 123 :: Lib.join (J.take (j + 1)) [44] := by
            intro T' h
            rw [h, HT2.out, HN.out.1]
            by_cases h0 : j = 0
            · subst h0; simp [Lib.join_nil]
            · simp [h0]
          have FIN := Lib.hid fin
          clear fin
          rcases e5 with rfl | e5
          · have g := Nat.eq_zero_or_pos j
            rcases g with g | g
            · have g1 : ¬ (0 : Int) < (j : Int) := by omega
              have G := Lib.hid g
              clear g
              go_wp2
              go_roundw
              case rel => exact ⟨j + 1, _, by omega, by go_num, rfl, FIN.out _ (by simp [G.out]), hb⟩
              case measure => simp [intOf]; omega
            · have g1 : (0 : Int) < (j : Int) := by omega
              have G := Lib.hid g
              clear g
              go_wp2
              go_roundw
              case rel => exact ⟨j + 1, _, by omega, by go_num, rfl, FIN.out _ (by simp [Nat.ne_of_gt G.out]), hb⟩
              case measure => simp [intOf]; omega
          · obtain ⟨x, hx⟩ : ∃ x, kids[j]? = some x := ⟨kids[j]'(by omega), List.getElem?_eq_getElem (by omega)⟩
            have hk2 : (j : Int) < (kids.length : Int) := by omega
            have hk3 : (0 : Int) < (kids.length : Int) := by omega
            obtain ⟨b', off', u0, u1, u2, u3, rfl, -, hbl', hat', c0, c1, c2, c3⟩ := rows_at4 Ty.len HK.out hx
            replace c0 := (Bw.cell (p := ⟨b', off' + j * 4, none⟩) hbl').trans c0
            replace c1 := (Bw.cell (p := ⟨b', off' + j * 4 + 1, none⟩) hbl').trans c1
            replace c2 := (Bw.cell (p := ⟨b', off' + j * 4 + 2, none⟩) hbl').trans c2
            replace c3 := (Bw.cell (p := ⟨b', off' + j * 4 + 3, none⟩) hbl').trans c3
            have hxm : x ∈ kids := List.mem_of_getElem? hx
            have HIx := Lib.hid (HI.out x hxm)
            have HXt := Lib.hid (And.intro (hat'.below Bw) (show (kids.map colon)[j]?.getD [] = colon x by rw [List.getElem?_map, hx]; rfl))
            obtain ⟨xk, xn, xl, xs⟩ := x
            obtain ⟨_, _, _, _, ex, -, -, -, -⟩ := Ty.open_ hat'
            simp only [List.cons.injEq, and_true] at ex
            obtain ⟨rfl, rfl, rfl, rfl⟩ := ex
            obtain ⟨Y, hY⟩ : ∃ Y, tyT (.mk xk xn xl xs) = Y := ⟨_, rfl⟩
            have hxs : Y.size ≤ 40000000 := by
              rw [← hY, tyT_size]
              have h1 := Ty.text_len (.mk xk xn xl xs)
              have h2 := totals_mem (f := Ty.ds) hxm
              rw [rows_total] at htot
              omega
            unfold TextIs at HIx
            rw [hY] at HIx
            have HY := Lib.hid hY
            clear hat' hx hxm hY e5
            have g := Nat.eq_zero_or_pos j
            by_cases hu : xk = 1
            · have EU := Lib.hid (show colon (.mk xk xn xl xs) = [] by subst hu; rfl)
              have gu : (xk != 1) = false := by simp [hu]
              clear hu
              rcases g with g | g
              · have g1 : ¬ (0 : Int) < (j : Int) := by omega
                have G := Lib.hid g
                clear g
                go_wp2
                go_roundw
                case rel => exact ⟨j + 1, _, by omega, by go_num, rfl, FIN.out _ (by rw [HXt.out.2, EU.out]; simp [G.out]), hb⟩
                case measure => simp [intOf]; omega
              · have g1 : (0 : Int) < (j : Int) := by omega
                have G := Lib.hid g
                clear g
                go_wp2
                go_roundw
                case rel => exact ⟨j + 1, _, by omega, by go_num, rfl, FIN.out _ (by rw [HXt.out.2, EU.out]; simp [Nat.ne_of_gt G.out]), hb⟩
                case measure => simp [intOf]; omega
            · have EU := Lib.hid (show colon (.mk xk xn xl xs) = 58 :: Y.data.toList by rw [← HY.out, tyT_list]; unfold colon; rw [if_neg (by unfold isU Ty.kind; simpa using hu)])
              have gu : (xk != 1) = true := by simp [hu]
              clear hu
              rcases g with g | g
              · have g1 : ¬ (0 : Int) < (j : Int) := by omega
                have G := Lib.hid g
                clear g
                go_wp2_with fail
                refine (HIx.out _ _ HXt.out.1).mono ?_
                rintro e w2 ⟨rfl, hb2⟩
                have hb3 := hb.trans (hb2.mono hb.size)
                clear c0 c1 c2 c3 d0 c hb2
                go_wp2
                go_roundw
                case rel => exact ⟨j + 1, _, by omega, by go_num, rfl, FIN.out _ (by rw [HXt.out.2, EU.out]; simp [G.out]), hb3⟩
                case measure => simp [intOf]; omega
              · have g1 : (0 : Int) < (j : Int) := by omega
                have G := Lib.hid g
                clear g
                go_wp2_with fail
                refine (HIx.out _ _ HXt.out.1).mono ?_
                rintro e w2 ⟨rfl, hb2⟩
                have hb3 := hb.trans (hb2.mono hb.size)
                clear c0 c1 c2 c3 d0 c hb2
                go_wp2
                go_roundw
                case rel => exact ⟨j + 1, _, by omega, by go_num, rfl, FIN.out _ (by rw [HXt.out.2, EU.out]; simp [Nat.ne_of_gt G.out]), hb3⟩
                case measure => simp [intOf]; omega
        · obtain rfl : j = l.length := by omega
          go_wp2
          go_ret
          refine ⟨ret_eq ?_, Bw⟩
          rw [tyT, HT.out, if_neg (by rw [E.out.1]; decide), if_pos E.out.2]
          refine congrArg Value.string (ba_of ?_)
          have h1 := HT2.out
          rw [← HJ.out.2.1, List.take_length] at h1
          rw [HJ.out.1]
          simp [h1]
    · rw [if_neg (by simp [e1]), if_neg (by simp [e2]), if_pos e4, List.length_append, List.length_cons, List.length_append] at hsz
      have E := Lib.hid (And.intro e1 (And.intro e2 e4))
      have hlpos : (0 : Int) < (kids.length : Int) := by omega
      obtain ⟨J, hJ⟩ : ∃ J, kids.map Ty.text = J := ⟨_, rfl⟩
      rw [hJ] at hsz
      have hJl : J.length = kids.length := by rw [← hJ, List.length_map]
      have hJs : (Lib.join J [44]).length ≤ 40000000 := by simp at hsz; omega
      have HJ := Lib.hid (And.intro hJ (And.intro hJl hJs))
      clear e1 e2 hsz hJ e4 e5 e6 e7 e8 hq0 hq1 hq hJl hJs
      go_wp2
      go_loopw [3, 5] (fun s i wr => ∃ (j : Nat) (T : ByteArray), j ≤ kids.length ∧ i = .int .i64 j ∧ s = .string T ∧ T.data.toList = (kword (q : Int)).data.toList ++ 60 :: Lib.join (J.take j) [44] ∧ Below wc.heap.size wc wr) (fun _ i _ => kids.length - (intOf i).toNat)
      case atStart => exact ⟨0, _, Nat.zero_le _, rfl, rfl, by simp [Lib.join_nil], Below.refl _ _⟩
      case round =>
        obtain ⟨j, T, hj, rfl, rfl, hT, hb⟩ := hrel
        have Bw := B1.trans (hb.mono B1.size)
        have fA := bA.call hb
        clear c
        have c := fA.cell
        have hTs : T.size ≤ 40000010 := by
          have h1 := join_take_len J j
          have h2 := HJ.out.2.2
          rw [ba_size, hT, List.length_append, List.length_cons]
          have h3 : (kword (q : Int)).data.toList.length = (kword (q : Int)).size := by simp
          omega
        have HT2 := Lib.hid hT
        clear hT
        by_cases hlt : j < kids.length
        · obtain ⟨x, hx⟩ : ∃ x, kids[j]? = some x := ⟨kids[j]'(by omega), List.getElem?_eq_getElem (by omega)⟩
          have hk0 : (0 : Int) ≤ (j : Int) := by omega
          have hk1 : (j : Int) < (kids.length : Int) := by omega
          obtain ⟨b', off', u0, u1, u2, u3, rfl, -, hbl', hat', c0, c1, c2, c3⟩ := rows_at4 Ty.len HK.out hx
          replace c0 := (Bw.cell (p := ⟨b', off' + j * 4, none⟩) hbl').trans c0
          replace c1 := (Bw.cell (p := ⟨b', off' + j * 4 + 1, none⟩) hbl').trans c1
          replace c2 := (Bw.cell (p := ⟨b', off' + j * 4 + 2, none⟩) hbl').trans c2
          replace c3 := (Bw.cell (p := ⟨b', off' + j * 4 + 3, none⟩) hbl').trans c3
          have hxm : x ∈ kids := List.mem_of_getElem? hx
          have HIx := Lib.hid (HI.out x hxm)
          have HXt := Lib.hid (hat'.below Bw)
          have hJj : J[j]? = some x.text := by rw [← HJ.out.1, List.getElem?_map, hx]; rfl
          have HN := Lib.hid (join_next hJj)
          obtain ⟨Y, hY⟩ : ∃ Y, tyT x = Y := ⟨_, rfl⟩
          have hxs : Y.size ≤ 40000000 := by
            rw [← hY, tyT_size]
            have h1 := Ty.text_len x
            have h2 := totals_mem (f := Ty.ds) hxm
            rw [rows_total] at htot
            omega
          have HY := Lib.hid (show Y.data.toList = x.text by rw [← hY, tyT_list])
          unfold TextIs at HIx
          rw [hY] at HIx
          have fin : ∀ (T' : ByteArray), T'.data.toList = T.data.toList ++ (if j = 0 then [] else [44]) ++ Y.data.toList → T'.data.toList = (kword (q : Int)).data.toList ++ 60 :: Lib.join (J.take (j + 1)) [44] := by
            intro T' h
            rw [h, HT2.out, HN.out, HY.out]
            by_cases h0 : j = 0
            · subst h0; simp [Lib.join_nil]
            · simp [h0]
          have FIN := Lib.hid fin
          clear fin hat' hx hxm hY hJj
          have g := Nat.eq_zero_or_pos j
          rcases g with g | g
          · have g1 : ¬ (0 : Int) < (j : Int) := by omega
            have G := Lib.hid g
            clear g
            go_wp2_with fail
            refine (HIx.out _ _ HXt.out).mono ?_
            rintro e w2 ⟨rfl, hb2⟩
            have hb3 := hb.trans (hb2.mono hb.size)
            clear c0 c1 c2 c3 c hb2
            go_wp2
            go_roundw
            case rel => exact ⟨j + 1, _, by omega, by go_num, rfl, FIN.out _ (by simp [G.out]), hb3⟩
            case measure => simp [intOf]; omega
          · have g1 : (0 : Int) < (j : Int) := by omega
            have G := Lib.hid g
            clear g
            go_wp2_with fail
            refine (HIx.out _ _ HXt.out).mono ?_
            rintro e w2 ⟨rfl, hb2⟩
            have hb3 := hb.trans (hb2.mono hb.size)
            clear c0 c1 c2 c3 c hb2
            go_wp2
            go_roundw
            case rel => exact ⟨j + 1, _, by omega, by go_num, rfl, FIN.out _ (by simp [Nat.ne_of_gt G.out]), hb3⟩
            case measure => simp [intOf]; omega
        · obtain rfl : j = kids.length := by omega
          go_wp2
          go_ret
          refine ⟨ret_eq ?_, Bw⟩
          rw [tyT, HT.out, if_neg (by rw [E.out.1]; decide), if_neg (by rw [E.out.2.1]; decide), if_pos E.out.2.2]
          refine congrArg Value.string (ba_of ?_)
          have h1 := HT2.out
          rw [← HJ.out.2.1, List.take_length] at h1
          rw [HJ.out.1]
          simp [h1]
    · rw [if_neg (by simp [e1]), if_neg (by simp [e2]), if_neg (by omega)] at hsz
      have E := Lib.hid (And.intro e1 (And.intro e2 e4))
      clear e1 e2 e4 e3 hsz hq0 hq1 hq
      go_wp2
      go_ret
      refine ⟨ret_eq ?_, B1⟩
      rw [tyT, HT.out, if_neg (by rw [E.out.1]; decide), if_neg (by rw [E.out.2.1]; decide), if_neg (by have := E.out.2.2; omega)]
      simp
theorem l03Text_s (x : Ty) (hs : Ty.all shape x = true) (ht : D.totals x.ds ≤ 1048576) : TextIs 139 x := by
  induction x using Ty.ind with
  | h k n l kids ih =>
    obtain ⟨h1, h2⟩ := all_kids hs
    refine l03Text_at k n l kids h1 (fun x hx => ih x hx (h2 x hx) ?_) ht
    have h3 := totals_mem (f := Ty.ds) hx
    have e : D.totals (Ty.ds (.mk k n l kids)) = n.size + (strs l).total + (rows Ty.ds 4 kids).total := by simp [Ty.ds_eq, D.totals, D.total]; omega
    rw [rows_total] at e
    omega
end Go.Proofs.YtklhkdihokgpeaaGreatDoor
