/- The text form of a type: by the program. -/
import Derived.Test.YtklhkdihokgpeaaGreatDoorTextS
import Derived.Test.YtklhkdihokgpeaaGreatDoorTyKids
import Derived.Test.YtklhkdihokgpeaaGreatDoorAppS
namespace Go.Proofs.YtklhkdihokgpeaaGreatDoor
open Go.RowKit

theorem kindWords_i (w : World) : Calls Tryz.prog 141 #[] w fun e w' => e = .returned (.slice (some ⟨w.heap.size, 0, none⟩) 24 24) ∧ w' = w.alloc (.cells wordsRow.toArray 9) := by
  go_enter Tryz.func141, Tryz.ntmps141
  go_wp2
  go_ret
  exact ⟨rfl, rfl⟩
theorem isUnit_t (x : Ty) (cs : List Value) (w : World) (h : D.Ats w anyB x.ds cs) : Calls Tryz.prog 100 #[.agg cs.toArray] w fun e w' => e = .returned (.bool (isU x)) ∧ Below w.heap.size w w' := isUnit_i x cs w trivial h
/-- strings.Join over a row of texts that the call owns. -/
theorem join_owned {w : World} {base : Nat} {v : Value} {l : List ByteArray} (ho : w.ownsRow base 9 1 v l.length (l.map Value.string)) (sep : ByteArray) (hl : (Lib.join (l.map (·.data.toList)) sep.data.toList).length ≤ 140737488355328) (hn : l.length ≤ 140737488355328) :
    Calls Tryz.prog 115 #[v, .string sep] w fun e w' => e = .returned (.string ⟨(Lib.join (l.map (·.data.toList)) sep.data.toList).toArray⟩) ∧ Below w.heap.size w w' := by
  by_cases h0 : l = []
  · subst h0
    rcases ho.2 with ⟨rfl, _⟩ | ⟨g, cap, cur, rfl, _⟩
    · refine (Tryz.strings_Join_none none 0 sep w).mono ?_
      rintro e w' ⟨rfl, rfl⟩
      exact ⟨rfl, Below.refl _ _⟩
    · refine (Tryz.strings_Join_none (some ⟨g, 0, none⟩) cap sep w).mono ?_
      rintro e w' ⟨rfl, rfl⟩
      exact ⟨rfl, Below.refl _ _⟩
  · have hpos : 0 < l.length := List.length_pos_iff.2 h0
    obtain ⟨g, cap, rfl, h1, _, h2⟩ := own_form ho hpos
    refine Tryz.strings_Join g 0 cap l sep w (fun j x hx => ?_) h2 hn h1 hl
    have := ho.cells (g := g) rfl j (.string x) (by rw [List.getElem?_map, hx]; rfl)
    rw [Addr.add_lit] at this
    exact this
/-- An owned row behind a world in which nothing but new memory came. -/
theorem own_below {w w' : World} {base : Nat} {e : TypeId} {size n : Nat} {v : Value} {xs : List Value} (h : w.ownsRow base e size v n xs) (hb : Below w.heap.size w w') : w'.ownsRow base e size v n xs := by
  refine ⟨h.1, ?_⟩
  rcases h.2 with h | ⟨g, cap, cur, e1, e2, e3, e4⟩
  · exact .inl h
  · exact .inr ⟨g, cap, cur, e1, e2, (hb.block g (Array.getElem?_eq_some_iff.1 e3).1).trans e3, e4⟩
theorem Box.under {w w' : World} {B g : Nat} {t : TypeId} {cs : List Value} (h : Box w g t cs) (hb : Below B w w') (hg : g < B) : Box w' g t cs := (hb.block g hg).trans h
theorem own_empty (w : World) (base : Nat) (hb : base ≤ w.heap.size) (e : TypeId) (g : Nat) (hg : w.heap.size = g) : (w.alloc (.cells #[] e)).ownsRow base e 1 (.slice (some ⟨g, 0, none⟩) 0 0) 0 [] := by
  subst hg
  exact World.ownsRow_lit _ _ _ hb (by decide) (by rfl)

/-- Between two rounds: the texts so far. -/
def TextRel (B n : Nat) (J : List (List UInt8)) (wc : World) (v i : Value) (wr : World) : Prop :=
  ∃ (j : Nat) (T : List ByteArray), j ≤ n ∧ i = .int .i64 j ∧ T.length = j ∧ T.map (·.data.toList) = J.take j ∧ wr.ownsRow B 9 1 v T.length (T.map Value.string) ∧ Below B wc wr

set_option maxHeartbeats 2000000 in
set_option maxRecDepth 20000 in
theorem typeText_at (k : Int) (n : ByteArray) (l : List ByteArray) (kids : List Ty) (hs : shape (.mk k n l kids) = true) (ih : ∀ x ∈ kids, TextIs 114 x) (ht : D.totals (Ty.ds (.mk k n l kids)) ≤ 1048576) : TextIs 114 (.mk k n l kids) := by
  intro cs w hcs
  obtain ⟨q, rfl⟩ : ∃ q : Nat, k = (q : Int) := ⟨k.toNat, by have := shape_kind hs; omega⟩
  have hq : q < 24 := by have := shape_kind hs; omega
  have hq0 : (0 : Int) ≤ (q : Int) := by omega
  have hq1 : (q : Int) < 24 := by omega
  obtain ⟨A, cap, B, cap2, rfl, -, hnl, hl, hk⟩ := Ty.open_ hcs
  have HK := Lib.hid hk
  have HL := Lib.hid hl
  have HS := Lib.hid hs
  have HI := Lib.hid ih
  clear hcs hl hk hs ih
  go_enter Tryz.func114, Tryz.ntmps114
  go_upto_region 1 with fail
  go_cut [3, 4] (fun s v wx => s = .string (kword q) ∧ wx.ownsRow (w.heap.size + 1) 9 1 v 0 [] ∧ Below w.heap.size w wx ∧ Box wx w.heap.size 48 [.int .i64 q, .string n, .slice A l.length cap, .slice B kids.length cap2])
  case first =>
    have bA := Box.new w 48 [.int .i64 q, .string n, .slice A l.length cap, .slice B kids.length cap2]
    have hws : w.heap.size < (w.alloc (.cells #[.int .i64 q, .string n, .slice A l.length cap, .slice B kids.length cap2] 48)).heap.size := by simp
    have bW : Below w.heap.size w (w.alloc (.cells #[.int .i64 q, .string n, .slice A l.length cap, .slice B kids.length cap2] 48)) := (Below.refl _ _).alloc (Nat.le_refl _) _
    revert bA hws bW
    generalize (w.alloc (.cells #[.int .i64 q, .string n, .slice A l.length cap, .slice B kids.length cap2] 48)) = W
    intro bA hws bW
    have cA := bA.cell
    go_region_with (go_at_call 141; (with_reducible refine (words_c _ kindWords_i _).mono ?_); rintro e w6 ⟨g, hg6, rfl, hc6, hb6⟩; have c6 := hc6 q hq; have hw6 : w.heap.size < w6.heap.size := (by have h := hb6.size; first | exact Nat.lt_of_lt_of_le hws h | (simp at h; omega)); have b6 : Box w6 w.heap.size 48 [.int .i64 q, .string n, .slice A l.length cap, .slice B kids.length cap2] := (by first | exact Box.call (w := W.drew) bA hb6 | exact Box.call (w := (W.alloc (.cells #[] 9)).drew) (Box.alloc bA _) hb6); have d6 := b6.cell)
    all_goals
      have B6 : Below w.heap.size w w6 := (by first | exact bW.drew.trans (hb6.mono (Nat.le_of_lt hws)) | exact ((bW.alloc (Nat.le_of_lt hws) _).drew).trans (hb6.mono (by simp; omega)))
      have O6 : (w6.alloc (.cells #[] 9)).ownsRow (w.heap.size + 1) 9 1 (.slice (some ⟨w6.heap.size, 0, none⟩) 0 0) 0 [] := own_empty w6 _ hw6 _ _ rfl
      have O0 : (W.alloc (.cells #[] 9)).drew.ownsRow (w.heap.size + 1) 9 1 (.slice (some ⟨W.heap.size, 0, none⟩) 0 0) 0 [] := own_empty W _ hws _ _ rfl
      have HB := Lib.hid (And.intro B6 (And.intro O6 (And.intro O0 b6)))
      have HO := Lib.hid hb6
      have HW6 := Lib.hid hw6
      clear hc6 c6 d6 hb6 hg6 b6 B6 O6 O0 bA cA bW
      go_wp2_with fail
      go_meet
      first | exact ⟨rfl, HB.out.2.1, HB.out.1.alloc (Nat.le_of_lt HW6.out) _, HB.out.2.2.2.alloc _⟩ | exact ⟨rfl, own_below HB.out.2.2.1 HO.out, HB.out.1, HB.out.2.2.2⟩
  case rest =>
    obtain ⟨rfl, O1, B1, bA⟩ := hcut
    have c := bA.cell
    obtain ⟨-, hn, hc⟩ := rows_bound HK.out
    obtain ⟨-, hn', hc'⟩ := rows_bound HL.out
    unfold maxLen at hc hc' hnl
    have hkw := kword_small (q : Int)
    have htot : n.size + (strs l).total + (rows Ty.ds 4 kids).total ≤ 1048576 := by
      have e : D.totals (Ty.ds (.mk (q : Int) n l kids)) = n.size + (strs l).total + (rows Ty.ds 4 kids).total := by simp [Ty.ds_eq, D.totals, D.total]; omega
      omega
    have hsz := Ty.text_len (.mk (q : Int) n l kids)
    rw [Ty.text_mk] at hsz
    have HT := Lib.hid (Ty.text_mk (q : Int) n l kids)
    have HO1 := Lib.hid O1
    clear O1
    rcases shape_open HS.out with ⟨e1, e2, e3, e4, rfl, rfl, e5, e6⟩ | ⟨e1, e2, rfl, e3, e4, e5, e6, e7⟩ | ⟨e1, e2, rfl, rfl, e3, e4, e5, e5', e6, e7⟩ | ⟨e1, e2, rfl, rfl, rfl, e3, e4⟩
    · rw [if_pos e1] at hsz
      have E := Lib.hid (And.intro e1 e4)
      have g1 : ¬ ((q : Int) ≤ 11) := by omega
      have hns : n.size ≤ 1048576 := by omega
      clear e1 e2 e4 e3 hsz hq0 hq1 hq
      have e56 : (q : Int) = 20 ∨ (q : Int) = 21 := by omega
      clear e5 e6
      have fin : kword (q : Int) ++ ⟨#[60]⟩ ++ n ++ ⟨#[62]⟩ = tyT (.mk (q : Int) n [] []) := by
        rw [tyT, HT.out, if_pos E.out.1]
        exact ba_of (by simp)
      have FIN := Lib.hid fin
      clear fin
      by_cases e5 : (q : Int) = 20
      · have e5' : ((q : Int) == 20) = true := by simp [e5]
        have E5 := Lib.hid e5
        clear e5 e56
        go_wp2
        go_ret
        exact ⟨ret_eq (congrArg Value.string FIN.out), B1⟩
      · have e5' : ((q : Int) == 20) = false := by simp [e5]
        have e6' : ((q : Int) == 21) = true := by have h : (q : Int) = 21 := (by omega); simp [h]
        clear e5 e56
        go_wp2
        go_ret
        exact ⟨ret_eq (congrArg Value.string FIN.out), B1⟩
    · rw [if_neg (by simp [e1]), if_pos e2, List.length_append, List.length_cons, List.length_append] at hsz
      have E := Lib.hid (And.intro e1 e2)
      obtain ⟨J, hJ⟩ : ∃ J, labs l (kids.map colon) = J := ⟨_, rfl⟩
      rw [hJ] at hsz
      have hJl : J.length = l.length := by rw [← hJ, labs_length]
      have hJs : (Lib.join J [44]).length ≤ 40000000 := by simp at hsz; omega
      have HJ := Lib.hid (And.intro hJ (And.intro hJl hJs))
      have g1 : ¬ ((q : Int) ≤ 11) := by omega
      have g2 : ((q : Int) == 20) = false := by simp; omega
      have g3 : ((q : Int) == 21) = false := by simp; omega
      have g4 : inR 16 (q : Int) 19 = true := by unfold isLabelled at e2; exact e2
      clear e1 e2 hsz hJ e6 e7 hq0 hq1 hq hJl hJs
      go_wp2_with (go_at_call 99; refine (within_any _ _ _ _).mono ?_; rintro e w1 ⟨rfl, rfl⟩; rw [g4])
      clear g1 g2 g3 g4
      have hwc : w.heap.size + 1 ≤ wc.heap.size := bA.lt
      go_loopw [4, 7, 8, 62] (fun v _ _ i wr => TextRel (w.heap.size + 1) l.length J wc v i wr) (fun _ _ _ i _ => l.length - (intOf i).toNat)
      case atStart => exact ⟨0, [], Nat.zero_le _, rfl, rfl, by simp, HO1.out, Below.refl _ _⟩
      case round =>
        obtain ⟨j, T, hj, rfl, hTl, hT, hO, hb⟩ := hrel
        have Bw := B1.trans (hb.mono (Nat.le_succ _))
        have fA := bA.under hb (Nat.lt_succ_self _)
        have hbs : w.heap.size + 1 ≤ wr.heap.size := fA.lt
        clear c
        have c := fA.cell
        have HT2 := Lib.hid (And.intro hTl hT)
        have hTl2 : T.length + 1 ≤ 8796093022208 := by omega
        clear hTl hT
        by_cases hlt : j < l.length
        · obtain ⟨a, ha⟩ : ∃ a, l[j]? = some a := ⟨l[j], List.getElem?_eq_getElem hlt⟩
          have hk0 : (0 : Int) ≤ (j : Int) := by omega
          have hk1 : (j : Int) < (l.length : Int) := by omega
          obtain ⟨b, off, u0, rfl, -, hbl, hat, d0⟩ := rows_at1 strD_length HL.out ha
          obtain ⟨rfl, -⟩ := str_open hat
          replace d0 := (Bw.cell (p := ⟨b, off + j, none⟩) hbl).trans d0
          have has : a.size ≤ 1048576 := by
            have h1 := totals_mem (f := strD) (List.mem_of_getElem? ha)
            have h2 : D.totals (strD a) = a.size := by simp [strD, D.totals, D.total]
            rw [strs, rows_total] at htot
            omega
          have hJj : J[j]? = some (a.data.toList ++ (kids.map colon)[j]?.getD []) := by rw [← HJ.out.1]; exact labs_at ha
          have fin : ∀ (a' : ByteArray), a'.data.toList = a.data.toList ++ (kids.map colon)[j]?.getD [] → (T ++ [a']).map (·.data.toList) = J.take (j + 1) := by
            intro a' h
            rw [List.map_append, HT2.out.2, List.take_add_one, hJj, ← h]; rfl
          have FIN := Lib.hid fin
          have HB := Lib.hid hb
          clear fin hat ha hJj hb
          rcases e5 with rfl | e5
          · go_wp2_with (at_builtin; refine wpList_str hO a (.tmp 90) (.tmp 92) hTl2 hbs wr.heap.size rfl ?_; intro v' w' ho' hb')
            have hb6 := HB.out.trans hb'
            clear hO hb'
            go_wp2
            go_roundw
            case rel => exact ⟨v', _, _, _, ⟨j + 1, T ++ [a], by omega, by go_num, by have := HT2.out.1; simp; omega, FIN.out a (by simp), by simpa using ho', hb6⟩, rfl, rfl, rfl, rfl⟩
            case measure => simp [intOf]; omega
          · obtain ⟨x, hx⟩ : ∃ x, kids[j]? = some x := ⟨kids[j]'(by omega), List.getElem?_eq_getElem (by omega)⟩
            have hk2 : (j : Int) < (kids.length : Int) := by omega
            obtain ⟨b', off', u0, u1, u2, u3, rfl, -, hbl', hat', c0, c1, c2, c3⟩ := rows_at4 Ty.len HK.out hx
            replace c0 := (Bw.cell (p := ⟨b', off' + j * 4, none⟩) hbl').trans c0
            replace c1 := (Bw.cell (p := ⟨b', off' + j * 4 + 1, none⟩) hbl').trans c1
            replace c2 := (Bw.cell (p := ⟨b', off' + j * 4 + 2, none⟩) hbl').trans c2
            replace c3 := (Bw.cell (p := ⟨b', off' + j * 4 + 3, none⟩) hbl').trans c3
            have hxm : x ∈ kids := List.mem_of_getElem? hx
            have HIx := Lib.hid (HI.out x hxm)
            have HXt := Lib.hid (And.intro (hat'.below Bw) (show (kids.map colon)[j]?.getD [] = colon x by rw [List.getElem?_map, hx]; rfl))
            obtain ⟨Y, hY⟩ : ∃ Y, tyT x = Y := ⟨_, rfl⟩
            have hxs : Y.size ≤ 40000000 := by
              rw [← hY, tyT_size]
              have h1 := Ty.text_len x
              have h2 := totals_mem (f := Ty.ds) hxm
              rw [rows_total] at htot
              omega
            unfold TextIs at HIx
            rw [hY] at HIx
            have HY := Lib.hid hY
            have HCC := Lib.hid (And.intro c0 (And.intro c1 (And.intro c2 c3)))
            have HD0 := Lib.hid (And.intro hbl hbl')
            clear hat' hx hxm hY e5
            go_wp2_with fail
            refine (isUnit_t x _ _ HXt.out.1).mono ?_
            rintro e w2 ⟨rfl, hb2⟩
            have lA := fA.lt
            replace fA := fA.call hb2
            clear c
            have c := fA.cell
            have HB2 := Lib.hid (HB.out.trans (hb2.mono hbs))
            have hO2 := own_below hO hb2
            have hbs2 := Nat.le_trans hbs hb2.size
            have Bw2 := Bw.trans (hb2.mono (Nat.le_of_lt lA))
            have HX2 := Lib.hid (D.Ats.below HXt.out.1 hb2)
            have HCD := Lib.hid (And.intro ((hb2.cell (p := ⟨b', off' + j * 4, none⟩) (Nat.lt_of_lt_of_le hbl' Bw.size)).trans c0) (And.intro ((hb2.cell (p := ⟨b', off' + j * 4 + 1, none⟩) (Nat.lt_of_lt_of_le hbl' Bw.size)).trans c1) (And.intro ((hb2.cell (p := ⟨b', off' + j * 4 + 2, none⟩) (Nat.lt_of_lt_of_le hbl' Bw.size)).trans c2) ((hb2.cell (p := ⟨b', off' + j * 4 + 3, none⟩) (Nat.lt_of_lt_of_le hbl' Bw.size)).trans c3))))
            clear hO HB Bw hbs hb2 c0 c1 c2 c3 d0
            cases hu : isU x
            · have EU := Lib.hid (show colon x = 58 :: Y.data.toList by rw [← HY.out, tyT_list]; unfold colon; rw [if_neg (by rw [hu]; decide)])
              obtain ⟨c0, c1, c2, c3⟩ := HCD.out
              clear hu HCD
              go_wp2_with fail
              refine (HIx.out _ _ HX2.out).mono ?_
              rintro e w3 ⟨rfl, hb3⟩
              have hO3 := own_below hO2 hb3
              have HB3 := Lib.hid (HB2.out.trans (hb3.mono hbs2))
              have hbs3 := Nat.le_trans hbs2 hb3.size
              replace fA := fA.call hb3
              clear c c0 c1 c2 c3 hO2 hb3 hbs2
              have c := fA.cell
              go_wp2_with (at_builtin; refine wpList_str hO3 _ (.tmp 90) (.tmp 92) hTl2 hbs3 w3.heap.size rfl ?_; intro v' w' ho' hb')
              have hb6 := HB3.out.trans hb'
              clear hO3 hb' c
              go_wp2
              go_roundw
              case rel => exact ⟨j + 1, T ++ [a ++ (⟨#[58]⟩ ++ Y)], by omega, by go_num, by have := HT2.out.1; simp; omega, FIN.out _ (by rw [HXt.out.2, EU.out]; simp), by simpa using ho', hb6⟩
              case measure => simp [intOf]; omega
            · have EU := Lib.hid (show colon x = [] by unfold colon; rw [if_pos hu])
              clear hu HCD
              go_wp2_with (at_builtin; refine wpList_str hO2 a (.tmp 90) (.tmp 92) hTl2 hbs2 w2.heap.size rfl ?_; intro v' w' ho' hb')
              have hb6 := HB2.out.trans hb'
              clear hO2 hb' c
              go_wp2
              go_roundw
              case rel => exact ⟨j + 1, T ++ [a], by omega, by go_num, by have := HT2.out.1; simp; omega, FIN.out a (by rw [HXt.out.2, EU.out]; simp), by simpa using ho', hb6⟩
              case measure => simp [intOf]; omega
        · obtain rfl : j = l.length := by omega
          have hTe : T.map (·.data.toList) = J := by rw [HT2.out.2, ← HJ.out.2.1, List.take_length]
          have hj := join_owned hO ⟨#[44]⟩ (by rw [hTe]; show (Lib.join J [44]).length ≤ _; have := HJ.out.2.2; omega) (by omega)
          rw [hTe] at hj
          have HJo := Lib.hid hj
          have HTe := Lib.hid hTe
          obtain ⟨Z, hZ⟩ : ∃ Z : ByteArray, (⟨(Lib.join J (⟨#[44]⟩ : ByteArray).data.toList).toArray⟩ : ByteArray) = Z := ⟨_, rfl⟩
          rw [hZ] at HJo
          have hZs : Z.size ≤ 40000000 := by rw [← hZ]; simp [ByteArray.size]; exact HJ.out.2.2
          have HZ := Lib.hid (show Z.data.toList = Lib.join J [44] by rw [← hZ])
          clear hj hTe hZ hO
          go_wp2_with fail
          refine HJo.out.mono ?_
          rintro e w2 ⟨rfl, hb2⟩
          have Bw2 := Bw.trans (hb2.mono Bw.size)
          go_wp2
          go_ret
          refine ⟨ret_eq ?_, Bw2⟩
          rw [tyT, HT.out, if_neg (by rw [E.out.1]; decide), if_pos E.out.2]
          refine congrArg Value.string (ba_of ?_)
          rw [HJ.out.1]
          simp [HZ.out]
    · rw [if_neg (by simp [e1]), if_neg (by simp [e2]), if_pos e4, List.length_append, List.length_cons, List.length_append] at hsz
      have E := Lib.hid (And.intro e1 (And.intro e2 e4))
      obtain ⟨J, hJ⟩ : ∃ J, kids.map Ty.text = J := ⟨_, rfl⟩
      rw [hJ] at hsz
      have hJl : J.length = kids.length := by rw [← hJ, List.length_map]
      have hJs : (Lib.join J [44]).length ≤ 40000000 := by simp at hsz; omega
      have HJ := Lib.hid (And.intro hJ (And.intro hJl hJs))
      have g1 : ¬ ((q : Int) ≤ 11) := by omega
      have g2 : ((q : Int) == 20) = false := by simp; omega
      have g3 : ((q : Int) == 21) = false := by simp; omega
      have g4 : inR 16 (q : Int) 19 = false := by unfold isLabelled at e2; exact e2
      have hks : kids.length ≤ 1048576 := by rw [rows_total] at htot; omega
      clear e1 e2 hsz hJ e4 e5 e5' e6 e7 hq0 hq1 hq hJl hJs
      go_wp2_with (go_at_call 99; refine (within_any _ _ _ _).mono ?_; rintro e w1 ⟨rfl, rfl⟩; rw [g4])
      clear g1 g2 g3 g4
      have hwc : w.heap.size + 1 ≤ wc.heap.size := bA.lt
      go_loopw [4, 6, 43] (fun v _ i wr => TextRel (w.heap.size + 1) kids.length J wc v i wr) (fun _ _ i _ => kids.length - (intOf i).toNat)
      case atStart => exact ⟨0, [], Nat.zero_le _, rfl, rfl, by simp, HO1.out, Below.refl _ _⟩
      case round =>
        obtain ⟨j, T, hj, rfl, hTl, hT, hO, hb⟩ := hrel
        have Bw := B1.trans (hb.mono (Nat.le_succ _))
        have fA := bA.under hb (Nat.lt_succ_self _)
        have hbs : w.heap.size + 1 ≤ wr.heap.size := fA.lt
        clear c
        have c := fA.cell
        have HT2 := Lib.hid (And.intro hTl hT)
        have hTl2 : T.length + 1 ≤ 8796093022208 := by omega
        clear hTl hT
        by_cases hlt : j < kids.length
        · obtain ⟨x, hx⟩ : ∃ x, kids[j]? = some x := ⟨kids[j]'(by omega), List.getElem?_eq_getElem (by omega)⟩
          have hk0 : (0 : Int) ≤ (j : Int) := by omega
          have hk1 : (j : Int) < (kids.length : Int) := by omega
          obtain ⟨b', off', u0, u1, u2, u3, rfl, -, hbl', hat', c0, c1, c2, c3⟩ := rows_at4 Ty.len HK.out hx
          replace c0 := (Bw.cell (p := ⟨b', off' + j * 4, none⟩) hbl').trans c0
          replace c1 := (Bw.cell (p := ⟨b', off' + j * 4 + 1, none⟩) hbl').trans c1
          replace c2 := (Bw.cell (p := ⟨b', off' + j * 4 + 2, none⟩) hbl').trans c2
          replace c3 := (Bw.cell (p := ⟨b', off' + j * 4 + 3, none⟩) hbl').trans c3
          have hxm : x ∈ kids := List.mem_of_getElem? hx
          have HIx := Lib.hid (HI.out x hxm)
          have HXt := Lib.hid (hat'.below Bw)
          have hJj : J[j]? = some x.text := by rw [← HJ.out.1, List.getElem?_map, hx]; rfl
          obtain ⟨Y, hY⟩ : ∃ Y, tyT x = Y := ⟨_, rfl⟩
          have hxs : Y.size ≤ 40000000 := by
            rw [← hY, tyT_size]
            have h1 := Ty.text_len x
            have h2 := totals_mem (f := Ty.ds) hxm
            rw [rows_total] at htot
            omega
          have hY2 : Y.data.toList = x.text := by rw [← hY, tyT_list]
          have FIN := Lib.hid (show (T ++ [Y]).map (·.data.toList) = J.take (j + 1) by rw [List.map_append, HT2.out.2, List.take_add_one, hJj, ← hY2]; rfl)
          unfold TextIs at HIx
          rw [hY] at HIx
          have HB := Lib.hid hb
          obtain ⟨t0, t1, t2, t3, t4, t5, t6, t7, ecs⟩ := Ty.form hat'
          simp only [List.cons.injEq, and_true] at ecs
          obtain ⟨rfl, rfl, rfl, rfl⟩ := ecs
          clear hat' hx hxm hY hJj hY2 hb
          go_wp2_with fail
          refine (HIx.out _ _ (D.Ats.below HXt.out ((Below.refl _ _).alloc (Nat.le_refl _) _))).mono ?_
          rintro e w2 ⟨rfl, hb2⟩
          have hO2 := own_below (hO.alloc _) hb2
          have HB2 := Lib.hid ((HB.out.alloc hbs _).trans (hb2.mono (by simp; omega)))
          have hbs2 : w.heap.size + 1 ≤ w2.heap.size := Nat.le_trans (by simp; omega) hb2.size
          clear hO HB hb2 c0 c1 c2 c3 c
          go_wp2_with (at_builtin; refine wpList_str hO2 _ (.tmp 47) (.tmp 50) hTl2 hbs2 w2.heap.size rfl ?_; intro v' w' ho' hb')
          have hb6 := HB2.out.trans hb'
          clear hO2 hb'
          go_wp2
          go_roundw
          case rel => exact ⟨j + 1, T ++ [Y], by omega, by go_num, by have := HT2.out.1; simp; omega, FIN.out, by simpa using ho', hb6⟩
          case measure => simp [intOf]; omega
        · obtain rfl : j = kids.length := by omega
          have hTe : T.map (·.data.toList) = J := by rw [HT2.out.2, ← HJ.out.2.1, List.take_length]
          have hj := join_owned hO ⟨#[44]⟩ (by rw [hTe]; show (Lib.join J [44]).length ≤ _; have := HJ.out.2.2; omega) (by omega)
          rw [hTe] at hj
          have HJo := Lib.hid hj
          obtain ⟨Z, hZ⟩ : ∃ Z : ByteArray, (⟨(Lib.join J (⟨#[44]⟩ : ByteArray).data.toList).toArray⟩ : ByteArray) = Z := ⟨_, rfl⟩
          rw [hZ] at HJo
          have hZs : Z.size ≤ 40000000 := by rw [← hZ]; simp [ByteArray.size]; exact HJ.out.2.2
          have HZ := Lib.hid (show Z.data.toList = Lib.join J [44] by rw [← hZ])
          clear hj hTe hZ hO
          go_wp2_with fail
          refine HJo.out.mono ?_
          rintro e w2 ⟨rfl, hb2⟩
          have Bw2 := Bw.trans (hb2.mono Bw.size)
          go_wp2
          go_ret
          refine ⟨ret_eq ?_, Bw2⟩
          rw [tyT, HT.out, if_neg (by rw [E.out.1]; decide), if_neg (by rw [E.out.2.1]; decide), if_pos E.out.2.2]
          refine congrArg Value.string (ba_of ?_)
          rw [HJ.out.1]
          simp [HZ.out]
    · rw [if_neg (by simp [e1]), if_neg (by simp [e2]), if_neg (by omega)] at hsz
      have E := Lib.hid (And.intro e1 (And.intro e2 e4))
      clear e1 e2 e3 hsz hq0 hq1 hq
      go_wp2
      go_ret
      refine ⟨ret_eq ?_, B1⟩
      rw [tyT, HT.out, if_neg (by rw [E.out.1]; decide), if_neg (by rw [E.out.2.1]; decide), if_neg (by have := E.out.2.2; omega)]
      simp
theorem typeText_i (x : Ty) (hs : Ty.all shape x = true) (ht : D.totals x.ds ≤ 1048576) : TextIs 114 x := by
  induction x using Ty.ind with
  | h k n l kids ih =>
    obtain ⟨h1, h2⟩ := all_kids hs
    refine typeText_at k n l kids h1 (fun x hx => ih x hx (h2 x hx) ?_) ht
    have h3 := totals_mem (f := Ty.ds) hx
    have e : D.totals (Ty.ds (.mk k n l kids)) = n.size + (strs l).total + (rows Ty.ds 4 kids).total := by simp [Ty.ds_eq, D.totals, D.total]; omega
    rw [rows_total] at e
    omega
end Go.Proofs.YtklhkdihokgpeaaGreatDoor
