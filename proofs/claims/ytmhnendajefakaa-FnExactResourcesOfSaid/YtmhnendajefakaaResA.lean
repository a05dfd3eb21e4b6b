/- The names of a type's handles: by the reference and by the program. -/
import Derived.Test.YtmhnendajefakaaResW
import Derived.Test.YtmhnendajefakaaTextQ
import Derived.Test.YtmhnendajefakaaTyKids
import Derived.Test.YtmhnendajefakaaTyOkS
import Derived.Test.YtmhnendajefakaaTyOkI
namespace Go.Proofs.Ytmhnendajefakaa
open Go.RowKit Go.Shelf Go.Sort

mutual
/-- The names of the handles, in order. -/
def Ty.res : Ty → List ByteArray
  | .mk k n _ kids => (if isNamed k = true then [n] else []) ++ Ty.ress kids
def Ty.ress : List Ty → List ByteArray
  | [] => []
  | x :: r => Ty.res x ++ Ty.ress r
end
theorem Ty.ress_eq (l : List Ty) : Ty.ress l = l.flatMap Ty.res := by
  induction l with
  | nil => rfl
  | cons x r ih => simp only [Ty.ress, List.flatMap_cons, ih]
theorem Ty.res_mk (k : Int) (n : ByteArray) (l : List ByteArray) (kids : List Ty) : Ty.res (.mk k n l kids) = (if isNamed k = true then [n] else []) ++ kids.flatMap Ty.res := by
  rw [← Ty.ress_eq]; rfl
theorem Ty.res_len (x : Ty) : x.res.length ≤ x.parts := by
  induction x using Ty.ind with
  | h k n l kids ih =>
    rw [Ty.res_mk, Ty.parts_mk, List.length_append]
    have h1 : (kids.flatMap Ty.res).length ≤ Ty.partss kids := by
      induction kids with
      | nil => simp
      | cons x r ihr =>
        have := ih x (by simp)
        have := ihr (fun y hy => ih y (by simp [hy]))
        simp only [List.flatMap_cons, List.length_append, Ty.partss]; omega
    split
    · rw [List.length_singleton]; omega
    · rw [List.length_nil]; omega
def smallS (L : List ByteArray) : Prop := ∀ s ∈ L, s.size ≤ maxLen
theorem smallS.ats {w : World} {S : Nat → Prop} {L : List ByteArray} (h : smallS L) : D.Ats w S (L.flatMap strD) (L.map Value.string) := by
  induction L with
  | nil => exact D.Ats.nil
  | cons s r ih => exact D.Ats.append (str_mk (h s (by simp))) (ih (fun y hy => h y (by simp [hy])))
theorem smallS.own {w : World} {base : Nat} {e : TypeId} {v : Value} {L : List ByteArray} (ho : w.ownsRow base e 1 v L.length (L.map Value.string)) (h : smallS L) (hn : L.length ≤ maxLen) : D.At w anyB (strs L) v :=
  D.At.of_own ho (fun _ _ => trivial) h.ats hn
def putBs (L ss : List ByteArray) : List ByteArray := ss.foldl (fun l s => putB s l) L
theorem putB_len (s : ByteArray) (l : List ByteArray) : (putB s l).length ≤ l.length + 1 := by
  induction l with
  | nil => simp [putB]
  | cons x r ih =>
    unfold putB
    split
    · simp
    · split
      · simp
      · simp; omega
theorem putBs_len (L ss : List ByteArray) : (putBs L ss).length ≤ L.length + ss.length := by
  induction ss generalizing L with
  | nil => simp [putBs]
  | cons s r ih => have h1 := ih (putB s L); have h2 := putB_len s L; simp only [putBs, List.foldl_cons, List.length_cons] at h1 ⊢; omega
theorem putB_small {s : ByteArray} {l : List ByteArray} (h : smallS l) (hs : s.size ≤ maxLen) : smallS (putB s l) := by
  induction l with
  | nil => intro x hx; simp [putB] at hx; exact hx ▸ hs
  | cons y r ih =>
    have hr : smallS r := fun x hx => h x (by simp [hx])
    have hy := h y (by simp)
    unfold putB
    split
    · exact h
    · split
      · intro x hx
        rcases List.mem_cons.1 hx with rfl | hx
        · exact hs
        · exact h x hx
      · intro x hx
        rcases List.mem_cons.1 hx with rfl | hx
        · exact hy
        · exact ih hr x hx
theorem putBs_small {L ss : List ByteArray} (h : smallS L) (hs : smallS ss) : smallS (putBs L ss) := by
  induction ss generalizing L with
  | nil => exact h
  | cons s r ih => exact ih (putB_small h (hs s (by simp))) (fun x hx => hs x (by simp [hx]))
theorem putBs_app (L a b : List ByteArray) : putBs L (a ++ b) = putBs (putBs L a) b := by simp [putBs, List.foldl_append]
theorem Ty.res_small {x : Ty} {w : World} {S : Nat → Prop} {cs : List Value} (h : D.Ats w S x.ds cs) : smallS x.res := by
  revert cs
  induction x using Ty.ind with
  | h k n l kids ih =>
    intro cs h
    obtain ⟨A, c, A', c', rfl, -, hn, -, hk⟩ := Ty.open_ h
    rw [Ty.res_mk]
    intro s hs
    rcases List.mem_append.1 hs with hs | hs
    · split at hs
      · simp at hs; exact hs ▸ hn
      · cases hs
    · obtain ⟨y, hy, hs⟩ := List.mem_flatMap.1 hs
      obtain ⟨i, hi, e⟩ := List.getElem_of_mem hy
      obtain ⟨b, off, us, -, -, -, hat, -⟩ := rows_at Ty.len hk (show kids[i]? = some y by rw [List.getElem?_eq_getElem hi, e])
      exact ih y hy hat s hs
theorem own_mono {w : World} {base base' : Nat} {e : TypeId} {size n : Nat} {v : Value} {xs : List Value} (h : w.ownsRow base e size v n xs) (hb : base' ≤ base) : w.ownsRow base' e size v n xs := by
  refine ⟨h.1, ?_⟩
  rcases h.2 with h | ⟨g, cap, cur, e1, e2, e3⟩
  · exact .inl h
  · exact .inr ⟨g, cap, cur, e1, Nat.le_trans hb e2, e3⟩
theorem own_below' {w w' : World} {base : Nat} {e : TypeId} {size n : Nat} {v : Value} {xs : List Value} (h : w.ownsRow base e size v n xs) (hb : Below w.heap.size w w') : w'.ownsRow base e size v n xs := by
  refine ⟨h.1, ?_⟩
  rcases h.2 with h | ⟨g, cap, cur, e1, e2, e3, e4⟩
  · exact .inl h
  · exact .inr ⟨g, cap, cur, e1, e2, (hb.block g (Array.getElem?_eq_some_iff.1 e3).1).trans e3, e4⟩
theorem flat_next {l : List Ty} {j : Nat} {x : Ty} (hx : l[j]? = some x) : (l.take (j + 1)).flatMap Ty.res = (l.take j).flatMap Ty.res ++ x.res := by
  rw [List.take_add_one, hx]; simp
/-- The reference puts a type's names into a row. -/
def ResS (x : Ty) : Prop := ∀ (L : List ByteArray) (v : Value) (cs : List Value) (B : Nat) (w : World), D.Ats w anyB x.ds cs → w.ownsRow B 9 1 v L.length (L.map Value.string) → smallS L → B ≤ w.heap.size → L.length + x.parts ≤ 1000000 →
  Calls Try.prog 43 #[.agg cs.toArray, v] w fun e w' => ∃ v', e = .returned v' ∧ w'.ownsRow B 9 1 v' (putBs L x.res).length ((putBs L x.res).map Value.string) ∧ Below w.heap.size w w'
theorem putText_own (s : ByteArray) (L : List ByteArray) (v : Value) (B : Nat) (w : World) (ho : w.ownsRow B 9 1 v L.length (L.map Value.string)) (hs : smallS L) (hl : L.length ≤ 1000000) (hB : B ≤ w.heap.size) :
    Calls Try.prog 78 #[v, .string s] w fun e w' => ∃ v', e = .returned v' ∧ w'.ownsRow B 9 1 v' (putB s L).length ((putB s L).map Value.string) ∧ Below w.heap.size w w' := by
  have ha := hs.own ho (by unfold maxLen; omega)
  obtain ⟨A, cap, rfl, -, -⟩ := rows_form strD_length ha
  refine (l03PutText_s s L hl A cap w ha).mono ?_
  rintro e w' ⟨v', rfl, h1, h2⟩
  exact ⟨v', rfl, own_mono h1 hB, h2⟩
set_option maxHeartbeats 2000000 in
set_option maxRecDepth 20000 in
theorem l03Resources_at (k : Int) (n : ByteArray) (l : List ByteArray) (kids : List Ty) (hs : shape (.mk k n l kids) = true) (ih : ∀ x ∈ kids, ResS x) : ResS (.mk k n l kids) := by
  intro L v cs B w hcs ho hsm hB hlen
  rw [Ty.parts_mk] at hlen
  have HS := Lib.hid (Ty.res_small hcs)
  obtain ⟨A, cap, C, cap2, rfl, -, hnl, hl, hk⟩ := Ty.open_ hcs
  obtain ⟨-, hn, hc⟩ := rows_bound hk
  unfold maxLen at hc
  have HK := Lib.hid hk
  have HI := Lib.hid ih
  have HL := Lib.hid (And.intro ho hsm)
  have bA := Box.new w 30 [.int .i64 k, .string n, .slice A l.length cap, .slice C kids.length cap2]
  have HO := Lib.hid (And.intro (ho.alloc (.cells #[.int .i64 k, .string n, .slice A l.length cap, .slice C kids.length cap2] 30)) (And.intro bA (show Below w.heap.size w (w.alloc (.cells #[.int .i64 k, .string n, .slice A l.length cap, .slice C kids.length cap2] 30)) from (Below.refl _ _).alloc (Nat.le_refl _) _)))
  have HR := Lib.hid (Ty.res_mk k n l kids)
  have hname : (isNamed k = true ∧ n.toList.isEmpty = false) ∨ (isNamed k = false ∧ n = ⟨#[]⟩) := by
    rcases shape_open hs with ⟨e1, -, e3, -⟩ | ⟨e1, -, rfl, -⟩ | ⟨e1, -, rfl, -⟩ | ⟨e1, -, rfl, -⟩
    · exact .inl ⟨e1, by rw [List.isEmpty_eq_false_iff]; exact e3⟩
    · exact .inr ⟨e1, rfl⟩
    · exact .inr ⟨e1, rfl⟩
    · exact .inr ⟨e1, rfl⟩
  clear hcs hl hk ih hs bA ho hsm
  rcases hname with ⟨e1, e2⟩ | ⟨e1, rfl⟩
  case' inl =>
    have HE := Lib.hid (show (if isNamed k = true then [n] else []) = [n] from if_pos e1)
    clear e1
    go_enter Try.func43, Try.ntmps43
    go_wp2_with fail
    refine (putText_own n L v B _ HO.out.1 HL.out.2 (by omega) (Nat.le_trans hB (by simp))).mono ?_
    rintro e w1 ⟨v1, rfl, ho1, hb1⟩
    have HF := Lib.hid (And.intro (show w1.ownsRow B 9 1 v1 (putBs L [n]).length ((putBs L [n]).map Value.string) from ho1) (And.intro (Box.call HO.out.2.1 hb1) (HO.out.2.2.trans (hb1.mono (by simp)))))
    have hlp : (putBs L [n]).length + Ty.partss kids ≤ 1000000 := by have := putBs_len L [n]; simp at this; omega
    have hsm1 : smallS (putBs L [n]) := putBs_small HL.out.2 (fun s hs => by simp at hs; exact hs ▸ hnl)
    clear ho1 hb1
    obtain ⟨M, hM⟩ : ∃ M, putBs L [n] = M := ⟨_, rfl⟩
    rw [hM] at HF hlp hsm1
    have HM := Lib.hid (show ∀ r, putBs L ([n] ++ r) = putBs M r from fun r => by rw [putBs_app, hM])
    clear hM
  case' inr =>
    have HE := Lib.hid (show (if isNamed k = true then [⟨#[]⟩] else []) = ([] : List ByteArray) from if_neg (by rw [e1]; decide))
    clear e1
    have HF := HO
    have hlp : L.length + Ty.partss kids ≤ 1000000 := by omega
    have hsm1 : smallS L := HL.out.2
    obtain ⟨M, hM⟩ : ∃ M, L = M := ⟨_, rfl⟩
    have HM := Lib.hid (show ∀ r, putBs L ([] ++ r) = putBs M r from fun r => by rw [List.nil_append, hM])
    rw [hM] at HF hlp hsm1
    clear hM
    go_enter Try.func43, Try.ntmps43
  all_goals
    go_wp2
    go_loopw [1, 5] (fun u i wr => ∃ (j : Nat) (v : Value), j ≤ kids.length ∧ i = .int .i64 j ∧ u = v ∧ wr.ownsRow B 9 1 v (putBs M ((kids.take j).flatMap Ty.res)).length ((putBs M ((kids.take j).flatMap Ty.res)).map Value.string) ∧
      Box wr w.heap.size 30 [.int .i64 k, .string _, .slice A l.length cap, .slice C kids.length cap2] ∧ Below w.heap.size w wr) (fun _ i _ => kids.length - (intOf i).toNat)
    case atStart => exact ⟨0, _, Nat.zero_le _, rfl, rfl, HF.out.1, HF.out.2.1, HF.out.2.2⟩
    case round =>
      obtain ⟨j, u, hj, rfl, rfl, hO, fA, Bw⟩ := hrel
      have c := fA.cell
      by_cases hlt : j < kids.length
      · obtain ⟨x, hx⟩ : ∃ x, kids[j]? = some x := ⟨kids[j], List.getElem?_eq_getElem hlt⟩
        have hk0 : (0 : Int) ≤ (j : Int) := by omega
        have hk1 : (j : Int) < (kids.length : Int) := by omega
        obtain ⟨b', off', u0, u1, u2, u3, rfl, -, hbl', hat', c0, c1, c2, c3⟩ := rows_at4 Ty.len HK.out hx
        replace c0 := (Bw.cell (p := ⟨b', off' + j * 4, none⟩) hbl').trans c0
        replace c1 := (Bw.cell (p := ⟨b', off' + j * 4 + 1, none⟩) hbl').trans c1
        replace c2 := (Bw.cell (p := ⟨b', off' + j * 4 + 2, none⟩) hbl').trans c2
        replace c3 := (Bw.cell (p := ⟨b', off' + j * 4 + 3, none⟩) hbl').trans c3
        have hxm : x ∈ kids := List.mem_of_getElem? hx
        have HIx := Lib.hid (HI.out x hxm)
        have HXt := Lib.hid (hat'.below Bw)
        have hpl : (putBs M ((kids.take j).flatMap Ty.res)).length + x.parts ≤ 1000000 := by
          have h1 := putBs_len M ((kids.take j).flatMap Ty.res)
          have h2 : ((kids.take j).flatMap Ty.res).length ≤ Ty.partss (kids.take j) := by
            have := Ty.res_len (.mk 0 ⟨#[]⟩ [] (kids.take j))
            rw [Ty.res_mk, Ty.parts_mk, if_neg (by decide)] at this
            simp only [List.nil_append] at this
            have key : ∀ l : List Ty, (l.flatMap Ty.res).length ≤ Ty.partss l := by
              intro l
              induction l with
              | nil => simp
              | cons y r ihr => have := Ty.res_len y; simp only [List.flatMap_cons, List.length_append, Ty.partss]; omega
            exact key _
          have h3 := Ty.partss_next hx
          have h4 := Ty.partss_take kids (j + 1)
          omega
        have hsx : smallS (putBs M ((kids.take j).flatMap Ty.res)) := putBs_small hsm1 (fun s hs => HS.out s (by
          rw [HR.out]
          refine List.mem_append.2 (.inr ?_)
          obtain ⟨y, hy, h⟩ := List.mem_flatMap.1 hs
          exact List.mem_flatMap.2 ⟨y, List.mem_of_mem_take hy, h⟩))
        have HN := Lib.hid (show putBs (putBs M ((kids.take j).flatMap Ty.res)) x.res = putBs M ((kids.take (j + 1)).flatMap Ty.res) by rw [flat_next hx, putBs_app])
        have HO2 := Lib.hid (And.intro hO hsx)
        clear hat' hx hxm hO hsx
        go_wp2_with fail
        refine (HIx.out _ _ _ B _ HXt.out HO2.out.1 HO2.out.2 (Nat.le_trans hB Bw.size) hpl).mono ?_
        rintro e w2 ⟨v2, rfl, ho2, hb2⟩
        rw [HN.out] at ho2
        have HB2 := Lib.hid (And.intro ho2 (And.intro (fA.call hb2) (Bw.trans (hb2.mono Bw.size))))
        clear c0 c1 c2 c3 c ho2 hb2
        go_wp2
        go_roundw
        case rel => exact ⟨j + 1, v2, by omega, by go_num, rfl, HB2.out⟩
        case measure => simp [intOf]; omega
      · obtain rfl : j = kids.length := by omega
        have HB2 := Lib.hid (And.intro hO Bw)
        clear hO
        go_wp2
        go_ret
        refine ⟨_, rfl, ?_, HB2.out.2⟩
        have h := HB2.out.1
        rw [List.take_length] at h
        rw [HR.out, HE.out, HM.out]
        exact h
theorem l03Resources_s (x : Ty) (hs : Ty.all shape x = true) : ResS x := by
  induction x using Ty.ind with
  | h k n l kids ih =>
    obtain ⟨h1, h2⟩ := all_kids hs
    exact l03Resources_at k n l kids h1 (fun x hx => ih x hx (h2 x hx))
end Go.Proofs.Ytmhnendajefakaa
