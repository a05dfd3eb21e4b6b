/- Reserved: what the program's and the reference's function compute, and the law. -/
import Derived.Test.YtokppmhihghapaaCore
import Derived.Test.YtokppmhihghapaaStrs
import Derived.Test.YtokppmhihghapaaTree
import Derived.Test.YtokppmhihghapaaShelf
namespace Go.Proofs.Ytokppmhihghapaa
open Go.RowKit

def wordsP : List ByteArray := [⟨#[117, 110, 105, 116]⟩, ⟨#[98, 111, 111, 108]⟩, ⟨#[117, 56]⟩, ⟨#[115, 56]⟩, ⟨#[117, 49, 54]⟩, ⟨#[115, 49, 54]⟩, ⟨#[117, 51, 50]⟩, ⟨#[115, 51, 50]⟩, ⟨#[115, 54, 52]⟩, ⟨#[99, 104, 97, 114]⟩, ⟨#[116, 101, 120, 116]⟩]
def wordsM : List ByteArray := [⟨#[108, 105, 115, 116]⟩, ⟨#[111, 112, 116, 105, 111, 110]⟩, ⟨#[114, 101, 115, 117, 108, 116]⟩, ⟨#[116, 117, 112, 108, 101]⟩, ⟨#[114, 101, 99, 111, 114, 100]⟩, ⟨#[118, 97, 114, 105, 97, 110, 116]⟩, ⟨#[101, 110, 117, 109]⟩, ⟨#[102, 108, 97, 103, 115]⟩, ⟨#[111, 119, 110]⟩, ⟨#[98, 111, 114, 114, 111, 119]⟩, ⟨#[115, 116, 114, 101, 97, 109]⟩, ⟨#[102, 117, 116, 117, 114, 101]⟩]
def words : List ByteArray := wordsP ++ wordsM
/-- A word that is reserved. -/
def isWord (s : ByteArray) : Bool := words.any fun x => x.toList == s.toList
theorem words_len : words.length = 23 := rfl
theorem info_str' : (Try.prog.info? 9).map (fun i => (i.zero, i.size, i.bytes)) = some (some (.string ⟨#[]⟩), 1, 16) := by kernel_rfl
/-- A row of texts of the call's own, in a block that is told. -/
def RetRow (l : List ByteArray) (n : Nat) (w : World) (e : Ending) (w' : World) : Prop := e = .returned (.slice (some ⟨w.heap.size, 0, none⟩) n n) ∧ w' = w.alloc (.cells (l.map Value.string).toArray 9)
theorem l06Plain_s (w : World) : Calls Try.prog 104 #[] w (RetRow wordsP 11 w) := by
  go_enter Try.func104, Try.ntmps104
  go_wp2
  go_ret
  exact ⟨rfl, rfl⟩
theorem l06Made_s (w : World) : Calls Try.prog 105 #[] w (RetRow wordsM 12 w) := by
  go_enter Try.func105, Try.ntmps105
  go_wp2
  go_ret
  exact ⟨rfl, rfl⟩
theorem kindWords_i (w : World) : Calls Try.prog 59 #[] w (RetRow (⟨#[]⟩ :: words) 24 w) := by
  go_enter Try.func59, Try.ntmps59
  go_wp2
  go_ret
  exact ⟨rfl, rfl⟩
theorem isWord_no {s : ByteArray} (h : ∀ (i : Nat) (x : ByteArray), words[i]? = some x → (x.toList == s.toList) = false) : isWord s = false := by
  unfold isWord
  rw [List.any_eq_false]
  intro x hx
  obtain ⟨i, hi⟩ := List.mem_iff_getElem?.1 hx
  simp [h i x hi]
theorem isWord_yes {s x : ByteArray} {i : Nat} (hx : words[i]? = some x) (h : (x.toList == s.toList) = true) : isWord s = true := by
  unfold isWord
  rw [List.any_eq_true]
  exact ⟨x, List.mem_of_getElem? hx, h⟩

set_option maxHeartbeats 1000000 in
set_option maxRecDepth 20000 in
theorem l06Kind_s (s : ByteArray) (w : World) : Calls Try.prog 57 #[.string s] w fun e w' => (∃ k : Int, e = .returned (.int .i64 k) ∧ (decide (0 < k)) = isWord s) ∧ Below w.heap.size w w' := by
  go_enter Try.func57, Try.ntmps57
  go_wp2_with fail
  refine (l06Plain_s _).mono ?_
  rintro e w1 ⟨rfl, rfl⟩
  go_wp2_with fail
  refine (l06Made_s _).mono ?_
  rintro e w2 ⟨rfl, rfl⟩
  obtain ⟨i0, hi, hz0, hz1, hz2⟩ := info_parts info_str'
  have hown := (World.ownsRow_lit (base := w.heap.size) (e := 9) (size := 1) w (wordsP.map Value.string).toArray 11 (Nat.le_refl _) (by decide) (by simp [wordsP])).alloc (.cells (wordsM.map Value.string).toArray 9)
  have hB : Below w.heap.size w ((w.alloc (.cells (wordsP.map Value.string).toArray 9)).alloc (.cells (wordsM.map Value.string).toArray 9)) := ((Below.refl _ _).alloc (Nat.le_refl _) _).alloc (by simp) _
  have hbox : Box ((w.alloc (.cells (wordsP.map Value.string).toArray 9)).alloc (.cells (wordsM.map Value.string).toArray 9)) (w.heap.size + 1) 9 (wordsM.map Value.string) := by
    have := Box.new (w.alloc (.cells (wordsP.map Value.string).toArray 9)) 9 (wordsM.map Value.string)
    simpa using this
  have hsz : w.heap.size + 1 < ((w.alloc (.cells (wordsP.map Value.string).toArray 9)).alloc (.cells (wordsM.map Value.string).toArray 9)).heap.size := by simp
  generalize (w.alloc (.cells (wordsP.map Value.string).toArray 9)).alloc (.cells (wordsM.map Value.string).toArray 9) = w0 at *
  have happ : ∀ (ops : Array Oper) (rest : List Oper) (o : Oper) (a : Act) (Q : Exit → Act → World → Prop), o.guard = none →
      o.op = .call { callee := .builtin .append, args := #[.tmp 5, .tmp 6], argTypes := #[51, 51] } → a.eval (.tmp 5) = .slice (some ⟨w.heap.size, 0, none⟩) 11 11 → a.eval (.tmp 6) = .slice (some ⟨w.heap.size + 1, 0, none⟩) 12 12 →
      (∀ v' w', w'.ownsRow w.heap.size 9 1 v' 23 (words.map Value.string) → Below w.heap.size w w' → wpList Try.prog ops Q rest (a.put o.dst v') w') → wpList Try.prog ops Q (o :: rest) a w0 := by
    intro ops rest o a Q h1 h2 h3 h4 h5
    refine wpList_append_own _ h1 (.tmp 5) (.tmp 6) 51 h2 w.heap.size 9 i0 (.string ⟨#[]⟩) 1 16 Try.underlying51 hi hz0 hz1 hz2 rfl (by decide) (.slice (some ⟨w.heap.size, 0, none⟩) 11 11) 11 _ h3 hown ⟨w.heap.size + 1, 0, none⟩ 12 12 (wordsM.map Value.string) h4 rfl ?_ ?_ (by decide) (by decide) hB.size ?_
    · intro j u hj
      rw [Addr.add_lit, Nat.zero_add, hbox.cell]
      simpa using hj
    · intro u hu
      obtain ⟨x, _, rfl⟩ := List.mem_map.1 hu
      rfl
    · intro v' w' k1 k2 _
      refine h5 v' w' (by simpa [words] using k1) ?_
      exact own_grown_below hB hown k2 hB.size
  have HA := Lib.hid happ
  clear happ hown hbox hsz hi hz0 hz1 hz2
  go_wp2_with (at_builtin; refine HA.out _ _ _ _ _ rfl rfl rfl rfl ?_; intro v' w3 ho3 hb3)
  have hv3 : ∃ g cap, v' = .slice (some ⟨g, 0, none⟩) 23 cap ∧ 23 ≤ cap ∧ cap ≤ maxLen := by
    rcases ho3.2 with ⟨_, h⟩ | ⟨g, cap, cur, h, _, _, h1, h2, _⟩
    · exact absurd h (by decide)
    · exact ⟨g, cap, h, h1, h2⟩
  obtain ⟨g, cap, rfl, hcap, hcm⟩ := hv3
  unfold maxLen at hcm
  have hcell : ∀ j x, words[j]? = some x → w3.cell? ⟨g, j, none⟩ = some (.string x) := by
    intro j x hx
    have := ho3.cells (g := g) rfl j (.string x) (by rw [List.getElem?_map, hx]; rfl)
    rw [Addr.add_lit, Nat.zero_add] at this
    exact this
  have HC := Lib.hid hcell
  clear hcell ho3 HA hB
  go_wp2
  go_loopw [4] (fun i wr => ∃ k : Nat, k ≤ 23 ∧ i = .int .i64 k ∧ (∀ j x, j < k → words[j]? = some x → (x.toList == s.toList) = false) ∧ Below w3.heap.size w3 wr) (fun i _ => 23 - (intOf i).toNat)
  case atStart => exact ⟨0, Nat.zero_le _, rfl, fun j x h => absurd h (by omega), Below.refl _ _⟩
  case round =>
    obtain ⟨k, hk, rfl, hno, hb⟩ := hrel
    have hb4 := hb3.trans (hb.mono hb3.size)
    have HN := Lib.hid hno
    clear hno
    by_cases hlt : k < 23
    · obtain ⟨x, hx⟩ : ∃ x, words[k]? = some x := ⟨words[k]'(by rw [words_len]; exact hlt), List.getElem?_eq_getElem _⟩
      have hc0 := HC.out k x hx
      have hc := (hb.cell (p := ⟨g, k, none⟩) (World.block_lt_of_cell? _ _ hc0)).trans hc0
      clear hc0
      have hki : (k : Int) < 23 := by omega
      have HX := Lib.hid hx
      clear hx
      cases he : (x.toList == s.toList)
      · have HE := Lib.hid he
        go_wp2
        go_roundw
        case rel =>
          refine ⟨k + 1, by omega, by go_num, fun j y hj hy => ?_, hb⟩
          by_cases hjk : j < k
          · exact HN.out j y hjk hy
          · obtain rfl : j = k := by omega
            have := hy.symm.trans HX.out
            injection this with this
            subst this
            exact HE.out
        case measure => simp [intOf]; omega
      · have HE := Lib.hid (isWord_yes HX.out he)
        go_wp2
        go_ret
        exact ⟨⟨_, rfl, by rw [HE.out]; first | done | (simp <;> omega)⟩, hb4⟩
    · have HE := Lib.hid (isWord_no (fun i x hx => HN.out i x (by have := (List.getElem?_eq_some_iff.1 hx).1; rw [words_len] at this; omega) hx))
      go_wp2
      go_ret
      exact ⟨⟨_, rfl, by rw [HE.out]; first | done | decide⟩, hb4⟩

theorem reserved_s (s : ByteArray) (w : World) : Calls Try.prog 14 #[.string s] w fun e w' => e = .returned (.bool (isWord s)) ∧ Below w.heap.size w w' := by
  go_enter Try.func14, Try.ntmps14
  go_wp2_with fail
  refine (l06Kind_s s _).mono ?_
  rintro e w1 ⟨⟨k, rfl, hk⟩, hb1⟩
  have HK := Lib.hid hk
  clear hk
  go_wp2
  go_ret
  exact ⟨ret_eq (by rw [← HK.out]; rfl), hb1⟩
theorem isWord_empty {s : ByteArray} (h : s.toList = []) : isWord s = false := by
  unfold isWord
  rw [h]
  decide +kernel
theorem contains_word {s : ByteArray} (h : s.toList ≠ []) : Lib.containsS (((⟨#[]⟩ : ByteArray) :: words).take 24) s = isWord s := by
  have ht : ((⟨#[]⟩ : ByteArray) :: words).take 24 = (⟨#[]⟩ : ByteArray) :: words := List.take_of_length_le (by simp [words_len])
  rw [ht, Bool.eq_iff_iff, Lib.containsS_iff, isWord, List.any_eq_true]
  constructor
  · intro hm
    rcases List.mem_cons.1 hm with rfl | hm
    · exact absurd (by rw [Lib.toList_data]) h
    · exact ⟨s, hm, by simp⟩
  · rintro ⟨x, hx, he⟩
    have e : x = s := by
      have e1 := eq_of_beq he
      rw [Lib.toList_data, Lib.toList_data] at e1
      exact ByteArray.ext (Array.toList_inj.1 e1)
    subst e
    exact List.mem_cons_of_mem _ hx
theorem cell_getD (l : List ByteArray) (j : Nat) (h : j < l.length) : ((l.map Value.string).toArray)[j]? = some (.string (l.getD j ByteArray.empty)) := by
  simp [List.getElem?_eq_getElem h]
set_option maxRecDepth 20000 in
theorem reserved_i (s : ByteArray) (w : World) : Calls Try.prog 15 #[.string s] w fun e w' => e = .returned (.bool (isWord s)) ∧ Below w.heap.size w w' := by
  cases hs : s.toList.isEmpty
  · have hs2 : ¬ s.toList = [] := by simpa using hs
    have HW := Lib.hid (contains_word hs2)
    go_enter Try.func15, Try.ntmps15
    go_wp2_with fail
    refine (kindWords_i _).mono ?_
    rintro e w1 ⟨rfl, rfl⟩
    have hbox := Box.new w 9 (((⟨#[]⟩ : ByteArray) :: words).map Value.string)
    have hB : Below w.heap.size w (w.alloc (.cells (((⟨#[]⟩ : ByteArray) :: words).map Value.string).toArray 9)) := (Below.refl _ _).alloc (Nat.le_refl _) _
    generalize (w.alloc (.cells (((⟨#[]⟩ : ByteArray) :: words).map Value.string).toArray 9)) = w0 at *
    have HX := Lib.hid hbox
    clear hbox
    go_wp2_with fail
    refine (Try.slices_Contains_string w.heap.size 0 24 24 (⟨#[]⟩ :: words) s _ (by simp [words_len]) (by decide) (fun j hj => ?_)).mono ?_
    · rw [Nat.zero_add, HX.out.cell]
      exact cell_getD _ j hj
    rintro e w1 ⟨rfl, rfl⟩
    rw [HW.out]
    go_wp2
    go_ret
    exact ⟨rfl, hB⟩
  · have hs2 : s.toList = [] := by simpa using hs
    have HW := Lib.hid (isWord_empty hs2)
    go_enter Try.func15, Try.ntmps15
    go_wp2
    go_ret
    exact ⟨ret_eq (by rw [HW.out]; rfl), Below.refl _ _⟩
theorem law_FnExactReserved (s : ByteArray) (_ : s.size ≤ maxLen) (w : World) :
    Calls Try.prog 3 #[.string s] w fun e w' => e = .returned (.bool true) ∧ Below w.heap.size w w' := by
  by_cases hb : s.size ≤ 1048576
  · go_enter Try.func3, Try.ntmps3
    go_wp2_with (first
      | (go_at_call 14; refine (reserved_s s _).mono ?_; rintro e w1 ⟨rfl, hb1⟩)
      | (go_at_call 15; refine (reserved_i s _).mono ?_; rintro e w2 ⟨rfl, hb2⟩))
    go_ret
    exact ⟨rfl, hb1.trans (hb2.mono hb1.size)⟩
  · go_enter Try.func3, Try.ntmps3
    go_wp2
    go_ret
    exact ⟨rfl, Below.refl _ _⟩
end Go.Proofs.Ytokppmhihghapaa
