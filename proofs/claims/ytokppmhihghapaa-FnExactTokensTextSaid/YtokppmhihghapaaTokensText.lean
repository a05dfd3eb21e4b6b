/- TokensText: what the program's and the reference's function compute, and the law. -/
import Derived.Test.YtokppmhihghapaaGToken
import Derived.Test.YtokppmhihghapaaSameTokens
import Derived.Test.YtokppmhihghapaaStrs
import Derived.Test.YtokppmhihghapaaShelf
namespace Go.Proofs.Ytokppmhihghapaa
open Go.RowKit Go.ChangeShapes Go.WideShapes

/-- The texts of the tokens but the end's. -/
def texts : List Tok → List ByteArray
  | [] => []
  | x :: r => if x.kind = 4 then texts r else x.text :: texts r
def tt (l : List ByteArray) : List UInt8 := Lib.join (l.map (·.data.toList)) [32]
def tokT (l : List Tok) : ByteArray := ⟨(tt (texts l)).toArray⟩
theorem texts_app (a b : List Tok) : texts (a ++ b) = texts a ++ texts b := by
  induction a with
  | nil => rfl
  | cons x r ih => simp only [List.cons_append, texts]; split <;> simp [ih]
theorem texts_next {l : List Tok} {k : Nat} {x : Tok} (hx : l[k]? = some x) : texts (l.take (k + 1)) = texts (l.take k) ++ (if x.kind = 4 then [] else [x.text]) := by
  rw [List.take_add_one, hx, texts_app]
  simp only [Option.toList_some, texts]
theorem tt_nil : tt [] = [] := rfl
theorem tt_snoc (l : List ByteArray) (x : ByteArray) : tt (l ++ [x]) = if l.isEmpty then x.data.toList else tt l ++ (32 :: x.data.toList) := by
  cases l with
  | nil => simp [tt, Lib.join_one]
  | cons y r => simp [tt, Lib.join_cons, Lib.joinTail]
theorem snocInd {α : Type} {P : List α → Prop} (h0 : P []) (h1 : ∀ l x, P l → P (l ++ [x])) (l : List α) : P l := by
  have key : ∀ r : List α, P r.reverse := by
    intro r
    induction r with
    | nil => exact h0
    | cons x r ih => rw [List.reverse_cons]; exact h1 _ _ ih
  have := key l.reverse
  rwa [List.reverse_reverse] at this
theorem texts_len (l : List Tok) : (tt (texts l)).length + 1 ≤ l.length + D.totals (l.flatMap Tok.ds) + 1 ∧ (texts l).length ≤ l.length := by
  refine snocInd (P := fun l => (tt (texts l)).length + 1 ≤ l.length + D.totals (l.flatMap Tok.ds) + 1 ∧ (texts l).length ≤ l.length) ?_ ?_ l
  · simp [texts, tt_nil]
  · intro l x ih
    obtain ⟨h1, h2⟩ := ih
    have ht : D.totals ((l ++ [x]).flatMap Tok.ds) = D.totals (l.flatMap Tok.ds) + x.text.size := by
      rw [List.flatMap_append, D.totals_append]; simp [Tok.ds, D.totals, D.total]
    rw [ht, texts_app]
    simp only [texts]
    split
    · simp; omega
    · have hsz : x.text.data.toList.length = x.text.size := by simp
      refine ⟨?_, by simp only [List.length_append, List.length_cons, List.length_nil]; omega⟩
      rw [tt_snoc]
      split
      · rw [hsz]; simp only [List.length_append, List.length_cons, List.length_nil]; omega
      · rw [List.length_append, List.length_cons, hsz]; simp only [List.length_append, List.length_cons, List.length_nil]; omega
set_option maxHeartbeats 1000000 in
set_option maxRecDepth 20000 in
theorem tokensText_s (l : List Tok) (v : Value) (w : World) (hv : D.At w anyB (rows Tok.ds 3 l) v) (ht : (rows Tok.ds 3 l).total ≤ 1048576) :
    Calls Try.prog 31 #[v] w fun e w' => e = .returned (.string (tokT l)) ∧ Below w.heap.size w w' := by
  obtain ⟨A, cap, rfl, hn, hc⟩ := rows_form Tok.len hv
  unfold maxLen at hc
  rw [rows_total] at ht
  have HV := Lib.hid hv
  clear hv
  go_enter Try.func31, Try.ntmps31
  go_wp2
  go_loopw [3, 4, 5] (fun t b i wr => ∃ (k : Nat) (T : ByteArray), k ≤ l.length ∧ i = .int .i64 k ∧ t = .string T ∧ T.data.toList = tt (texts (l.take k)) ∧ b = .bool (!(texts (l.take k)).isEmpty) ∧ Below w.heap.size w wr) (fun _ _ i _ => l.length - (intOf i).toNat)
  case atStart => exact ⟨0, ⟨#[]⟩, Nat.zero_le _, rfl, rfl, rfl, rfl, Below.refl _ _⟩
  case round =>
    obtain ⟨k, T, hk, rfl, rfl, hT, rfl, hb⟩ := hrel
    have hTs : T.size ≤ 1048577 := by
      have h1 := (texts_len (l.take k)).1
      have h2 := totals_take (f := Tok.ds) l k
      have h3 : T.size = T.data.toList.length := by simp
      rw [h3, hT]
      have h4 : (l.take k).length ≤ l.length := by simp; omega
      omega
    have HT := Lib.hid hT
    clear hT
    by_cases hlt : k < l.length
    · obtain ⟨x, hx⟩ : ∃ x, l[k]? = some x := ⟨l[k], List.getElem?_eq_getElem hlt⟩
      obtain ⟨b, off, u0, u1, u2, rfl, -, hbl, hat, c0, c1, c2⟩ := rows_at3 Tok.len HV.out hx
      replace c0 := (hb.cell (p := ⟨b, off + k * 3, none⟩) hbl).trans c0
      replace c1 := (hb.cell (p := ⟨b, off + k * 3 + 1, none⟩) hbl).trans c1
      replace c2 := (hb.cell (p := ⟨b, off + k * 3 + 2, none⟩) hbl).trans c2
      obtain ⟨ex, -, -, -⟩ := Tok.open_ hat
      simp only [List.cons.injEq, and_true] at ex
      obtain ⟨rfl, rfl, rfl⟩ := ex
      have hxs : x.text.size ≤ 1048576 := by
        have h1 := totals_mem (f := Tok.ds) (List.mem_of_getElem? hx)
        have h2 : D.totals x.ds = x.text.size := by simp [Tok.ds, D.totals, D.total]
        omega
      have hnx := texts_next hx
      clear hx hat
      by_cases h4 : x.kind = 4
      · have g4 : (x.kind == 4) = true := by simp [h4]
        rw [if_pos h4, List.append_nil] at hnx
        have HX := Lib.hid hnx
        clear h4 hnx
        go_wp2
        go_roundw
        case rel => exact ⟨k + 1, T, by omega, by go_num, rfl, by rw [HX.out]; exact HT.out, by rw [HX.out], hb⟩
        case measure => simp [intOf]; omega
      · have g4 : (x.kind == 4) = false := by simp [h4]
        rw [if_neg h4] at hnx
        have hs := tt_snoc (texts (l.take k)) x.text
        rw [← hnx] at hs
        have HX := Lib.hid hnx
        clear h4 hnx
        cases he : (texts (l.take k)).isEmpty
        · rw [he] at hs
          have HS := Lib.hid hs
          have HE := Lib.hid he
          clear hs he
          simp only [Bool.not_false]
          go_wp2
          go_roundw
          case rel =>
            refine ⟨k + 1, _, by omega, by go_num, rfl, ?_, by rw [HX.out]; simp, hb⟩
            rw [HS.out, if_neg (by decide), ← HT.out]
            simp
          case measure => simp [intOf]; omega
        · rw [he] at hs
          have hTe : T = ⟨#[]⟩ := by
            have h1 := HT.out
            rw [List.isEmpty_iff.1 he] at h1
            exact ByteArray.ext (Array.toList_inj.1 h1)
          subst hTe
          have HS := Lib.hid hs
          have HE := Lib.hid he
          clear hs he
          simp only [Bool.not_true]
          go_wp2
          go_roundw
          case rel =>
            refine ⟨k + 1, _, by omega, by go_num, rfl, ?_, by rw [HX.out]; simp, hb⟩
            rw [HS.out, if_pos rfl]
            simp
          case measure => simp [intOf]; omega
    · obtain rfl : k = l.length := by omega
      have hfin : T = tokT l := by
        have h1 := HT.out
        rw [List.take_length] at h1
        exact ByteArray.ext (Array.toList_inj.1 h1)
      subst hfin
      go_wp2
      go_ret
      exact ⟨rfl, hb⟩

theorem info_str'' : (Try.prog.info? 9).map (fun i => (i.zero, i.size, i.bytes)) = some (some (.string ⟨#[]⟩), 1, 16) := by kernel_rfl
/-- Append of one text, just laid in a block of its own, to a row of texts that the call owns. -/
theorem wpList_str {w1 : World} {ops : Array Oper} {rest : List Oper} {o : Oper} {a : Act} {Q : Exit → Act → World → Prop} {base : Nat} {v : Value} {n : Nat} {l : List ByteArray} {fz : Nat × Nat}
    (hown : w1.ownsRow base 9 1 v n (l.map Value.string)) (c : ByteArray) (s x : Operand)
    (hn : n + 1 ≤ 8796093022208) (hbase : base ≤ w1.heap.size) (g : Nat) (hg : w1.heap.size = g)
    (h : ∀ v' w', w'.ownsRow base 9 1 v' (n + 1) ((l ++ [c]).map Value.string) → Below base w1 w' → wpList Try.prog ops Q rest (a.put o.dst v') w')
    (hgd : o.guard = none := by exact rfl) (ho : o.op = .call { callee := .builtin .append, args := #[s, x], argTypes := #[51, 51] } := by exact rfl)
    (hs : a.eval s = v := by exact rfl) (hx : a.eval x = .slice (some ⟨g, 0, none⟩) 1 1 := by exact rfl) :
    wpList Try.prog ops Q (o :: rest) a (w1.alloc (.cells #[.string c] 9 fz)) := by
  subst hg
  obtain ⟨i0, hi, hz0, hz1, hz2⟩ := info_parts info_str''
  refine wpList_append_own _ hgd s x 51 ho base 9 i0 (.string ⟨#[]⟩) 1 16 Try.underlying51 hi hz0 hz1 hz2 rfl (by decide) v n (l.map Value.string) hs (hown.alloc _)
    ⟨w1.heap.size, 0, none⟩ 1 1 [.string c] hx rfl ?_ ?_ (by simp only [maxLen]; omega) (by omega) (by simp; omega) ?_
  · intro j u hj
    match j, hj with
    | 0, hj =>
      simp at hj
      subst hj
      rw [Addr.add_lit, cell_of_row _ _ _ _ _ _ (heap_alloc_new w1 _)]
      rfl
  · intro u hu
    simp at hu
    subst hu
    rfl
  · intro v' w' h1 h2 _
    refine h v' w' (by simpa using h1) ?_
    have hb : Below base w1 (w1.alloc (.cells #[.string c] 9 fz)) := (Below.refl _ _).alloc hbase _
    exact hb.grown h2 (by simp; omega) (fun k hk => (hown.lt k hk).1)
theorem own_form {w : World} {base : Nat} {e : TypeId} {v : Value} {n : Nat} {xs : List Value} (ho : w.ownsRow base e 1 v n xs) (hn : 0 < n) : ∃ g cap, v = .slice (some ⟨g, 0, none⟩) n cap ∧ n ≤ cap ∧ cap ≤ maxLen ∧ g < w.heap.size := by
  rcases ho.2 with ⟨_, h⟩ | ⟨g, cap, cur, h, _, hg, h1, h2, _⟩
  · omega
  · exact ⟨g, cap, h, h1, h2, (Array.getElem?_eq_some_iff.1 hg).1⟩
/-- strings.Join over a row of texts that the call owns. -/
theorem join_own {w : World} {base : Nat} {v : Value} {l : List ByteArray} (ho : w.ownsRow base 9 1 v l.length (l.map Value.string)) (sep : ByteArray) (hl : (Lib.join (l.map (·.data.toList)) sep.data.toList).length ≤ 140737488355328) (hn : l.length ≤ 140737488355328) :
    Calls Try.prog 74 #[v, .string sep] w fun e w' => e = .returned (.string ⟨(Lib.join (l.map (·.data.toList)) sep.data.toList).toArray⟩) ∧ Below w.heap.size w w' := by
  by_cases h0 : l = []
  · subst h0
    rcases ho.2 with ⟨rfl, _⟩ | ⟨g, cap, cur, rfl, _⟩
    · refine (Try.strings_Join_none none 0 sep w).mono ?_
      rintro e w' ⟨rfl, rfl⟩
      exact ⟨rfl, Below.refl _ _⟩
    · refine (Try.strings_Join_none (some ⟨g, 0, none⟩) cap sep w).mono ?_
      rintro e w' ⟨rfl, rfl⟩
      exact ⟨rfl, Below.refl _ _⟩
  · have hpos : 0 < l.length := List.length_pos_iff.2 h0
    obtain ⟨g, cap, rfl, h1, _, h2⟩ := own_form ho hpos
    refine Try.strings_Join g 0 cap l sep w (fun j x hx => ?_) h2 hn h1 hl
    have := ho.cells (g := g) rfl j (.string x) (by rw [List.getElem?_map, hx]; rfl)
    rw [Addr.add_lit] at this
    exact this

set_option maxHeartbeats 1000000 in
set_option maxRecDepth 20000 in
theorem tokensText_i (l : List Tok) (v : Value) (w : World) (hv : D.At w anyB (rows Tok.ds 3 l) v) (ht : (rows Tok.ds 3 l).total ≤ 1048576) :
    Calls Try.prog 32 #[v] w fun e w' => e = .returned (.string (tokT l)) ∧ Below w.heap.size w w' := by
  obtain ⟨A, cap, rfl, hn, hc⟩ := rows_form Tok.len hv
  unfold maxLen at hc
  rw [rows_total] at ht
  have HV := Lib.hid hv
  clear hv
  go_enter Try.func32, Try.ntmps32
  go_wp2
  go_loopw [3, 5, 9] (fun v _ i wr => ∃ k : Nat, k ≤ l.length ∧ i = .int .i64 k ∧ wr.ownsRow w.heap.size 9 1 v (texts (l.take k)).length ((texts (l.take k)).map Value.string) ∧ Below w.heap.size w wr) (fun _ _ i _ => l.length - (intOf i).toNat)
  case atStart => exact ⟨0, Nat.zero_le _, rfl, World.ownsRow_lit _ _ _ (Nat.le_refl _) (by decide) (by rfl), (Below.refl _ _).alloc (Nat.le_refl _) _⟩
  case round =>
    obtain ⟨k, hk, rfl, hown, hb⟩ := hrel
    by_cases hlt : k < l.length
    · obtain ⟨x, hx⟩ : ∃ x, l[k]? = some x := ⟨l[k], List.getElem?_eq_getElem hlt⟩
      obtain ⟨b, off, u0, u1, u2, rfl, -, hbl, hat, c0, c1, c2⟩ := rows_at3 Tok.len HV.out hx
      replace c0 := (hb.cell (p := ⟨b, off + k * 3, none⟩) hbl).trans c0
      replace c1 := (hb.cell (p := ⟨b, off + k * 3 + 1, none⟩) hbl).trans c1
      replace c2 := (hb.cell (p := ⟨b, off + k * 3 + 2, none⟩) hbl).trans c2
      obtain ⟨ex, -, -, -⟩ := Tok.open_ hat
      simp only [List.cons.injEq, and_true] at ex
      obtain ⟨rfl, rfl, rfl⟩ := ex
      have hnx := texts_next hx
      have hl2 : (texts (l.take k)).length + 1 ≤ 8796093022208 := by
        have h1 := (texts_len (l.take k)).2
        have h4 : (l.take k).length ≤ l.length := by simp; omega
        omega
      clear hx hat
      by_cases h4 : x.kind = 4
      · have g4 : (x.kind != 4) = false := by simp [h4]
        rw [if_pos h4, List.append_nil] at hnx
        have HX := Lib.hid hnx
        have HO := Lib.hid (hown.alloc (.cells #[.int .i64 x.kind, .string x.text, .int .i64 x.line] 106))
        have hb2 := hb.alloc hb.size (.cells #[.int .i64 x.kind, .string x.text, .int .i64 x.line] 106)
        clear h4 hnx hown
        go_wp2
        go_roundw
        case rel => exact ⟨k + 1, by omega, by go_num, by rw [HX.out]; exact HO.out, hb2⟩
        case measure => simp [intOf]; omega
      · have g4 : (x.kind != 4) = true := by simp [h4]
        rw [if_neg h4] at hnx
        have HX := Lib.hid hnx
        have hown2 := hown.alloc (.cells #[.int .i64 x.kind, .string x.text, .int .i64 x.line] 106)
        have hb2 := hb.alloc hb.size (.cells #[.int .i64 x.kind, .string x.text, .int .i64 x.line] 106)
        have HB := Lib.hid hb2
        have hbs := hb.size
        clear h4 hnx hown hb2
        go_wp2_with (at_builtin; refine wpList_str hown2 x.text (.tmp 16) (.tmp 19) hl2 (by simp; omega) (wr.heap.size + 1) (by simp) ?_; intro v' w' ho' hb')
        have hb3 := HB.out.trans hb'
        clear hown2 hb' hb
        go_wp2
        go_roundw
        case rel => exact ⟨k + 1, by omega, by go_num, by rw [HX.out]; simpa using ho', hb3⟩
        case measure => simp [intOf]; omega
    · have hal : l.take k = l := List.take_of_length_le (by omega)
      rw [hal] at hown
      have h1 := texts_len l
      have hj := join_own hown ⟨#[32]⟩ (by show (tt (texts l)).length ≤ _; omega) (by omega)
      have HJ := Lib.hid hj
      clear hal hown hj h1
      go_wp2_with fail
      refine HJ.out.mono ?_
      rintro e w2 ⟨rfl, hb2⟩
      go_wp2
      go_ret
      exact ⟨rfl, hb.trans (hb2.mono hb.size)⟩
end Go.Proofs.Ytokppmhihghapaa
