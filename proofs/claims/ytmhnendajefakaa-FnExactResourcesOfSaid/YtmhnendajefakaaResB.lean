/- The names of a type's handles: by the program; both functions whole. -/
import Derived.Test.YtmhnendajefakaaResA
import Derived.Test.YtmhnendajefakaaAppS
namespace Go.Proofs.Ytmhnendajefakaa
open Go.RowKit Go.Shelf Go.Sort

/-- Append of a row of texts to a row of texts that the call owns. -/
theorem wpList_strs {w1 : World} {ops : Array Oper} {rest : List Oper} {o : Oper} {a : Act} {Q : Exit → Act → World → Prop} {base : Nat} {v : Value} {n : Nat} {l : List ByteArray}
    (hown : w1.ownsRow base 9 1 v n (l.map Value.string)) (hv : v ≠ .slice none 0 0) (r : List ByteArray) (g m c : Nat) (hm : r.length = m) (hr : w1.ownsRow base 9 1 (.slice (some ⟨g, 0, none⟩) m c) m (r.map Value.string)) (s x : Operand)
    (hn : n + m ≤ 8796093022208) (hbase : base ≤ w1.heap.size)
    (h : ∀ g' c' w', w'.ownsRow base 9 1 (.slice (some ⟨g', 0, none⟩) (n + m) c') (n + m) ((l ++ r).map Value.string) → Below base w1 w' → wpList Try.prog ops Q rest (a.put o.dst (.slice (some ⟨g', 0, none⟩) (n + m) c')) w')
    (hgd : o.guard = none := by exact rfl) (ho : o.op = .call { callee := .builtin .append, args := #[s, x], argTypes := #[22, 22] } := by exact rfl)
    (hs : a.eval s = v := by exact rfl) (hx : a.eval x = .slice (some ⟨g, 0, none⟩) m c := by exact rfl) :
    wpList Try.prog ops Q (o :: rest) a w1 := by
  obtain ⟨i0, hi, hz0, hz1, hz2⟩ := info_parts info_str''
  refine wpList_append_own _ hgd s x 22 ho base 9 i0 (.string ⟨#[]⟩) 1 16 Try.underlying22 hi hz0 hz1 hz2 rfl (by decide) v n (l.map Value.string) hs hown
    ⟨g, 0, none⟩ m c (r.map Value.string) hx (by simp [hm]) ?_ ?_ (by simp only [maxLen]; omega) (by omega) (by omega) ?_
  · exact hr.cells (g := g) rfl
  · intro u hu
    obtain ⟨y, -, rfl⟩ := List.mem_map.1 hu
    rfl
  · intro v' w' h1 h2 h3
    have hne : v' ≠ .slice none 0 0 := fun e => hv (h3.1 e).1
    have hb : Below base w1 w' := (Below.refl _ _).grown h2 hbase (fun k hk => (hown.lt k hk).1)
    rcases h1.2 with ⟨rfl, _⟩ | ⟨g', c', cur, rfl, h4⟩
    · exact absurd rfl hne
    · exact h g' c' w' (by simpa using h1) hb
theorem own_empty' (w : World) (base : Nat) (hb : base ≤ w.heap.size) (e : TypeId) (g : Nat) (hg : w.heap.size = g) : (w.alloc (.cells #[] e)).ownsRow base e 1 (.slice (some ⟨g, 0, none⟩) 0 0) 0 [] := by
  subst hg
  exact World.ownsRow_lit _ _ _ hb (by decide) (by rfl)
theorem own_some {w : World} {base : Nat} {e : TypeId} {v : Value} {xs : List Value} (ho : w.ownsRow base e 1 v (0 + 1) xs) : ∃ g c, v = .slice (some ⟨g, 0, none⟩) 1 c := by
  rcases ho.2 with ⟨-, h⟩ | ⟨g, c, cur, h, -⟩
  · omega
  · exact ⟨g, c, h⟩
def ResI (x : Ty) : Prop := ∀ (cs : List Value) (w : World), D.Ats w anyB x.ds cs →
  Calls Try.prog 48 #[.agg cs.toArray] w fun e w' => ∃ g c, e = .returned (.slice (some ⟨g, 0, none⟩) x.res.length c) ∧ w'.ownsRow w.heap.size 9 1 (.slice (some ⟨g, 0, none⟩) x.res.length c) x.res.length (x.res.map Value.string) ∧ Below w.heap.size w w'
/-- Between two rounds: the names so far. -/
def ResRel (w : World) (kids : List Ty) (N : List ByteArray) (cells : List Value) (v i : Value) (wr : World) : Prop :=
  ∃ (j g c : Nat) (T : List ByteArray), j ≤ kids.length ∧ i = .int .i64 j ∧ T = N ++ (kids.take j).flatMap Ty.res ∧ v = .slice (some ⟨g, 0, none⟩) T.length c ∧ wr.ownsRow (w.heap.size + 1) 9 1 v T.length (T.map Value.string) ∧
    Box wr w.heap.size 30 cells ∧ Below w.heap.size w wr
theorem Box.under' {w w' : World} {B g : Nat} {t : TypeId} {cs : List Value} (h : Box w g t cs) (hb : Below B w w') (hg : g < B) : Box w' g t cs := (hb.block g hg).trans h
set_option maxHeartbeats 2000000 in
set_option maxRecDepth 20000 in
theorem resources_at (k : Int) (n : ByteArray) (l : List ByteArray) (kids : List Ty) (hp : Ty.parts (.mk k n l kids) ≤ 1000000) (ih : ∀ x ∈ kids, ResI x) : ResI (.mk k n l kids) := by
  intro cs w hcs
  rw [Ty.parts_mk] at hp
  obtain ⟨A, cap, C, cap2, rfl, -, hnl, hl, hk⟩ := Ty.open_ hcs
  obtain ⟨-, hn, hc⟩ := rows_bound hk
  unfold maxLen at hc
  have HK := Lib.hid hk
  have HI := Lib.hid ih
  have HR := Lib.hid (Ty.res_mk k n l kids)
  have bA := Box.new w 30 [.int .i64 k, .string n, .slice A l.length cap, .slice C kids.length cap2]
  have O0 : ((w.alloc (.cells #[.int .i64 k, .string n, .slice A l.length cap, .slice C kids.length cap2] 30)).alloc (.cells #[] 9)).ownsRow (w.heap.size + 1) 9 1 (.slice (some ⟨w.heap.size + 1, 0, none⟩) 0 0) 0 (([] : List ByteArray).map Value.string) :=
    own_empty' _ _ (by simp) _ _ (by simp)
  have B0 : Below w.heap.size w ((w.alloc (.cells #[.int .i64 k, .string n, .slice A l.length cap, .slice C kids.length cap2] 30)).alloc (.cells #[] 9)) := ((Below.refl _ _).alloc (Nat.le_refl _) _).alloc (by simp) _
  have HO := Lib.hid (And.intro O0 (And.intro (bA.alloc (.cells #[] 9)) B0))
  have hno : isNamed k = true ↔ (k = 20 ∨ k = 21) := by unfold isNamed; simp
  clear hcs hl hk ih bA O0 B0
  have tail : ∀ (N : List ByteArray) (W : World), (if isNamed k = true then [n] else []) = N → True := fun _ _ _ => trivial
  clear tail
  by_cases hnm : k = 20 ∨ k = 21
  case' pos =>
    have HE := Lib.hid (show (if isNamed k = true then [n] else []) = [n] from if_pos (hno.2 hnm))
    have HNo := Lib.hid hno
    clear hno
    by_cases h20 : k = 20
    case' pos =>
      have e20 : (k == 20) = true := by simp [h20]
    case' neg =>
      have e20 : (k == 20) = false := by simp [h20]
      have e21 : (k == 21) = true := by have h : k = 21 := (by omega); simp [h]
    all_goals
      clear hnm h20
      have q1 : 0 + 1 ≤ 8796093022208 := by omega
      have q2 : w.heap.size + 1 ≤ ((w.alloc (.cells #[.int .i64 k, .string n, .slice A l.length cap, .slice C kids.length cap2] 30)).alloc (.cells #[] 9)).heap.size := by first | (simp; done) | (simp; omega)
      have q3 : ((w.alloc (.cells #[.int .i64 k, .string n, .slice A l.length cap, .slice C kids.length cap2] 30)).alloc (.cells #[] 9)).heap.size = w.heap.size + 2 := by first | (simp; done) | (simp; omega)
      go_enter Try.func48, Try.ntmps48
      go_wp2_with (at_builtin; refine wpList_str HO.out.1 n (.tmp 15) (.tmp 18) q1 q2 (w.heap.size + 2) q3 ?_; intro v' w' ho' hb'; obtain ⟨g, c, rfl⟩ := own_some ho'; have cb := (HO.out.2.1.under' hb' (Nat.lt_succ_self _)).cell)
      have HF := Lib.hid (And.intro (show w'.ownsRow (w.heap.size + 1) 9 1 (.slice (some ⟨g, 0, none⟩) 1 c) ([n] : List ByteArray).length (([n] : List ByteArray).map Value.string) from ho') (And.intro (HO.out.2.1.under' hb' (Nat.lt_succ_self _)) (HO.out.2.2.trans (hb'.mono (Nat.le_succ _)))))
      clear ho' hb' q1 q2 q3 cb
  case' neg =>
    have HE := Lib.hid (show (if isNamed k = true then [n] else []) = ([] : List ByteArray) from if_neg (fun h => hnm (hno.1 h)))
    have e20 : (k == 20) = false := by simp; omega
    have e21 : (k == 21) = false := by simp; omega
    clear hnm hno
    have HF := HO
    go_enter Try.func48, Try.ntmps48
    go_wp2
  all_goals
    go_loopw [3, 5, 23] (fun v _ i wr => ResRel w kids (if isNamed k = true then [n] else []) [.int .i64 k, .string n, .slice A l.length cap, .slice C kids.length cap2] v i wr) (fun _ _ i _ => kids.length - (intOf i).toNat)
    case atStart => exact ⟨0, _, _, _, Nat.zero_le _, rfl, by rw [HE.out]; simp, rfl, HF.out⟩
    case round =>
      obtain ⟨j, g, c, T, hj, rfl, hT, rfl, hO, fA, Bw⟩ := hrel
      have HT := Lib.hid hT
      have hTl : T.length ≤ 1 + Ty.partss kids := by
        rw [hT, List.length_append]
        have key : ∀ l : List Ty, (l.flatMap Ty.res).length ≤ Ty.partss l := by
          intro l
          induction l with
          | nil => simp
          | cons y r ihr => have := Ty.res_len y; simp only [List.flatMap_cons, List.length_append, Ty.partss]; omega
        have h2 := key (kids.take j)
        have h3 := Ty.partss_take kids j
        have h4 : (if isNamed k = true then [n] else []).length ≤ 1 := by split <;> simp
        omega
      clear hT
      have hbs : w.heap.size + 1 ≤ wr.heap.size := fA.lt
      have cc := fA.cell
      by_cases hlt : j < kids.length
      · obtain ⟨x, hx⟩ : ∃ x, kids[j]? = some x := ⟨kids[j], List.getElem?_eq_getElem hlt⟩
        have hk0 : (0 : Int) ≤ (j : Int) := by omega
        have hk1 : (j : Int) < (kids.length : Int) := by omega
        obtain ⟨b', off', u0, u1, u2, u3, rfl, -, hbl', hat', c0, c1, c2, c3⟩ := rows_at4 Ty.len HK.out hx
        replace c0 := (Bw.cell (p := ⟨b', off' + j * 4, none⟩) hbl').trans c0
        replace c1 := (Bw.cell (p := ⟨b', off' + j * 4 + 1, none⟩) hbl').trans c1
        replace c2 := (Bw.cell (p := ⟨b', off' + j * 4 + 2, none⟩) hbl').trans c2
        replace c3 := (Bw.cell (p := ⟨b', off' + j * 4 + 3, none⟩) hbl').trans c3
        have hxm : x ∈ kids := List.mem_of_getElem? hx
        have HIx := Lib.hid (HI.out x hxm)
        have HXt := Lib.hid (hat'.below Bw)
        have hxl : x.res.length ≤ Ty.partss kids := Nat.le_trans (Ty.res_len x) (Ty.parts_mem hxm)
        have HN := Lib.hid (show T ++ x.res = (if isNamed k = true then [n] else []) ++ (kids.take (j + 1)).flatMap Ty.res by rw [flat_next hx, HT.out, List.append_assoc])
        obtain ⟨t0, t1, t2, t3, t4, t5, t6, t7, ecs⟩ := Ty.form hat'
        simp only [List.cons.injEq, and_true] at ecs
        obtain ⟨rfl, rfl, rfl, rfl⟩ := ecs
        have HO2 := Lib.hid hO
        clear hat' hx hxm hO
        go_wp2_with fail
        refine (HIx.out _ _ (D.Ats.below HXt.out ((Below.refl _ _).alloc (Nat.le_refl _) _))).mono ?_
        rintro e w2 ⟨g2, cp2, rfl, ho2, hb2⟩
        have hO3 := own_below' (HO2.out.alloc _) hb2
        have hR3 := own_mono ho2 (show w.heap.size + 1 ≤ _ by simp; omega)
        have B2 := (Bw.alloc Bw.size _).trans (hb2.mono (Nat.le_trans Bw.size (by simp)))
        have f2 := Box.call (fA.alloc _) hb2
        have hbs2 : w.heap.size + 1 ≤ w2.heap.size := f2.lt
        have HB2 := Lib.hid (And.intro B2 f2)
        obtain ⟨X, hX⟩ : ∃ X, x.res = X := ⟨_, rfl⟩
        rw [hX] at hxl HN hR3 ⊢
        clear c0 c1 c2 c3 cc ho2 hb2 B2 f2 HIx HXt hX
        go_wp2_with (at_builtin; refine wpList_strs hO3 (by simp) X g2 X.length cp2 rfl hR3 (.tmp 27) (.tmp 29) (by omega) hbs2 ?_; intro g' c' w' ho' hb')
        have HB3 := Lib.hid (And.intro ho' (And.intro (HB2.out.2.under' hb' (Nat.lt_succ_self _)) (HB2.out.1.trans (hb'.mono (Nat.le_succ _)))))
        clear hO3 hR3 ho' hb'
        go_wp2
        go_roundw
        case rel => exact ⟨j + 1, g', c', T ++ X, by omega, by go_num, HN.out, by simp, by simpa using HB3.out.1, HB3.out.2⟩
        case measure => simp [intOf]; omega
      · obtain rfl : j = kids.length := by omega
        have HB2 := Lib.hid (And.intro hO Bw)
        clear hO
        have HQ := Lib.hid (show T = Ty.res (.mk k n l kids) by rw [HR.out, HT.out, List.take_length])
        go_wp2
        go_ret
        refine ⟨g, c, ?_, ?_, HB2.out.2⟩
        · exact congrArg (fun L : List ByteArray => Ending.returned (.slice (some ⟨g, 0, none⟩) L.length c)) HQ.out
        · rw [← HQ.out]; exact own_mono HB2.out.1 (Nat.le_succ _)
theorem resources_i (x : Ty) (hp : x.parts ≤ 1000000) : ResI x := by
  induction x using Ty.ind with
  | h k n l kids ih =>
    refine resources_at k n l kids hp (fun x hx => ih x hx ?_)
    rw [Ty.parts_mk] at hp
    have := Ty.parts_mem hx
    omega
end Go.Proofs.Ytmhnendajefakaa
