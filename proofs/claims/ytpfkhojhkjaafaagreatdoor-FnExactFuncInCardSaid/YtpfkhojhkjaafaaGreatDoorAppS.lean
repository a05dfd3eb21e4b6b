/- An append of one text to a row of texts that the call owns; distinct over such a row. -/
import Derived.Test.YtpfkhojhkjaafaaGreatDoorPkSq
import Derived.Test.YtpfkhojhkjaafaaGreatDoorStrs
namespace Go.Proofs.YtpfkhojhkjaafaaGreatDoor
open Go.RowKit Go.Shelf

theorem info_str'' : (Tryz.prog.info? 9).map (fun i => (i.zero, i.size, i.bytes)) = some (some (.string ⟨#[]⟩), 1, 16) := by kernel_rfl
/-- Append of one text, just laid in a block of its own, to a row of texts that the call owns. -/
theorem wpList_str {w1 : World} {ops : Array Oper} {rest : List Oper} {o : Oper} {a : Act} {Q : Exit → Act → World → Prop} {base : Nat} {v : Value} {n : Nat} {l : List ByteArray} {fz : Nat × Nat}
    (hown : w1.ownsRow base 9 1 v n (l.map Value.string)) (c : ByteArray) (s x : Operand)
    (hn : n + 1 ≤ 8796093022208) (hbase : base ≤ w1.heap.size) (g : Nat) (hg : w1.heap.size = g)
    (h : ∀ v' w', w'.ownsRow base 9 1 v' (n + 1) ((l ++ [c]).map Value.string) → Below base w1 w' → wpList Tryz.prog ops Q rest (a.put o.dst v') w')
    (hgd : o.guard = none := by exact rfl) (ho : o.op = .call { callee := .builtin .append, args := #[s, x], argTypes := #[22, 22] } := by exact rfl)
    (hs : a.eval s = v := by exact rfl) (hx : a.eval x = .slice (some ⟨g, 0, none⟩) 1 1 := by exact rfl) :
    wpList Tryz.prog ops Q (o :: rest) a (w1.alloc (.cells #[.string c] 9 fz)) := by
  subst hg
  obtain ⟨i0, hi, hz0, hz1, hz2⟩ := info_parts info_str''
  refine wpList_append_own _ hgd s x 22 ho base 9 i0 (.string ⟨#[]⟩) 1 16 Tryz.underlying22 hi hz0 hz1 hz2 rfl (by decide) v n (l.map Value.string) hs (hown.alloc _)
    ⟨w1.heap.size, 0, none⟩ 1 1 [.string c] hx rfl ?_ ?_ (by simp only [maxLen]; omega) (by omega) (by simp; omega) ?_
  · intro j u hj
    match j, hj with
    | 0, hj =>
      simp at hj
      subst hj
      rw [Addr.add_lit, cell_of_row _ _ _ _ _ _ (heap_alloc_new w1 _)]
      rfl
  · intro u hu
    simp at hu
    subst hu
    rfl
  · intro v' w' h1 h2 _
    refine h v' w' (by simpa using h1) ?_
    have hb : Below base w1 (w1.alloc (.cells #[.string c] 9 fz)) := (Below.refl _ _).alloc hbase _
    exact hb.grown h2 (by simp; omega) (fun k hk => (hown.lt k hk).1)
theorem own_form {w : World} {base : Nat} {e : TypeId} {v : Value} {n : Nat} {xs : List Value} (ho : w.ownsRow base e 1 v n xs) (hn : 0 < n) : ∃ g cap, v = .slice (some ⟨g, 0, none⟩) n cap ∧ n ≤ cap ∧ cap ≤ maxLen ∧ g < w.heap.size := by
  rcases ho.2 with ⟨_, h⟩ | ⟨g, cap, cur, h, _, hg, h1, h2, _⟩
  · omega
  · exact ⟨g, cap, h, h1, h2, (Array.getElem?_eq_some_iff.1 hg).1⟩

set_option maxHeartbeats 1000000 in
set_option maxRecDepth 20000 in
theorem distinct_zero (b off cap : Nat) (w : World) (hb : b < w.heap.size) :
    Calls Tryz.prog 167 #[.slice (some ⟨b, off, none⟩) 0 cap] w fun e w' => e = .returned (.bool true) ∧ Below w.heap.size w w' := by
  go_enter Tryz.func167, Tryz.ntmps167
  go_wp2_with fail
  refine (sqvalues_any _ _ _ _).mono ?_
  rintro e w1 ⟨rfl, rfl⟩
  go_wp2_with fail
  refine (sqsortedValues w.heap.size b off 0 cap [] rfl (by omega) _ (by simp) (by simp; omega) (Box.cell (cs := [_]) (Box.new w _ [.slice (some ⟨b, off, none⟩) 0 cap]) 0)
    (fun j hj => absurd hj (by omega))).mono ?_
  rintro e w2 ⟨v, rfl, hown, hbel⟩
  have Bw : Below w.heap.size w w2 := ((Below.refl _ w).alloc (Nat.le_refl _) _).trans (hbel.mono (by simp))
  clear hbel
  rcases hown.2 with ⟨rfl, hz⟩ | ⟨g, cap', cur, rfl, hbase, hgb, r1, r2, r3, r4⟩
  · clear hown
    go_wp2_with fail
    refine (Tryz.slices_Compact_string_empty none 0 w2).mono ?_
    rintro e w3 ⟨rfl, rfl⟩
    go_wp2
    go_ret
    exact ⟨rfl, Bw⟩
  · clear hown hgb r1 r2 r3 r4
    go_wp2_with fail
    refine (Tryz.slices_Compact_string_empty (some ⟨g, 0, none⟩) cap' w2).mono ?_
    rintro e w3 ⟨rfl, rfl⟩
    go_wp2
    go_ret
    exact ⟨rfl, Bw⟩
theorem distinct_own (l : List ByteArray) (g cap base : Nat) (w : World) (ho : w.ownsRow base 9 1 (.slice (some ⟨g, 0, none⟩) l.length cap) l.length (l.map Value.string)) (h16 : l.length ≤ 1000) :
    Calls Tryz.prog 167 #[.slice (some ⟨g, 0, none⟩) l.length cap] w fun e w' => e = .returned (.bool (nodupS l)) ∧ Below w.heap.size w w' := by
  have hg : g < w.heap.size := by
    rcases ho.2 with ⟨h, _⟩ | ⟨g', cap', cur, h, _, hg, _⟩
    · cases h
    · cases h; exact (Array.getElem?_eq_some_iff.1 hg).1
  by_cases h0 : l.length = 0
  · have e : l = [] := List.eq_nil_of_length_eq_zero h0
    subst e
    exact distinct_zero g 0 cap w hg
  · have hc : ∀ j, j < l.length → w.cell? ⟨g, 0 + j, none⟩ = some (encStr ((l.map (·.data.toList))[j]?.getD [])) := by
      intro j hj
      have := ho.cells (g := g) rfl j (.string l[j]) (by rw [List.getElem?_map, List.getElem?_eq_getElem hj]; rfl)
      rw [Addr.add_lit] at this
      rw [this]
      simp [hj]
    have := distinct_core g 0 l.length cap _ _ (l.map (·.data.toList)) _ rfl rfl rfl (by simp) (by omega) h16 w hg hc
    have e : (((Lib.compact ((l.map (·.data.toList)).mergeSort fun x y => decide (x ≤ y))).length : Int) == (l.length : Int)) = nodupS l := by
      rw [Bool.eq_iff_iff, beq_iff_eq, distinct_law]
    rw [e] at this
    exact this
end Go.Proofs.YtpfkhojhkjaafaaGreatDoor
