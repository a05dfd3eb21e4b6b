/- The text of a value, by the program: words, brackets, cases, the texts of elements. The texts of the elements of kind 12, by the program. The text of a value, by the program: kinds 1 to 11, 18, 20 to 23. The texts of the elements of kind 15, by the program. The texts of the elements of kind 16, by the program. The texts of the elements of kind 19, by the program. The text of a value, by the program: lists, tuples, records, flags. The text of a value, by the program: cases. The text of a value, by the program: the whole. ValueText: by the reference and by the program. -/
import Derived.Test.YtcpadaelgdmipaaGreatDoorPkVt
import Derived.Test.YtcpadaelgdmipaaGreatDoorVtT
import Derived.Deep.RegionLaw
import Derived.Test.YtcpadaelgdmipaaGreatDoorPkFi
namespace Go.Proofs.YtcpadaelgdmipaaGreatDoor
open Go.RowKit Go.Shelf

theorem wordsL_i (w : World) : Calls Tryz.prog 97 #[] w fun e w' => e = .returned (.slice (some ⟨w.heap.size, 0, none⟩) 24 24) ∧ w' = w.alloc (.cells wordsRow.toArray 9) := by
  go_enter Tryz.func97, Tryz.ntmps97
  go_wp2
  go_ret
  exact ⟨rfl, rfl⟩
theorem handleWord_i (k : Nat) (hk : k < 24) (w : World) : Calls Tryz.prog 74 #[.int .i64 (k : Int)] w fun e w' => e = .returned (.string (kword k ++ ⟨#[35]⟩)) ∧ Below w.heap.size w w' := by
  have HC := Lib.hid (words_c _ wordsL_i w)
  have hkz := kword_small (k : Int)
  have k0 : (0 : Int) ≤ (k : Int) := by omega
  have k1 : (k : Int) < 24 := by omega
  obtain ⟨KW, hKW⟩ : ∃ KW, kword (k : Int) = KW := ⟨_, rfl⟩
  have HKW := Lib.hid hKW
  rw [hKW] at hkz ⊢
  clear hKW
  go_enter Tryz.func74, Tryz.ntmps74
  go_wp2_with fail
  refine HC.out.mono ?_
  rintro e w1 ⟨g, hg, rfl, hc, hb⟩
  have c1 := hc k hk
  rw [HKW.out] at c1
  have HB := Lib.hid hb
  clear hc hb
  go_wp2
  go_ret
  exact ⟨rfl, HB.out⟩
/-- The texts before and behind the elements. -/
def brk (k : Int) : ByteArray × ByteArray := if k = 12 then (⟨#[91]⟩, ⟨#[93]⟩) else if k = 15 then (⟨#[40]⟩, ⟨#[41]⟩) else (⟨#[123]⟩, ⟨#[125]⟩)
theorem brackets_i (k : Int) (w : World) : Calls Tryz.prog 69 #[.int .i64 k] w fun e w' => e = .returned (.tuple #[.string (brk k).1, .string (brk k).2]) ∧ w = w' := by
  by_cases h1 : k = 12
  · subst h1
    go_enter Tryz.func69, Tryz.ntmps69
    go_wp2
    exact bodyPost_ret (v := .tuple #[.string ⟨#[91]⟩, .string ⟨#[93]⟩]) (by simp [results, Tryz.results69, go_sem]) rfl ⟨rfl, rfl⟩
  · by_cases h2 : k = 15
    · subst h2
      go_enter Tryz.func69, Tryz.ntmps69
      go_wp2
      exact bodyPost_ret (v := .tuple #[.string ⟨#[40]⟩, .string ⟨#[41]⟩]) (by simp [results, Tryz.results69, go_sem]) rfl ⟨rfl, rfl⟩
    · have g1 : (k == 12) = false := by simpa using h1
      have g2 : (k == 15) = false := by simpa using h2
      have HE := Lib.hid (show brk k = (⟨#[123]⟩, ⟨#[125]⟩) by unfold brk; rw [if_neg h1, if_neg h2])
      clear h1 h2
      go_enter Tryz.func69, Tryz.ntmps69
      go_wp2
      exact bodyPost_ret (v := .tuple #[.string ⟨#[123]⟩, .string ⟨#[125]⟩]) (by simp [results, Tryz.results69, go_sem]) rfl ⟨by rw [HE.out], rfl⟩
set_option maxRecDepth 20000 in
theorem caseWord_i (k m : Int) (n : ByteArray) (l : List ByteArray) (A1 A2 : Option Addr) (c1 n2 c2 : Nat) (w : World) (hk : k = 13 ∨ k = 14 ∨ k = 17) (h2 : k ≠ 17 → m = 0 ∨ m = 1) (h3 : k = 17 → ∃ j : Nat, m = (j : Int) ∧ j < l.length) (hl : D.At w anyB (strs l) (.slice A1 l.length c1)) :
    Calls Tryz.prog 72 #[.agg #[.int .i64 k, .string n, .slice A1 l.length c1, .slice A2 n2 c2], .int .i64 m] w fun e w' => e = .returned (.string (caseW k l m)) ∧ Below w.heap.size w w' := by
  rcases hk with rfl | rfl | rfl
  · clear hl h3
    rcases h2 (by decide) with rfl | rfl
    all_goals
      clear h2
      go_enter Tryz.func72, Tryz.ntmps72
      go_wp2
      go_ret
      exact ⟨rfl, ((Below.refl _ _).alloc (Nat.le_refl _) _).alloc (by simp) _⟩
  · clear hl h3
    rcases h2 (by decide) with rfl | rfl
    all_goals
      clear h2
      go_enter Tryz.func72, Tryz.ntmps72
      go_wp2
      go_ret
      exact ⟨rfl, ((Below.refl _ _).alloc (Nat.le_refl _) _).alloc (by simp) _⟩
  · obtain ⟨j, rfl, hj⟩ := h3 rfl
    obtain ⟨a, ha⟩ : ∃ a, l[j]? = some a := ⟨l[j], List.getElem?_eq_getElem hj⟩
    have i0 : (0 : Int) ≤ (j : Int) := by omega
    have i2 : (j : Int) < (l.length : Int) := by omega
    obtain ⟨b3, off3, e3, hbl3, l3⟩ := strs_cell hl ha
    subst e3
    have l4 := (show (w.alloc (.cells #[.int .i64 17, .string n, .slice (some ⟨b3, off3, none⟩) l.length c1, .slice A2 n2 c2] 40)).cell? ⟨b3, off3 + j, none⟩ = some (.string a) from (((Below.refl _ w).alloc (Nat.le_refl _) _).cell (p := ⟨b3, off3 + j, none⟩) hbl3).trans l3)
    have HE := Lib.hid (show caseW 17 l (j : Int) = a by unfold caseW; rw [if_neg (by decide), if_neg (by decide), Int.toNat_natCast, ha]; rfl)
    clear hl h2 h3 ha hbl3 l3
    go_enter Tryz.func72, Tryz.ntmps72
    go_wp2
    go_ret
    exact ⟨ret_eq (by rw [HE.out]; try rfl), (Below.refl _ _).alloc (Nat.le_refl _) _⟩
/-- strings.Join over a row of texts that the call owns. -/
theorem join_ownT {w : World} {base : Nat} {v : Value} {l : List ByteArray} (ho : w.ownsRow base 9 1 v l.length (l.map Value.string)) (sep : ByteArray) (hl : (Lib.join (l.map (·.data.toList)) sep.data.toList).length ≤ 140737488355328) (hn : l.length ≤ 140737488355328) :
    Calls Tryz.prog 70 #[v, .string sep] w fun e w' => e = .returned (.string ⟨(Lib.join (l.map (·.data.toList)) sep.data.toList).toArray⟩) ∧ Below w.heap.size w w' := by
  by_cases h0 : l = []
  · subst h0
    rcases ho.2 with ⟨rfl, _⟩ | ⟨g, cap, cur, rfl, _⟩
    · refine (Tryz.strings_Join_none none 0 sep w).mono ?_
      rintro e w' ⟨rfl, rfl⟩
      exact ⟨rfl, Below.refl _ _⟩
    · refine (Tryz.strings_Join_none (some ⟨g, 0, none⟩) cap sep w).mono ?_
      rintro e w' ⟨rfl, rfl⟩
      exact ⟨rfl, Below.refl _ _⟩
  · have hpos : 0 < l.length := List.length_pos_iff.2 h0
    obtain ⟨g, cap, rfl, h1, _, h2⟩ := own_form ho hpos
    refine Tryz.strings_Join g 0 cap l sep w (fun j x hx => ?_) h2 hn h1 hl
    have := ho.cells (g := g) rfl j (.string x) (by rw [List.getElem?_map, hx]; rfl)
    rw [Addr.add_lit] at this
    exact this
set_option maxRecDepth 20000 in
set_option maxHeartbeats 1000000 in
/-- Append of one text, just laid in a block of its own, to a row of texts that the call owns; what it leaves alone. -/
theorem wpList_strK {w1 : World} {ops : Array Oper} {rest : List Oper} {o : Oper} {a : Act} {Q : Exit → Act → World → Prop} {base : Nat} {v : Value} {n : Nat} {l : List ByteArray} {fz : Nat × Nat}
    (hown : w1.ownsRow base 9 1 v n (l.map Value.string)) (c : ByteArray) (s x : Operand)
    (hn : n + 1 ≤ 1000000) (hbase : base ≤ w1.heap.size) (g : Nat) (hg : w1.heap.size = g)
    (h : ∀ v' w', w'.ownsRow base 9 1 v' (n + 1) ((l ++ [c]).map Value.string) → w1.grownBy w' v.ownBlock → (∀ b, b < w1.heap.size → v'.ownBlock = some b → v.ownBlock = some b) → wpList Tryz.prog ops Q rest (a.put o.dst v') w')
    (hgd : o.guard = none := by exact rfl) (ho : o.op = .call { callee := .builtin .append, args := #[s, x], argTypes := #[25, 25] } := by exact rfl)
    (hs : a.eval s = v := by exact rfl) (hx : a.eval x = .slice (some ⟨g, 0, none⟩) 1 1 := by exact rfl) :
    wpList Tryz.prog ops Q (o :: rest) a (w1.alloc (.cells #[.string c] 9 fz)) := by
  subst hg
  obtain ⟨i0, hi, hz0, hz1, hz2⟩ := info_parts info_str''
  refine wpList_plain hgd fun K hK => ?_
  have ha : Below w1.heap.size w1 (w1.alloc (.cells #[.string c] 9 fz)) := (Below.refl _ _).alloc (Nat.le_refl _) _
  obtain ⟨v', w', q1, q2, q3, -, q5⟩ := run_append_own_at (P := Tryz.prog) (w1.alloc (.cells #[.string c] 9 fz)) base 25 o.type 9 i0 (.string ⟨#[]⟩) 1 16 Tryz.underlying25 hi hz0 hz1 hz2 rfl (by decide) v n (l.map Value.string) (hown.alloc _) ⟨w1.heap.size, 0, none⟩ 1 1 [.string c] rfl
    (fun j u hj => by
      match j, hj with
      | 0, hj =>
        simp at hj
        subst hj
        rw [Addr.add_lit, cell_of_row _ _ _ _ _ _ (heap_alloc_new w1 _)]
        rfl)
    (fun u hu => by simp at hu; subst hu; rfl) (by simp only [maxLen]; omega) (by omega) (by simp; omega)
  unfold Oper.wp execOp
  simp only [ho, resolve, invoke, builtin, Sem.run_bind, Sem.run_pure, Result.andThen_ok, List.map_toArray, List.map_cons, List.map_nil, hs, hx, q1]
  refine hK _ _ (h v' w' (by simpa using q2) ⟨q3.os.trans ha.os, q3.tape.trans ha.tape, q3.output.trans ha.output, Nat.le_trans ha.size q3.size, fun k hk hne => (q3.block k (Nat.lt_of_lt_of_le hk ha.size) hne).trans (ha.block k hk)⟩ fun b hb e => ?_)
  rcases q5 with q | q
  · rw [← q]; exact e
  · rw [q] at e
    injection e with e
    simp at e
    omega
/-- What a loop that appends leaves alone: all that was there ahead of it but for the first row's block. -/
def KeptO (g : Nat) (w2 wr : World) (v : Value) : Prop := Wr [g] w2 wr ∧ ∀ b, b < w2.heap.size → v.ownBlock = some b → b = g
theorem KeptO.below {g : Nat} {w2 wr w3 : World} {v : Value} (h : KeptO g w2 wr v) (hb : Below wr.heap.size wr w3) : KeptO g w2 w3 v := ⟨h.1.trans (Wr.of_below hb), h.2⟩
theorem KeptO.grown {g : Nat} {w2 wr w3 : World} {v v' : Value} (h : KeptO g w2 wr v) (hg : wr.grownBy w3 v.ownBlock) (hv : ∀ b, b < wr.heap.size → v'.ownBlock = some b → v.ownBlock = some b) : KeptO g w2 w3 v' :=
  ⟨⟨hg.os.trans h.1.os, hg.tape.trans h.1.tape, hg.output.trans h.1.output, Nat.le_trans h.1.size hg.size, fun b hb hn => (hg.block b (Nat.lt_of_lt_of_le hb h.1.size) (fun e => hn (by rw [h.2 b hb e.symm]; simp))).trans (h.1.block b hb hn)⟩,
    fun b hb e => h.2 b hb (hv b (Nat.lt_of_lt_of_le hb h.1.size) e)⟩
theorem KeptO.at_ {g : Nat} {w2 wr : World} {v : Value} (h : KeptO g w2 wr v) {d : D} {u : Value} (ha : D.At w2 (fun b => b ≠ g) d u) : D.At wr (fun b => b ≠ g) d u :=
  D.At.keep (fun b h1 h2 => ⟨h.1.block b h1 (by simpa using h2), h2, Nat.lt_of_lt_of_le h1 h.1.size⟩) _ _ ha
theorem KeptO.bel {g : Nat} {w2 wr : World} {v : Value} (h : KeptO g w2 wr v) (hg : g ≤ w2.heap.size) : Below g w2 wr := Wr.below h.1 hg (fun b hb => by rw [List.mem_singleton.1 hb]; exact Nat.le_refl _)
theorem own_belowT {w w' : World} {base : Nat} {e : TypeId} {size n : Nat} {v : Value} {xs : List Value} (h : w.ownsRow base e size v n xs) (hb : Below w.heap.size w w') : w'.ownsRow base e size v n xs := by
  refine ⟨h.1, ?_⟩
  rcases h.2 with h | ⟨g, cap, cur, e1, e2, e3, e4⟩
  · exact .inl h
  · exact .inr ⟨g, cap, cur, e1, e2, (hb.block g (Array.getElem?_eq_some_iff.1 e3).1).trans e3, e4⟩
/-- Between two rounds: the texts so far. -/
def TxRel (g n : Nat) (J : List (List UInt8)) (w2 : World) (v i : Value) (wr : World) : Prop :=
  ∃ (j : Nat) (T : List ByteArray), j ≤ n ∧ i = .int .i64 j ∧ T.length ≤ j ∧ T.map (·.data.toList) = J.take j ∧ wr.ownsRow g 9 1 v T.length (T.map Value.string) ∧ KeptO g w2 wr v
/-- Between two rounds over labels: those whose bits are set. -/
def FlRel (g n : Nat) (m : Int) (l : List ByteArray) (w2 : World) (v i : Value) (wr : World) : Prop :=
  ∃ (j : Nat) (T : List ByteArray), j ≤ n ∧ i = .int .i64 j ∧ T.length ≤ j ∧ T.map (·.data.toList) = flg m 0 (l.take j) ∧ wr.ownsRow g 9 1 v T.length (T.map Value.string) ∧ KeptO g w2 wr v
/-- What comes back: a row of texts. -/
def RetTs (J : List (List UInt8)) (w : World) (e : Ending) (w' : World) : Prop :=
  ∃ (v : Value) (B : Nat) (T : List ByteArray), e = .returned v ∧ w'.ownsRow B 9 1 v T.length (T.map Value.string) ∧ T.map (·.data.toList) = J ∧ Below w.heap.size w w'
end Go.Proofs.YtcpadaelgdmipaaGreatDoor
namespace Go.Proofs.YtcpadaelgdmipaaGreatDoor
open Go.RowKit Go.Shelf

set_option maxHeartbeats 4000000 in
set_option maxRecDepth 20000 in
theorem elems_12 (m : Int) (s : ByteArray) (vs : List Va) (n : ByteArray) (l : List ByteArray) (kids ts : List Ty) (hsh : shape (.mk 12 n l kids) = true) (hnf : numFits 12 l.length m = true) (hts : kts 12 m vs.length kids = some ts) (hlen : ts.length = vs.length) (h16 : ts.length ≤ 16) (ih : ∀ (i : Nat) x y, vs[i]? = some x → ts[i]? = some y → TxAt 45 TxW x y ∧ (vtT x y).size ≤ 1000000000)
    (A A1 A2 : Option Addr) (c c1 c2 : Nat) (w : World) (ht : TxW w) (hvs : D.At w anyB (rows Va.ds 4 vs) (.slice A vs.length c)) (hl : D.At w anyB (strs l) (.slice A1 l.length c1)) (hkids : D.At w anyB (rows Ty.ds 4 kids) (.slice A2 kids.length c2)) :
    Calls Tryz.prog 71 #[.agg #[.int .i64 12, .int .i64 m, .string s, .slice A vs.length c], .agg #[.int .i64 12, .string n, .slice A1 l.length c1, .slice A2 kids.length c2]] w (RetTs (vtxs vs ts) w) := by
  obtain ⟨-, hvn, hvc⟩ := rows_bound hvs
  obtain ⟨-, hln, hlc⟩ := rows_bound hl
  unfold maxLen at hvc hlc
  obtain ⟨hlab, hlab2⟩ := shape_labels hsh
  obtain ⟨w0, hw0, B0, bA, bB⟩ := blocks2 w 34 40 [.int .i64 12, .int .i64 m, .string s, .slice A vs.length c] [.int .i64 12, .string n, .slice A1 l.length c1, .slice A2 kids.length c2]
  have hs0 : w0.heap.size = w.heap.size + 2 := by rw [hw0]; simp
  obtain ⟨w1, hw1⟩ : ∃ w1, w1 = w0.alloc (.cells #[] 9) := ⟨_, rfl⟩
  have B1 : Below w0.heap.size w0 w1 := by rw [hw1]; exact (Below.refl _ _).alloc (Nat.le_refl _) _
  have BB := B0.trans (B1.mono B0.size)
  have HO1 := Lib.hid (show w1.ownsRow w0.heap.size 9 1 (.slice (some ⟨w0.heap.size, 0, none⟩) 0 0) 0 [] by rw [hw1]; exact World.ownsRow_lit _ _ _ (Nat.le_refl _) (by decide) (by rfl))
  have bA1 := bA.call B1
  have bB1 := bB.call B1
  have hs1 : w1.heap.size = w0.heap.size + 1 := by rw [hw1]; simp
  have hkS : D.At w1 (fun b => b ≠ w0.heap.size) (rows Ty.ds 4 kids) (.slice A2 kids.length c2) := D.At.keep (S := anyB) (fun b h1 _ => ⟨BB.block b h1, by omega, Nat.lt_of_lt_of_le h1 BB.size⟩) _ _ hkids
  have HKT := Lib.hid (kidTypes_i (S := (fun b => b ≠ w0.heap.size)) 12 m s n l kids A A1 A2 vs.length c c1 c2 w1 12 hsh hnf (fun b hb => by omega) hkS ts hts)
  have HVS := Lib.hid hvs
  have HLS := Lib.hid hl
  have HLB := Lib.hid (And.intro hlab hlab2)
  have HZ := Lib.hid (And.intro hs0 hs1)
  have HBB := Lib.hid BB
  have HLEN := Lib.hid (And.intro hlen h16)
  have HIH := Lib.hid ih
  have HT0 := Lib.hid ht
  have HSH := Lib.hid (And.intro hsh (And.intro hnf hts))
  have kA := bA1.cell
  have kB := bB1.cell
  clear ih hvs hl hkids hlab hlab2 hsh hts hlen h16 bA bB B0 B1 BB hs0 hs1 hnf ht hkS
  go_enter Tryz.func71, Tryz.ntmps71
  go_upto_region 2 with fail
  rw [← hw0, ← hw1]
  clear hw0 hw1
  go_wp2_with fail
  refine HKT.out.mono ?_
  rintro e w2 ⟨A5, c5, rfl, hat5, hb2⟩
  have B2 := HBB.out.trans (hb2.mono HBB.out.size)
  have bA2 := bA1.call hb2
  have bB2 := bB1.call hb2
  have HO2 := Lib.hid (own_belowT HO1.out hb2)
  have H5 := Lib.hid hat5
  obtain ⟨-, h5n, h5c⟩ := rows_bound hat5
  unfold maxLen at h5c
  have hs2 : w0.heap.size + 1 ≤ w2.heap.size := by have := hb2.size; have := HZ.out.2; omega
  obtain ⟨g, hg⟩ : ∃ g, w0.heap.size = g := ⟨_, rfl⟩
  have HGG := Lib.hid hg
  rw [hg] at HO2 H5 hs2
  try rw [hg]
  have hgw : g = w.heap.size + 2 := by rw [← hg]; exact HZ.out.1
  have HGW := Lib.hid hgw
  clear hat5 hb2 kA kB bA1 bB1 hg hgw
  have kA := bA2.cell
  have kB := bB2.cell
  go_wp2
  rw [show w.heap.size + 1 + 1 = g from by have := HGW.out; omega]
  go_loopw [5, 8, 9, 10, 23] (fun v _ _ _ i wr => TxRel g vs.length (vtxs vs ts) w2 v i wr) (fun _ _ _ _ i _ => vs.length - (intOf i).toNat)
  case atStart => exact ⟨0, [], Nat.zero_le _, rfl, Nat.le_refl _, by simp, HO2.out, Wr.refl _ _, fun b _ e => by simp [Value.ownBlock] at e; exact e.symm⟩
  case round =>
    obtain ⟨j, T, hj, rfl, hTl, hT, hO, hb⟩ := hrel
    have hbg := hb.bel (by omega)
    have Bw := B2.trans (hbg.mono (by have := HGW.out; omega))
    have fA : Box wr w.heap.size _ _ := (hbg.block w.heap.size (by have := HGW.out; omega)).trans bA2
    have fB : Box wr (w.heap.size + 1) _ _ := (hbg.block (w.heap.size + 1) (by have := HGW.out; omega)).trans bB2
    have hsr : g + 1 ≤ wr.heap.size := by have := hb.1.size; omega
    clear kA kB hbg
    have HTT := Lib.hid (And.intro hTl hT)
    have HB := Lib.hid hb
    by_cases hlt : j < vs.length
    · obtain ⟨x, hx⟩ : ∃ x, vs[j]? = some x := ⟨vs[j], List.getElem?_eq_getElem hlt⟩
      obtain ⟨y, hy⟩ : ∃ y, ts[j]? = some y := ⟨ts[j]'(by rw [HLEN.out.1]; exact hlt), List.getElem?_eq_getElem _⟩
      have k0 : (0 : Int) ≤ (j : Int) := by omega
      have k1 : (j : Int) < (vs.length : Int) := by omega
      have k2 : (j : Int) < (ts.length : Int) := by rw [HLEN.out.1]; omega
      have hTl2 : T.length + 1 ≤ 1000000 := by have := HLEN.out; omega
      obtain ⟨b, off, u0, u1, u2, u3, e, -, hbl, hat, d0, d1, d2, d3⟩ := rows_at4 Va.len (HVS.out.below Bw) hx
      subst e
      obtain ⟨f0, f1, f2, f3, f4, f5, exx⟩ := Va.form hat
      simp only [List.cons.injEq, and_true] at exx
      obtain ⟨rfl, rfl, rfl, rfl⟩ := exx
      obtain ⟨b', off', v0, v1, v2, v3, e, -, hbl', hat', e0, e1, e2, e3⟩ := rows_at4 Ty.len (hb.at_ H5.out) hy
      subst e
      obtain ⟨z0, z1, z2, z3, z4, z5, z6, z7, eyy⟩ := Ty.form hat'
      simp only [List.cons.injEq, and_true] at eyy
      obtain ⟨rfl, rfl, rfl, rfl⟩ := eyy
      obtain ⟨w3, hw3⟩ : ∃ w3, w3 = wr.alloc (.cells #[.int .i64 f0, .int .i64 f1, .string f2, .slice f3 f4 f5] 34) := ⟨_, rfl⟩
      have B3 : Below wr.heap.size wr w3 := by rw [hw3]; exact (Below.refl _ _).alloc (Nat.le_refl _) _
      have bX : Box w3 wr.heap.size 34 [.int .i64 f0, .int .i64 f1, .string f2, .slice f3 f4 f5] := by rw [hw3]; exact Box.new wr _ _
      have hs3 : w3.heap.size = wr.heap.size + 1 := by rw [hw3]; simp
      have fA3 := fA.call B3
      have fB3 := fB.call B3
      have HO3 := Lib.hid (own_belowT hO B3)
      have HB3 := Lib.hid (hb.below B3)
      have BW3 := Bw.trans (B3.mono Bw.size)
      have hxy := HIH.out j x y hx hy
      have HXY := Lib.hid (fun W (h : Below w3.heap.size w3 W) => hxy.1 [.int .i64 f0, .int .i64 f1, .string f2, .slice f3 f4 f5] [.int .i64 z0, .string z1, .slice z2 z3 z4, .slice z5 z6 z7] W (HT0.out.below (BW3.trans (h.mono BW3.size))) ((hat.below B3).below h) (((hat'.below B3).below h).weaken (fun _ _ => trivial)))
      obtain ⟨Y, hY⟩ : ∃ Y, vtT x y = Y := ⟨_, rfl⟩
      have hys := hxy.2
      rw [hY] at hys
      simp only [hY] at HXY
      have HY := Lib.hid (show Y.data.toList = vtx x y by rw [← hY, vtT_list])
      have HYX := Lib.hid (vtxs_at hx hy)
      have r0 := cell_regrown (show w3.cell? ⟨wr.heap.size, 0, none⟩ = some (.int .i64 f0) from bX.cell 0)
      have r1 := cell_regrown (show w3.cell? ⟨wr.heap.size, 1, none⟩ = some (.int .i64 f1) from bX.cell 1)
      have r2 := cell_regrown (show w3.cell? ⟨wr.heap.size, 2, none⟩ = some (.string f2) from bX.cell 2)
      have r3 := cell_regrown (show w3.cell? ⟨wr.heap.size, 3, none⟩ = some (.slice f3 f4 f5) from bX.cell 3)
      have t0 := cell_regrown ((B3.cell (p := ⟨b', off' + j * 4, none⟩) hbl').trans e0)
      have t1 := cell_regrown ((B3.cell (p := ⟨b', off' + j * 4 + 1, none⟩) hbl').trans e1)
      have t2 := cell_regrown ((B3.cell (p := ⟨b', off' + j * 4 + 2, none⟩) hbl').trans e2)
      have t3 := cell_regrown ((B3.cell (p := ⟨b', off' + j * 4 + 3, none⟩) hbl').trans e3)
      have HJX := Lib.hid HYX.out
      have HAB := Lib.hid (And.intro fA3 fB3)
      have HZ3 := Lib.hid (And.intro hs3 BW3)
      have kA := fA.cell
      have kB := fB.cell
      clear hx hy hat hat' hO hb hTl hT hxy hY fA3 fB3 bX B3 BW3 hbl hbl' e0 e1 e2 e3 Bw hs3
      go_upto_region 6 with fail
      rw [← hw3]
      clear hw3 kA kB d0 d1 d2 d3 fA fB
      refine wp_region_quiet_below (by kernel_rfl) (by kernel_rfl) ?_
      repeat (first | go_big_quiet_step (with_reducible exact Calls.regrown_of (HXY.out _ (below_regrown _ _ _))) | quiet_step (with_reducible exact Calls.regrown_of (HXY.out _ (below_regrown _ _ _))))
      refine wpQuiet_nil ?_
      intro w6 hw6
      have hb6 := below_of_regrown hw6
      have hO6 := own_belowT HO3.out hb6
      have HB6 := Lib.hid (HB3.out.below hb6)
      have gA := HAB.out.1.call hb6
      have gB := HAB.out.2.call hb6
      have hs6 : g + 1 ≤ w6.heap.size := by have := hb6.size; have := HZ3.out.1; omega
      clear hw6 hb6 r0 r1 r2 r3 t0 t1 t2 t3
      have kA := gA.cell
      have kB := gB.cell
      go_wp2_with (at_builtin; (refine wpList_strK hO6 _ (.tmp 45) (.tmp 47) hTl2 (by omega) w6.heap.size rfl ?_); intro v' w' ho' hg' hv')
      have HN := Lib.hid (And.intro ho' (HB6.out.grown hg' hv'))
      clear ho' hg' hv' hO6 kA kB
      go_wp2
      go_roundw
      case rel =>
        refine ⟨j + 1, T ++ [Y], by omega, by go_num, by have := HTT.out.1; simp; omega, ?_, by simpa using HN.out.1, HN.out.2⟩
        rw [List.map_append, HTT.out.2, List.take_add_one, HJX.out]
        simp [HY.out]
      case measure => simp [intOf]; omega
    · obtain rfl : j = vs.length := by omega
      have HO9 := Lib.hid hO
      have HBW := Lib.hid Bw
      have kA := fA.cell
      have kB := fB.cell
      clear hO hb hTl hT
      go_wp2
      go_ret
      refine ⟨_, g, T, rfl, HO9.out, ?_, HBW.out⟩
      rw [HTT.out.2]
      exact List.take_of_length_le (by rw [vtxs_len (by rw [HLEN.out.1]; exact Nat.le_refl _)]; exact Nat.le_refl _)
end Go.Proofs.YtcpadaelgdmipaaGreatDoor
namespace Go.Proofs.YtcpadaelgdmipaaGreatDoor
open Go.RowKit Go.Shelf

set_option maxHeartbeats 4000000 in
set_option maxRecDepth 20000 in
theorem vi_1 (m : Int) (s : ByteArray) (vs : List Va) (n : ByteArray) (l : List ByteArray) (kids : List Ty) (hsh : shape (.mk 1 n l kids) = true) (hsk : ∀ x ∈ kids, Ty.all shape x = true) (hfit : fitV (.mk 1 m s vs) (.mk 1 n l kids) = true) (hnd : Va.nodess vs ≤ 2000000) (_ih : IhT 45 TxW vs) : TxAt 45 TxW (.mk 1 m s vs) (.mk 1 n l kids) := by
  intro cs cs' w hCw hcs hcs'
  obtain ⟨A, c, rfl, -, hm, hss, hvs⟩ := Va.open_ hcs
  obtain ⟨A1, c1, A2, c2, rfl, -, hnz, hl, hkids⟩ := Ty.open_ hcs'
  obtain ⟨-, hvn, hvc⟩ := rows_bound hvs
  obtain ⟨-, hln, hlc⟩ := rows_bound hl
  obtain ⟨-, hkn, hkc⟩ := rows_bound hkids
  unfold maxLen at hvc hlc hkc
  obtain ⟨-, hnf, htx, ts, hts, hmem, hlen, h16, hfits⟩ := fit_open hsh hfit
  obtain ⟨hlab, hlab2⟩ := shape_labels hsh
  have hallts : ∀ y ∈ ts, Ty.all shape y = true := fun y hy => hsk y (hmem y hy)
  obtain ⟨hjl, hjl2⟩ := vts_len hallts hfits hlen h16 hnd
  have hvt : (vtT (.mk 1 m s vs) (.mk 1 n l kids)).data.toList = vtM 1 l m s (vtxs vs ts) := by rw [vtT_list, vtx_mk hts]
  obtain ⟨R, hR⟩ : ∃ R, vtT (.mk 1 m s vs) (.mk 1 n l kids) = R := ⟨_, rfl⟩
  rw [hR] at hvt ⊢
  clear hR hfit
  obtain ⟨w0, hw0, B0, bA, bB⟩ := blocks2 w 34 40 [.int .i64 1, .int .i64 m, .string s, .slice A vs.length c] [.int .i64 1, .string n, .slice A1 l.length c1, .slice A2 kids.length c2]
  change Calls Tryz.prog 45 #[.agg #[.int .i64 1, .int .i64 m, .string s, .slice A vs.length c], .agg #[.int .i64 1, .string n, .slice A1 l.length c1, .slice A2 kids.length c2]] w _
  have HB0 := Lib.hid B0
  have kA := bA.cell
  have kB := bB.cell
  have HT0 := Lib.hid (show TxW w0 from TxW.below hCw B0)
  have HE := Lib.hid (show R.data.toList = [40, 41] by rw [hvt]; unfold vtM; rw [if_pos (by decide)])
  clear hCw hcs hcs' hm hss hvs hnz hl hkids hnf htx hts hmem hlen h16 hfits hlab hlab2 hallts hjl hjl2 hsh hsk _ih B0 bA bB hvt hnd
  go_enter Tryz.func45, Tryz.ntmps45
  go_upto_region 1 with fail
  rw [← hw0]
  clear hw0
  go_wp2
  go_ret
  exact ⟨ret_eq (congrArg Value.string (by rw [ba_of HE.out])), HB0.out⟩
set_option maxHeartbeats 4000000 in
set_option maxRecDepth 20000 in
theorem vi_2 (m : Int) (s : ByteArray) (vs : List Va) (n : ByteArray) (l : List ByteArray) (kids : List Ty) (hsh : shape (.mk 2 n l kids) = true) (hsk : ∀ x ∈ kids, Ty.all shape x = true) (hfit : fitV (.mk 2 m s vs) (.mk 2 n l kids) = true) (hnd : Va.nodess vs ≤ 2000000) (_ih : IhT 45 TxW vs) : TxAt 45 TxW (.mk 2 m s vs) (.mk 2 n l kids) := by
  intro cs cs' w hCw hcs hcs'
  obtain ⟨A, c, rfl, -, hm, hss, hvs⟩ := Va.open_ hcs
  obtain ⟨A1, c1, A2, c2, rfl, -, hnz, hl, hkids⟩ := Ty.open_ hcs'
  obtain ⟨-, hvn, hvc⟩ := rows_bound hvs
  obtain ⟨-, hln, hlc⟩ := rows_bound hl
  obtain ⟨-, hkn, hkc⟩ := rows_bound hkids
  unfold maxLen at hvc hlc hkc
  obtain ⟨-, hnf, htx, ts, hts, hmem, hlen, h16, hfits⟩ := fit_open hsh hfit
  obtain ⟨hlab, hlab2⟩ := shape_labels hsh
  have hallts : ∀ y ∈ ts, Ty.all shape y = true := fun y hy => hsk y (hmem y hy)
  obtain ⟨hjl, hjl2⟩ := vts_len hallts hfits hlen h16 hnd
  have hvt : (vtT (.mk 2 m s vs) (.mk 2 n l kids)).data.toList = vtM 2 l m s (vtxs vs ts) := by rw [vtT_list, vtx_mk hts]
  obtain ⟨R, hR⟩ : ∃ R, vtT (.mk 2 m s vs) (.mk 2 n l kids) = R := ⟨_, rfl⟩
  rw [hR] at hvt ⊢
  clear hR hfit
  obtain ⟨w0, hw0, B0, bA, bB⟩ := blocks2 w 34 40 [.int .i64 2, .int .i64 m, .string s, .slice A vs.length c] [.int .i64 2, .string n, .slice A1 l.length c1, .slice A2 kids.length c2]
  change Calls Tryz.prog 45 #[.agg #[.int .i64 2, .int .i64 m, .string s, .slice A vs.length c], .agg #[.int .i64 2, .string n, .slice A1 l.length c1, .slice A2 kids.length c2]] w _
  have HB0 := Lib.hid B0
  have kA := bA.cell
  have kB := bB.cell
  have HT0 := Lib.hid (show TxW w0 from TxW.below hCw B0)
  rcases (show m = 0 ∨ m = 1 by have := num_2 (.inl rfl) hnf; omega) with rfl | rfl
  · have HE := Lib.hid (show R.data.toList = [102, 97, 108, 115, 101] by rw [hvt]; unfold vtM; rw [if_neg (by decide), if_pos (by decide), if_pos rfl])
    clear hCw hcs hcs' hm hss hvs hnz hl hkids hnf htx hts hmem hlen h16 hfits hlab hlab2 hallts hjl hjl2 hsh hsk _ih B0 bA bB hvt hnd
    clear hw0 kA kB HB0 HT0
    go_enter Tryz.func45, Tryz.ntmps45
    go_wp2
    go_ret
    exact ⟨ret_eq (congrArg Value.string (by rw [ba_of HE.out])), (((Below.refl _ w).alloc (Nat.le_refl _) _).alloc (by simp) _).alloc (by simp; omega) _⟩
  · have HE := Lib.hid (show R.data.toList = [116, 114, 117, 101] by rw [hvt]; unfold vtM; rw [if_neg (by decide), if_pos (by decide), if_neg (by decide)])
    clear hCw hcs hcs' hm hss hvs hnz hl hkids hnf htx hts hmem hlen h16 hfits hlab hlab2 hallts hjl hjl2 hsh hsk _ih B0 bA bB hvt hnd
    clear hw0 kA kB HB0 HT0
    go_enter Tryz.func45, Tryz.ntmps45
    go_wp2
    go_ret
    exact ⟨ret_eq (congrArg Value.string (by rw [ba_of HE.out])), (((Below.refl _ w).alloc (Nat.le_refl _) _).alloc (by simp) _).alloc (by simp; omega) _⟩
set_option maxHeartbeats 4000000 in
set_option maxRecDepth 20000 in
theorem vi_3 (m : Int) (s : ByteArray) (vs : List Va) (n : ByteArray) (l : List ByteArray) (kids : List Ty) (hsh : shape (.mk 3 n l kids) = true) (hsk : ∀ x ∈ kids, Ty.all shape x = true) (hfit : fitV (.mk 3 m s vs) (.mk 3 n l kids) = true) (hnd : Va.nodess vs ≤ 2000000) (_ih : IhT 45 TxW vs) : TxAt 45 TxW (.mk 3 m s vs) (.mk 3 n l kids) := by
  intro cs cs' w hCw hcs hcs'
  obtain ⟨A, c, rfl, -, hm, hss, hvs⟩ := Va.open_ hcs
  obtain ⟨A1, c1, A2, c2, rfl, -, hnz, hl, hkids⟩ := Ty.open_ hcs'
  obtain ⟨-, hvn, hvc⟩ := rows_bound hvs
  obtain ⟨-, hln, hlc⟩ := rows_bound hl
  obtain ⟨-, hkn, hkc⟩ := rows_bound hkids
  unfold maxLen at hvc hlc hkc
  obtain ⟨-, hnf, htx, ts, hts, hmem, hlen, h16, hfits⟩ := fit_open hsh hfit
  obtain ⟨hlab, hlab2⟩ := shape_labels hsh
  have hallts : ∀ y ∈ ts, Ty.all shape y = true := fun y hy => hsk y (hmem y hy)
  obtain ⟨hjl, hjl2⟩ := vts_len hallts hfits hlen h16 hnd
  have hvt : (vtT (.mk 3 m s vs) (.mk 3 n l kids)).data.toList = vtM 3 l m s (vtxs vs ts) := by rw [vtT_list, vtx_mk hts]
  obtain ⟨R, hR⟩ : ∃ R, vtT (.mk 3 m s vs) (.mk 3 n l kids) = R := ⟨_, rfl⟩
  rw [hR] at hvt ⊢
  clear hR hfit
  obtain ⟨w0, hw0, B0, bA, bB⟩ := blocks2 w 34 40 [.int .i64 3, .int .i64 m, .string s, .slice A vs.length c] [.int .i64 3, .string n, .slice A1 l.length c1, .slice A2 kids.length c2]
  change Calls Tryz.prog 45 #[.agg #[.int .i64 3, .int .i64 m, .string s, .slice A vs.length c], .agg #[.int .i64 3, .string n, .slice A1 l.length c1, .slice A2 kids.length c2]] w _
  have HB0 := Lib.hid B0
  have kA := bA.cell
  have kB := bB.cell
  have HT0 := Lib.hid (show TxW w0 from TxW.below hCw B0)
  have HE := Lib.hid (show R = numT m by rw [numT]; exact ba_of (by rw [hvt]; unfold vtM; rw [if_neg (by decide), if_neg (by decide), if_neg (by decide), if_neg (by decide), if_neg (by decide), if_neg (by decide), if_neg (by decide), if_neg (by decide), if_neg (by decide), if_neg (by decide), if_neg (by decide)]))
  have HC := Lib.hid (dec_i m hm w0 HT0.out)
  clear hCw hcs hcs' hm hss hvs hnz hl hkids hnf htx hts hmem hlen h16 hfits hlab hlab2 hallts hjl hjl2 hsh hsk _ih B0 bA bB hvt hnd
  go_enter Tryz.func45, Tryz.ntmps45
  go_upto_region 1 with fail
  rw [← hw0]
  clear hw0
  go_wp2_with fail
  refine HC.out.mono ?_
  rintro e w1 ⟨rfl, hb1⟩
  have HB1 := Lib.hid (HB0.out.trans (hb1.mono HB0.out.size))
  clear hb1
  go_wp2
  go_ret
  exact ⟨ret_eq (by rw [HE.out]; rfl), HB1.out⟩
set_option maxHeartbeats 4000000 in
set_option maxRecDepth 20000 in
theorem vi_4 (m : Int) (s : ByteArray) (vs : List Va) (n : ByteArray) (l : List ByteArray) (kids : List Ty) (hsh : shape (.mk 4 n l kids) = true) (hsk : ∀ x ∈ kids, Ty.all shape x = true) (hfit : fitV (.mk 4 m s vs) (.mk 4 n l kids) = true) (hnd : Va.nodess vs ≤ 2000000) (_ih : IhT 45 TxW vs) : TxAt 45 TxW (.mk 4 m s vs) (.mk 4 n l kids) := by
  intro cs cs' w hCw hcs hcs'
  obtain ⟨A, c, rfl, -, hm, hss, hvs⟩ := Va.open_ hcs
  obtain ⟨A1, c1, A2, c2, rfl, -, hnz, hl, hkids⟩ := Ty.open_ hcs'
  obtain ⟨-, hvn, hvc⟩ := rows_bound hvs
  obtain ⟨-, hln, hlc⟩ := rows_bound hl
  obtain ⟨-, hkn, hkc⟩ := rows_bound hkids
  unfold maxLen at hvc hlc hkc
  obtain ⟨-, hnf, htx, ts, hts, hmem, hlen, h16, hfits⟩ := fit_open hsh hfit
  obtain ⟨hlab, hlab2⟩ := shape_labels hsh
  have hallts : ∀ y ∈ ts, Ty.all shape y = true := fun y hy => hsk y (hmem y hy)
  obtain ⟨hjl, hjl2⟩ := vts_len hallts hfits hlen h16 hnd
  have hvt : (vtT (.mk 4 m s vs) (.mk 4 n l kids)).data.toList = vtM 4 l m s (vtxs vs ts) := by rw [vtT_list, vtx_mk hts]
  obtain ⟨R, hR⟩ : ∃ R, vtT (.mk 4 m s vs) (.mk 4 n l kids) = R := ⟨_, rfl⟩
  rw [hR] at hvt ⊢
  clear hR hfit
  obtain ⟨w0, hw0, B0, bA, bB⟩ := blocks2 w 34 40 [.int .i64 4, .int .i64 m, .string s, .slice A vs.length c] [.int .i64 4, .string n, .slice A1 l.length c1, .slice A2 kids.length c2]
  change Calls Tryz.prog 45 #[.agg #[.int .i64 4, .int .i64 m, .string s, .slice A vs.length c], .agg #[.int .i64 4, .string n, .slice A1 l.length c1, .slice A2 kids.length c2]] w _
  have HB0 := Lib.hid B0
  have kA := bA.cell
  have kB := bB.cell
  have HT0 := Lib.hid (show TxW w0 from TxW.below hCw B0)
  have HE := Lib.hid (show R = numT m by rw [numT]; exact ba_of (by rw [hvt]; unfold vtM; rw [if_neg (by decide), if_neg (by decide), if_neg (by decide), if_neg (by decide), if_neg (by decide), if_neg (by decide), if_neg (by decide), if_neg (by decide), if_neg (by decide), if_neg (by decide), if_neg (by decide)]))
  have HC := Lib.hid (dec_i m hm w0 HT0.out)
  clear hCw hcs hcs' hm hss hvs hnz hl hkids hnf htx hts hmem hlen h16 hfits hlab hlab2 hallts hjl hjl2 hsh hsk _ih B0 bA bB hvt hnd
  go_enter Tryz.func45, Tryz.ntmps45
  go_upto_region 1 with fail
  rw [← hw0]
  clear hw0
  go_wp2_with fail
  refine HC.out.mono ?_
  rintro e w1 ⟨rfl, hb1⟩
  have HB1 := Lib.hid (HB0.out.trans (hb1.mono HB0.out.size))
  clear hb1
  go_wp2
  go_ret
  exact ⟨ret_eq (by rw [HE.out]; rfl), HB1.out⟩
set_option maxHeartbeats 4000000 in
set_option maxRecDepth 20000 in
theorem vi_5 (m : Int) (s : ByteArray) (vs : List Va) (n : ByteArray) (l : List ByteArray) (kids : List Ty) (hsh : shape (.mk 5 n l kids) = true) (hsk : ∀ x ∈ kids, Ty.all shape x = true) (hfit : fitV (.mk 5 m s vs) (.mk 5 n l kids) = true) (hnd : Va.nodess vs ≤ 2000000) (_ih : IhT 45 TxW vs) : TxAt 45 TxW (.mk 5 m s vs) (.mk 5 n l kids) := by
  intro cs cs' w hCw hcs hcs'
  obtain ⟨A, c, rfl, -, hm, hss, hvs⟩ := Va.open_ hcs
  obtain ⟨A1, c1, A2, c2, rfl, -, hnz, hl, hkids⟩ := Ty.open_ hcs'
  obtain ⟨-, hvn, hvc⟩ := rows_bound hvs
  obtain ⟨-, hln, hlc⟩ := rows_bound hl
  obtain ⟨-, hkn, hkc⟩ := rows_bound hkids
  unfold maxLen at hvc hlc hkc
  obtain ⟨-, hnf, htx, ts, hts, hmem, hlen, h16, hfits⟩ := fit_open hsh hfit
  obtain ⟨hlab, hlab2⟩ := shape_labels hsh
  have hallts : ∀ y ∈ ts, Ty.all shape y = true := fun y hy => hsk y (hmem y hy)
  obtain ⟨hjl, hjl2⟩ := vts_len hallts hfits hlen h16 hnd
  have hvt : (vtT (.mk 5 m s vs) (.mk 5 n l kids)).data.toList = vtM 5 l m s (vtxs vs ts) := by rw [vtT_list, vtx_mk hts]
  obtain ⟨R, hR⟩ : ∃ R, vtT (.mk 5 m s vs) (.mk 5 n l kids) = R := ⟨_, rfl⟩
  rw [hR] at hvt ⊢
  clear hR hfit
  obtain ⟨w0, hw0, B0, bA, bB⟩ := blocks2 w 34 40 [.int .i64 5, .int .i64 m, .string s, .slice A vs.length c] [.int .i64 5, .string n, .slice A1 l.length c1, .slice A2 kids.length c2]
  change Calls Tryz.prog 45 #[.agg #[.int .i64 5, .int .i64 m, .string s, .slice A vs.length c], .agg #[.int .i64 5, .string n, .slice A1 l.length c1, .slice A2 kids.length c2]] w _
  have HB0 := Lib.hid B0
  have kA := bA.cell
  have kB := bB.cell
  have HT0 := Lib.hid (show TxW w0 from TxW.below hCw B0)
  have HE := Lib.hid (show R = numT m by rw [numT]; exact ba_of (by rw [hvt]; unfold vtM; rw [if_neg (by decide), if_neg (by decide), if_neg (by decide), if_neg (by decide), if_neg (by decide), if_neg (by decide), if_neg (by decide), if_neg (by decide), if_neg (by decide), if_neg (by decide), if_neg (by decide)]))
  have HC := Lib.hid (dec_i m hm w0 HT0.out)
  clear hCw hcs hcs' hm hss hvs hnz hl hkids hnf htx hts hmem hlen h16 hfits hlab hlab2 hallts hjl hjl2 hsh hsk _ih B0 bA bB hvt hnd
  go_enter Tryz.func45, Tryz.ntmps45
  go_upto_region 1 with fail
  rw [← hw0]
  clear hw0
  go_wp2_with fail
  refine HC.out.mono ?_
  rintro e w1 ⟨rfl, hb1⟩
  have HB1 := Lib.hid (HB0.out.trans (hb1.mono HB0.out.size))
  clear hb1
  go_wp2
  go_ret
  exact ⟨ret_eq (by rw [HE.out]; rfl), HB1.out⟩
set_option maxHeartbeats 4000000 in
set_option maxRecDepth 20000 in
theorem vi_6 (m : Int) (s : ByteArray) (vs : List Va) (n : ByteArray) (l : List ByteArray) (kids : List Ty) (hsh : shape (.mk 6 n l kids) = true) (hsk : ∀ x ∈ kids, Ty.all shape x = true) (hfit : fitV (.mk 6 m s vs) (.mk 6 n l kids) = true) (hnd : Va.nodess vs ≤ 2000000) (_ih : IhT 45 TxW vs) : TxAt 45 TxW (.mk 6 m s vs) (.mk 6 n l kids) := by
  intro cs cs' w hCw hcs hcs'
  obtain ⟨A, c, rfl, -, hm, hss, hvs⟩ := Va.open_ hcs
  obtain ⟨A1, c1, A2, c2, rfl, -, hnz, hl, hkids⟩ := Ty.open_ hcs'
  obtain ⟨-, hvn, hvc⟩ := rows_bound hvs
  obtain ⟨-, hln, hlc⟩ := rows_bound hl
  obtain ⟨-, hkn, hkc⟩ := rows_bound hkids
  unfold maxLen at hvc hlc hkc
  obtain ⟨-, hnf, htx, ts, hts, hmem, hlen, h16, hfits⟩ := fit_open hsh hfit
  obtain ⟨hlab, hlab2⟩ := shape_labels hsh
  have hallts : ∀ y ∈ ts, Ty.all shape y = true := fun y hy => hsk y (hmem y hy)
  obtain ⟨hjl, hjl2⟩ := vts_len hallts hfits hlen h16 hnd
  have hvt : (vtT (.mk 6 m s vs) (.mk 6 n l kids)).data.toList = vtM 6 l m s (vtxs vs ts) := by rw [vtT_list, vtx_mk hts]
  obtain ⟨R, hR⟩ : ∃ R, vtT (.mk 6 m s vs) (.mk 6 n l kids) = R := ⟨_, rfl⟩
  rw [hR] at hvt ⊢
  clear hR hfit
  obtain ⟨w0, hw0, B0, bA, bB⟩ := blocks2 w 34 40 [.int .i64 6, .int .i64 m, .string s, .slice A vs.length c] [.int .i64 6, .string n, .slice A1 l.length c1, .slice A2 kids.length c2]
  change Calls Tryz.prog 45 #[.agg #[.int .i64 6, .int .i64 m, .string s, .slice A vs.length c], .agg #[.int .i64 6, .string n, .slice A1 l.length c1, .slice A2 kids.length c2]] w _
  have HB0 := Lib.hid B0
  have kA := bA.cell
  have kB := bB.cell
  have HT0 := Lib.hid (show TxW w0 from TxW.below hCw B0)
  have HE := Lib.hid (show R = numT m by rw [numT]; exact ba_of (by rw [hvt]; unfold vtM; rw [if_neg (by decide), if_neg (by decide), if_neg (by decide), if_neg (by decide), if_neg (by decide), if_neg (by decide), if_neg (by decide), if_neg (by decide), if_neg (by decide), if_neg (by decide), if_neg (by decide)]))
  have HC := Lib.hid (dec_i m hm w0 HT0.out)
  clear hCw hcs hcs' hm hss hvs hnz hl hkids hnf htx hts hmem hlen h16 hfits hlab hlab2 hallts hjl hjl2 hsh hsk _ih B0 bA bB hvt hnd
  go_enter Tryz.func45, Tryz.ntmps45
  go_upto_region 1 with fail
  rw [← hw0]
  clear hw0
  go_wp2_with fail
  refine HC.out.mono ?_
  rintro e w1 ⟨rfl, hb1⟩
  have HB1 := Lib.hid (HB0.out.trans (hb1.mono HB0.out.size))
  clear hb1
  go_wp2
  go_ret
  exact ⟨ret_eq (by rw [HE.out]; rfl), HB1.out⟩
set_option maxHeartbeats 4000000 in
set_option maxRecDepth 20000 in
theorem vi_7 (m : Int) (s : ByteArray) (vs : List Va) (n : ByteArray) (l : List ByteArray) (kids : List Ty) (hsh : shape (.mk 7 n l kids) = true) (hsk : ∀ x ∈ kids, Ty.all shape x = true) (hfit : fitV (.mk 7 m s vs) (.mk 7 n l kids) = true) (hnd : Va.nodess vs ≤ 2000000) (_ih : IhT 45 TxW vs) : TxAt 45 TxW (.mk 7 m s vs) (.mk 7 n l kids) := by
  intro cs cs' w hCw hcs hcs'
  obtain ⟨A, c, rfl, -, hm, hss, hvs⟩ := Va.open_ hcs
  obtain ⟨A1, c1, A2, c2, rfl, -, hnz, hl, hkids⟩ := Ty.open_ hcs'
  obtain ⟨-, hvn, hvc⟩ := rows_bound hvs
  obtain ⟨-, hln, hlc⟩ := rows_bound hl
  obtain ⟨-, hkn, hkc⟩ := rows_bound hkids
  unfold maxLen at hvc hlc hkc
  obtain ⟨-, hnf, htx, ts, hts, hmem, hlen, h16, hfits⟩ := fit_open hsh hfit
  obtain ⟨hlab, hlab2⟩ := shape_labels hsh
  have hallts : ∀ y ∈ ts, Ty.all shape y = true := fun y hy => hsk y (hmem y hy)
  obtain ⟨hjl, hjl2⟩ := vts_len hallts hfits hlen h16 hnd
  have hvt : (vtT (.mk 7 m s vs) (.mk 7 n l kids)).data.toList = vtM 7 l m s (vtxs vs ts) := by rw [vtT_list, vtx_mk hts]
  obtain ⟨R, hR⟩ : ∃ R, vtT (.mk 7 m s vs) (.mk 7 n l kids) = R := ⟨_, rfl⟩
  rw [hR] at hvt ⊢
  clear hR hfit
  obtain ⟨w0, hw0, B0, bA, bB⟩ := blocks2 w 34 40 [.int .i64 7, .int .i64 m, .string s, .slice A vs.length c] [.int .i64 7, .string n, .slice A1 l.length c1, .slice A2 kids.length c2]
  change Calls Tryz.prog 45 #[.agg #[.int .i64 7, .int .i64 m, .string s, .slice A vs.length c], .agg #[.int .i64 7, .string n, .slice A1 l.length c1, .slice A2 kids.length c2]] w _
  have HB0 := Lib.hid B0
  have kA := bA.cell
  have kB := bB.cell
  have HT0 := Lib.hid (show TxW w0 from TxW.below hCw B0)
  have HE := Lib.hid (show R = numT m by rw [numT]; exact ba_of (by rw [hvt]; unfold vtM; rw [if_neg (by decide), if_neg (by decide), if_neg (by decide), if_neg (by decide), if_neg (by decide), if_neg (by decide), if_neg (by decide), if_neg (by decide), if_neg (by decide), if_neg (by decide), if_neg (by decide)]))
  have HC := Lib.hid (dec_i m hm w0 HT0.out)
  clear hCw hcs hcs' hm hss hvs hnz hl hkids hnf htx hts hmem hlen h16 hfits hlab hlab2 hallts hjl hjl2 hsh hsk _ih B0 bA bB hvt hnd
  go_enter Tryz.func45, Tryz.ntmps45
  go_upto_region 1 with fail
  rw [← hw0]
  clear hw0
  go_wp2_with fail
  refine HC.out.mono ?_
  rintro e w1 ⟨rfl, hb1⟩
  have HB1 := Lib.hid (HB0.out.trans (hb1.mono HB0.out.size))
  clear hb1
  go_wp2
  go_ret
  exact ⟨ret_eq (by rw [HE.out]; rfl), HB1.out⟩
set_option maxHeartbeats 4000000 in
set_option maxRecDepth 20000 in
theorem vi_8 (m : Int) (s : ByteArray) (vs : List Va) (n : ByteArray) (l : List ByteArray) (kids : List Ty) (hsh : shape (.mk 8 n l kids) = true) (hsk : ∀ x ∈ kids, Ty.all shape x = true) (hfit : fitV (.mk 8 m s vs) (.mk 8 n l kids) = true) (hnd : Va.nodess vs ≤ 2000000) (_ih : IhT 45 TxW vs) : TxAt 45 TxW (.mk 8 m s vs) (.mk 8 n l kids) := by
  intro cs cs' w hCw hcs hcs'
  obtain ⟨A, c, rfl, -, hm, hss, hvs⟩ := Va.open_ hcs
  obtain ⟨A1, c1, A2, c2, rfl, -, hnz, hl, hkids⟩ := Ty.open_ hcs'
  obtain ⟨-, hvn, hvc⟩ := rows_bound hvs
  obtain ⟨-, hln, hlc⟩ := rows_bound hl
  obtain ⟨-, hkn, hkc⟩ := rows_bound hkids
  unfold maxLen at hvc hlc hkc
  obtain ⟨-, hnf, htx, ts, hts, hmem, hlen, h16, hfits⟩ := fit_open hsh hfit
  obtain ⟨hlab, hlab2⟩ := shape_labels hsh
  have hallts : ∀ y ∈ ts, Ty.all shape y = true := fun y hy => hsk y (hmem y hy)
  obtain ⟨hjl, hjl2⟩ := vts_len hallts hfits hlen h16 hnd
  have hvt : (vtT (.mk 8 m s vs) (.mk 8 n l kids)).data.toList = vtM 8 l m s (vtxs vs ts) := by rw [vtT_list, vtx_mk hts]
  obtain ⟨R, hR⟩ : ∃ R, vtT (.mk 8 m s vs) (.mk 8 n l kids) = R := ⟨_, rfl⟩
  rw [hR] at hvt ⊢
  clear hR hfit
  obtain ⟨w0, hw0, B0, bA, bB⟩ := blocks2 w 34 40 [.int .i64 8, .int .i64 m, .string s, .slice A vs.length c] [.int .i64 8, .string n, .slice A1 l.length c1, .slice A2 kids.length c2]
  change Calls Tryz.prog 45 #[.agg #[.int .i64 8, .int .i64 m, .string s, .slice A vs.length c], .agg #[.int .i64 8, .string n, .slice A1 l.length c1, .slice A2 kids.length c2]] w _
  have HB0 := Lib.hid B0
  have kA := bA.cell
  have kB := bB.cell
  have HT0 := Lib.hid (show TxW w0 from TxW.below hCw B0)
  have HE := Lib.hid (show R = numT m by rw [numT]; exact ba_of (by rw [hvt]; unfold vtM; rw [if_neg (by decide), if_neg (by decide), if_neg (by decide), if_neg (by decide), if_neg (by decide), if_neg (by decide), if_neg (by decide), if_neg (by decide), if_neg (by decide), if_neg (by decide), if_neg (by decide)]))
  have HC := Lib.hid (dec_i m hm w0 HT0.out)
  clear hCw hcs hcs' hm hss hvs hnz hl hkids hnf htx hts hmem hlen h16 hfits hlab hlab2 hallts hjl hjl2 hsh hsk _ih B0 bA bB hvt hnd
  go_enter Tryz.func45, Tryz.ntmps45
  go_upto_region 1 with fail
  rw [← hw0]
  clear hw0
  go_wp2_with fail
  refine HC.out.mono ?_
  rintro e w1 ⟨rfl, hb1⟩
  have HB1 := Lib.hid (HB0.out.trans (hb1.mono HB0.out.size))
  clear hb1
  go_wp2
  go_ret
  exact ⟨ret_eq (by rw [HE.out]; rfl), HB1.out⟩
set_option maxHeartbeats 4000000 in
set_option maxRecDepth 20000 in
theorem vi_9 (m : Int) (s : ByteArray) (vs : List Va) (n : ByteArray) (l : List ByteArray) (kids : List Ty) (hsh : shape (.mk 9 n l kids) = true) (hsk : ∀ x ∈ kids, Ty.all shape x = true) (hfit : fitV (.mk 9 m s vs) (.mk 9 n l kids) = true) (hnd : Va.nodess vs ≤ 2000000) (_ih : IhT 45 TxW vs) : TxAt 45 TxW (.mk 9 m s vs) (.mk 9 n l kids) := by
  intro cs cs' w hCw hcs hcs'
  obtain ⟨A, c, rfl, -, hm, hss, hvs⟩ := Va.open_ hcs
  obtain ⟨A1, c1, A2, c2, rfl, -, hnz, hl, hkids⟩ := Ty.open_ hcs'
  obtain ⟨-, hvn, hvc⟩ := rows_bound hvs
  obtain ⟨-, hln, hlc⟩ := rows_bound hl
  obtain ⟨-, hkn, hkc⟩ := rows_bound hkids
  unfold maxLen at hvc hlc hkc
  obtain ⟨-, hnf, htx, ts, hts, hmem, hlen, h16, hfits⟩ := fit_open hsh hfit
  obtain ⟨hlab, hlab2⟩ := shape_labels hsh
  have hallts : ∀ y ∈ ts, Ty.all shape y = true := fun y hy => hsk y (hmem y hy)
  obtain ⟨hjl, hjl2⟩ := vts_len hallts hfits hlen h16 hnd
  have hvt : (vtT (.mk 9 m s vs) (.mk 9 n l kids)).data.toList = vtM 9 l m s (vtxs vs ts) := by rw [vtT_list, vtx_mk hts]
  obtain ⟨R, hR⟩ : ∃ R, vtT (.mk 9 m s vs) (.mk 9 n l kids) = R := ⟨_, rfl⟩
  rw [hR] at hvt ⊢
  clear hR hfit
  obtain ⟨w0, hw0, B0, bA, bB⟩ := blocks2 w 34 40 [.int .i64 9, .int .i64 m, .string s, .slice A vs.length c] [.int .i64 9, .string n, .slice A1 l.length c1, .slice A2 kids.length c2]
  change Calls Tryz.prog 45 #[.agg #[.int .i64 9, .int .i64 m, .string s, .slice A vs.length c], .agg #[.int .i64 9, .string n, .slice A1 l.length c1, .slice A2 kids.length c2]] w _
  have HB0 := Lib.hid B0
  have kA := bA.cell
  have kB := bB.cell
  have HT0 := Lib.hid (show TxW w0 from TxW.below hCw B0)
  have HE := Lib.hid (show R = numT m by rw [numT]; exact ba_of (by rw [hvt]; unfold vtM; rw [if_neg (by decide), if_neg (by decide), if_neg (by decide), if_neg (by decide), if_neg (by decide), if_neg (by decide), if_neg (by decide), if_neg (by decide), if_neg (by decide), if_neg (by decide), if_neg (by decide)]))
  have HC := Lib.hid (dec_i m hm w0 HT0.out)
  clear hCw hcs hcs' hm hss hvs hnz hl hkids hnf htx hts hmem hlen h16 hfits hlab hlab2 hallts hjl hjl2 hsh hsk _ih B0 bA bB hvt hnd
  go_enter Tryz.func45, Tryz.ntmps45
  go_upto_region 1 with fail
  rw [← hw0]
  clear hw0
  go_wp2_with fail
  refine HC.out.mono ?_
  rintro e w1 ⟨rfl, hb1⟩
  have HB1 := Lib.hid (HB0.out.trans (hb1.mono HB0.out.size))
  clear hb1
  go_wp2
  go_ret
  exact ⟨ret_eq (by rw [HE.out]; rfl), HB1.out⟩
set_option maxHeartbeats 4000000 in
set_option maxRecDepth 20000 in
theorem vi_10 (m : Int) (s : ByteArray) (vs : List Va) (n : ByteArray) (l : List ByteArray) (kids : List Ty) (hsh : shape (.mk 10 n l kids) = true) (hsk : ∀ x ∈ kids, Ty.all shape x = true) (hfit : fitV (.mk 10 m s vs) (.mk 10 n l kids) = true) (hnd : Va.nodess vs ≤ 2000000) (_ih : IhT 45 TxW vs) : TxAt 45 TxW (.mk 10 m s vs) (.mk 10 n l kids) := by
  intro cs cs' w hCw hcs hcs'
  obtain ⟨A, c, rfl, -, hm, hss, hvs⟩ := Va.open_ hcs
  obtain ⟨A1, c1, A2, c2, rfl, -, hnz, hl, hkids⟩ := Ty.open_ hcs'
  obtain ⟨-, hvn, hvc⟩ := rows_bound hvs
  obtain ⟨-, hln, hlc⟩ := rows_bound hl
  obtain ⟨-, hkn, hkc⟩ := rows_bound hkids
  unfold maxLen at hvc hlc hkc
  obtain ⟨-, hnf, htx, ts, hts, hmem, hlen, h16, hfits⟩ := fit_open hsh hfit
  obtain ⟨hlab, hlab2⟩ := shape_labels hsh
  have hallts : ∀ y ∈ ts, Ty.all shape y = true := fun y hy => hsk y (hmem y hy)
  obtain ⟨hjl, hjl2⟩ := vts_len hallts hfits hlen h16 hnd
  have hvt : (vtT (.mk 10 m s vs) (.mk 10 n l kids)).data.toList = vtM 10 l m s (vtxs vs ts) := by rw [vtT_list, vtx_mk hts]
  obtain ⟨R, hR⟩ : ∃ R, vtT (.mk 10 m s vs) (.mk 10 n l kids) = R := ⟨_, rfl⟩
  rw [hR] at hvt ⊢
  clear hR hfit
  obtain ⟨w0, hw0, B0, bA, bB⟩ := blocks2 w 34 40 [.int .i64 10, .int .i64 m, .string s, .slice A vs.length c] [.int .i64 10, .string n, .slice A1 l.length c1, .slice A2 kids.length c2]
  change Calls Tryz.prog 45 #[.agg #[.int .i64 10, .int .i64 m, .string s, .slice A vs.length c], .agg #[.int .i64 10, .string n, .slice A1 l.length c1, .slice A2 kids.length c2]] w _
  have HB0 := Lib.hid B0
  have kA := bA.cell
  have kB := bB.cell
  have HT0 := Lib.hid (show TxW w0 from TxW.below hCw B0)
  have hmm := num_10 hnf
  obtain ⟨M, rfl⟩ : ∃ M : Nat, m = (M : Int) := ⟨m.toNat, by omega⟩
  have hwr : IntKind.i32.wrap (M : Int) = (M : Int) := by rw [IntKind.wrap_i32]; omega
  have hqz := escB_size (q := 39) (c := (M : Int)) hmm.2
  have HE := Lib.hid (show R.data.toList = 39 :: ((escB 39 (M : Int)).data.toList ++ [39]) by rw [hvt]; unfold vtM; rw [if_neg (by decide), if_neg (by decide), if_pos (by decide)]; simp [quoT, escs, escB])
  have HC : Hid (Calls Tryz.prog 67 #[.int .i32 (M : Int), .int .i32 39] w0 fun e w' => e = .returned (.string (escB 39 (M : Int))) ∧ Below w0.heap.size w0 w') := Lib.hid (escaped_i 39 M (.inr rfl) (by omega) w0 HT0.out)
  obtain ⟨Q, hQ⟩ : ∃ Q, escB 39 (M : Int) = Q := ⟨_, rfl⟩
  rw [hQ] at HE HC hqz
  clear hmm hQ
  clear hCw hcs hcs' hm hss hvs hnz hl hkids hnf htx hts hmem hlen h16 hfits hlab hlab2 hallts hjl hjl2 hsh hsk _ih B0 bA bB hvt hnd
  go_enter Tryz.func45, Tryz.ntmps45
  go_upto_region 1 with fail
  rw [← hw0]
  clear hw0
  go_wp2_with fail
  refine HC.out.mono ?_
  rintro e w1 ⟨rfl, hb1⟩
  have HB1 := Lib.hid (HB0.out.trans (hb1.mono HB0.out.size))
  clear hb1 kA kB
  go_wp2
  go_ret
  exact ⟨ret_eq (congrArg Value.string (by rw [ba_of HE.out]; exact ByteArray.ext (Array.toList_inj.1 (by simp)))), HB1.out⟩
set_option maxHeartbeats 4000000 in
set_option maxRecDepth 20000 in
theorem vi_11 (m : Int) (s : ByteArray) (vs : List Va) (n : ByteArray) (l : List ByteArray) (kids : List Ty) (hsh : shape (.mk 11 n l kids) = true) (hsk : ∀ x ∈ kids, Ty.all shape x = true) (hfit : fitV (.mk 11 m s vs) (.mk 11 n l kids) = true) (hnd : Va.nodess vs ≤ 2000000) (_ih : IhT 45 TxW vs) : TxAt 45 TxW (.mk 11 m s vs) (.mk 11 n l kids) := by
  intro cs cs' w hCw hcs hcs'
  obtain ⟨A, c, rfl, -, hm, hss, hvs⟩ := Va.open_ hcs
  obtain ⟨A1, c1, A2, c2, rfl, -, hnz, hl, hkids⟩ := Ty.open_ hcs'
  obtain ⟨-, hvn, hvc⟩ := rows_bound hvs
  obtain ⟨-, hln, hlc⟩ := rows_bound hl
  obtain ⟨-, hkn, hkc⟩ := rows_bound hkids
  unfold maxLen at hvc hlc hkc
  obtain ⟨-, hnf, htx, ts, hts, hmem, hlen, h16, hfits⟩ := fit_open hsh hfit
  obtain ⟨hlab, hlab2⟩ := shape_labels hsh
  have hallts : ∀ y ∈ ts, Ty.all shape y = true := fun y hy => hsk y (hmem y hy)
  obtain ⟨hjl, hjl2⟩ := vts_len hallts hfits hlen h16 hnd
  have hvt : (vtT (.mk 11 m s vs) (.mk 11 n l kids)).data.toList = vtM 11 l m s (vtxs vs ts) := by rw [vtT_list, vtx_mk hts]
  obtain ⟨R, hR⟩ : ∃ R, vtT (.mk 11 m s vs) (.mk 11 n l kids) = R := ⟨_, rfl⟩
  rw [hR] at hvt ⊢
  clear hR hfit
  obtain ⟨w0, hw0, B0, bA, bB⟩ := blocks2 w 34 40 [.int .i64 11, .int .i64 m, .string s, .slice A vs.length c] [.int .i64 11, .string n, .slice A1 l.length c1, .slice A2 kids.length c2]
  change Calls Tryz.prog 45 #[.agg #[.int .i64 11, .int .i64 m, .string s, .slice A vs.length c], .agg #[.int .i64 11, .string n, .slice A1 l.length c1, .slice A2 kids.length c2]] w _
  have HB0 := Lib.hid B0
  have kA := bA.cell
  have kB := bB.cell
  have HT0 := Lib.hid (show TxW w0 from TxW.below hCw B0)
  have htk := textOk_size htx
  have HE := Lib.hid (show R = ⟨(quoT 34 (pts s)).toArray⟩ from ba_of (by rw [hvt]; unfold vtM; rw [if_neg (by decide), if_neg (by decide), if_neg (by decide), if_pos (by decide)]))
  have HC := Lib.hid (quotedText_i s htk.1 htk.2 w0 HT0.out)
  obtain ⟨Q, hQ⟩ : ∃ Q : ByteArray, (⟨(quoT 34 (pts s)).toArray⟩ : ByteArray) = Q := ⟨_, rfl⟩
  rw [hQ] at HE HC
  clear htk hQ
  clear hCw hcs hcs' hm hss hvs hnz hl hkids hnf htx hts hmem hlen h16 hfits hlab hlab2 hallts hjl hjl2 hsh hsk _ih B0 bA bB hvt hnd
  go_enter Tryz.func45, Tryz.ntmps45
  go_upto_region 1 with fail
  rw [← hw0]
  clear hw0
  go_wp2_with fail
  refine HC.out.mono ?_
  rintro e w1 ⟨rfl, hb1⟩
  have HB1 := Lib.hid (HB0.out.trans (hb1.mono HB0.out.size))
  clear hb1
  go_wp2
  go_ret
  exact ⟨ret_eq (by rw [HE.out]; try rfl), HB1.out⟩
set_option maxHeartbeats 4000000 in
set_option maxRecDepth 20000 in
theorem vi_18 (m : Int) (s : ByteArray) (vs : List Va) (n : ByteArray) (l : List ByteArray) (kids : List Ty) (hsh : shape (.mk 18 n l kids) = true) (hsk : ∀ x ∈ kids, Ty.all shape x = true) (hfit : fitV (.mk 18 m s vs) (.mk 18 n l kids) = true) (hnd : Va.nodess vs ≤ 2000000) (_ih : IhT 45 TxW vs) : TxAt 45 TxW (.mk 18 m s vs) (.mk 18 n l kids) := by
  intro cs cs' w hCw hcs hcs'
  obtain ⟨A, c, rfl, -, hm, hss, hvs⟩ := Va.open_ hcs
  obtain ⟨A1, c1, A2, c2, rfl, -, hnz, hl, hkids⟩ := Ty.open_ hcs'
  obtain ⟨-, hvn, hvc⟩ := rows_bound hvs
  obtain ⟨-, hln, hlc⟩ := rows_bound hl
  obtain ⟨-, hkn, hkc⟩ := rows_bound hkids
  unfold maxLen at hvc hlc hkc
  obtain ⟨-, hnf, htx, ts, hts, hmem, hlen, h16, hfits⟩ := fit_open hsh hfit
  obtain ⟨hlab, hlab2⟩ := shape_labels hsh
  have hallts : ∀ y ∈ ts, Ty.all shape y = true := fun y hy => hsk y (hmem y hy)
  obtain ⟨hjl, hjl2⟩ := vts_len hallts hfits hlen h16 hnd
  have hvt : (vtT (.mk 18 m s vs) (.mk 18 n l kids)).data.toList = vtM 18 l m s (vtxs vs ts) := by rw [vtT_list, vtx_mk hts]
  obtain ⟨R, hR⟩ : ∃ R, vtT (.mk 18 m s vs) (.mk 18 n l kids) = R := ⟨_, rfl⟩
  rw [hR] at hvt ⊢
  clear hR hfit
  obtain ⟨w0, hw0, B0, bA, bB⟩ := blocks2 w 34 40 [.int .i64 18, .int .i64 m, .string s, .slice A vs.length c] [.int .i64 18, .string n, .slice A1 l.length c1, .slice A2 kids.length c2]
  change Calls Tryz.prog 45 #[.agg #[.int .i64 18, .int .i64 m, .string s, .slice A vs.length c], .agg #[.int .i64 18, .string n, .slice A1 l.length c1, .slice A2 kids.length c2]] w _
  have HB0 := Lib.hid B0
  have kA := bA.cell
  have kB := bB.cell
  have HT0 := Lib.hid (show TxW w0 from TxW.below hCw B0)
  have hmm := num_17 (.inr rfl) hnf
  obtain ⟨j, rfl⟩ : ∃ j : Nat, m = (j : Int) := ⟨m.toNat, by omega⟩
  have hjl3 : j < l.length := by omega
  obtain ⟨a, ha⟩ : ∃ a, l[j]? = some a := ⟨l[j], List.getElem?_eq_getElem hjl3⟩
  have i0 : (0 : Int) ≤ (j : Int) := by omega
  have i2 : (j : Int) < (l.length : Int) := by omega
  obtain ⟨b3, off3, e3, hbl3, l3⟩ := strs_cell hl ha
  subst e3
  replace l3 := (B0.cell (p := ⟨b3, off3 + j, none⟩) hbl3).trans l3
  have HE := Lib.hid (show R = a from ByteArray.ext (Array.toList_inj.1 (by rw [hvt]; unfold vtM; rw [if_neg (by decide), if_neg (by decide), if_neg (by decide), if_neg (by decide), if_neg (by decide), if_neg (by decide), if_neg (by decide), if_neg (by decide), if_neg (by decide), if_pos (by decide), Int.toNat_natCast, ha]; rfl)))
  clear hmm ha hbl3
  clear hCw hcs hcs' hm hss hvs hnz hl hkids hnf htx hts hmem hlen h16 hfits hlab hlab2 hallts hjl hjl2 hsh hsk _ih B0 bA bB hvt hnd
  go_enter Tryz.func45, Tryz.ntmps45
  go_upto_region 1 with fail
  rw [← hw0]
  clear hw0
  go_wp2
  go_ret
  exact ⟨ret_eq (by rw [HE.out]; try rfl), HB0.out⟩
set_option maxHeartbeats 4000000 in
set_option maxRecDepth 20000 in
theorem vi_20 (m : Int) (s : ByteArray) (vs : List Va) (n : ByteArray) (l : List ByteArray) (kids : List Ty) (hsh : shape (.mk 20 n l kids) = true) (hsk : ∀ x ∈ kids, Ty.all shape x = true) (hfit : fitV (.mk 20 m s vs) (.mk 20 n l kids) = true) (hnd : Va.nodess vs ≤ 2000000) (_ih : IhT 45 TxW vs) : TxAt 45 TxW (.mk 20 m s vs) (.mk 20 n l kids) := by
  intro cs cs' w hCw hcs hcs'
  obtain ⟨A, c, rfl, -, hm, hss, hvs⟩ := Va.open_ hcs
  obtain ⟨A1, c1, A2, c2, rfl, -, hnz, hl, hkids⟩ := Ty.open_ hcs'
  obtain ⟨-, hvn, hvc⟩ := rows_bound hvs
  obtain ⟨-, hln, hlc⟩ := rows_bound hl
  obtain ⟨-, hkn, hkc⟩ := rows_bound hkids
  unfold maxLen at hvc hlc hkc
  obtain ⟨-, hnf, htx, ts, hts, hmem, hlen, h16, hfits⟩ := fit_open hsh hfit
  obtain ⟨hlab, hlab2⟩ := shape_labels hsh
  have hallts : ∀ y ∈ ts, Ty.all shape y = true := fun y hy => hsk y (hmem y hy)
  obtain ⟨hjl, hjl2⟩ := vts_len hallts hfits hlen h16 hnd
  have hvt : (vtT (.mk 20 m s vs) (.mk 20 n l kids)).data.toList = vtM 20 l m s (vtxs vs ts) := by rw [vtT_list, vtx_mk hts]
  obtain ⟨R, hR⟩ : ∃ R, vtT (.mk 20 m s vs) (.mk 20 n l kids) = R := ⟨_, rfl⟩
  rw [hR] at hvt ⊢
  clear hR hfit
  obtain ⟨w0, hw0, B0, bA, bB⟩ := blocks2 w 34 40 [.int .i64 20, .int .i64 m, .string s, .slice A vs.length c] [.int .i64 20, .string n, .slice A1 l.length c1, .slice A2 kids.length c2]
  change Calls Tryz.prog 45 #[.agg #[.int .i64 20, .int .i64 m, .string s, .slice A vs.length c], .agg #[.int .i64 20, .string n, .slice A1 l.length c1, .slice A2 kids.length c2]] w _
  have HB0 := Lib.hid B0
  have kA := bA.cell
  have kB := bB.cell
  have HT0 := Lib.hid (show TxW w0 from TxW.below hCw B0)
  have hmm := num_20 (k := 20) (by decide) hnf
  have hkz := kword_small (20 : Int)
  have hdz : (numT m).size ≤ 21 := by
    have := Lib.itoa_length_le m (by omega) (by omega)
    simp only [numT, ByteArray.size, List.size_toArray]; omega
  have HE : Hid (R.data.toList = (kword 20).data.toList ++ 35 :: (numT m).data.toList) := Lib.hid (by rw [hvt]; unfold vtM; rw [if_neg (by decide), if_neg (by decide), if_neg (by decide), if_neg (by decide), if_neg (by decide), if_neg (by decide), if_neg (by decide), if_neg (by decide), if_neg (by decide), if_neg (by decide), if_pos (by decide)]; simp [numT])
  have HH : Hid (∀ W, Calls Tryz.prog 74 #[.int .i64 20] W fun e w' => e = .returned (.string (kword 20 ++ ⟨#[35]⟩)) ∧ Below W.heap.size W w') := Lib.hid (fun W => handleWord_i 20 (by decide) W)
  have HD := Lib.hid (fun W (h : Below w0.heap.size w0 W) => dec_i m hm W (TxW.below HT0.out h))
  obtain ⟨KW, hKW⟩ : ∃ KW, kword (20 : Int) = KW := ⟨_, rfl⟩
  obtain ⟨DW, hDW⟩ : ∃ DW, numT m = DW := ⟨_, rfl⟩
  rw [hKW] at HE hkz
  simp only [hKW] at HH
  rw [hDW] at HE hdz
  simp only [hDW] at HD
  have hq3 : ¬ 9223372036854775807 < (KW ++ ⟨#[35]⟩).size + DW.size := by rw [ByteArray.size_append, show (⟨#[35]⟩ : ByteArray).size = 1 from rfl]; omega
  clear hmm hKW hDW
  have r0 := cell_regrown (show w0.cell? ⟨w.heap.size, 0, none⟩ = some (.int .i64 20) from bA.cell 0)
  have r1 := cell_regrown (show w0.cell? ⟨w.heap.size, 1, none⟩ = some (.int .i64 m) from bA.cell 1)
  have r2 := cell_regrown (show w0.cell? ⟨w.heap.size, 2, none⟩ = some (.string s) from bA.cell 2)
  have r3 := cell_regrown (show w0.cell? ⟨w.heap.size, 3, none⟩ = some (.slice A vs.length c) from bA.cell 3)
  have x0 := cell_regrown (show w0.cell? ⟨w.heap.size + 1, 0, none⟩ = some (.int .i64 20) from bB.cell 0)
  have x1 := cell_regrown (show w0.cell? ⟨w.heap.size + 1, 1, none⟩ = some (.string n) from bB.cell 1)
  have x2 := cell_regrown (show w0.cell? ⟨w.heap.size + 1, 2, none⟩ = some (.slice A1 l.length c1) from bB.cell 2)
  have x3 := cell_regrown (show w0.cell? ⟨w.heap.size + 1, 3, none⟩ = some (.slice A2 kids.length c2) from bB.cell 3)
  clear hCw hcs hcs' hm hss hvs hnz hl hkids hnf htx hts hmem hlen h16 hfits hlab hlab2 hallts hjl hjl2 hsh hsk _ih B0 bA bB hvt hnd
  go_enter Tryz.func45, Tryz.ntmps45
  go_upto_region 1 with fail
  rw [← hw0]
  clear hw0
  go_upto_region 30 with fail
  clear kA kB
  refine wp_region_quiet_below (by kernel_rfl) (by kernel_rfl) ?_
  repeat (first | go_big_quiet_step (first | with_reducible exact Calls.regrown_of (HD.out _ (below_regrown _ _ _)) | with_reducible exact Calls.regrown_of (HH.out _)) | quiet_step (first | with_reducible exact Calls.regrown_of (HD.out _ (below_regrown _ _ _)) | with_reducible exact Calls.regrown_of (HH.out _)))
  refine wpQuiet_nil ?_
  intro w6 hw6
  have HB6 := Lib.hid (HB0.out.trans ((below_of_regrown hw6).mono HB0.out.size))
  clear hw6
  clear r0 r1 r2 r3 x0 x1 x2 x3
  go_wp2
  go_ret
  refine ⟨ret_eq (congrArg Value.string (ByteArray.ext (Array.toList_inj.1 ?_))), HB6.out⟩
  rw [HE.out]
  simp
set_option maxHeartbeats 4000000 in
set_option maxRecDepth 20000 in
theorem vi_21 (m : Int) (s : ByteArray) (vs : List Va) (n : ByteArray) (l : List ByteArray) (kids : List Ty) (hsh : shape (.mk 21 n l kids) = true) (hsk : ∀ x ∈ kids, Ty.all shape x = true) (hfit : fitV (.mk 21 m s vs) (.mk 21 n l kids) = true) (hnd : Va.nodess vs ≤ 2000000) (_ih : IhT 45 TxW vs) : TxAt 45 TxW (.mk 21 m s vs) (.mk 21 n l kids) := by
  intro cs cs' w hCw hcs hcs'
  obtain ⟨A, c, rfl, -, hm, hss, hvs⟩ := Va.open_ hcs
  obtain ⟨A1, c1, A2, c2, rfl, -, hnz, hl, hkids⟩ := Ty.open_ hcs'
  obtain ⟨-, hvn, hvc⟩ := rows_bound hvs
  obtain ⟨-, hln, hlc⟩ := rows_bound hl
  obtain ⟨-, hkn, hkc⟩ := rows_bound hkids
  unfold maxLen at hvc hlc hkc
  obtain ⟨-, hnf, htx, ts, hts, hmem, hlen, h16, hfits⟩ := fit_open hsh hfit
  obtain ⟨hlab, hlab2⟩ := shape_labels hsh
  have hallts : ∀ y ∈ ts, Ty.all shape y = true := fun y hy => hsk y (hmem y hy)
  obtain ⟨hjl, hjl2⟩ := vts_len hallts hfits hlen h16 hnd
  have hvt : (vtT (.mk 21 m s vs) (.mk 21 n l kids)).data.toList = vtM 21 l m s (vtxs vs ts) := by rw [vtT_list, vtx_mk hts]
  obtain ⟨R, hR⟩ : ∃ R, vtT (.mk 21 m s vs) (.mk 21 n l kids) = R := ⟨_, rfl⟩
  rw [hR] at hvt ⊢
  clear hR hfit
  obtain ⟨w0, hw0, B0, bA, bB⟩ := blocks2 w 34 40 [.int .i64 21, .int .i64 m, .string s, .slice A vs.length c] [.int .i64 21, .string n, .slice A1 l.length c1, .slice A2 kids.length c2]
  change Calls Tryz.prog 45 #[.agg #[.int .i64 21, .int .i64 m, .string s, .slice A vs.length c], .agg #[.int .i64 21, .string n, .slice A1 l.length c1, .slice A2 kids.length c2]] w _
  have HB0 := Lib.hid B0
  have kA := bA.cell
  have kB := bB.cell
  have HT0 := Lib.hid (show TxW w0 from TxW.below hCw B0)
  have hmm := num_20 (k := 21) (by decide) hnf
  have hkz := kword_small (21 : Int)
  have hdz : (numT m).size ≤ 21 := by
    have := Lib.itoa_length_le m (by omega) (by omega)
    simp only [numT, ByteArray.size, List.size_toArray]; omega
  have HE : Hid (R.data.toList = (kword 21).data.toList ++ 35 :: (numT m).data.toList) := Lib.hid (by rw [hvt]; unfold vtM; rw [if_neg (by decide), if_neg (by decide), if_neg (by decide), if_neg (by decide), if_neg (by decide), if_neg (by decide), if_neg (by decide), if_neg (by decide), if_neg (by decide), if_neg (by decide), if_pos (by decide)]; simp [numT])
  have HH : Hid (∀ W, Calls Tryz.prog 74 #[.int .i64 21] W fun e w' => e = .returned (.string (kword 21 ++ ⟨#[35]⟩)) ∧ Below W.heap.size W w') := Lib.hid (fun W => handleWord_i 21 (by decide) W)
  have HD := Lib.hid (fun W (h : Below w0.heap.size w0 W) => dec_i m hm W (TxW.below HT0.out h))
  obtain ⟨KW, hKW⟩ : ∃ KW, kword (21 : Int) = KW := ⟨_, rfl⟩
  obtain ⟨DW, hDW⟩ : ∃ DW, numT m = DW := ⟨_, rfl⟩
  rw [hKW] at HE hkz
  simp only [hKW] at HH
  rw [hDW] at HE hdz
  simp only [hDW] at HD
  have hq3 : ¬ 9223372036854775807 < (KW ++ ⟨#[35]⟩).size + DW.size := by rw [ByteArray.size_append, show (⟨#[35]⟩ : ByteArray).size = 1 from rfl]; omega
  clear hmm hKW hDW
  have r0 := cell_regrown (show w0.cell? ⟨w.heap.size, 0, none⟩ = some (.int .i64 21) from bA.cell 0)
  have r1 := cell_regrown (show w0.cell? ⟨w.heap.size, 1, none⟩ = some (.int .i64 m) from bA.cell 1)
  have r2 := cell_regrown (show w0.cell? ⟨w.heap.size, 2, none⟩ = some (.string s) from bA.cell 2)
  have r3 := cell_regrown (show w0.cell? ⟨w.heap.size, 3, none⟩ = some (.slice A vs.length c) from bA.cell 3)
  have x0 := cell_regrown (show w0.cell? ⟨w.heap.size + 1, 0, none⟩ = some (.int .i64 21) from bB.cell 0)
  have x1 := cell_regrown (show w0.cell? ⟨w.heap.size + 1, 1, none⟩ = some (.string n) from bB.cell 1)
  have x2 := cell_regrown (show w0.cell? ⟨w.heap.size + 1, 2, none⟩ = some (.slice A1 l.length c1) from bB.cell 2)
  have x3 := cell_regrown (show w0.cell? ⟨w.heap.size + 1, 3, none⟩ = some (.slice A2 kids.length c2) from bB.cell 3)
  clear hCw hcs hcs' hm hss hvs hnz hl hkids hnf htx hts hmem hlen h16 hfits hlab hlab2 hallts hjl hjl2 hsh hsk _ih B0 bA bB hvt hnd
  go_enter Tryz.func45, Tryz.ntmps45
  go_upto_region 1 with fail
  rw [← hw0]
  clear hw0
  go_upto_region 30 with fail
  clear kA kB
  refine wp_region_quiet_below (by kernel_rfl) (by kernel_rfl) ?_
  repeat (first | go_big_quiet_step (first | with_reducible exact Calls.regrown_of (HD.out _ (below_regrown _ _ _)) | with_reducible exact Calls.regrown_of (HH.out _)) | quiet_step (first | with_reducible exact Calls.regrown_of (HD.out _ (below_regrown _ _ _)) | with_reducible exact Calls.regrown_of (HH.out _)))
  refine wpQuiet_nil ?_
  intro w6 hw6
  have HB6 := Lib.hid (HB0.out.trans ((below_of_regrown hw6).mono HB0.out.size))
  clear hw6
  clear r0 r1 r2 r3 x0 x1 x2 x3
  go_wp2
  go_ret
  refine ⟨ret_eq (congrArg Value.string (ByteArray.ext (Array.toList_inj.1 ?_))), HB6.out⟩
  rw [HE.out]
  simp
set_option maxHeartbeats 4000000 in
set_option maxRecDepth 20000 in
theorem vi_22 (m : Int) (s : ByteArray) (vs : List Va) (n : ByteArray) (l : List ByteArray) (kids : List Ty) (hsh : shape (.mk 22 n l kids) = true) (hsk : ∀ x ∈ kids, Ty.all shape x = true) (hfit : fitV (.mk 22 m s vs) (.mk 22 n l kids) = true) (hnd : Va.nodess vs ≤ 2000000) (_ih : IhT 45 TxW vs) : TxAt 45 TxW (.mk 22 m s vs) (.mk 22 n l kids) := by
  intro cs cs' w hCw hcs hcs'
  obtain ⟨A, c, rfl, -, hm, hss, hvs⟩ := Va.open_ hcs
  obtain ⟨A1, c1, A2, c2, rfl, -, hnz, hl, hkids⟩ := Ty.open_ hcs'
  obtain ⟨-, hvn, hvc⟩ := rows_bound hvs
  obtain ⟨-, hln, hlc⟩ := rows_bound hl
  obtain ⟨-, hkn, hkc⟩ := rows_bound hkids
  unfold maxLen at hvc hlc hkc
  obtain ⟨-, hnf, htx, ts, hts, hmem, hlen, h16, hfits⟩ := fit_open hsh hfit
  obtain ⟨hlab, hlab2⟩ := shape_labels hsh
  have hallts : ∀ y ∈ ts, Ty.all shape y = true := fun y hy => hsk y (hmem y hy)
  obtain ⟨hjl, hjl2⟩ := vts_len hallts hfits hlen h16 hnd
  have hvt : (vtT (.mk 22 m s vs) (.mk 22 n l kids)).data.toList = vtM 22 l m s (vtxs vs ts) := by rw [vtT_list, vtx_mk hts]
  obtain ⟨R, hR⟩ : ∃ R, vtT (.mk 22 m s vs) (.mk 22 n l kids) = R := ⟨_, rfl⟩
  rw [hR] at hvt ⊢
  clear hR hfit
  obtain ⟨w0, hw0, B0, bA, bB⟩ := blocks2 w 34 40 [.int .i64 22, .int .i64 m, .string s, .slice A vs.length c] [.int .i64 22, .string n, .slice A1 l.length c1, .slice A2 kids.length c2]
  change Calls Tryz.prog 45 #[.agg #[.int .i64 22, .int .i64 m, .string s, .slice A vs.length c], .agg #[.int .i64 22, .string n, .slice A1 l.length c1, .slice A2 kids.length c2]] w _
  have HB0 := Lib.hid B0
  have kA := bA.cell
  have kB := bB.cell
  have HT0 := Lib.hid (show TxW w0 from TxW.below hCw B0)
  have hmm := num_20 (k := 22) (by decide) hnf
  have hkz := kword_small (22 : Int)
  have hdz : (numT m).size ≤ 21 := by
    have := Lib.itoa_length_le m (by omega) (by omega)
    simp only [numT, ByteArray.size, List.size_toArray]; omega
  have HE : Hid (R.data.toList = (kword 22).data.toList ++ 35 :: (numT m).data.toList) := Lib.hid (by rw [hvt]; unfold vtM; rw [if_neg (by decide), if_neg (by decide), if_neg (by decide), if_neg (by decide), if_neg (by decide), if_neg (by decide), if_neg (by decide), if_neg (by decide), if_neg (by decide), if_neg (by decide), if_pos (by decide)]; simp [numT])
  have HH : Hid (∀ W, Calls Tryz.prog 74 #[.int .i64 22] W fun e w' => e = .returned (.string (kword 22 ++ ⟨#[35]⟩)) ∧ Below W.heap.size W w') := Lib.hid (fun W => handleWord_i 22 (by decide) W)
  have HD := Lib.hid (fun W (h : Below w0.heap.size w0 W) => dec_i m hm W (TxW.below HT0.out h))
  obtain ⟨KW, hKW⟩ : ∃ KW, kword (22 : Int) = KW := ⟨_, rfl⟩
  obtain ⟨DW, hDW⟩ : ∃ DW, numT m = DW := ⟨_, rfl⟩
  rw [hKW] at HE hkz
  simp only [hKW] at HH
  rw [hDW] at HE hdz
  simp only [hDW] at HD
  have hq3 : ¬ 9223372036854775807 < (KW ++ ⟨#[35]⟩).size + DW.size := by rw [ByteArray.size_append, show (⟨#[35]⟩ : ByteArray).size = 1 from rfl]; omega
  clear hmm hKW hDW
  have r0 := cell_regrown (show w0.cell? ⟨w.heap.size, 0, none⟩ = some (.int .i64 22) from bA.cell 0)
  have r1 := cell_regrown (show w0.cell? ⟨w.heap.size, 1, none⟩ = some (.int .i64 m) from bA.cell 1)
  have r2 := cell_regrown (show w0.cell? ⟨w.heap.size, 2, none⟩ = some (.string s) from bA.cell 2)
  have r3 := cell_regrown (show w0.cell? ⟨w.heap.size, 3, none⟩ = some (.slice A vs.length c) from bA.cell 3)
  have x0 := cell_regrown (show w0.cell? ⟨w.heap.size + 1, 0, none⟩ = some (.int .i64 22) from bB.cell 0)
  have x1 := cell_regrown (show w0.cell? ⟨w.heap.size + 1, 1, none⟩ = some (.string n) from bB.cell 1)
  have x2 := cell_regrown (show w0.cell? ⟨w.heap.size + 1, 2, none⟩ = some (.slice A1 l.length c1) from bB.cell 2)
  have x3 := cell_regrown (show w0.cell? ⟨w.heap.size + 1, 3, none⟩ = some (.slice A2 kids.length c2) from bB.cell 3)
  clear hCw hcs hcs' hm hss hvs hnz hl hkids hnf htx hts hmem hlen h16 hfits hlab hlab2 hallts hjl hjl2 hsh hsk _ih B0 bA bB hvt hnd
  go_enter Tryz.func45, Tryz.ntmps45
  go_upto_region 1 with fail
  rw [← hw0]
  clear hw0
  go_upto_region 30 with fail
  clear kA kB
  refine wp_region_quiet_below (by kernel_rfl) (by kernel_rfl) ?_
  repeat (first | go_big_quiet_step (first | with_reducible exact Calls.regrown_of (HD.out _ (below_regrown _ _ _)) | with_reducible exact Calls.regrown_of (HH.out _)) | quiet_step (first | with_reducible exact Calls.regrown_of (HD.out _ (below_regrown _ _ _)) | with_reducible exact Calls.regrown_of (HH.out _)))
  refine wpQuiet_nil ?_
  intro w6 hw6
  have HB6 := Lib.hid (HB0.out.trans ((below_of_regrown hw6).mono HB0.out.size))
  clear hw6
  clear r0 r1 r2 r3 x0 x1 x2 x3
  go_wp2
  go_ret
  refine ⟨ret_eq (congrArg Value.string (ByteArray.ext (Array.toList_inj.1 ?_))), HB6.out⟩
  rw [HE.out]
  simp
set_option maxHeartbeats 4000000 in
set_option maxRecDepth 20000 in
theorem vi_23 (m : Int) (s : ByteArray) (vs : List Va) (n : ByteArray) (l : List ByteArray) (kids : List Ty) (hsh : shape (.mk 23 n l kids) = true) (hsk : ∀ x ∈ kids, Ty.all shape x = true) (hfit : fitV (.mk 23 m s vs) (.mk 23 n l kids) = true) (hnd : Va.nodess vs ≤ 2000000) (_ih : IhT 45 TxW vs) : TxAt 45 TxW (.mk 23 m s vs) (.mk 23 n l kids) := by
  intro cs cs' w hCw hcs hcs'
  obtain ⟨A, c, rfl, -, hm, hss, hvs⟩ := Va.open_ hcs
  obtain ⟨A1, c1, A2, c2, rfl, -, hnz, hl, hkids⟩ := Ty.open_ hcs'
  obtain ⟨-, hvn, hvc⟩ := rows_bound hvs
  obtain ⟨-, hln, hlc⟩ := rows_bound hl
  obtain ⟨-, hkn, hkc⟩ := rows_bound hkids
  unfold maxLen at hvc hlc hkc
  obtain ⟨-, hnf, htx, ts, hts, hmem, hlen, h16, hfits⟩ := fit_open hsh hfit
  obtain ⟨hlab, hlab2⟩ := shape_labels hsh
  have hallts : ∀ y ∈ ts, Ty.all shape y = true := fun y hy => hsk y (hmem y hy)
  obtain ⟨hjl, hjl2⟩ := vts_len hallts hfits hlen h16 hnd
  have hvt : (vtT (.mk 23 m s vs) (.mk 23 n l kids)).data.toList = vtM 23 l m s (vtxs vs ts) := by rw [vtT_list, vtx_mk hts]
  obtain ⟨R, hR⟩ : ∃ R, vtT (.mk 23 m s vs) (.mk 23 n l kids) = R := ⟨_, rfl⟩
  rw [hR] at hvt ⊢
  clear hR hfit
  obtain ⟨w0, hw0, B0, bA, bB⟩ := blocks2 w 34 40 [.int .i64 23, .int .i64 m, .string s, .slice A vs.length c] [.int .i64 23, .string n, .slice A1 l.length c1, .slice A2 kids.length c2]
  change Calls Tryz.prog 45 #[.agg #[.int .i64 23, .int .i64 m, .string s, .slice A vs.length c], .agg #[.int .i64 23, .string n, .slice A1 l.length c1, .slice A2 kids.length c2]] w _
  have HB0 := Lib.hid B0
  have kA := bA.cell
  have kB := bB.cell
  have HT0 := Lib.hid (show TxW w0 from TxW.below hCw B0)
  have hmm := num_20 (k := 23) (by decide) hnf
  have hkz := kword_small (23 : Int)
  have hdz : (numT m).size ≤ 21 := by
    have := Lib.itoa_length_le m (by omega) (by omega)
    simp only [numT, ByteArray.size, List.size_toArray]; omega
  have HE : Hid (R.data.toList = (kword 23).data.toList ++ 35 :: (numT m).data.toList) := Lib.hid (by rw [hvt]; unfold vtM; rw [if_neg (by decide), if_neg (by decide), if_neg (by decide), if_neg (by decide), if_neg (by decide), if_neg (by decide), if_neg (by decide), if_neg (by decide), if_neg (by decide), if_neg (by decide), if_pos (by decide)]; simp [numT])
  have HH : Hid (∀ W, Calls Tryz.prog 74 #[.int .i64 23] W fun e w' => e = .returned (.string (kword 23 ++ ⟨#[35]⟩)) ∧ Below W.heap.size W w') := Lib.hid (fun W => handleWord_i 23 (by decide) W)
  have HD := Lib.hid (fun W (h : Below w0.heap.size w0 W) => dec_i m hm W (TxW.below HT0.out h))
  obtain ⟨KW, hKW⟩ : ∃ KW, kword (23 : Int) = KW := ⟨_, rfl⟩
  obtain ⟨DW, hDW⟩ : ∃ DW, numT m = DW := ⟨_, rfl⟩
  rw [hKW] at HE hkz
  simp only [hKW] at HH
  rw [hDW] at HE hdz
  simp only [hDW] at HD
  have hq3 : ¬ 9223372036854775807 < (KW ++ ⟨#[35]⟩).size + DW.size := by rw [ByteArray.size_append, show (⟨#[35]⟩ : ByteArray).size = 1 from rfl]; omega
  clear hmm hKW hDW
  have r0 := cell_regrown (show w0.cell? ⟨w.heap.size, 0, none⟩ = some (.int .i64 23) from bA.cell 0)
  have r1 := cell_regrown (show w0.cell? ⟨w.heap.size, 1, none⟩ = some (.int .i64 m) from bA.cell 1)
  have r2 := cell_regrown (show w0.cell? ⟨w.heap.size, 2, none⟩ = some (.string s) from bA.cell 2)
  have r3 := cell_regrown (show w0.cell? ⟨w.heap.size, 3, none⟩ = some (.slice A vs.length c) from bA.cell 3)
  have x0 := cell_regrown (show w0.cell? ⟨w.heap.size + 1, 0, none⟩ = some (.int .i64 23) from bB.cell 0)
  have x1 := cell_regrown (show w0.cell? ⟨w.heap.size + 1, 1, none⟩ = some (.string n) from bB.cell 1)
  have x2 := cell_regrown (show w0.cell? ⟨w.heap.size + 1, 2, none⟩ = some (.slice A1 l.length c1) from bB.cell 2)
  have x3 := cell_regrown (show w0.cell? ⟨w.heap.size + 1, 3, none⟩ = some (.slice A2 kids.length c2) from bB.cell 3)
  clear hCw hcs hcs' hm hss hvs hnz hl hkids hnf htx hts hmem hlen h16 hfits hlab hlab2 hallts hjl hjl2 hsh hsk _ih B0 bA bB hvt hnd
  go_enter Tryz.func45, Tryz.ntmps45
  go_upto_region 1 with fail
  rw [← hw0]
  clear hw0
  go_upto_region 30 with fail
  clear kA kB
  refine wp_region_quiet_below (by kernel_rfl) (by kernel_rfl) ?_
  repeat (first | go_big_quiet_step (first | with_reducible exact Calls.regrown_of (HD.out _ (below_regrown _ _ _)) | with_reducible exact Calls.regrown_of (HH.out _)) | quiet_step (first | with_reducible exact Calls.regrown_of (HD.out _ (below_regrown _ _ _)) | with_reducible exact Calls.regrown_of (HH.out _)))
  refine wpQuiet_nil ?_
  intro w6 hw6
  have HB6 := Lib.hid (HB0.out.trans ((below_of_regrown hw6).mono HB0.out.size))
  clear hw6
  clear r0 r1 r2 r3 x0 x1 x2 x3
  go_wp2
  go_ret
  refine ⟨ret_eq (congrArg Value.string (ByteArray.ext (Array.toList_inj.1 ?_))), HB6.out⟩
  rw [HE.out]
  simp
end Go.Proofs.YtcpadaelgdmipaaGreatDoor
namespace Go.Proofs.YtcpadaelgdmipaaGreatDoor
open Go.RowKit Go.Shelf

set_option maxHeartbeats 4000000 in
set_option maxRecDepth 20000 in
theorem elems_15 (m : Int) (s : ByteArray) (vs : List Va) (n : ByteArray) (l : List ByteArray) (kids ts : List Ty) (hsh : shape (.mk 15 n l kids) = true) (hnf : numFits 15 l.length m = true) (hts : kts 15 m vs.length kids = some ts) (hlen : ts.length = vs.length) (h16 : ts.length ≤ 16) (ih : ∀ (i : Nat) x y, vs[i]? = some x → ts[i]? = some y → TxAt 45 TxW x y ∧ (vtT x y).size ≤ 1000000000)
    (A A1 A2 : Option Addr) (c c1 c2 : Nat) (w : World) (ht : TxW w) (hvs : D.At w anyB (rows Va.ds 4 vs) (.slice A vs.length c)) (hl : D.At w anyB (strs l) (.slice A1 l.length c1)) (hkids : D.At w anyB (rows Ty.ds 4 kids) (.slice A2 kids.length c2)) :
    Calls Tryz.prog 71 #[.agg #[.int .i64 15, .int .i64 m, .string s, .slice A vs.length c], .agg #[.int .i64 15, .string n, .slice A1 l.length c1, .slice A2 kids.length c2]] w (RetTs (vtxs vs ts) w) := by
  obtain ⟨-, hvn, hvc⟩ := rows_bound hvs
  obtain ⟨-, hln, hlc⟩ := rows_bound hl
  unfold maxLen at hvc hlc
  obtain ⟨hlab, hlab2⟩ := shape_labels hsh
  obtain ⟨w0, hw0, B0, bA, bB⟩ := blocks2 w 34 40 [.int .i64 15, .int .i64 m, .string s, .slice A vs.length c] [.int .i64 15, .string n, .slice A1 l.length c1, .slice A2 kids.length c2]
  have hs0 : w0.heap.size = w.heap.size + 2 := by rw [hw0]; simp
  obtain ⟨w1, hw1⟩ : ∃ w1, w1 = w0.alloc (.cells #[] 9) := ⟨_, rfl⟩
  have B1 : Below w0.heap.size w0 w1 := by rw [hw1]; exact (Below.refl _ _).alloc (Nat.le_refl _) _
  have BB := B0.trans (B1.mono B0.size)
  have HO1 := Lib.hid (show w1.ownsRow w0.heap.size 9 1 (.slice (some ⟨w0.heap.size, 0, none⟩) 0 0) 0 [] by rw [hw1]; exact World.ownsRow_lit _ _ _ (Nat.le_refl _) (by decide) (by rfl))
  have bA1 := bA.call B1
  have bB1 := bB.call B1
  have hs1 : w1.heap.size = w0.heap.size + 1 := by rw [hw1]; simp
  have hkS : D.At w1 (fun b => b ≠ w0.heap.size) (rows Ty.ds 4 kids) (.slice A2 kids.length c2) := D.At.keep (S := anyB) (fun b h1 _ => ⟨BB.block b h1, by omega, Nat.lt_of_lt_of_le h1 BB.size⟩) _ _ hkids
  have HKT := Lib.hid (kidTypes_i (S := (fun b => b ≠ w0.heap.size)) 15 m s n l kids A A1 A2 vs.length c c1 c2 w1 15 hsh hnf (fun b hb => by omega) hkS ts hts)
  have HVS := Lib.hid hvs
  have HLS := Lib.hid hl
  have HLB := Lib.hid (And.intro hlab hlab2)
  have HZ := Lib.hid (And.intro hs0 hs1)
  have HBB := Lib.hid BB
  have HLEN := Lib.hid (And.intro hlen h16)
  have HIH := Lib.hid ih
  have HT0 := Lib.hid ht
  have HSH := Lib.hid (And.intro hsh (And.intro hnf hts))
  have kA := bA1.cell
  have kB := bB1.cell
  clear ih hvs hl hkids hlab hlab2 hsh hts hlen h16 bA bB B0 B1 BB hs0 hs1 hnf ht hkS
  go_enter Tryz.func71, Tryz.ntmps71
  go_upto_region 2 with fail
  rw [← hw0, ← hw1]
  clear hw0 hw1
  go_wp2_with fail
  refine HKT.out.mono ?_
  rintro e w2 ⟨A5, c5, rfl, hat5, hb2⟩
  have B2 := HBB.out.trans (hb2.mono HBB.out.size)
  have bA2 := bA1.call hb2
  have bB2 := bB1.call hb2
  have HO2 := Lib.hid (own_belowT HO1.out hb2)
  have H5 := Lib.hid hat5
  obtain ⟨-, h5n, h5c⟩ := rows_bound hat5
  unfold maxLen at h5c
  have hs2 : w0.heap.size + 1 ≤ w2.heap.size := by have := hb2.size; have := HZ.out.2; omega
  obtain ⟨g, hg⟩ : ∃ g, w0.heap.size = g := ⟨_, rfl⟩
  have HGG := Lib.hid hg
  rw [hg] at HO2 H5 hs2
  try rw [hg]
  have hgw : g = w.heap.size + 2 := by rw [← hg]; exact HZ.out.1
  have HGW := Lib.hid hgw
  clear hat5 hb2 kA kB bA1 bB1 hg hgw
  have kA := bA2.cell
  have kB := bB2.cell
  go_wp2
  rw [show w.heap.size + 1 + 1 = g from by have := HGW.out; omega]
  go_loopw [5, 8, 9, 10, 23] (fun v _ _ _ i wr => TxRel g vs.length (vtxs vs ts) w2 v i wr) (fun _ _ _ _ i _ => vs.length - (intOf i).toNat)
  case atStart => exact ⟨0, [], Nat.zero_le _, rfl, Nat.le_refl _, by simp, HO2.out, Wr.refl _ _, fun b _ e => by simp [Value.ownBlock] at e; exact e.symm⟩
  case round =>
    obtain ⟨j, T, hj, rfl, hTl, hT, hO, hb⟩ := hrel
    have hbg := hb.bel (by omega)
    have Bw := B2.trans (hbg.mono (by have := HGW.out; omega))
    have fA : Box wr w.heap.size _ _ := (hbg.block w.heap.size (by have := HGW.out; omega)).trans bA2
    have fB : Box wr (w.heap.size + 1) _ _ := (hbg.block (w.heap.size + 1) (by have := HGW.out; omega)).trans bB2
    have hsr : g + 1 ≤ wr.heap.size := by have := hb.1.size; omega
    clear kA kB hbg
    have HTT := Lib.hid (And.intro hTl hT)
    have HB := Lib.hid hb
    by_cases hlt : j < vs.length
    · obtain ⟨x, hx⟩ : ∃ x, vs[j]? = some x := ⟨vs[j], List.getElem?_eq_getElem hlt⟩
      obtain ⟨y, hy⟩ : ∃ y, ts[j]? = some y := ⟨ts[j]'(by rw [HLEN.out.1]; exact hlt), List.getElem?_eq_getElem _⟩
      have k0 : (0 : Int) ≤ (j : Int) := by omega
      have k1 : (j : Int) < (vs.length : Int) := by omega
      have k2 : (j : Int) < (ts.length : Int) := by rw [HLEN.out.1]; omega
      have hTl2 : T.length + 1 ≤ 1000000 := by have := HLEN.out; omega
      obtain ⟨b, off, u0, u1, u2, u3, e, -, hbl, hat, d0, d1, d2, d3⟩ := rows_at4 Va.len (HVS.out.below Bw) hx
      subst e
      obtain ⟨f0, f1, f2, f3, f4, f5, exx⟩ := Va.form hat
      simp only [List.cons.injEq, and_true] at exx
      obtain ⟨rfl, rfl, rfl, rfl⟩ := exx
      obtain ⟨b', off', v0, v1, v2, v3, e, -, hbl', hat', e0, e1, e2, e3⟩ := rows_at4 Ty.len (hb.at_ H5.out) hy
      subst e
      obtain ⟨z0, z1, z2, z3, z4, z5, z6, z7, eyy⟩ := Ty.form hat'
      simp only [List.cons.injEq, and_true] at eyy
      obtain ⟨rfl, rfl, rfl, rfl⟩ := eyy
      obtain ⟨w3, hw3⟩ : ∃ w3, w3 = wr.alloc (.cells #[.int .i64 f0, .int .i64 f1, .string f2, .slice f3 f4 f5] 34) := ⟨_, rfl⟩
      have B3 : Below wr.heap.size wr w3 := by rw [hw3]; exact (Below.refl _ _).alloc (Nat.le_refl _) _
      have bX : Box w3 wr.heap.size 34 [.int .i64 f0, .int .i64 f1, .string f2, .slice f3 f4 f5] := by rw [hw3]; exact Box.new wr _ _
      have hs3 : w3.heap.size = wr.heap.size + 1 := by rw [hw3]; simp
      have fA3 := fA.call B3
      have fB3 := fB.call B3
      have HO3 := Lib.hid (own_belowT hO B3)
      have HB3 := Lib.hid (hb.below B3)
      have BW3 := Bw.trans (B3.mono Bw.size)
      have hxy := HIH.out j x y hx hy
      have HXY := Lib.hid (fun W (h : Below w3.heap.size w3 W) => hxy.1 [.int .i64 f0, .int .i64 f1, .string f2, .slice f3 f4 f5] [.int .i64 z0, .string z1, .slice z2 z3 z4, .slice z5 z6 z7] W (HT0.out.below (BW3.trans (h.mono BW3.size))) ((hat.below B3).below h) (((hat'.below B3).below h).weaken (fun _ _ => trivial)))
      obtain ⟨Y, hY⟩ : ∃ Y, vtT x y = Y := ⟨_, rfl⟩
      have hys := hxy.2
      rw [hY] at hys
      simp only [hY] at HXY
      have HY := Lib.hid (show Y.data.toList = vtx x y by rw [← hY, vtT_list])
      have HYX := Lib.hid (vtxs_at hx hy)
      have r0 := cell_regrown (show w3.cell? ⟨wr.heap.size, 0, none⟩ = some (.int .i64 f0) from bX.cell 0)
      have r1 := cell_regrown (show w3.cell? ⟨wr.heap.size, 1, none⟩ = some (.int .i64 f1) from bX.cell 1)
      have r2 := cell_regrown (show w3.cell? ⟨wr.heap.size, 2, none⟩ = some (.string f2) from bX.cell 2)
      have r3 := cell_regrown (show w3.cell? ⟨wr.heap.size, 3, none⟩ = some (.slice f3 f4 f5) from bX.cell 3)
      have t0 := cell_regrown ((B3.cell (p := ⟨b', off' + j * 4, none⟩) hbl').trans e0)
      have t1 := cell_regrown ((B3.cell (p := ⟨b', off' + j * 4 + 1, none⟩) hbl').trans e1)
      have t2 := cell_regrown ((B3.cell (p := ⟨b', off' + j * 4 + 2, none⟩) hbl').trans e2)
      have t3 := cell_regrown ((B3.cell (p := ⟨b', off' + j * 4 + 3, none⟩) hbl').trans e3)
      have HJX := Lib.hid HYX.out
      have HAB := Lib.hid (And.intro fA3 fB3)
      have HZ3 := Lib.hid (And.intro hs3 BW3)
      have kA := fA.cell
      have kB := fB.cell
      clear hx hy hat hat' hO hb hTl hT hxy hY fA3 fB3 bX B3 BW3 hbl hbl' e0 e1 e2 e3 Bw hs3
      go_upto_region 6 with fail
      rw [← hw3]
      clear hw3 kA kB d0 d1 d2 d3 fA fB
      refine wp_region_quiet_below (by kernel_rfl) (by kernel_rfl) ?_
      repeat (first | go_big_quiet_step (with_reducible exact Calls.regrown_of (HXY.out _ (below_regrown _ _ _))) | quiet_step (with_reducible exact Calls.regrown_of (HXY.out _ (below_regrown _ _ _))))
      refine wpQuiet_nil ?_
      intro w6 hw6
      have hb6 := below_of_regrown hw6
      have hO6 := own_belowT HO3.out hb6
      have HB6 := Lib.hid (HB3.out.below hb6)
      have gA := HAB.out.1.call hb6
      have gB := HAB.out.2.call hb6
      have hs6 : g + 1 ≤ w6.heap.size := by have := hb6.size; have := HZ3.out.1; omega
      clear hw6 hb6 r0 r1 r2 r3 t0 t1 t2 t3
      have kA := gA.cell
      have kB := gB.cell
      go_wp2_with (at_builtin; refine wpList_strK hO6 Y (.tmp 45) (.tmp 47) hTl2 (by omega) w6.heap.size rfl ?_; intro v' w' ho' hg' hv')
      have HN := Lib.hid (And.intro ho' (HB6.out.grown hg' hv'))
      clear ho' hg' hv' hO6 kA kB
      go_wp2
      go_roundw
      case rel =>
        refine ⟨j + 1, T ++ [Y], by omega, by go_num, by have := HTT.out.1; simp; omega, ?_, by simpa using HN.out.1, HN.out.2⟩
        rw [List.map_append, HTT.out.2, List.take_add_one, HJX.out]
        simp [HY.out]
      case measure => simp [intOf]; omega
    · obtain rfl : j = vs.length := by omega
      have HO9 := Lib.hid hO
      have HBW := Lib.hid Bw
      have kA := fA.cell
      have kB := fB.cell
      clear hO hb hTl hT
      go_wp2
      go_ret
      refine ⟨_, g, T, rfl, HO9.out, ?_, HBW.out⟩
      rw [HTT.out.2]
      exact List.take_of_length_le (by rw [vtxs_len (by rw [HLEN.out.1]; exact Nat.le_refl _)]; exact Nat.le_refl _)
end Go.Proofs.YtcpadaelgdmipaaGreatDoor
namespace Go.Proofs.YtcpadaelgdmipaaGreatDoor
open Go.RowKit Go.Shelf

set_option maxHeartbeats 4000000 in
set_option maxRecDepth 20000 in
theorem elems_16 (m : Int) (s : ByteArray) (vs : List Va) (n : ByteArray) (l : List ByteArray) (kids ts : List Ty) (hsh : shape (.mk 16 n l kids) = true) (hnf : numFits 16 l.length m = true) (hts : kts 16 m vs.length kids = some ts) (hlen : ts.length = vs.length) (h16 : ts.length ≤ 16) (ih : ∀ (i : Nat) x y, vs[i]? = some x → ts[i]? = some y → TxAt 45 TxW x y ∧ (vtT x y).size ≤ 1000000000)
    (A A1 A2 : Option Addr) (c c1 c2 : Nat) (w : World) (ht : TxW w) (hvs : D.At w anyB (rows Va.ds 4 vs) (.slice A vs.length c)) (hl : D.At w anyB (strs l) (.slice A1 l.length c1)) (hkids : D.At w anyB (rows Ty.ds 4 kids) (.slice A2 kids.length c2)) :
    Calls Tryz.prog 71 #[.agg #[.int .i64 16, .int .i64 m, .string s, .slice A vs.length c], .agg #[.int .i64 16, .string n, .slice A1 l.length c1, .slice A2 kids.length c2]] w (RetTs (labC l (vtxs vs ts)) w) := by
  obtain ⟨-, hvn, hvc⟩ := rows_bound hvs
  obtain ⟨-, hln, hlc⟩ := rows_bound hl
  unfold maxLen at hvc hlc
  obtain ⟨hlab, hlab2⟩ := shape_labels hsh
  obtain ⟨w0, hw0, B0, bA, bB⟩ := blocks2 w 34 40 [.int .i64 16, .int .i64 m, .string s, .slice A vs.length c] [.int .i64 16, .string n, .slice A1 l.length c1, .slice A2 kids.length c2]
  have hs0 : w0.heap.size = w.heap.size + 2 := by rw [hw0]; simp
  obtain ⟨w1, hw1⟩ : ∃ w1, w1 = w0.alloc (.cells #[] 9) := ⟨_, rfl⟩
  have B1 : Below w0.heap.size w0 w1 := by rw [hw1]; exact (Below.refl _ _).alloc (Nat.le_refl _) _
  have BB := B0.trans (B1.mono B0.size)
  have HO1 := Lib.hid (show w1.ownsRow w0.heap.size 9 1 (.slice (some ⟨w0.heap.size, 0, none⟩) 0 0) 0 [] by rw [hw1]; exact World.ownsRow_lit _ _ _ (Nat.le_refl _) (by decide) (by rfl))
  have bA1 := bA.call B1
  have bB1 := bB.call B1
  have hs1 : w1.heap.size = w0.heap.size + 1 := by rw [hw1]; simp
  have hkS : D.At w1 (fun b => b ≠ w0.heap.size) (rows Ty.ds 4 kids) (.slice A2 kids.length c2) := D.At.keep (S := anyB) (fun b h1 _ => ⟨BB.block b h1, by omega, Nat.lt_of_lt_of_le h1 BB.size⟩) _ _ hkids
  have HKT := Lib.hid (kidTypes_i (S := (fun b => b ≠ w0.heap.size)) 16 m s n l kids A A1 A2 vs.length c c1 c2 w1 16 hsh hnf (fun b hb => by omega) hkS ts hts)
  have HVS := Lib.hid hvs
  have HLS := Lib.hid hl
  have HLB := Lib.hid (And.intro hlab hlab2)
  have HZ := Lib.hid (And.intro hs0 hs1)
  have HBB := Lib.hid BB
  have HLEN := Lib.hid (And.intro hlen h16)
  have HIH := Lib.hid ih
  have HT0 := Lib.hid ht
  have HSH := Lib.hid (And.intro hsh (And.intro hnf hts))
  have kA := bA1.cell
  have kB := bB1.cell
  clear ih hvs hl hkids hlab hlab2 hsh hts hlen h16 bA bB B0 B1 BB hs0 hs1 hnf ht hkS
  go_enter Tryz.func71, Tryz.ntmps71
  go_upto_region 2 with fail
  rw [← hw0, ← hw1]
  clear hw0 hw1
  go_wp2_with fail
  refine HKT.out.mono ?_
  rintro e w2 ⟨A5, c5, rfl, hat5, hb2⟩
  have B2 := HBB.out.trans (hb2.mono HBB.out.size)
  have bA2 := bA1.call hb2
  have bB2 := bB1.call hb2
  have HO2 := Lib.hid (own_belowT HO1.out hb2)
  have H5 := Lib.hid hat5
  obtain ⟨-, h5n, h5c⟩ := rows_bound hat5
  unfold maxLen at h5c
  have hs2 : w0.heap.size + 1 ≤ w2.heap.size := by have := hb2.size; have := HZ.out.2; omega
  obtain ⟨g, hg⟩ : ∃ g, w0.heap.size = g := ⟨_, rfl⟩
  have HGG := Lib.hid hg
  rw [hg] at HO2 H5 hs2
  try rw [hg]
  have hgw : g = w.heap.size + 2 := by rw [← hg]; exact HZ.out.1
  have HGW := Lib.hid hgw
  clear hat5 hb2 kA kB bA1 bB1 hg hgw
  have kA := bA2.cell
  have kB := bB2.cell
  go_wp2
  rw [show w.heap.size + 1 + 1 = g from by have := HGW.out; omega]
  go_loopw [5, 8, 9, 10, 23] (fun v _ _ _ i wr => TxRel g vs.length (labC l (vtxs vs ts)) w2 v i wr) (fun _ _ _ _ i _ => vs.length - (intOf i).toNat)
  case atStart => exact ⟨0, [], Nat.zero_le _, rfl, Nat.le_refl _, by simp, HO2.out, Wr.refl _ _, fun b _ e => by simp [Value.ownBlock] at e; exact e.symm⟩
  case round =>
    obtain ⟨j, T, hj, rfl, hTl, hT, hO, hb⟩ := hrel
    have hbg := hb.bel (by omega)
    have Bw := B2.trans (hbg.mono (by have := HGW.out; omega))
    have fA : Box wr w.heap.size _ _ := (hbg.block w.heap.size (by have := HGW.out; omega)).trans bA2
    have fB : Box wr (w.heap.size + 1) _ _ := (hbg.block (w.heap.size + 1) (by have := HGW.out; omega)).trans bB2
    have hsr : g + 1 ≤ wr.heap.size := by have := hb.1.size; omega
    clear kA kB hbg
    have HTT := Lib.hid (And.intro hTl hT)
    have HB := Lib.hid hb
    by_cases hlt : j < vs.length
    · obtain ⟨x, hx⟩ : ∃ x, vs[j]? = some x := ⟨vs[j], List.getElem?_eq_getElem hlt⟩
      obtain ⟨y, hy⟩ : ∃ y, ts[j]? = some y := ⟨ts[j]'(by rw [HLEN.out.1]; exact hlt), List.getElem?_eq_getElem _⟩
      have k0 : (0 : Int) ≤ (j : Int) := by omega
      have k1 : (j : Int) < (vs.length : Int) := by omega
      have k2 : (j : Int) < (ts.length : Int) := by rw [HLEN.out.1]; omega
      have hTl2 : T.length + 1 ≤ 1000000 := by have := HLEN.out; omega
      obtain ⟨b, off, u0, u1, u2, u3, e, -, hbl, hat, d0, d1, d2, d3⟩ := rows_at4 Va.len (HVS.out.below Bw) hx
      subst e
      obtain ⟨f0, f1, f2, f3, f4, f5, exx⟩ := Va.form hat
      simp only [List.cons.injEq, and_true] at exx
      obtain ⟨rfl, rfl, rfl, rfl⟩ := exx
      obtain ⟨b', off', v0, v1, v2, v3, e, -, hbl', hat', e0, e1, e2, e3⟩ := rows_at4 Ty.len (hb.at_ H5.out) hy
      subst e
      obtain ⟨z0, z1, z2, z3, z4, z5, z6, z7, eyy⟩ := Ty.form hat'
      simp only [List.cons.injEq, and_true] at eyy
      obtain ⟨rfl, rfl, rfl, rfl⟩ := eyy
      obtain ⟨w3, hw3⟩ : ∃ w3, w3 = wr.alloc (.cells #[.int .i64 f0, .int .i64 f1, .string f2, .slice f3 f4 f5] 34) := ⟨_, rfl⟩
      have B3 : Below wr.heap.size wr w3 := by rw [hw3]; exact (Below.refl _ _).alloc (Nat.le_refl _) _
      have bX : Box w3 wr.heap.size 34 [.int .i64 f0, .int .i64 f1, .string f2, .slice f3 f4 f5] := by rw [hw3]; exact Box.new wr _ _
      have hs3 : w3.heap.size = wr.heap.size + 1 := by rw [hw3]; simp
      have fA3 := fA.call B3
      have fB3 := fB.call B3
      have HO3 := Lib.hid (own_belowT hO B3)
      have HB3 := Lib.hid (hb.below B3)
      have BW3 := Bw.trans (B3.mono Bw.size)
      have hxy := HIH.out j x y hx hy
      have HXY := Lib.hid (fun W (h : Below w3.heap.size w3 W) => hxy.1 [.int .i64 f0, .int .i64 f1, .string f2, .slice f3 f4 f5] [.int .i64 z0, .string z1, .slice z2 z3 z4, .slice z5 z6 z7] W (HT0.out.below (BW3.trans (h.mono BW3.size))) ((hat.below B3).below h) (((hat'.below B3).below h).weaken (fun _ _ => trivial)))
      obtain ⟨Y, hY⟩ : ∃ Y, vtT x y = Y := ⟨_, rfl⟩
      have hys := hxy.2
      rw [hY] at hys
      simp only [hY] at HXY
      have HY := Lib.hid (show Y.data.toList = vtx x y by rw [← hY, vtT_list])
      have HYX := Lib.hid (vtxs_at hx hy)
      have r0 := cell_regrown (show w3.cell? ⟨wr.heap.size, 0, none⟩ = some (.int .i64 f0) from bX.cell 0)
      have r1 := cell_regrown (show w3.cell? ⟨wr.heap.size, 1, none⟩ = some (.int .i64 f1) from bX.cell 1)
      have r2 := cell_regrown (show w3.cell? ⟨wr.heap.size, 2, none⟩ = some (.string f2) from bX.cell 2)
      have r3 := cell_regrown (show w3.cell? ⟨wr.heap.size, 3, none⟩ = some (.slice f3 f4 f5) from bX.cell 3)
      have t0 := cell_regrown ((B3.cell (p := ⟨b', off' + j * 4, none⟩) hbl').trans e0)
      have t1 := cell_regrown ((B3.cell (p := ⟨b', off' + j * 4 + 1, none⟩) hbl').trans e1)
      have t2 := cell_regrown ((B3.cell (p := ⟨b', off' + j * 4 + 2, none⟩) hbl').trans e2)
      have t3 := cell_regrown ((B3.cell (p := ⟨b', off' + j * 4 + 3, none⟩) hbl').trans e3)
      have hjl : j < l.length := by
        obtain ⟨h1, -⟩ := shape_fit HSH.out.1
        rw [kf5 rfl] at h1
        simp only [Bool.and_eq_true, beq_iff_eq] at h1
        have h2 := HSH.out.2.2
        rw [kts_all (.inr rfl)] at h2
        have h3 := Option.some.inj h2
        have h4 := HLEN.out.1
        rw [← h3] at h4
        omega
      obtain ⟨a, ha⟩ : ∃ a, l[j]? = some a := ⟨l[j], List.getElem?_eq_getElem hjl⟩
      have k3 : (j : Int) < (l.length : Int) := by omega
      have haz := (HLB.out.1 a (List.mem_of_getElem? ha)).2
      obtain ⟨b3, off3, e9, hbl3, l3⟩ := strs_cell (HLS.out.below BW3) ha
      subst e9
      have HJX := Lib.hid (labC_at ha HYX.out)
      have HL3 := Lib.hid (And.intro hbl3 l3)
      clear ha hjl hbl3 l3
      have HAB := Lib.hid (And.intro fA3 fB3)
      have HZ3 := Lib.hid (And.intro hs3 BW3)
      have kA := fA.cell
      have kB := fB.cell
      clear hx hy hat hat' hO hb hTl hT hxy hY fA3 fB3 bX B3 BW3 hbl hbl' e0 e1 e2 e3 Bw hs3
      go_upto_region 6 with fail
      rw [← hw3]
      clear hw3 kA kB d0 d1 d2 d3 fA fB
      refine wp_region_quiet_below (by kernel_rfl) (by kernel_rfl) ?_
      repeat (first | go_big_quiet_step (with_reducible exact Calls.regrown_of (HXY.out _ (below_regrown _ _ _))) | quiet_step (with_reducible exact Calls.regrown_of (HXY.out _ (below_regrown _ _ _))))
      refine wpQuiet_nil ?_
      intro w6 hw6
      have hb6 := below_of_regrown hw6
      have hO6 := own_belowT HO3.out hb6
      have HB6 := Lib.hid (HB3.out.below hb6)
      have gA := HAB.out.1.call hb6
      have gB := HAB.out.2.call hb6
      have hs6 : g + 1 ≤ w6.heap.size := by have := hb6.size; have := HZ3.out.1; omega
      have l6 := (hb6.cell (p := ⟨b3, off3 + j, none⟩) HL3.out.1).trans HL3.out.2
      clear hw6 hb6 r0 r1 r2 r3 t0 t1 t2 t3
      have kA := gA.cell
      have kB := gB.cell
      go_wp2_with (at_builtin; (refine wpList_strK hO6 _ (.tmp 45) (.tmp 47) hTl2 (by omega) w6.heap.size rfl ?_); intro v' w' ho' hg' hv')
      have HN := Lib.hid (And.intro ho' (HB6.out.grown hg' hv'))
      clear ho' hg' hv' hO6 kA kB
      go_wp2
      go_roundw
      case rel =>
        refine ⟨j + 1, T ++ [(a ++ ⟨#[58, 32]⟩ ++ Y)], by omega, by go_num, by have := HTT.out.1; simp; omega, ?_, by simpa using HN.out.1, HN.out.2⟩
        rw [List.map_append, HTT.out.2, List.take_add_one, HJX.out]
        simp [HY.out]
      case measure => simp [intOf]; omega
    · obtain rfl : j = vs.length := by omega
      have HO9 := Lib.hid hO
      have HBW := Lib.hid Bw
      have kA := fA.cell
      have kB := fB.cell
      clear hO hb hTl hT
      go_wp2
      go_ret
      refine ⟨_, g, T, rfl, HO9.out, ?_, HBW.out⟩
      rw [HTT.out.2]
      exact List.take_of_length_le (by rw [labC_length, vtxs_len (by rw [HLEN.out.1]; exact Nat.le_refl _)]; exact Nat.le_refl _)
end Go.Proofs.YtcpadaelgdmipaaGreatDoor
namespace Go.Proofs.YtcpadaelgdmipaaGreatDoor
open Go.RowKit Go.Shelf

set_option maxHeartbeats 4000000 in
set_option maxRecDepth 20000 in
theorem elems_19 (m : Int) (s : ByteArray) (vs : List Va) (n : ByteArray) (l : List ByteArray) (kids ts : List Ty) (hsh : shape (.mk 19 n l kids) = true) (hnf : numFits 19 l.length m = true) (hts : kts 19 m vs.length kids = some ts) (hlen : ts.length = vs.length) (h16 : ts.length ≤ 16) (ih : ∀ (i : Nat) x y, vs[i]? = some x → ts[i]? = some y → TxAt 45 TxW x y ∧ (vtT x y).size ≤ 1000000000)
    (A A1 A2 : Option Addr) (c c1 c2 : Nat) (w : World) (ht : TxW w) (hvs : D.At w anyB (rows Va.ds 4 vs) (.slice A vs.length c)) (hl : D.At w anyB (strs l) (.slice A1 l.length c1)) (hkids : D.At w anyB (rows Ty.ds 4 kids) (.slice A2 kids.length c2)) :
    Calls Tryz.prog 71 #[.agg #[.int .i64 19, .int .i64 m, .string s, .slice A vs.length c], .agg #[.int .i64 19, .string n, .slice A1 l.length c1, .slice A2 kids.length c2]] w (RetTs (flg m 0 l) w) := by
  obtain ⟨-, hvn, hvc⟩ := rows_bound hvs
  obtain ⟨-, hln, hlc⟩ := rows_bound hl
  unfold maxLen at hvc hlc
  obtain ⟨hlab, hlab2⟩ := shape_labels hsh
  obtain ⟨w0, hw0, B0, bA, bB⟩ := blocks2 w 34 40 [.int .i64 19, .int .i64 m, .string s, .slice A vs.length c] [.int .i64 19, .string n, .slice A1 l.length c1, .slice A2 kids.length c2]
  have hs0 : w0.heap.size = w.heap.size + 2 := by rw [hw0]; simp
  obtain ⟨w1, hw1⟩ : ∃ w1, w1 = w0.alloc (.cells #[] 9) := ⟨_, rfl⟩
  have B1 : Below w0.heap.size w0 w1 := by rw [hw1]; exact (Below.refl _ _).alloc (Nat.le_refl _) _
  have BB := B0.trans (B1.mono B0.size)
  have HO1 := Lib.hid (show w1.ownsRow w0.heap.size 9 1 (.slice (some ⟨w0.heap.size, 0, none⟩) 0 0) 0 [] by rw [hw1]; exact World.ownsRow_lit _ _ _ (Nat.le_refl _) (by decide) (by rfl))
  have bA1 := bA.call B1
  have bB1 := bB.call B1
  have hs1 : w1.heap.size = w0.heap.size + 1 := by rw [hw1]; simp
  have hkS : D.At w1 (fun b => b ≠ w0.heap.size) (rows Ty.ds 4 kids) (.slice A2 kids.length c2) := D.At.keep (S := anyB) (fun b h1 _ => ⟨BB.block b h1, by omega, Nat.lt_of_lt_of_le h1 BB.size⟩) _ _ hkids
  have HKT := Lib.hid (kidTypes_i (S := (fun b => b ≠ w0.heap.size)) 19 m s n l kids A A1 A2 vs.length c c1 c2 w1 19 hsh hnf (fun b hb => by omega) hkS ts hts)
  have HVS := Lib.hid hvs
  have HLS := Lib.hid hl
  have HLB := Lib.hid (And.intro hlab hlab2)
  have HZ := Lib.hid (And.intro hs0 hs1)
  have HBB := Lib.hid BB
  have HLEN := Lib.hid (And.intro hlen h16)
  have HIH := Lib.hid ih
  have HT0 := Lib.hid ht
  have HSH := Lib.hid (And.intro hsh (And.intro hnf hts))
  have kA := bA1.cell
  have kB := bB1.cell
  clear ih hvs hl hkids hlab hlab2 hsh hts hlen h16 bA bB B0 B1 BB hs0 hs1 hnf ht hkS
  go_enter Tryz.func71, Tryz.ntmps71
  go_upto_region 2 with fail
  rw [← hw0, ← hw1]
  clear hw0 hw1
  go_wp2_with fail
  refine HKT.out.mono ?_
  rintro e w2 ⟨A5, c5, rfl, hat5, hb2⟩
  have B2 := HBB.out.trans (hb2.mono HBB.out.size)
  have bA2 := bA1.call hb2
  have bB2 := bB1.call hb2
  have HO2 := Lib.hid (own_belowT HO1.out hb2)
  have H5 := Lib.hid hat5
  obtain ⟨-, h5n, h5c⟩ := rows_bound hat5
  unfold maxLen at h5c
  have hs2 : w0.heap.size + 1 ≤ w2.heap.size := by have := hb2.size; have := HZ.out.2; omega
  obtain ⟨g, hg⟩ : ∃ g, w0.heap.size = g := ⟨_, rfl⟩
  have HGG := Lib.hid hg
  rw [hg] at HO2 H5 hs2
  try rw [hg]
  have hgw : g = w.heap.size + 2 := by rw [← hg]; exact HZ.out.1
  have HGW := Lib.hid hgw
  clear hat5 hb2 kA kB bA1 bB1 hg hgw
  have kA := bA2.cell
  have kB := bB2.cell
  go_wp2
  rw [show w.heap.size + 1 + 1 = g from by have := HGW.out; omega]
  go_loopw [5, 8, 9, 10, 23] (fun v _ _ _ i wr => TxRel g vs.length [] w2 v i wr) (fun _ _ _ _ i _ => vs.length - (intOf i).toNat)
  case atStart => exact ⟨0, [], Nat.zero_le _, rfl, Nat.le_refl _, by simp, HO2.out, Wr.refl _ _, fun b _ e => by simp [Value.ownBlock] at e; exact e.symm⟩
  case round =>
    obtain ⟨j, T, hj, rfl, hTl, hT, hO, hb⟩ := hrel
    have hbg := hb.bel (by omega)
    have Bw := B2.trans (hbg.mono (by have := HGW.out; omega))
    have fA : Box wr w.heap.size _ _ := (hbg.block w.heap.size (by have := HGW.out; omega)).trans bA2
    have fB : Box wr (w.heap.size + 1) _ _ := (hbg.block (w.heap.size + 1) (by have := HGW.out; omega)).trans bB2
    have hsr : g + 1 ≤ wr.heap.size := by have := hb.1.size; omega
    clear kA kB hbg
    have HTT := Lib.hid (And.intro hTl hT)
    have HB := Lib.hid hb
    by_cases hlt : j < vs.length
    · exact absurd hlt (by
        have h := HSH.out.2.2
        rw [kts_none (by decide)] at h
        have h := Option.some.inj h
        have h2 := HLEN.out.1
        rw [← h] at h2
        simp at h2
        omega)
    · obtain rfl : j = vs.length := by omega
      have hT0 : T = [] := by
        have h := HTT.out.2
        simp at h
        exact h
      subst hT0
      obtain ⟨hm0, hm1⟩ := num_19 HLB.out.2 HSH.out.2.1
      obtain ⟨M, rfl⟩ : ∃ M : Nat, m = (M : Int) := ⟨m.toNat, by omega⟩
      have kA := fA.cell
      have kB := fB.cell
      have HO9 := Lib.hid hO
      clear hO hb hTl hT hm0 hm1
      go_wp2
      clear kA kB
      go_loopw [5, 11, 12, 56] (fun v _ _ i w9 => FlRel g l.length (M : Int) l w2 v i w9) (fun _ _ _ i _ => l.length - (intOf i).toNat)
      case atStart => exact ⟨0, [], Nat.zero_le _, rfl, Nat.le_refl _, by simp [flg], HO9.out, HB.out⟩
      case round =>
        obtain ⟨q, T, hq, rfl, hTl, hT, hO, hb⟩ := hrel
        have hbg := hb.bel (by omega)
        have Bw := B2.trans (hbg.mono (by have := HGW.out; omega))
        have fA : Box wr w.heap.size _ _ := (hbg.block w.heap.size (by have := HGW.out; omega)).trans bA2
        have fB : Box wr (w.heap.size + 1) _ _ := (hbg.block (w.heap.size + 1) (by have := HGW.out; omega)).trans bB2
        have hsr : g + 1 ≤ wr.heap.size := by have := hb.1.size; omega
        clear hbg
        have HTT2 := Lib.hid (And.intro hTl hT)
        have HB2 := Lib.hid hb
        have HO2' := Lib.hid hO
        have HBW := Lib.hid Bw
        have kA := fA.cell
        have kB := fB.cell
        by_cases hlt2 : q < l.length
        · obtain ⟨a, ha⟩ : ∃ a, l[q]? = some a := ⟨l[q], List.getElem?_eq_getElem hlt2⟩
          have k0 : (0 : Int) ≤ (q : Int) := by omega
          have k1 : (q : Int) < (l.length : Int) := by omega
          have hl16 : l.length ≤ 16 := by
            obtain ⟨h1, -⟩ := shape_fit HSH.out.1
            have := HLB.out.2
            omega
          have hTl2 : T.length + 1 ≤ 1000000 := by omega
          obtain ⟨b3, off3, e9, hbl3, l3⟩ := strs_cell (HLS.out.below Bw) ha
          subst e9
          have haz := (HLB.out.1 a (List.mem_of_getElem? ha)).2
          have HN := Lib.hid (flg_next (m := (M : Int)) ha)
          have hbit := bit_at M q
          have HBO := Lib.hid (show bitOn (M : Int) q = (M / 2 ^ q % 2 == 1) from rfl)
          have hway : M / 2 ^ q % 2 = 0 ∨ M / 2 ^ q % 2 = 1 := by omega
          clear ha hb Bw hTl hT
          rcases hway with hw | hw
          · rw [hw] at hbit
            have HBF := Lib.hid (show flg (M : Int) 0 (l.take (q + 1)) = flg (M : Int) 0 (l.take q) by rw [HN.out, HBO.out, hw]; simp)
            clear hw hO
            go_wp2
            go_roundw
            case rel => exact ⟨q + 1, T, by omega, by go_num, by have := HTT2.out.1; omega, by rw [HBF.out]; exact HTT2.out.2, HO2'.out, HB2.out⟩
            case measure => simp [intOf]; omega
          · rw [hw] at hbit
            have HBF := Lib.hid (show flg (M : Int) 0 (l.take (q + 1)) = flg (M : Int) 0 (l.take q) ++ [a.data.toList] by rw [HN.out, HBO.out, hw]; simp)
            clear hw
            go_wp2_with (at_builtin; refine wpList_strK hO a (.tmp 67) (.tmp 69) hTl2 (by omega) wr.heap.size rfl ?_; intro v' w' ho' hg' hv')
            have HN2 := Lib.hid (And.intro ho' (HB2.out.grown hg' hv'))
            clear ho' hg' hv' hO kA kB
            go_wp2
            go_roundw
            case rel =>
              refine ⟨q + 1, T ++ [a], by omega, by go_num, by have := HTT2.out.1; simp; omega, ?_, by simpa using HN2.out.1, HN2.out.2⟩
              rw [List.map_append, HTT2.out.2, HBF.out]
              rfl
            case measure => simp [intOf]; omega
        · obtain rfl : q = l.length := by omega
          clear hO hb hTl hT
          go_wp2
          go_ret
          refine ⟨_, g, T, rfl, HO2'.out, ?_, HBW.out⟩
          rw [HTT2.out.2, List.take_length]
end Go.Proofs.YtcpadaelgdmipaaGreatDoor
namespace Go.Proofs.YtcpadaelgdmipaaGreatDoor
open Go.RowKit Go.Shelf

set_option maxHeartbeats 4000000 in
set_option maxRecDepth 20000 in
theorem vi_12 (m : Int) (s : ByteArray) (vs : List Va) (n : ByteArray) (l : List ByteArray) (kids : List Ty) (hsh : shape (.mk 12 n l kids) = true) (hsk : ∀ x ∈ kids, Ty.all shape x = true) (hfit : fitV (.mk 12 m s vs) (.mk 12 n l kids) = true) (hnd : Va.nodess vs ≤ 2000000) (ih : IhT 45 TxW vs) : TxAt 45 TxW (.mk 12 m s vs) (.mk 12 n l kids) := by
  intro cs cs' w hCw hcs hcs'
  obtain ⟨A, c, rfl, -, hm, hss, hvs⟩ := Va.open_ hcs
  obtain ⟨A1, c1, A2, c2, rfl, -, hnz, hl, hkids⟩ := Ty.open_ hcs'
  obtain ⟨-, hvn, hvc⟩ := rows_bound hvs
  obtain ⟨-, hln, hlc⟩ := rows_bound hl
  obtain ⟨-, hkn, hkc⟩ := rows_bound hkids
  unfold maxLen at hvc hlc hkc
  obtain ⟨-, hnf, htx, ts, hts, hmem, hlen, h16, hfits⟩ := fit_open hsh hfit
  obtain ⟨hlab, hlab2⟩ := shape_labels hsh
  have hallts : ∀ y ∈ ts, Ty.all shape y = true := fun y hy => hsk y (hmem y hy)
  obtain ⟨hjl, hjl2⟩ := vts_len hallts hfits hlen h16 hnd
  have hvt : (vtT (.mk 12 m s vs) (.mk 12 n l kids)).data.toList = vtM 12 l m s (vtxs vs ts) := by rw [vtT_list, vtx_mk hts]
  obtain ⟨R, hR⟩ : ∃ R, vtT (.mk 12 m s vs) (.mk 12 n l kids) = R := ⟨_, rfl⟩
  rw [hR] at hvt ⊢
  clear hR hfit
  obtain ⟨w0, hw0, B0, bA, bB⟩ := blocks2 w 34 40 [.int .i64 12, .int .i64 m, .string s, .slice A vs.length c] [.int .i64 12, .string n, .slice A1 l.length c1, .slice A2 kids.length c2]
  change Calls Tryz.prog 45 #[.agg #[.int .i64 12, .int .i64 m, .string s, .slice A vs.length c], .agg #[.int .i64 12, .string n, .slice A1 l.length c1, .slice A2 kids.length c2]] w _
  have HB0 := Lib.hid B0
  have kA := bA.cell
  have kB := bB.cell
  have HT0 := Lib.hid (show TxW w0 from TxW.below hCw B0)
  have hjs : (Lib.join (vtxs vs ts) [44, 32]).length ≤ 1000001000 := by omega
  have htl : (vtxs vs ts).length ≤ 16 := by rw [vtxs_len (by omega)]; omega
  have HEL := Lib.hid (elems_12 m s vs n l kids ts hsh hnf hts hlen h16 (fun i x y hx hy => ⟨ih x (List.mem_of_getElem? hx) y (hallts y (List.mem_of_getElem? hy)) (fitVs_at hfits hx hy), by
    have h1 := vtx_len x y (hallts y (List.mem_of_getElem? hy)) (fitVs_at hfits hx hy)
    have h2 := nodes_memT (List.mem_of_getElem? hx)
    rw [vtT_size]; omega⟩) A A1 A2 c c1 c2 w0 HT0.out (hvs.below B0) (hl.below B0) (hkids.below B0))
  have HBK : Hid (Calls Tryz.prog 69 #[.int .i64 12] w0 fun e w' => e = .returned (.tuple #[.string ⟨#[91]⟩, .string ⟨#[93]⟩]) ∧ w0 = w') := Lib.hid (brackets_i 12 w0)
  obtain ⟨J, hJ⟩ : ∃ J : ByteArray, (⟨(Lib.join (vtxs vs ts) [44, 32]).toArray⟩ : ByteArray) = J := ⟨_, rfl⟩
  have hJs : J.size ≤ 1000001000 := by rw [← hJ]; simpa [ByteArray.size] using hjs
  have HE := Lib.hid (show R.data.toList = 91 :: (J.data.toList ++ [93]) by rw [hvt, ← hJ]; unfold vtM; rw [if_neg (by decide), if_neg (by decide), if_neg (by decide), if_neg (by decide), if_pos (by decide)])
  have HJ := Lib.hid (And.intro hJ (And.intro hjs htl))
  clear hJ hjs htl
  clear hCw hcs hcs' hm hss hvs hnz hl hkids hnf htx hts hmem hlen h16 hfits hlab hlab2 hallts hjl hjl2 hsh hsk ih B0 bA bB hvt hnd
  go_enter Tryz.func45, Tryz.ntmps45
  go_upto_region 1 with fail
  rw [← hw0]
  clear hw0
  go_wp2_with fail
  refine HBK.out.mono ?_
  rintro e w9 ⟨rfl, e9⟩
  subst e9
  go_wp2_with fail
  refine HEL.out.mono ?_
  rintro e w1 ⟨v, B, T, rfl, hown, hTJ, hb1⟩
  have hTn : T.length ≤ 16 := by
    have := congrArg List.length hTJ
    rw [List.length_map] at this
    have := HJ.out.2.2
    omega
  have HJN : Hid (Calls Tryz.prog 70 #[v, .string ⟨#[44, 32]⟩] w1 fun e w' => e = .returned (.string J) ∧ Below w1.heap.size w1 w') := Lib.hid (Calls.mono (join_ownT hown ⟨#[44, 32]⟩ (by
    rw [hTJ]
    have := HJ.out.2.1
    exact Nat.le_trans this (by decide)) (by omega)) (by
    intro e w' h
    rw [hTJ] at h
    exact ⟨by rw [h.1, ← HJ.out.1], h.2⟩))
  have HB1 := Lib.hid (HB0.out.trans (hb1.mono HB0.out.size))
  clear hb1 kA kB hown hTJ hTn
  go_wp2_with fail
  refine HJN.out.mono ?_
  rintro e w2 ⟨rfl, hb2⟩
  have HB2 := Lib.hid (HB1.out.trans (hb2.mono HB1.out.size))
  clear hb2
  go_wp2
  go_ret
  exact ⟨ret_eq (congrArg Value.string (by rw [ba_of HE.out]; exact ByteArray.ext (Array.toList_inj.1 (by simp)))), HB2.out⟩
set_option maxHeartbeats 4000000 in
set_option maxRecDepth 20000 in
theorem vi_15 (m : Int) (s : ByteArray) (vs : List Va) (n : ByteArray) (l : List ByteArray) (kids : List Ty) (hsh : shape (.mk 15 n l kids) = true) (hsk : ∀ x ∈ kids, Ty.all shape x = true) (hfit : fitV (.mk 15 m s vs) (.mk 15 n l kids) = true) (hnd : Va.nodess vs ≤ 2000000) (ih : IhT 45 TxW vs) : TxAt 45 TxW (.mk 15 m s vs) (.mk 15 n l kids) := by
  intro cs cs' w hCw hcs hcs'
  obtain ⟨A, c, rfl, -, hm, hss, hvs⟩ := Va.open_ hcs
  obtain ⟨A1, c1, A2, c2, rfl, -, hnz, hl, hkids⟩ := Ty.open_ hcs'
  obtain ⟨-, hvn, hvc⟩ := rows_bound hvs
  obtain ⟨-, hln, hlc⟩ := rows_bound hl
  obtain ⟨-, hkn, hkc⟩ := rows_bound hkids
  unfold maxLen at hvc hlc hkc
  obtain ⟨-, hnf, htx, ts, hts, hmem, hlen, h16, hfits⟩ := fit_open hsh hfit
  obtain ⟨hlab, hlab2⟩ := shape_labels hsh
  have hallts : ∀ y ∈ ts, Ty.all shape y = true := fun y hy => hsk y (hmem y hy)
  obtain ⟨hjl, hjl2⟩ := vts_len hallts hfits hlen h16 hnd
  have hvt : (vtT (.mk 15 m s vs) (.mk 15 n l kids)).data.toList = vtM 15 l m s (vtxs vs ts) := by rw [vtT_list, vtx_mk hts]
  obtain ⟨R, hR⟩ : ∃ R, vtT (.mk 15 m s vs) (.mk 15 n l kids) = R := ⟨_, rfl⟩
  rw [hR] at hvt ⊢
  clear hR hfit
  obtain ⟨w0, hw0, B0, bA, bB⟩ := blocks2 w 34 40 [.int .i64 15, .int .i64 m, .string s, .slice A vs.length c] [.int .i64 15, .string n, .slice A1 l.length c1, .slice A2 kids.length c2]
  change Calls Tryz.prog 45 #[.agg #[.int .i64 15, .int .i64 m, .string s, .slice A vs.length c], .agg #[.int .i64 15, .string n, .slice A1 l.length c1, .slice A2 kids.length c2]] w _
  have HB0 := Lib.hid B0
  have kA := bA.cell
  have kB := bB.cell
  have HT0 := Lib.hid (show TxW w0 from TxW.below hCw B0)
  have hjs : (Lib.join (vtxs vs ts) [44, 32]).length ≤ 1000001000 := by omega
  have htl : (vtxs vs ts).length ≤ 16 := by rw [vtxs_len (by omega)]; omega
  have HEL := Lib.hid (elems_15 m s vs n l kids ts hsh hnf hts hlen h16 (fun i x y hx hy => ⟨ih x (List.mem_of_getElem? hx) y (hallts y (List.mem_of_getElem? hy)) (fitVs_at hfits hx hy), by
    have h1 := vtx_len x y (hallts y (List.mem_of_getElem? hy)) (fitVs_at hfits hx hy)
    have h2 := nodes_memT (List.mem_of_getElem? hx)
    rw [vtT_size]; omega⟩) A A1 A2 c c1 c2 w0 HT0.out (hvs.below B0) (hl.below B0) (hkids.below B0))
  have HBK : Hid (Calls Tryz.prog 69 #[.int .i64 15] w0 fun e w' => e = .returned (.tuple #[.string ⟨#[40]⟩, .string ⟨#[41]⟩]) ∧ w0 = w') := Lib.hid (brackets_i 15 w0)
  obtain ⟨J, hJ⟩ : ∃ J : ByteArray, (⟨(Lib.join (vtxs vs ts) [44, 32]).toArray⟩ : ByteArray) = J := ⟨_, rfl⟩
  have hJs : J.size ≤ 1000001000 := by rw [← hJ]; simpa [ByteArray.size] using hjs
  have HE := Lib.hid (show R.data.toList = 40 :: (J.data.toList ++ [41]) by rw [hvt, ← hJ]; unfold vtM; rw [if_neg (by decide), if_neg (by decide), if_neg (by decide), if_neg (by decide), if_neg (by decide), if_pos (by decide)])
  have HJ := Lib.hid (And.intro hJ (And.intro hjs htl))
  clear hJ hjs htl
  clear hCw hcs hcs' hm hss hvs hnz hl hkids hnf htx hts hmem hlen h16 hfits hlab hlab2 hallts hjl hjl2 hsh hsk ih B0 bA bB hvt hnd
  go_enter Tryz.func45, Tryz.ntmps45
  go_upto_region 1 with fail
  rw [← hw0]
  clear hw0
  go_wp2_with fail
  refine HBK.out.mono ?_
  rintro e w9 ⟨rfl, e9⟩
  subst e9
  go_wp2_with fail
  refine HEL.out.mono ?_
  rintro e w1 ⟨v, B, T, rfl, hown, hTJ, hb1⟩
  have hTn : T.length ≤ 16 := by
    have := congrArg List.length hTJ
    rw [List.length_map] at this
    have := HJ.out.2.2
    omega
  have HJN : Hid (Calls Tryz.prog 70 #[v, .string ⟨#[44, 32]⟩] w1 fun e w' => e = .returned (.string J) ∧ Below w1.heap.size w1 w') := Lib.hid (Calls.mono (join_ownT hown ⟨#[44, 32]⟩ (by
    rw [hTJ]
    have := HJ.out.2.1
    exact Nat.le_trans this (by decide)) (by omega)) (by
    intro e w' h
    rw [hTJ] at h
    exact ⟨by rw [h.1, ← HJ.out.1], h.2⟩))
  have HB1 := Lib.hid (HB0.out.trans (hb1.mono HB0.out.size))
  clear hb1 kA kB hown hTJ hTn
  go_wp2_with fail
  refine HJN.out.mono ?_
  rintro e w2 ⟨rfl, hb2⟩
  have HB2 := Lib.hid (HB1.out.trans (hb2.mono HB1.out.size))
  clear hb2
  go_wp2
  go_ret
  exact ⟨ret_eq (congrArg Value.string (by rw [ba_of HE.out]; exact ByteArray.ext (Array.toList_inj.1 (by simp)))), HB2.out⟩
set_option maxHeartbeats 4000000 in
set_option maxRecDepth 20000 in
theorem vi_16 (m : Int) (s : ByteArray) (vs : List Va) (n : ByteArray) (l : List ByteArray) (kids : List Ty) (hsh : shape (.mk 16 n l kids) = true) (hsk : ∀ x ∈ kids, Ty.all shape x = true) (hfit : fitV (.mk 16 m s vs) (.mk 16 n l kids) = true) (hnd : Va.nodess vs ≤ 2000000) (ih : IhT 45 TxW vs) : TxAt 45 TxW (.mk 16 m s vs) (.mk 16 n l kids) := by
  intro cs cs' w hCw hcs hcs'
  obtain ⟨A, c, rfl, -, hm, hss, hvs⟩ := Va.open_ hcs
  obtain ⟨A1, c1, A2, c2, rfl, -, hnz, hl, hkids⟩ := Ty.open_ hcs'
  obtain ⟨-, hvn, hvc⟩ := rows_bound hvs
  obtain ⟨-, hln, hlc⟩ := rows_bound hl
  obtain ⟨-, hkn, hkc⟩ := rows_bound hkids
  unfold maxLen at hvc hlc hkc
  obtain ⟨-, hnf, htx, ts, hts, hmem, hlen, h16, hfits⟩ := fit_open hsh hfit
  obtain ⟨hlab, hlab2⟩ := shape_labels hsh
  have hallts : ∀ y ∈ ts, Ty.all shape y = true := fun y hy => hsk y (hmem y hy)
  obtain ⟨hjl, hjl2⟩ := vts_len hallts hfits hlen h16 hnd
  have hvt : (vtT (.mk 16 m s vs) (.mk 16 n l kids)).data.toList = vtM 16 l m s (vtxs vs ts) := by rw [vtT_list, vtx_mk hts]
  obtain ⟨R, hR⟩ : ∃ R, vtT (.mk 16 m s vs) (.mk 16 n l kids) = R := ⟨_, rfl⟩
  rw [hR] at hvt ⊢
  clear hR hfit
  obtain ⟨w0, hw0, B0, bA, bB⟩ := blocks2 w 34 40 [.int .i64 16, .int .i64 m, .string s, .slice A vs.length c] [.int .i64 16, .string n, .slice A1 l.length c1, .slice A2 kids.length c2]
  change Calls Tryz.prog 45 #[.agg #[.int .i64 16, .int .i64 m, .string s, .slice A vs.length c], .agg #[.int .i64 16, .string n, .slice A1 l.length c1, .slice A2 kids.length c2]] w _
  have HB0 := Lib.hid B0
  have kA := bA.cell
  have kB := bB.cell
  have HT0 := Lib.hid (show TxW w0 from TxW.below hCw B0)
  have hjs : (Lib.join (labC l (vtxs vs ts)) [44, 32]).length ≤ 1000001000 := by exact hjl2 l (fun a ha => (hlab a ha).2)
  have htl : (labC l (vtxs vs ts)).length ≤ 16 := by rw [labC_length, vtxs_len (by omega)]; omega
  have HEL := Lib.hid (elems_16 m s vs n l kids ts hsh hnf hts hlen h16 (fun i x y hx hy => ⟨ih x (List.mem_of_getElem? hx) y (hallts y (List.mem_of_getElem? hy)) (fitVs_at hfits hx hy), by
    have h1 := vtx_len x y (hallts y (List.mem_of_getElem? hy)) (fitVs_at hfits hx hy)
    have h2 := nodes_memT (List.mem_of_getElem? hx)
    rw [vtT_size]; omega⟩) A A1 A2 c c1 c2 w0 HT0.out (hvs.below B0) (hl.below B0) (hkids.below B0))
  have HBK : Hid (Calls Tryz.prog 69 #[.int .i64 16] w0 fun e w' => e = .returned (.tuple #[.string ⟨#[123]⟩, .string ⟨#[125]⟩]) ∧ w0 = w') := Lib.hid (brackets_i 16 w0)
  obtain ⟨J, hJ⟩ : ∃ J : ByteArray, (⟨(Lib.join (labC l (vtxs vs ts)) [44, 32]).toArray⟩ : ByteArray) = J := ⟨_, rfl⟩
  have hJs : J.size ≤ 1000001000 := by rw [← hJ]; simpa [ByteArray.size] using hjs
  have HE := Lib.hid (show R.data.toList = 123 :: (J.data.toList ++ [125]) by rw [hvt, ← hJ]; unfold vtM; rw [if_neg (by decide), if_neg (by decide), if_neg (by decide), if_neg (by decide), if_neg (by decide), if_neg (by decide), if_pos (by decide)])
  have HJ := Lib.hid (And.intro hJ (And.intro hjs htl))
  clear hJ hjs htl
  clear hCw hcs hcs' hm hss hvs hnz hl hkids hnf htx hts hmem hlen h16 hfits hlab hlab2 hallts hjl hjl2 hsh hsk ih B0 bA bB hvt hnd
  go_enter Tryz.func45, Tryz.ntmps45
  go_upto_region 1 with fail
  rw [← hw0]
  clear hw0
  go_wp2_with fail
  refine HBK.out.mono ?_
  rintro e w9 ⟨rfl, e9⟩
  subst e9
  go_wp2_with fail
  refine HEL.out.mono ?_
  rintro e w1 ⟨v, B, T, rfl, hown, hTJ, hb1⟩
  have hTn : T.length ≤ 16 := by
    have := congrArg List.length hTJ
    rw [List.length_map] at this
    have := HJ.out.2.2
    omega
  have HJN : Hid (Calls Tryz.prog 70 #[v, .string ⟨#[44, 32]⟩] w1 fun e w' => e = .returned (.string J) ∧ Below w1.heap.size w1 w') := Lib.hid (Calls.mono (join_ownT hown ⟨#[44, 32]⟩ (by
    rw [hTJ]
    have := HJ.out.2.1
    exact Nat.le_trans this (by decide)) (by omega)) (by
    intro e w' h
    rw [hTJ] at h
    exact ⟨by rw [h.1, ← HJ.out.1], h.2⟩))
  have HB1 := Lib.hid (HB0.out.trans (hb1.mono HB0.out.size))
  clear hb1 kA kB hown hTJ hTn
  go_wp2_with fail
  refine HJN.out.mono ?_
  rintro e w2 ⟨rfl, hb2⟩
  have HB2 := Lib.hid (HB1.out.trans (hb2.mono HB1.out.size))
  clear hb2
  go_wp2
  go_ret
  exact ⟨ret_eq (congrArg Value.string (by rw [ba_of HE.out]; exact ByteArray.ext (Array.toList_inj.1 (by simp)))), HB2.out⟩
set_option maxHeartbeats 4000000 in
set_option maxRecDepth 20000 in
theorem vi_19 (m : Int) (s : ByteArray) (vs : List Va) (n : ByteArray) (l : List ByteArray) (kids : List Ty) (hsh : shape (.mk 19 n l kids) = true) (hsk : ∀ x ∈ kids, Ty.all shape x = true) (hfit : fitV (.mk 19 m s vs) (.mk 19 n l kids) = true) (hnd : Va.nodess vs ≤ 2000000) (ih : IhT 45 TxW vs) : TxAt 45 TxW (.mk 19 m s vs) (.mk 19 n l kids) := by
  intro cs cs' w hCw hcs hcs'
  obtain ⟨A, c, rfl, -, hm, hss, hvs⟩ := Va.open_ hcs
  obtain ⟨A1, c1, A2, c2, rfl, -, hnz, hl, hkids⟩ := Ty.open_ hcs'
  obtain ⟨-, hvn, hvc⟩ := rows_bound hvs
  obtain ⟨-, hln, hlc⟩ := rows_bound hl
  obtain ⟨-, hkn, hkc⟩ := rows_bound hkids
  unfold maxLen at hvc hlc hkc
  obtain ⟨-, hnf, htx, ts, hts, hmem, hlen, h16, hfits⟩ := fit_open hsh hfit
  obtain ⟨hlab, hlab2⟩ := shape_labels hsh
  have hallts : ∀ y ∈ ts, Ty.all shape y = true := fun y hy => hsk y (hmem y hy)
  obtain ⟨hjl, hjl2⟩ := vts_len hallts hfits hlen h16 hnd
  have hvt : (vtT (.mk 19 m s vs) (.mk 19 n l kids)).data.toList = vtM 19 l m s (vtxs vs ts) := by rw [vtT_list, vtx_mk hts]
  obtain ⟨R, hR⟩ : ∃ R, vtT (.mk 19 m s vs) (.mk 19 n l kids) = R := ⟨_, rfl⟩
  rw [hR] at hvt ⊢
  clear hR hfit
  obtain ⟨w0, hw0, B0, bA, bB⟩ := blocks2 w 34 40 [.int .i64 19, .int .i64 m, .string s, .slice A vs.length c] [.int .i64 19, .string n, .slice A1 l.length c1, .slice A2 kids.length c2]
  change Calls Tryz.prog 45 #[.agg #[.int .i64 19, .int .i64 m, .string s, .slice A vs.length c], .agg #[.int .i64 19, .string n, .slice A1 l.length c1, .slice A2 kids.length c2]] w _
  have HB0 := Lib.hid B0
  have kA := bA.cell
  have kB := bB.cell
  have HT0 := Lib.hid (show TxW w0 from TxW.below hCw B0)
  have hjs : (Lib.join (flg m 0 l) [44, 32]).length ≤ 1000001000 := by
    have h4 := join2_len (flg m 0 l)
    have h5 := flg_len m l 0
    have h6 := lenS_le (flg m 0 l) 12 (fun x hx => by
      obtain ⟨a, ha, rfl⟩ := flg_mem hx
      have := (hlab a ha).2
      simpa using this)
    omega
  have htl : (flg m 0 l).length ≤ 16 := by have := flg_len m l 0; omega
  have HEL := Lib.hid (elems_19 m s vs n l kids ts hsh hnf hts hlen h16 (fun i x y hx hy => ⟨ih x (List.mem_of_getElem? hx) y (hallts y (List.mem_of_getElem? hy)) (fitVs_at hfits hx hy), by
    have h1 := vtx_len x y (hallts y (List.mem_of_getElem? hy)) (fitVs_at hfits hx hy)
    have h2 := nodes_memT (List.mem_of_getElem? hx)
    rw [vtT_size]; omega⟩) A A1 A2 c c1 c2 w0 HT0.out (hvs.below B0) (hl.below B0) (hkids.below B0))
  have HBK : Hid (Calls Tryz.prog 69 #[.int .i64 19] w0 fun e w' => e = .returned (.tuple #[.string ⟨#[123]⟩, .string ⟨#[125]⟩]) ∧ w0 = w') := Lib.hid (brackets_i 19 w0)
  obtain ⟨J, hJ⟩ : ∃ J : ByteArray, (⟨(Lib.join (flg m 0 l) [44, 32]).toArray⟩ : ByteArray) = J := ⟨_, rfl⟩
  have hJs : J.size ≤ 1000001000 := by rw [← hJ]; simpa [ByteArray.size] using hjs
  have HE := Lib.hid (show R.data.toList = 123 :: (J.data.toList ++ [125]) by rw [hvt, ← hJ]; unfold vtM; rw [if_neg (by decide), if_neg (by decide), if_neg (by decide), if_neg (by decide), if_neg (by decide), if_neg (by decide), if_neg (by decide), if_pos (by decide)])
  have HJ := Lib.hid (And.intro hJ (And.intro hjs htl))
  clear hJ hjs htl
  clear hCw hcs hcs' hm hss hvs hnz hl hkids hnf htx hts hmem hlen h16 hfits hlab hlab2 hallts hjl hjl2 hsh hsk ih B0 bA bB hvt hnd
  go_enter Tryz.func45, Tryz.ntmps45
  go_upto_region 1 with fail
  rw [← hw0]
  clear hw0
  go_wp2_with fail
  refine HBK.out.mono ?_
  rintro e w9 ⟨rfl, e9⟩
  subst e9
  go_wp2_with fail
  refine HEL.out.mono ?_
  rintro e w1 ⟨v, B, T, rfl, hown, hTJ, hb1⟩
  have hTn : T.length ≤ 16 := by
    have := congrArg List.length hTJ
    rw [List.length_map] at this
    have := HJ.out.2.2
    omega
  have HJN : Hid (Calls Tryz.prog 70 #[v, .string ⟨#[44, 32]⟩] w1 fun e w' => e = .returned (.string J) ∧ Below w1.heap.size w1 w') := Lib.hid (Calls.mono (join_ownT hown ⟨#[44, 32]⟩ (by
    rw [hTJ]
    have := HJ.out.2.1
    exact Nat.le_trans this (by decide)) (by omega)) (by
    intro e w' h
    rw [hTJ] at h
    exact ⟨by rw [h.1, ← HJ.out.1], h.2⟩))
  have HB1 := Lib.hid (HB0.out.trans (hb1.mono HB0.out.size))
  clear hb1 kA kB hown hTJ hTn
  go_wp2_with fail
  refine HJN.out.mono ?_
  rintro e w2 ⟨rfl, hb2⟩
  have HB2 := Lib.hid (HB1.out.trans (hb2.mono HB1.out.size))
  clear hb2
  go_wp2
  go_ret
  exact ⟨ret_eq (congrArg Value.string (by rw [ba_of HE.out]; exact ByteArray.ext (Array.toList_inj.1 (by simp)))), HB2.out⟩
end Go.Proofs.YtcpadaelgdmipaaGreatDoor
namespace Go.Proofs.YtcpadaelgdmipaaGreatDoor
open Go.RowKit Go.Shelf

/-- The type of a case, and what of it is written. -/
theorem caseOf_i (k m : Int) (n : ByteArray) (l : List ByteArray) (kids ts : List Ty) (A A' : Option Addr) (c c' q : Nat) (w : World) (hk : k = 13 ∨ k = 14 ∨ k = 17) (hs : shape (.mk k n l kids) = true) (hn : numFits k l.length m = true) (hts : kts k m q kids = some ts) (hv : D.At w anyB (rows Ty.ds 4 kids) (.slice A' kids.length c')) :
    ∃ y, (∀ W, Below w.heap.size w W → Calls Tryz.prog 73 #[.agg #[.int .i64 k, .string n, .slice A l.length c, .slice A' kids.length c'], .int .i64 m] W (RetCase anyB y W)) ∧ ts = if isU y = true then [] else [y] := by
  by_cases h13 : k = 13
  · subst h13
    obtain ⟨x, rfl, hx⟩ := fit_one hs (.inr rfl)
    have hm := num_2 (.inr (.inl rfl)) hn
    rcases (by omega : m = 0 ∨ m = 1) with rfl | rfl
    · rw [kts_13_0] at hts
      exact ⟨.mk 1 ⟨#[]⟩ [] [], fun W _ => caseType_none n A A' _ c _ c' W, by rw [← Option.some.inj hts]; rfl⟩
    · rw [kts_13_1 hx] at hts
      refine ⟨x, fun W hW => caseType_some 13 1 0 n l [x] A A' c c' W rfl (fun _ => rfl) x rfl (hv.below hW), ?_⟩
      rw [← Option.some.inj hts, if_neg (by rw [hx]; decide)]
  · have h14 : k = 14 ∨ k = 17 := by omega
    obtain ⟨h0, x, hx⟩ := case_at hs h14 hn
    rw [kts_case h14 h0 hx] at hts
    exact ⟨x, fun W hW => caseType_some k m m.toNat n l kids A A' c c' W (by rw [caseNo, if_neg h13]; omega) (fun h => absurd h h13) x hx (hv.below hW), (Option.some.inj hts).symm⟩
set_option maxHeartbeats 4000000 in
set_option maxRecDepth 20000 in
theorem vi_13 (m : Int) (s : ByteArray) (vs : List Va) (n : ByteArray) (l : List ByteArray) (kids : List Ty) (hsh : shape (.mk 13 n l kids) = true) (hsk : ∀ x ∈ kids, Ty.all shape x = true) (hfit : fitV (.mk 13 m s vs) (.mk 13 n l kids) = true) (hnd : Va.nodess vs ≤ 2000000) (ih : IhT 45 TxW vs) : TxAt 45 TxW (.mk 13 m s vs) (.mk 13 n l kids) := by
  intro cs cs' w hCw hcs hcs'
  obtain ⟨A, c, rfl, -, hm, hss, hvs⟩ := Va.open_ hcs
  obtain ⟨A1, c1, A2, c2, rfl, -, hnz, hl, hkids⟩ := Ty.open_ hcs'
  obtain ⟨-, hvn, hvc⟩ := rows_bound hvs
  obtain ⟨-, hln, hlc⟩ := rows_bound hl
  obtain ⟨-, hkn, hkc⟩ := rows_bound hkids
  unfold maxLen at hvc hlc hkc
  obtain ⟨-, hnf, htx, ts, hts, hmem, hlen, h16, hfits⟩ := fit_open hsh hfit
  obtain ⟨hlab, hlab2⟩ := shape_labels hsh
  have hallts : ∀ y ∈ ts, Ty.all shape y = true := fun y hy => hsk y (hmem y hy)
  obtain ⟨hjl, hjl2⟩ := vts_len hallts hfits hlen h16 hnd
  have hvt : (vtT (.mk 13 m s vs) (.mk 13 n l kids)).data.toList = vtM 13 l m s (vtxs vs ts) := by rw [vtT_list, vtx_mk hts]
  obtain ⟨R, hR⟩ : ∃ R, vtT (.mk 13 m s vs) (.mk 13 n l kids) = R := ⟨_, rfl⟩
  rw [hR] at hvt ⊢
  clear hR hfit
  obtain ⟨w0, hw0, B0, bA, bB⟩ := blocks2 w 34 40 [.int .i64 13, .int .i64 m, .string s, .slice A vs.length c] [.int .i64 13, .string n, .slice A1 l.length c1, .slice A2 kids.length c2]
  change Calls Tryz.prog 45 #[.agg #[.int .i64 13, .int .i64 m, .string s, .slice A vs.length c], .agg #[.int .i64 13, .string n, .slice A1 l.length c1, .slice A2 kids.length c2]] w _
  have HB0 := Lib.hid B0
  have kA := bA.cell
  have kB := bB.cell
  have HT0 := Lib.hid (show TxW w0 from TxW.below hCw B0)
  obtain ⟨y, hcy, hty⟩ := caseOf_i 13 m n l kids ts A1 A2 c1 c2 vs.length w0 (by decide) hsh hnf hts (hkids.below B0)
  have HCW := Lib.hid (caseWord_i 13 m n l A1 A2 c1 kids.length c2 w0 (by decide) (fun _ => by have := num_2 (k := 13) (.inr (.inl rfl)) hnf; omega) (fun _ => absurd ‹_› (by decide)) (hl.below B0))
  have hqz : (caseW 13 l m).size ≤ 12 := caseW_size hlab
  have hvw : vtM 13 l m s (vtxs vs ts) = (caseW 13 l m).data.toList ++ (match vtxs vs ts with | [] => [] | e :: _ => 40 :: (e ++ [41])) := by unfold vtM; rw [if_neg (by decide), if_neg (by decide), if_neg (by decide), if_neg (by decide), if_neg (by decide), if_neg (by decide), if_neg (by decide), if_neg (by decide), if_pos (by decide)]; rfl
  rw [hvw] at hvt
  obtain ⟨Q, hQ⟩ : ∃ Q, caseW 13 l m = Q := ⟨_, rfl⟩
  rw [hQ] at hqz hvt HCW
  clear hQ hvw
  by_cases hvz : vs.length = 0
  · have hq0 : ((vs.length : Int) == 0) = true := by rw [hvz]; rfl
    have hv0 : vs = [] := List.eq_nil_of_length_eq_zero hvz
    have HE := Lib.hid (show R = Q by rw [hv0, vtxs_nil, List.append_nil] at hvt; exact ByteArray.ext (Array.toList_inj.1 hvt))
    have bA9 := bA
    clear hv0 hvz hcy hty
    clear hCw hcs hcs' hm hss hvs hnz hl hkids hnf htx hts hmem hlen h16 hfits hlab hlab2 hallts hjl hjl2 hsh hsk ih B0 bA bB hvt hnd
    go_enter Tryz.func45, Tryz.ntmps45
    go_upto_region 1 with fail
    rw [← hw0]
    clear hw0
    go_wp2_with fail
    refine HCW.out.mono ?_
    rintro e w1 ⟨rfl, hb1⟩
    have HB1 := Lib.hid (HB0.out.trans (hb1.mono HB0.out.size))
    have bA2 := bA9.call hb1
    clear hb1 kA kB
    have kA := bA2.cell
    go_wp2
    go_ret
    exact ⟨ret_eq (by rw [HE.out]; try rfl), HB1.out⟩
  · obtain ⟨hvl, hts2⟩ : vs.length = 1 ∧ ts = [y] := by
      by_cases hu : isU y = true
      · rw [if_pos hu] at hty
        rw [hty] at hlen
        exact absurd hlen.symm hvz
      · rw [if_neg hu] at hty
        rw [hty] at hlen
        exact ⟨hlen.symm, hty⟩
    have hq0 : ((vs.length : Int) == 0) = false := by rw [hvl]; rfl
    have i1 : (0 : Int) < (vs.length : Int) := by omega
    obtain ⟨x, hx⟩ : ∃ x, vs[0]? = some x := ⟨vs[0], List.getElem?_eq_getElem (by omega)⟩
    have hvs1 : vs = [x] := by
      match vs, hvl, hx with
      | [v0], _, h => simp at h; rw [h]
    have hfx : fitV x y = true := fitVs_at hfits hx (show ts[0]? = some y by rw [hts2]; rfl)
    have hay := hallts y (by rw [hts2]; simp)
    have hix := ih x (List.mem_of_getElem? hx) y hay hfx
    have hys : (vtT x y).size ≤ 1000000000 := by
      have h1 := vtx_len x y hay hfx
      have h2 := nodes_memT (List.mem_of_getElem? hx)
      rw [vtT_size]; omega
    rw [hvs1, hts2, vtxs_cons, vtxs_nil] at hvt
    replace hvt : R.data.toList = Q.data.toList ++ 40 :: (vtx x y ++ [41]) := hvt
    obtain ⟨Y, hY⟩ : ∃ Y, vtT x y = Y := ⟨_, rfl⟩
    rw [← vtT_list, hY] at hvt
    rw [hY] at hys
    have HE := Lib.hid hvt
    have HIX := Lib.hid (And.intro hix hY)
    have HCY := Lib.hid hcy
    obtain ⟨b, off, u0, u1, u2, u3, e, -, hbl, hat, d0, d1, d2, d3⟩ := rows_at4 Va.len hvs hx
    subst e
    obtain ⟨f0, f1, f2, f3, f4, f5, exx⟩ := Va.form hat
    simp only [List.cons.injEq, and_true] at exx
    obtain ⟨rfl, rfl, rfl, rfl⟩ := exx
    simp only [Nat.zero_mul, Nat.add_zero] at d0 d1 d2 d3
    have bA9 := bA
    have bB9 := bB
    have HAT := Lib.hid (hat.below B0)
    have HBL := Lib.hid (And.intro hbl (And.intro B0.size (And.intro ((B0.cell (p := ⟨b, off, none⟩) hbl).trans d0) (And.intro ((B0.cell (p := ⟨b, off + 1, none⟩) hbl).trans d1) (And.intro ((B0.cell (p := ⟨b, off + 2, none⟩) hbl).trans d2) ((B0.cell (p := ⟨b, off + 3, none⟩) hbl).trans d3))))))
    clear hvs1 hfx hay hix hY hcy hty hts2 hvl hx hvz hbl hat d0 d1 d2 d3
    clear hCw hcs hcs' hm hss hvs hnz hl hkids hnf htx hts hmem hlen h16 hfits hlab hlab2 hallts hjl hjl2 hsh hsk ih B0 bA bB hvt hnd
    go_enter Tryz.func45, Tryz.ntmps45
    go_upto_region 1 with fail
    rw [← hw0]
    clear hw0
    go_wp2_with fail
    refine HCW.out.mono ?_
    rintro e w1 ⟨rfl, hb1⟩
    have HB1 := Lib.hid (HB0.out.trans (hb1.mono HB0.out.size))
    have bA2 := bA9.call hb1
    have bB2 := bB9.call hb1
    have HB01 := Lib.hid hb1
    clear hb1 kA kB
    have kA := bA2.cell
    have kB := bB2.cell
    go_wp2_with fail
    refine (HCY.out _ HB01.out).mono ?_
    rintro e w2 ⟨cs9, rfl, hcs9, hb2⟩
    obtain ⟨z0, z1, z2, z3, z4, z5, z6, z7, eyy⟩ := Ty.form hcs9
    subst eyy
    have hb02 := HB01.out.trans (hb2.mono HB01.out.size)
    have bA3 := bA2.call hb2
    have bB3 := bB2.call hb2
    have HCS := Lib.hid hcs9
    obtain ⟨w3, hw3⟩ : ∃ w3, w3 = w2.alloc (.cells #[.int .i64 z0, .string z1, .slice z2 z3 z4, .slice z5 z6 z7] 40) := ⟨_, rfl⟩
    have B3 : Below w2.heap.size w2 w3 := by rw [hw3]; exact (Below.refl _ _).alloc (Nat.le_refl _) _
    have bX : Box w3 w2.heap.size 40 [.int .i64 z0, .string z1, .slice z2 z3 z4, .slice z5 z6 z7] := by rw [hw3]; exact Box.new w2 _ _
    have hb03 := hb02.trans (B3.mono hb02.size)
    have HB3 := Lib.hid (HB0.out.trans (hb03.mono HB0.out.size))
    have HXY := Lib.hid (fun W (h : Below w3.heap.size w3 W) => HIX.out.1 [.int .i64 f0, .int .i64 f1, .string f2, .slice f3 f4 f5] [.int .i64 z0, .string z1, .slice z2 z3 z4, .slice z5 z6 z7] W ((HT0.out.below hb03).below h) ((HAT.out.below hb03).below h) ((HCS.out.below B3).below h))
    simp only [HIX.out.2] at HXY
    have bA4 := bA3.call B3
    have r0 := cell_regrown (show w3.cell? ⟨w.heap.size, 0, none⟩ = some (.int .i64 13) from bA4.cell 0)
    have r1 := cell_regrown (show w3.cell? ⟨w.heap.size, 1, none⟩ = some (.int .i64 m) from bA4.cell 1)
    have r2 := cell_regrown (show w3.cell? ⟨w.heap.size, 2, none⟩ = some (.string s) from bA4.cell 2)
    have r3 := cell_regrown (show w3.cell? ⟨w.heap.size, 3, none⟩ = some (.slice (some ⟨b, off, none⟩) vs.length c) from bA4.cell 3)
    have x0 := cell_regrown (show w3.cell? ⟨w2.heap.size, 0, none⟩ = some (.int .i64 z0) from bX.cell 0)
    have x1 := cell_regrown (show w3.cell? ⟨w2.heap.size, 1, none⟩ = some (.string z1) from bX.cell 1)
    have x2 := cell_regrown (show w3.cell? ⟨w2.heap.size, 2, none⟩ = some (.slice z2 z3 z4) from bX.cell 2)
    have x3 := cell_regrown (show w3.cell? ⟨w2.heap.size, 3, none⟩ = some (.slice z5 z6 z7) from bX.cell 3)
    have hb9 : b < w0.heap.size := Nat.lt_of_lt_of_le HBL.out.1 HBL.out.2.1
    have d0 := cell_regrown ((hb03.cell (p := ⟨b, off, none⟩) hb9).trans HBL.out.2.2.1)
    have d1 := cell_regrown ((hb03.cell (p := ⟨b, off + 1, none⟩) hb9).trans HBL.out.2.2.2.1)
    have d2 := cell_regrown ((hb03.cell (p := ⟨b, off + 2, none⟩) hb9).trans HBL.out.2.2.2.2.1)
    have d3 := cell_regrown ((hb03.cell (p := ⟨b, off + 3, none⟩) hb9).trans HBL.out.2.2.2.2.2)
    clear hcs9 hb2 hb02 B3 bX hb03 hb9 kA kB bA2 bB2
    have kA := bA3.cell
    have kB := bB3.cell
    go_upto_region 23 with fail
    rw [← hw3]
    clear hw3 kA kB bA3 bB3 bA4
    refine wp_region_quiet_below (by kernel_rfl) (by kernel_rfl) ?_
    repeat (first | go_big_quiet_step (with_reducible exact Calls.regrown_of (HXY.out _ (below_regrown _ _ _))) | quiet_step (with_reducible exact Calls.regrown_of (HXY.out _ (below_regrown _ _ _))))
    refine wpQuiet_nil ?_
    intro w6 hw6
    have HB6 := Lib.hid (HB3.out.trans ((below_of_regrown hw6).mono HB3.out.size))
    clear hw6
    clear d0 d1 d2 d3 r0 r1 r2 r3 x0 x1 x2 x3
    go_wp2
    go_ret
    refine ⟨ret_eq (congrArg Value.string (ByteArray.ext (Array.toList_inj.1 ?_))), HB6.out⟩
    rw [HE.out]
    simp
set_option maxHeartbeats 4000000 in
set_option maxRecDepth 20000 in
theorem vi_14 (m : Int) (s : ByteArray) (vs : List Va) (n : ByteArray) (l : List ByteArray) (kids : List Ty) (hsh : shape (.mk 14 n l kids) = true) (hsk : ∀ x ∈ kids, Ty.all shape x = true) (hfit : fitV (.mk 14 m s vs) (.mk 14 n l kids) = true) (hnd : Va.nodess vs ≤ 2000000) (ih : IhT 45 TxW vs) : TxAt 45 TxW (.mk 14 m s vs) (.mk 14 n l kids) := by
  intro cs cs' w hCw hcs hcs'
  obtain ⟨A, c, rfl, -, hm, hss, hvs⟩ := Va.open_ hcs
  obtain ⟨A1, c1, A2, c2, rfl, -, hnz, hl, hkids⟩ := Ty.open_ hcs'
  obtain ⟨-, hvn, hvc⟩ := rows_bound hvs
  obtain ⟨-, hln, hlc⟩ := rows_bound hl
  obtain ⟨-, hkn, hkc⟩ := rows_bound hkids
  unfold maxLen at hvc hlc hkc
  obtain ⟨-, hnf, htx, ts, hts, hmem, hlen, h16, hfits⟩ := fit_open hsh hfit
  obtain ⟨hlab, hlab2⟩ := shape_labels hsh
  have hallts : ∀ y ∈ ts, Ty.all shape y = true := fun y hy => hsk y (hmem y hy)
  obtain ⟨hjl, hjl2⟩ := vts_len hallts hfits hlen h16 hnd
  have hvt : (vtT (.mk 14 m s vs) (.mk 14 n l kids)).data.toList = vtM 14 l m s (vtxs vs ts) := by rw [vtT_list, vtx_mk hts]
  obtain ⟨R, hR⟩ : ∃ R, vtT (.mk 14 m s vs) (.mk 14 n l kids) = R := ⟨_, rfl⟩
  rw [hR] at hvt ⊢
  clear hR hfit
  obtain ⟨w0, hw0, B0, bA, bB⟩ := blocks2 w 34 40 [.int .i64 14, .int .i64 m, .string s, .slice A vs.length c] [.int .i64 14, .string n, .slice A1 l.length c1, .slice A2 kids.length c2]
  change Calls Tryz.prog 45 #[.agg #[.int .i64 14, .int .i64 m, .string s, .slice A vs.length c], .agg #[.int .i64 14, .string n, .slice A1 l.length c1, .slice A2 kids.length c2]] w _
  have HB0 := Lib.hid B0
  have kA := bA.cell
  have kB := bB.cell
  have HT0 := Lib.hid (show TxW w0 from TxW.below hCw B0)
  obtain ⟨y, hcy, hty⟩ := caseOf_i 14 m n l kids ts A1 A2 c1 c2 vs.length w0 (by decide) hsh hnf hts (hkids.below B0)
  have HCW := Lib.hid (caseWord_i 14 m n l A1 A2 c1 kids.length c2 w0 (by decide) (fun _ => by have := num_2 (k := 14) (.inr (.inr rfl)) hnf; omega) (fun _ => absurd ‹_› (by decide)) (hl.below B0))
  have hqz : (caseW 14 l m).size ≤ 12 := caseW_size hlab
  have hvw : vtM 14 l m s (vtxs vs ts) = (caseW 14 l m).data.toList ++ (match vtxs vs ts with | [] => [] | e :: _ => 40 :: (e ++ [41])) := by unfold vtM; rw [if_neg (by decide), if_neg (by decide), if_neg (by decide), if_neg (by decide), if_neg (by decide), if_neg (by decide), if_neg (by decide), if_neg (by decide), if_pos (by decide)]; rfl
  rw [hvw] at hvt
  obtain ⟨Q, hQ⟩ : ∃ Q, caseW 14 l m = Q := ⟨_, rfl⟩
  rw [hQ] at hqz hvt HCW
  clear hQ hvw
  by_cases hvz : vs.length = 0
  · have hq0 : ((vs.length : Int) == 0) = true := by rw [hvz]; rfl
    have hv0 : vs = [] := List.eq_nil_of_length_eq_zero hvz
    have HE := Lib.hid (show R = Q by rw [hv0, vtxs_nil, List.append_nil] at hvt; exact ByteArray.ext (Array.toList_inj.1 hvt))
    have bA9 := bA
    clear hv0 hvz hcy hty
    clear hCw hcs hcs' hm hss hvs hnz hl hkids hnf htx hts hmem hlen h16 hfits hlab hlab2 hallts hjl hjl2 hsh hsk ih B0 bA bB hvt hnd
    go_enter Tryz.func45, Tryz.ntmps45
    go_upto_region 1 with fail
    rw [← hw0]
    clear hw0
    go_wp2_with fail
    refine HCW.out.mono ?_
    rintro e w1 ⟨rfl, hb1⟩
    have HB1 := Lib.hid (HB0.out.trans (hb1.mono HB0.out.size))
    have bA2 := bA9.call hb1
    clear hb1 kA kB
    have kA := bA2.cell
    go_wp2
    go_ret
    exact ⟨ret_eq (by rw [HE.out]; try rfl), HB1.out⟩
  · obtain ⟨hvl, hts2⟩ : vs.length = 1 ∧ ts = [y] := by
      by_cases hu : isU y = true
      · rw [if_pos hu] at hty
        rw [hty] at hlen
        exact absurd hlen.symm hvz
      · rw [if_neg hu] at hty
        rw [hty] at hlen
        exact ⟨hlen.symm, hty⟩
    have hq0 : ((vs.length : Int) == 0) = false := by rw [hvl]; rfl
    have i1 : (0 : Int) < (vs.length : Int) := by omega
    obtain ⟨x, hx⟩ : ∃ x, vs[0]? = some x := ⟨vs[0], List.getElem?_eq_getElem (by omega)⟩
    have hvs1 : vs = [x] := by
      match vs, hvl, hx with
      | [v0], _, h => simp at h; rw [h]
    have hfx : fitV x y = true := fitVs_at hfits hx (show ts[0]? = some y by rw [hts2]; rfl)
    have hay := hallts y (by rw [hts2]; simp)
    have hix := ih x (List.mem_of_getElem? hx) y hay hfx
    have hys : (vtT x y).size ≤ 1000000000 := by
      have h1 := vtx_len x y hay hfx
      have h2 := nodes_memT (List.mem_of_getElem? hx)
      rw [vtT_size]; omega
    rw [hvs1, hts2, vtxs_cons, vtxs_nil] at hvt
    replace hvt : R.data.toList = Q.data.toList ++ 40 :: (vtx x y ++ [41]) := hvt
    obtain ⟨Y, hY⟩ : ∃ Y, vtT x y = Y := ⟨_, rfl⟩
    rw [← vtT_list, hY] at hvt
    rw [hY] at hys
    have HE := Lib.hid hvt
    have HIX := Lib.hid (And.intro hix hY)
    have HCY := Lib.hid hcy
    obtain ⟨b, off, u0, u1, u2, u3, e, -, hbl, hat, d0, d1, d2, d3⟩ := rows_at4 Va.len hvs hx
    subst e
    obtain ⟨f0, f1, f2, f3, f4, f5, exx⟩ := Va.form hat
    simp only [List.cons.injEq, and_true] at exx
    obtain ⟨rfl, rfl, rfl, rfl⟩ := exx
    simp only [Nat.zero_mul, Nat.add_zero] at d0 d1 d2 d3
    have bA9 := bA
    have bB9 := bB
    have HAT := Lib.hid (hat.below B0)
    have HBL := Lib.hid (And.intro hbl (And.intro B0.size (And.intro ((B0.cell (p := ⟨b, off, none⟩) hbl).trans d0) (And.intro ((B0.cell (p := ⟨b, off + 1, none⟩) hbl).trans d1) (And.intro ((B0.cell (p := ⟨b, off + 2, none⟩) hbl).trans d2) ((B0.cell (p := ⟨b, off + 3, none⟩) hbl).trans d3))))))
    clear hvs1 hfx hay hix hY hcy hty hts2 hvl hx hvz hbl hat d0 d1 d2 d3
    clear hCw hcs hcs' hm hss hvs hnz hl hkids hnf htx hts hmem hlen h16 hfits hlab hlab2 hallts hjl hjl2 hsh hsk ih B0 bA bB hvt hnd
    go_enter Tryz.func45, Tryz.ntmps45
    go_upto_region 1 with fail
    rw [← hw0]
    clear hw0
    go_wp2_with fail
    refine HCW.out.mono ?_
    rintro e w1 ⟨rfl, hb1⟩
    have HB1 := Lib.hid (HB0.out.trans (hb1.mono HB0.out.size))
    have bA2 := bA9.call hb1
    have bB2 := bB9.call hb1
    have HB01 := Lib.hid hb1
    clear hb1 kA kB
    have kA := bA2.cell
    have kB := bB2.cell
    go_wp2_with fail
    refine (HCY.out _ HB01.out).mono ?_
    rintro e w2 ⟨cs9, rfl, hcs9, hb2⟩
    obtain ⟨z0, z1, z2, z3, z4, z5, z6, z7, eyy⟩ := Ty.form hcs9
    subst eyy
    have hb02 := HB01.out.trans (hb2.mono HB01.out.size)
    have bA3 := bA2.call hb2
    have bB3 := bB2.call hb2
    have HCS := Lib.hid hcs9
    obtain ⟨w3, hw3⟩ : ∃ w3, w3 = w2.alloc (.cells #[.int .i64 z0, .string z1, .slice z2 z3 z4, .slice z5 z6 z7] 40) := ⟨_, rfl⟩
    have B3 : Below w2.heap.size w2 w3 := by rw [hw3]; exact (Below.refl _ _).alloc (Nat.le_refl _) _
    have bX : Box w3 w2.heap.size 40 [.int .i64 z0, .string z1, .slice z2 z3 z4, .slice z5 z6 z7] := by rw [hw3]; exact Box.new w2 _ _
    have hb03 := hb02.trans (B3.mono hb02.size)
    have HB3 := Lib.hid (HB0.out.trans (hb03.mono HB0.out.size))
    have HXY := Lib.hid (fun W (h : Below w3.heap.size w3 W) => HIX.out.1 [.int .i64 f0, .int .i64 f1, .string f2, .slice f3 f4 f5] [.int .i64 z0, .string z1, .slice z2 z3 z4, .slice z5 z6 z7] W ((HT0.out.below hb03).below h) ((HAT.out.below hb03).below h) ((HCS.out.below B3).below h))
    simp only [HIX.out.2] at HXY
    have bA4 := bA3.call B3
    have r0 := cell_regrown (show w3.cell? ⟨w.heap.size, 0, none⟩ = some (.int .i64 14) from bA4.cell 0)
    have r1 := cell_regrown (show w3.cell? ⟨w.heap.size, 1, none⟩ = some (.int .i64 m) from bA4.cell 1)
    have r2 := cell_regrown (show w3.cell? ⟨w.heap.size, 2, none⟩ = some (.string s) from bA4.cell 2)
    have r3 := cell_regrown (show w3.cell? ⟨w.heap.size, 3, none⟩ = some (.slice (some ⟨b, off, none⟩) vs.length c) from bA4.cell 3)
    have x0 := cell_regrown (show w3.cell? ⟨w2.heap.size, 0, none⟩ = some (.int .i64 z0) from bX.cell 0)
    have x1 := cell_regrown (show w3.cell? ⟨w2.heap.size, 1, none⟩ = some (.string z1) from bX.cell 1)
    have x2 := cell_regrown (show w3.cell? ⟨w2.heap.size, 2, none⟩ = some (.slice z2 z3 z4) from bX.cell 2)
    have x3 := cell_regrown (show w3.cell? ⟨w2.heap.size, 3, none⟩ = some (.slice z5 z6 z7) from bX.cell 3)
    have hb9 : b < w0.heap.size := Nat.lt_of_lt_of_le HBL.out.1 HBL.out.2.1
    have d0 := cell_regrown ((hb03.cell (p := ⟨b, off, none⟩) hb9).trans HBL.out.2.2.1)
    have d1 := cell_regrown ((hb03.cell (p := ⟨b, off + 1, none⟩) hb9).trans HBL.out.2.2.2.1)
    have d2 := cell_regrown ((hb03.cell (p := ⟨b, off + 2, none⟩) hb9).trans HBL.out.2.2.2.2.1)
    have d3 := cell_regrown ((hb03.cell (p := ⟨b, off + 3, none⟩) hb9).trans HBL.out.2.2.2.2.2)
    clear hcs9 hb2 hb02 B3 bX hb03 hb9 kA kB bA2 bB2
    have kA := bA3.cell
    have kB := bB3.cell
    go_upto_region 23 with fail
    rw [← hw3]
    clear hw3 kA kB bA3 bB3 bA4
    refine wp_region_quiet_below (by kernel_rfl) (by kernel_rfl) ?_
    repeat (first | go_big_quiet_step (with_reducible exact Calls.regrown_of (HXY.out _ (below_regrown _ _ _))) | quiet_step (with_reducible exact Calls.regrown_of (HXY.out _ (below_regrown _ _ _))))
    refine wpQuiet_nil ?_
    intro w6 hw6
    have HB6 := Lib.hid (HB3.out.trans ((below_of_regrown hw6).mono HB3.out.size))
    clear hw6
    clear d0 d1 d2 d3 r0 r1 r2 r3 x0 x1 x2 x3
    go_wp2
    go_ret
    refine ⟨ret_eq (congrArg Value.string (ByteArray.ext (Array.toList_inj.1 ?_))), HB6.out⟩
    rw [HE.out]
    simp
set_option maxHeartbeats 4000000 in
set_option maxRecDepth 20000 in
theorem vi_17 (m : Int) (s : ByteArray) (vs : List Va) (n : ByteArray) (l : List ByteArray) (kids : List Ty) (hsh : shape (.mk 17 n l kids) = true) (hsk : ∀ x ∈ kids, Ty.all shape x = true) (hfit : fitV (.mk 17 m s vs) (.mk 17 n l kids) = true) (hnd : Va.nodess vs ≤ 2000000) (ih : IhT 45 TxW vs) : TxAt 45 TxW (.mk 17 m s vs) (.mk 17 n l kids) := by
  intro cs cs' w hCw hcs hcs'
  obtain ⟨A, c, rfl, -, hm, hss, hvs⟩ := Va.open_ hcs
  obtain ⟨A1, c1, A2, c2, rfl, -, hnz, hl, hkids⟩ := Ty.open_ hcs'
  obtain ⟨-, hvn, hvc⟩ := rows_bound hvs
  obtain ⟨-, hln, hlc⟩ := rows_bound hl
  obtain ⟨-, hkn, hkc⟩ := rows_bound hkids
  unfold maxLen at hvc hlc hkc
  obtain ⟨-, hnf, htx, ts, hts, hmem, hlen, h16, hfits⟩ := fit_open hsh hfit
  obtain ⟨hlab, hlab2⟩ := shape_labels hsh
  have hallts : ∀ y ∈ ts, Ty.all shape y = true := fun y hy => hsk y (hmem y hy)
  obtain ⟨hjl, hjl2⟩ := vts_len hallts hfits hlen h16 hnd
  have hvt : (vtT (.mk 17 m s vs) (.mk 17 n l kids)).data.toList = vtM 17 l m s (vtxs vs ts) := by rw [vtT_list, vtx_mk hts]
  obtain ⟨R, hR⟩ : ∃ R, vtT (.mk 17 m s vs) (.mk 17 n l kids) = R := ⟨_, rfl⟩
  rw [hR] at hvt ⊢
  clear hR hfit
  obtain ⟨w0, hw0, B0, bA, bB⟩ := blocks2 w 34 40 [.int .i64 17, .int .i64 m, .string s, .slice A vs.length c] [.int .i64 17, .string n, .slice A1 l.length c1, .slice A2 kids.length c2]
  change Calls Tryz.prog 45 #[.agg #[.int .i64 17, .int .i64 m, .string s, .slice A vs.length c], .agg #[.int .i64 17, .string n, .slice A1 l.length c1, .slice A2 kids.length c2]] w _
  have HB0 := Lib.hid B0
  have kA := bA.cell
  have kB := bB.cell
  have HT0 := Lib.hid (show TxW w0 from TxW.below hCw B0)
  obtain ⟨y, hcy, hty⟩ := caseOf_i 17 m n l kids ts A1 A2 c1 c2 vs.length w0 (by decide) hsh hnf hts (hkids.below B0)
  have HCW := Lib.hid (caseWord_i 17 m n l A1 A2 c1 kids.length c2 w0 (by decide) (fun _ => absurd rfl ‹_›) (fun _ => by
        obtain ⟨hm0, x, hx⟩ := case_at hsh (.inr rfl) hnf
        have hkl := fit_case_len hsh (.inr rfl)
        exact ⟨m.toNat, by omega, by have := (List.getElem?_eq_some_iff.1 hx).1; have := hkl.2.2.2 rfl; omega⟩) (hl.below B0))
  have hqz : (caseW 17 l m).size ≤ 12 := caseW_size hlab
  have hvw : vtM 17 l m s (vtxs vs ts) = (caseW 17 l m).data.toList ++ (match vtxs vs ts with | [] => [] | e :: _ => 40 :: (e ++ [41])) := by unfold vtM; rw [if_neg (by decide), if_neg (by decide), if_neg (by decide), if_neg (by decide), if_neg (by decide), if_neg (by decide), if_neg (by decide), if_neg (by decide), if_pos (by decide)]; rfl
  rw [hvw] at hvt
  obtain ⟨Q, hQ⟩ : ∃ Q, caseW 17 l m = Q := ⟨_, rfl⟩
  rw [hQ] at hqz hvt HCW
  clear hQ hvw
  by_cases hvz : vs.length = 0
  · have hq0 : ((vs.length : Int) == 0) = true := by rw [hvz]; rfl
    have hv0 : vs = [] := List.eq_nil_of_length_eq_zero hvz
    have HE := Lib.hid (show R = Q by rw [hv0, vtxs_nil, List.append_nil] at hvt; exact ByteArray.ext (Array.toList_inj.1 hvt))
    have bA9 := bA
    clear hv0 hvz hcy hty
    clear hCw hcs hcs' hm hss hvs hnz hl hkids hnf htx hts hmem hlen h16 hfits hlab hlab2 hallts hjl hjl2 hsh hsk ih B0 bA bB hvt hnd
    go_enter Tryz.func45, Tryz.ntmps45
    go_upto_region 1 with fail
    rw [← hw0]
    clear hw0
    go_wp2_with fail
    refine HCW.out.mono ?_
    rintro e w1 ⟨rfl, hb1⟩
    have HB1 := Lib.hid (HB0.out.trans (hb1.mono HB0.out.size))
    have bA2 := bA9.call hb1
    clear hb1 kA kB
    have kA := bA2.cell
    go_wp2
    go_ret
    exact ⟨ret_eq (by rw [HE.out]; try rfl), HB1.out⟩
  · obtain ⟨hvl, hts2⟩ : vs.length = 1 ∧ ts = [y] := by
      by_cases hu : isU y = true
      · rw [if_pos hu] at hty
        rw [hty] at hlen
        exact absurd hlen.symm hvz
      · rw [if_neg hu] at hty
        rw [hty] at hlen
        exact ⟨hlen.symm, hty⟩
    have hq0 : ((vs.length : Int) == 0) = false := by rw [hvl]; rfl
    have i1 : (0 : Int) < (vs.length : Int) := by omega
    obtain ⟨x, hx⟩ : ∃ x, vs[0]? = some x := ⟨vs[0], List.getElem?_eq_getElem (by omega)⟩
    have hvs1 : vs = [x] := by
      match vs, hvl, hx with
      | [v0], _, h => simp at h; rw [h]
    have hfx : fitV x y = true := fitVs_at hfits hx (show ts[0]? = some y by rw [hts2]; rfl)
    have hay := hallts y (by rw [hts2]; simp)
    have hix := ih x (List.mem_of_getElem? hx) y hay hfx
    have hys : (vtT x y).size ≤ 1000000000 := by
      have h1 := vtx_len x y hay hfx
      have h2 := nodes_memT (List.mem_of_getElem? hx)
      rw [vtT_size]; omega
    rw [hvs1, hts2, vtxs_cons, vtxs_nil] at hvt
    replace hvt : R.data.toList = Q.data.toList ++ 40 :: (vtx x y ++ [41]) := hvt
    obtain ⟨Y, hY⟩ : ∃ Y, vtT x y = Y := ⟨_, rfl⟩
    rw [← vtT_list, hY] at hvt
    rw [hY] at hys
    have HE := Lib.hid hvt
    have HIX := Lib.hid (And.intro hix hY)
    have HCY := Lib.hid hcy
    obtain ⟨b, off, u0, u1, u2, u3, e, -, hbl, hat, d0, d1, d2, d3⟩ := rows_at4 Va.len hvs hx
    subst e
    obtain ⟨f0, f1, f2, f3, f4, f5, exx⟩ := Va.form hat
    simp only [List.cons.injEq, and_true] at exx
    obtain ⟨rfl, rfl, rfl, rfl⟩ := exx
    simp only [Nat.zero_mul, Nat.add_zero] at d0 d1 d2 d3
    have bA9 := bA
    have bB9 := bB
    have HAT := Lib.hid (hat.below B0)
    have HBL := Lib.hid (And.intro hbl (And.intro B0.size (And.intro ((B0.cell (p := ⟨b, off, none⟩) hbl).trans d0) (And.intro ((B0.cell (p := ⟨b, off + 1, none⟩) hbl).trans d1) (And.intro ((B0.cell (p := ⟨b, off + 2, none⟩) hbl).trans d2) ((B0.cell (p := ⟨b, off + 3, none⟩) hbl).trans d3))))))
    clear hvs1 hfx hay hix hY hcy hty hts2 hvl hx hvz hbl hat d0 d1 d2 d3
    clear hCw hcs hcs' hm hss hvs hnz hl hkids hnf htx hts hmem hlen h16 hfits hlab hlab2 hallts hjl hjl2 hsh hsk ih B0 bA bB hvt hnd
    go_enter Tryz.func45, Tryz.ntmps45
    go_upto_region 1 with fail
    rw [← hw0]
    clear hw0
    go_wp2_with fail
    refine HCW.out.mono ?_
    rintro e w1 ⟨rfl, hb1⟩
    have HB1 := Lib.hid (HB0.out.trans (hb1.mono HB0.out.size))
    have bA2 := bA9.call hb1
    have bB2 := bB9.call hb1
    have HB01 := Lib.hid hb1
    clear hb1 kA kB
    have kA := bA2.cell
    have kB := bB2.cell
    go_wp2_with fail
    refine (HCY.out _ HB01.out).mono ?_
    rintro e w2 ⟨cs9, rfl, hcs9, hb2⟩
    obtain ⟨z0, z1, z2, z3, z4, z5, z6, z7, eyy⟩ := Ty.form hcs9
    subst eyy
    have hb02 := HB01.out.trans (hb2.mono HB01.out.size)
    have bA3 := bA2.call hb2
    have bB3 := bB2.call hb2
    have HCS := Lib.hid hcs9
    obtain ⟨w3, hw3⟩ : ∃ w3, w3 = w2.alloc (.cells #[.int .i64 z0, .string z1, .slice z2 z3 z4, .slice z5 z6 z7] 40) := ⟨_, rfl⟩
    have B3 : Below w2.heap.size w2 w3 := by rw [hw3]; exact (Below.refl _ _).alloc (Nat.le_refl _) _
    have bX : Box w3 w2.heap.size 40 [.int .i64 z0, .string z1, .slice z2 z3 z4, .slice z5 z6 z7] := by rw [hw3]; exact Box.new w2 _ _
    have hb03 := hb02.trans (B3.mono hb02.size)
    have HB3 := Lib.hid (HB0.out.trans (hb03.mono HB0.out.size))
    have HXY := Lib.hid (fun W (h : Below w3.heap.size w3 W) => HIX.out.1 [.int .i64 f0, .int .i64 f1, .string f2, .slice f3 f4 f5] [.int .i64 z0, .string z1, .slice z2 z3 z4, .slice z5 z6 z7] W ((HT0.out.below hb03).below h) ((HAT.out.below hb03).below h) ((HCS.out.below B3).below h))
    simp only [HIX.out.2] at HXY
    have bA4 := bA3.call B3
    have r0 := cell_regrown (show w3.cell? ⟨w.heap.size, 0, none⟩ = some (.int .i64 17) from bA4.cell 0)
    have r1 := cell_regrown (show w3.cell? ⟨w.heap.size, 1, none⟩ = some (.int .i64 m) from bA4.cell 1)
    have r2 := cell_regrown (show w3.cell? ⟨w.heap.size, 2, none⟩ = some (.string s) from bA4.cell 2)
    have r3 := cell_regrown (show w3.cell? ⟨w.heap.size, 3, none⟩ = some (.slice (some ⟨b, off, none⟩) vs.length c) from bA4.cell 3)
    have x0 := cell_regrown (show w3.cell? ⟨w2.heap.size, 0, none⟩ = some (.int .i64 z0) from bX.cell 0)
    have x1 := cell_regrown (show w3.cell? ⟨w2.heap.size, 1, none⟩ = some (.string z1) from bX.cell 1)
    have x2 := cell_regrown (show w3.cell? ⟨w2.heap.size, 2, none⟩ = some (.slice z2 z3 z4) from bX.cell 2)
    have x3 := cell_regrown (show w3.cell? ⟨w2.heap.size, 3, none⟩ = some (.slice z5 z6 z7) from bX.cell 3)
    have hb9 : b < w0.heap.size := Nat.lt_of_lt_of_le HBL.out.1 HBL.out.2.1
    have d0 := cell_regrown ((hb03.cell (p := ⟨b, off, none⟩) hb9).trans HBL.out.2.2.1)
    have d1 := cell_regrown ((hb03.cell (p := ⟨b, off + 1, none⟩) hb9).trans HBL.out.2.2.2.1)
    have d2 := cell_regrown ((hb03.cell (p := ⟨b, off + 2, none⟩) hb9).trans HBL.out.2.2.2.2.1)
    have d3 := cell_regrown ((hb03.cell (p := ⟨b, off + 3, none⟩) hb9).trans HBL.out.2.2.2.2.2)
    clear hcs9 hb2 hb02 B3 bX hb03 hb9 kA kB bA2 bB2
    have kA := bA3.cell
    have kB := bB3.cell
    go_upto_region 23 with fail
    rw [← hw3]
    clear hw3 kA kB bA3 bB3 bA4
    refine wp_region_quiet_below (by kernel_rfl) (by kernel_rfl) ?_
    repeat (first | go_big_quiet_step (with_reducible exact Calls.regrown_of (HXY.out _ (below_regrown _ _ _))) | quiet_step (with_reducible exact Calls.regrown_of (HXY.out _ (below_regrown _ _ _))))
    refine wpQuiet_nil ?_
    intro w6 hw6
    have HB6 := Lib.hid (HB3.out.trans ((below_of_regrown hw6).mono HB3.out.size))
    clear hw6
    clear d0 d1 d2 d3 r0 r1 r2 r3 x0 x1 x2 x3
    go_wp2
    go_ret
    refine ⟨ret_eq (congrArg Value.string (ByteArray.ext (Array.toList_inj.1 ?_))), HB6.out⟩
    rw [HE.out]
    simp
end Go.Proofs.YtcpadaelgdmipaaGreatDoor
namespace Go.Proofs.YtcpadaelgdmipaaGreatDoor
open Go.RowKit Go.Shelf

set_option maxRecDepth 20000 in
theorem valueText_i (v : Va) : ∀ t, Ty.all shape t = true → fitV v t = true → v.nodes ≤ 2000000 → TxAt 45 TxW v t := by
  refine Va.ind (P := fun v => ∀ t, Ty.all shape t = true → fitV v t = true → v.nodes ≤ 2000000 → TxAt 45 TxW v t) (fun k m s vs ih => ?_) v
  intro t hall hfit hnd
  obtain ⟨k', n, l, kids⟩ := t
  have hsh := all_shape hall
  obtain ⟨rfl, -⟩ := fit_open hsh.1 hfit
  have hn2 : Va.nodess vs ≤ 2000000 := by simp only [Va.nodes] at hnd; omega
  have hih : IhT 45 TxW vs := fun x hx y hy hf => ih x hx y hy hf (by have := nodes_memT hx; omega)
  rcases kind_ways (shape_kind hsh.1) with rfl | rfl | rfl | rfl | rfl | rfl | rfl | rfl | rfl | rfl | rfl | rfl | rfl | rfl | rfl | rfl | rfl | rfl | rfl | rfl | rfl | rfl | rfl
  · exact vi_1 m s vs n l kids hsh.1 hsh.2 hfit hn2 hih
  · exact vi_2 m s vs n l kids hsh.1 hsh.2 hfit hn2 hih
  · exact vi_3 m s vs n l kids hsh.1 hsh.2 hfit hn2 hih
  · exact vi_4 m s vs n l kids hsh.1 hsh.2 hfit hn2 hih
  · exact vi_5 m s vs n l kids hsh.1 hsh.2 hfit hn2 hih
  · exact vi_6 m s vs n l kids hsh.1 hsh.2 hfit hn2 hih
  · exact vi_7 m s vs n l kids hsh.1 hsh.2 hfit hn2 hih
  · exact vi_8 m s vs n l kids hsh.1 hsh.2 hfit hn2 hih
  · exact vi_9 m s vs n l kids hsh.1 hsh.2 hfit hn2 hih
  · exact vi_10 m s vs n l kids hsh.1 hsh.2 hfit hn2 hih
  · exact vi_11 m s vs n l kids hsh.1 hsh.2 hfit hn2 hih
  · exact vi_12 m s vs n l kids hsh.1 hsh.2 hfit hn2 hih
  · exact vi_13 m s vs n l kids hsh.1 hsh.2 hfit hn2 hih
  · exact vi_14 m s vs n l kids hsh.1 hsh.2 hfit hn2 hih
  · exact vi_15 m s vs n l kids hsh.1 hsh.2 hfit hn2 hih
  · exact vi_16 m s vs n l kids hsh.1 hsh.2 hfit hn2 hih
  · exact vi_17 m s vs n l kids hsh.1 hsh.2 hfit hn2 hih
  · exact vi_18 m s vs n l kids hsh.1 hsh.2 hfit hn2 hih
  · exact vi_19 m s vs n l kids hsh.1 hsh.2 hfit hn2 hih
  · exact vi_20 m s vs n l kids hsh.1 hsh.2 hfit hn2 hih
  · exact vi_21 m s vs n l kids hsh.1 hsh.2 hfit hn2 hih
  · exact vi_22 m s vs n l kids hsh.1 hsh.2 hfit hn2 hih
  · exact vi_23 m s vs n l kids hsh.1 hsh.2 hfit hn2 hih
end Go.Proofs.YtcpadaelgdmipaaGreatDoor
namespace Go.Proofs.YtcpadaelgdmipaaGreatDoor
open Go.RowKit

theorem fitsB_okT {v : Va} {t : Ty} (h : fitsB v t = true) : tyOk t = true ∧ fitV v t = true := by
  unfold fitsB at h
  rw [Bool.and_eq_true] at h
  exact h
def valT (v : Va) (t : Ty) : ByteArray := if fitsB v t = true then vtT v t else ⟨#[]⟩
def VtW (w : World) : Prop := Tabs w ∧ TxW w
theorem vtw_below {w w' : World} (h : VtW w) (hb : Below w.heap.size w w') : VtW w' := ⟨tabs_below h.1 hb, TxW.below h.2 hb⟩
set_option maxHeartbeats 2000000 in
set_option maxRecDepth 20000 in
theorem valT_s (v : Va) (t : Ty) (cs cs' : List Value) (w : World) (hpv : D.totals v.ds ≤ 1048576) (hp : D.totals t.ds ≤ 1048576) (hcs : D.Ats w anyB v.ds cs) (hcs' : D.Ats w anyB t.ds cs') :
    Calls Tryz.prog 19 #[.agg cs.toArray, .agg cs'.toArray] w fun e w' => e = .returned (.string (valT v t)) ∧ Below w.heap.size w w' := by
  have HV := Lib.hid hcs
  have HT := Lib.hid hcs'
  have hnd : v.nodes ≤ 2000000 := by have := Va.nodes_total v; omega
  obtain ⟨k0, k1, k2, k3, k4, k5, rfl⟩ := Va.form hcs
  obtain ⟨q0, q1, q2, q3, q4, q5, q6, q7, rfl⟩ := Ty.form hcs'
  obtain ⟨w0, hw0, B0, bA, bB⟩ := blocks2 w 34 40 [.int .i64 k0, .int .i64 k1, .string k2, .slice k3 k4 k5] [.int .i64 q0, .string q1, .slice q2 q3 q4, .slice q5 q6 q7]
  have HFT : Hid (∀ W, Below w.heap.size w W → Calls Tryz.prog 24 #[.agg #[.int .i64 k0, .int .i64 k1, .string k2, .slice k3 k4 k5], .agg #[.int .i64 q0, .string q1, .slice q2 q3 q4, .slice q5 q6 q7]] W fun e w' => e = .returned (.bool (fitsB v t)) ∧ Below W.heap.size W w') :=
    Lib.hid (fun W hb => fitsB_s v t [.int .i64 k0, .int .i64 k1, .string k2, .slice k3 k4 k5] [.int .i64 q0, .string q1, .slice q2 q3 q4, .slice q5 q6 q7] W hp (HV.out.below hb) (HT.out.below hb))
  have HTX : Hid (fitsB v t = true → ∀ W, Below w.heap.size w W → Calls Tryz.prog 44 #[.agg #[.int .i64 k0, .int .i64 k1, .string k2, .slice k3 k4 k5], .agg #[.int .i64 q0, .string q1, .slice q2 q3 q4, .slice q5 q6 q7]] W fun e w' => e = .returned (.string (vtT v t)) ∧ Below W.heap.size W w') :=
    Lib.hid (fun h W hb => l04Text_s v t (tyOk_all (fitsB_okT h).1) (fitsB_okT h).2 hnd [.int .i64 k0, .int .i64 k1, .string k2, .slice k3 k4 k5] [.int .i64 q0, .string q1, .slice q2 q3 q4, .slice q5 q6 q7] W trivial (HV.out.below hb) (HT.out.below hb))
  have kA := bA.cell
  have kB := bB.cell
  have HB0 := Lib.hid B0
  have bA9 := bA
  have bB9 := bB
  clear B0 hcs hcs' hp hpv hnd
  cases hk : fitsB v t
  all_goals
    rw [hk] at HFT
    obtain ⟨F, hF⟩ : ∃ F, valT v t = F := ⟨_, rfl⟩
    rw [hF]
    have HF := Lib.hid hF
    clear hF
    change Calls Tryz.prog 19 #[.agg #[.int .i64 k0, .int .i64 k1, .string k2, .slice k3 k4 k5], .agg #[.int .i64 q0, .string q1, .slice q2 q3 q4, .slice q5 q6 q7]] w _
  · have HR := Lib.hid (show F = ⟨#[]⟩ by rw [← HF.out, valT, hk]; rfl)
    clear hk HTX bA bB
    go_enter Tryz.func19, Tryz.ntmps19
    go_upto_region 1 with fail
    rw [← hw0]
    clear hw0
    go_wp2_with fail
    refine (HFT.out _ HB0.out).mono ?_
    rintro e w1 ⟨rfl, hb1⟩
    have HB1 := Lib.hid (HB0.out.trans (hb1.mono HB0.out.size))
    clear hb1 kA kB
    go_wp2
    go_ret
    exact ⟨ret_eq (by rw [HR.out]; try rfl), HB1.out⟩
  · have HR := Lib.hid (show F = vtT v t by rw [← HF.out, valT, hk]; rfl)
    have HTJ := Lib.hid (HTX.out hk)
    obtain ⟨Z, hZ⟩ : ∃ Z, vtT v t = Z := ⟨_, rfl⟩
    rw [hZ] at HR
    simp only [hZ] at HTJ
    clear hk HTX hZ bA bB
    go_enter Tryz.func19, Tryz.ntmps19
    go_upto_region 1 with fail
    rw [← hw0]
    clear hw0
    go_wp2_with fail
    refine (HFT.out _ HB0.out).mono ?_
    rintro e w1 ⟨rfl, hb1⟩
    have HB1 := Lib.hid (HB0.out.trans (hb1.mono HB0.out.size))
    clear kA kB
    have bA1 := bA9.call hb1
    have bB1 := bB9.call hb1
    have kA := bA1.cell
    have kB := bB1.cell
    clear hb1
    go_wp2_with fail
    refine (HTJ.out _ HB1.out).mono ?_
    rintro e w2 ⟨rfl, hb2⟩
    have HB2 := Lib.hid (HB1.out.trans (hb2.mono HB1.out.size))
    clear hb2 kA kB
    go_wp2
    go_ret
    exact ⟨ret_eq (by rw [HR.out]; try rfl), HB2.out⟩
set_option maxHeartbeats 2000000 in
set_option maxRecDepth 20000 in
theorem valT_i (v : Va) (t : Ty) (cs cs' : List Value) (w : World) (ht : VtW w) (hpv : D.totals v.ds ≤ 1048576) (hp : D.totals t.ds ≤ 1048576) (hcs : D.Ats w anyB v.ds cs) (hcs' : D.Ats w anyB t.ds cs') :
    Calls Tryz.prog 20 #[.agg cs.toArray, .agg cs'.toArray] w fun e w' => e = .returned (.string (valT v t)) ∧ Below w.heap.size w w' := by
  have HTB := Lib.hid ht
  clear ht
  have HV := Lib.hid hcs
  have HT := Lib.hid hcs'
  have hnd : v.nodes ≤ 2000000 := by have := Va.nodes_total v; omega
  obtain ⟨k0, k1, k2, k3, k4, k5, rfl⟩ := Va.form hcs
  obtain ⟨q0, q1, q2, q3, q4, q5, q6, q7, rfl⟩ := Ty.form hcs'
  obtain ⟨w0, hw0, B0, bA, bB⟩ := blocks2 w 34 40 [.int .i64 k0, .int .i64 k1, .string k2, .slice k3 k4 k5] [.int .i64 q0, .string q1, .slice q2 q3 q4, .slice q5 q6 q7]
  have HFT : Hid (∀ W, Below w.heap.size w W → Calls Tryz.prog 31 #[.agg #[.int .i64 k0, .int .i64 k1, .string k2, .slice k3 k4 k5], .agg #[.int .i64 q0, .string q1, .slice q2 q3 q4, .slice q5 q6 q7]] W fun e w' => e = .returned (.bool (fitsB v t)) ∧ Below W.heap.size W w') :=
    Lib.hid (fun W hb => fitsB_i v t [.int .i64 k0, .int .i64 k1, .string k2, .slice k3 k4 k5] [.int .i64 q0, .string q1, .slice q2 q3 q4, .slice q5 q6 q7] W (tabs_below HTB.out.1 hb) hp (HV.out.below hb) (HT.out.below hb))
  have HTX : Hid (fitsB v t = true → ∀ W, Below w.heap.size w W → Calls Tryz.prog 45 #[.agg #[.int .i64 k0, .int .i64 k1, .string k2, .slice k3 k4 k5], .agg #[.int .i64 q0, .string q1, .slice q2 q3 q4, .slice q5 q6 q7]] W fun e w' => e = .returned (.string (vtT v t)) ∧ Below W.heap.size W w') :=
    Lib.hid (fun h W hb => valueText_i v t (tyOk_all (fitsB_okT h).1) (fitsB_okT h).2 hnd [.int .i64 k0, .int .i64 k1, .string k2, .slice k3 k4 k5] [.int .i64 q0, .string q1, .slice q2 q3 q4, .slice q5 q6 q7] W (TxW.below HTB.out.2 hb) (HV.out.below hb) (HT.out.below hb))
  have kA := bA.cell
  have kB := bB.cell
  have HB0 := Lib.hid B0
  have bA9 := bA
  have bB9 := bB
  clear B0 hcs hcs' hp hpv hnd
  cases hk : fitsB v t
  all_goals
    rw [hk] at HFT
    obtain ⟨F, hF⟩ : ∃ F, valT v t = F := ⟨_, rfl⟩
    rw [hF]
    have HF := Lib.hid hF
    clear hF
    change Calls Tryz.prog 20 #[.agg #[.int .i64 k0, .int .i64 k1, .string k2, .slice k3 k4 k5], .agg #[.int .i64 q0, .string q1, .slice q2 q3 q4, .slice q5 q6 q7]] w _
  · have HR := Lib.hid (show F = ⟨#[]⟩ by rw [← HF.out, valT, hk]; rfl)
    clear hk HTX bA bB
    go_enter Tryz.func20, Tryz.ntmps20
    go_upto_region 1 with fail
    rw [← hw0]
    clear hw0
    go_wp2_with fail
    refine (HFT.out _ HB0.out).mono ?_
    rintro e w1 ⟨rfl, hb1⟩
    have HB1 := Lib.hid (HB0.out.trans (hb1.mono HB0.out.size))
    clear hb1 kA kB
    go_wp2
    go_ret
    exact ⟨ret_eq (by rw [HR.out]; try rfl), HB1.out⟩
  · have HR := Lib.hid (show F = vtT v t by rw [← HF.out, valT, hk]; rfl)
    have HTJ := Lib.hid (HTX.out hk)
    obtain ⟨Z, hZ⟩ : ∃ Z, vtT v t = Z := ⟨_, rfl⟩
    rw [hZ] at HR
    simp only [hZ] at HTJ
    clear hk HTX hZ bA bB
    go_enter Tryz.func20, Tryz.ntmps20
    go_upto_region 1 with fail
    rw [← hw0]
    clear hw0
    go_wp2_with fail
    refine (HFT.out _ HB0.out).mono ?_
    rintro e w1 ⟨rfl, hb1⟩
    have HB1 := Lib.hid (HB0.out.trans (hb1.mono HB0.out.size))
    clear kA kB
    have bA1 := bA9.call hb1
    have bB1 := bB9.call hb1
    have kA := bA1.cell
    have kB := bB1.cell
    clear hb1
    go_wp2_with fail
    refine (HTJ.out _ HB1.out).mono ?_
    rintro e w2 ⟨rfl, hb2⟩
    have HB2 := Lib.hid (HB1.out.trans (hb2.mono HB1.out.size))
    clear hb2 kA kB
    go_wp2
    go_ret
    exact ⟨ret_eq (by rw [HR.out]; try rfl), HB2.out⟩
end Go.Proofs.YtcpadaelgdmipaaGreatDoor
