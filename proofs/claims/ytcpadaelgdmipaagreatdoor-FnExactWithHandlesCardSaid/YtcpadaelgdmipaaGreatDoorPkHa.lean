/- The handles of a value, in plain words; a row of elements without slices behind a row that the call owns. The handles of a value: by the reference. The handles of a value: by the program: the visit. The handles of a value: by the program: the visit of all parts. HandlesIn on both sides, as the law wants it. -/
import Derived.Test.YtcpadaelgdmipaaGreatDoorPkFj
import Derived.Test.YtcpadaelgdmipaaGreatDoorOwnP
import Derived.Test.YtcpadaelgdmipaaGreatDoorCore
import Derived.Deep.Upon
import Derived.Test.YtcpadaelgdmipaaGreatDoorPkFi
import Derived.Deep.RegionLaw
import Derived.Deep.DeepCutAuto
namespace Go.Proofs.YtcpadaelgdmipaaGreatDoor
open Go.RowKit

mutual
def Va.nodes : Va → Nat
  | .mk _ _ _ vs => 1 + Va.nodess vs
def Va.nodess : List Va → Nat
  | [] => 0
  | v :: r => v.nodes + Va.nodess r
end
theorem Va.nodess_take (vs : List Va) (k : Nat) : Va.nodess (vs.take k) ≤ Va.nodess vs := by
  induction vs generalizing k with
  | nil => simp
  | cons v r ih => cases k with
    | zero => simp [Va.nodess]
    | succ k => simp only [List.take_succ_cons, Va.nodess]; have := ih k; omega
theorem Va.nodess_append (a b : List Va) : Va.nodess (a ++ b) = Va.nodess a + Va.nodess b := by
  induction a with
  | nil => simp [Va.nodess]
  | cons v r ih => simp only [List.cons_append, Va.nodess, ih]; omega
theorem Va.nodess_next {vs : List Va} {k : Nat} {v : Va} (h : vs[k]? = some v) : Va.nodess (vs.take (k + 1)) = Va.nodess (vs.take k) + v.nodes := by
  rw [List.take_add_one, h, Va.nodess_append]; simp [Va.nodess]
mutual
theorem Va.nodes_total : ∀ v : Va, v.nodes ≤ D.totals v.ds + 1
  | .mk k m t kids => by
    have := Va.nodess_total kids
    rw [Va.ds_eq]
    simp only [Va.nodes, D.totals, rows_total, D.total]
    omega
theorem Va.nodess_total : ∀ l : List Va, Va.nodess l ≤ l.length + D.totals (l.flatMap Va.ds)
  | [] => by simp [Va.nodess]
  | v :: r => by
    have := Va.nodes_total v
    have := Va.nodess_total r
    rw [List.flatMap_cons, D.totals_append]
    simp only [Va.nodess, List.length_cons]
    omega
end
/-- Whether a part is a handle. -/
def hdl (k : Int) : Bool := (k == 20) || (k == 21)
mutual
/-- The handles of a value that fits. -/
def hns : Va → Ty → List Hn
  | .mk _ m _ vs, t => if hdl t.kind = true then [⟨t.kind == 20, t.name, m⟩] else (match kts t.kind m vs.length t.kids with | none => [] | some ts => hnss vs ts)
def hnss : List Va → List Ty → List Hn
  | [], _ => []
  | v :: r, ts => (match ts with | [] => [] | t :: q => hns v t ++ hnss r q)
end
theorem hns_mk (k m : Int) (s : ByteArray) (vs : List Va) (t : Ty) : hns (.mk k m s vs) t = if hdl t.kind = true then [⟨t.kind == 20, t.name, m⟩] else (match kts t.kind m vs.length t.kids with | none => [] | some ts => hnss vs ts) := by rw [hns]
theorem hnss_cons (v : Va) (r : List Va) (t : Ty) (q : List Ty) : hnss (v :: r) (t :: q) = hns v t ++ hnss r q := by rw [hnss]
theorem hnss_nil (ts : List Ty) : hnss [] ts = [] := by rw [hnss]
theorem hnss_next {vs : List Va} {ts : List Ty} {k : Nat} {v : Va} {t : Ty} (hv : vs[k]? = some v) (ht : ts[k]? = some t) : hnss (vs.take (k + 1)) ts = hnss (vs.take k) ts ++ hns v t := by
  induction vs generalizing ts k with
  | nil => simp at hv
  | cons x r ih =>
    cases ts with
    | nil => simp at ht
    | cons y q =>
      cases k with
      | zero => simp at hv ht; subst hv ht; simp [hnss_cons, hnss_nil]
      | succ k =>
        rw [List.take_succ_cons, List.take_succ_cons, hnss_cons, hnss_cons, ih (by simpa using hv) (by simpa using ht), List.append_assoc]
mutual
theorem hns_len : ∀ (v : Va) (t : Ty), (hns v t).length ≤ v.nodes
  | .mk k m s vs, t => by
    rw [hns_mk]
    split
    · simp [Va.nodes]
    · split
      · simp [Va.nodes]
      · rename_i ts _
        have := hnss_len vs ts
        simp only [Va.nodes]; omega
theorem hnss_len : ∀ (vs : List Va) (ts : List Ty), (hnss vs ts).length ≤ Va.nodess vs
  | [], ts => by rw [hnss_nil]; simp
  | v :: r, [] => by rw [hnss]; simp
  | v :: r, t :: q => by
    rw [hnss_cons, List.length_append]
    have := hns_len v t
    have := hnss_len r q
    simp only [Va.nodess]; omega
end
theorem hns_yes {k m : Int} {s : ByteArray} {vs : List Va} {k' : Int} {n : ByteArray} {l : List ByteArray} {kids : List Ty} (h : hdl k' = true) : hns (.mk k m s vs) (.mk k' n l kids) = [⟨k' == 20, n, m⟩] := by
  rw [hns_mk]; exact if_pos h
theorem hns_no {k m : Int} {s : ByteArray} {vs : List Va} {k' : Int} {n : ByteArray} {l : List ByteArray} {kids ts : List Ty} (h : hdl k' = false) (hk : kts k' m vs.length kids = some ts) : hns (.mk k m s vs) (.mk k' n l kids) = hnss vs ts := by
  rw [hns_mk]
  show (if hdl k' = true then _ else (match kts k' m vs.length kids with | none => [] | some ts => hnss vs ts)) = _
  rw [hk, if_neg (by rw [h]; decide)]
theorem info_hn : (Tryz.prog.info? 75).map (fun i => (i.zero, i.size, i.bytes)) = some (some (.agg #[.bool false, .string ⟨#[]⟩, .int .i64 0]), 3, 32) := by kernel_rfl
/-- The handles' resources are names of the type: short. -/
theorem OwnP.lit (w : World) (e : TypeId) (size : Nat) : OwnP (w.alloc (.cells #[] e)) w.heap.size e size (.slice (some ⟨w.heap.size, 0, none⟩) 0 0) 0 [] :=
  ⟨by simp, [], [], ⟨by simp, .inr ⟨w.heap.size, 0, #[], rfl, Nat.le_refl _, heap_alloc_new w _, Nat.le_refl _, Nat.zero_le _, by simp, by simp⟩⟩, D.Seps.nil, List.nodup_nil, fun b hb => by cases hb⟩
theorem at_worldH {P : Program} {ops : Array Oper} {o : Oper} {a : Act} {K : Act → World → Prop} {Q : Exit → Act → World → Prop} {E : Prop} (W : World) (h : if Region.wanted o (yielded ops a.tmps) = true then Oper.wp P o a W K Q else E) : if Region.wanted o (yielded ops a.tmps) = true then Oper.wp P o a W K Q else E := h
theorem hn_ds_cells {w : World} {S : Nat → Prop} {l : List Hn} {xs : List Value} (h : D.Ats w S (l.flatMap Hn.ds) xs) (w' : World) : D.Seps w' (l.flatMap Hn.ds) [] xs ∧ ∀ u ∈ xs, u.oneCell' = true := by
  induction l generalizing xs with
  | nil => simp only [List.flatMap_nil, D.Ats] at h; subst h; exact ⟨D.Seps.nil, fun u hu => by cases hu⟩
  | cons x r ih =>
    rw [List.flatMap_cons] at h
    obtain ⟨ys, zs, rfl, h1, h2⟩ := h.split
    obtain ⟨g1, g2⟩ := ih h2
    obtain ⟨rfl, q1, q2⟩ := Hn.open_ h1
    refine ⟨?_, fun u hu => ?_⟩
    · rw [List.flatMap_cons]
      exact D.Seps.append (l1 := []) (l2 := []) (D.Seps.cons (l1 := []) (l2 := []) (D.Sep.bool_ w') (D.Seps.cons (l1 := []) (l2 := []) (D.Sep.str_ q1 w') (D.Seps.cons (l1 := []) (l2 := []) (D.Sep.int_ q2 w') D.Seps.nil))) g1
    · rcases List.mem_append.1 hu with hu | hu
      · simp at hu; rcases hu with rfl | rfl | rfl <;> rfl
      · exact g2 u hu
section
variable {P : Program}
/-- Append of a row of elements without slices to such a row. -/
theorem run_ownRow {w0 w1 : World} {base : Nat} {e t ty : TypeId} {size bytes n : Nat} {v : Value} {ds es : List D} {i : TypeInfo} {z : Value} {A : Option Addr} {m cap : Nat} (ht : P.underlying t = some (.slice e)) (hi : P.info? e = some i) (hz : i.zero = some z)
    (hsize : i.size = size) (hby : i.bytes = bytes) (hzs : z.cells.size = size) (hsz : 0 < size) (hp : OwnP w0 base e size v n ds) (hb : Below w0.heap.size w0 w1) (hx : D.At w1 anyB (.sl m size es) (.slice A m cap))
    (hes : ∀ xs, D.Ats w1 anyB es xs → (∀ w', D.Seps w' es [] xs) ∧ ∀ u ∈ xs, u.oneCell' = true) (hbytes : (n + m) * bytes ≤ 140737488355328) (h63 : n + m ≤ maxLen) :
    ∃ v' w', (Builtin.append_ #[t, t] ty #[v, .slice A m cap]).run P w1 = .ok v' w' ∧ OwnP w' base e size v' (n + m) (ds ++ es) ∧ Below base w0 w' ∧ w1.grownBy w' v.ownBlock ∧ (v'.ownBlock = v.ownBlock ∨ v'.ownBlock = some w1.heap.size) := by
  obtain ⟨h0, xs, l, g1, g2, g3, g4⟩ := hp
  have s1 := hb.size
  have hown : w1.ownsRow base e size v n xs := own_keep g1 (fun b _ hlt => hb.block b hlt)
  simp only [D.At] at hx
  obtain ⟨A', cap', ys, hv, q1, q2, q3, q4, q5⟩ := hx
  injection hv with e1 _ e3
  subst e1 e3
  obtain ⟨hy1, hy2⟩ := hes ys q5
  rcases Nat.eq_zero_or_pos m with h0m | h0m
  · subst h0m
    have hys : ys = [] := List.eq_nil_of_length_eq_zero (by simpa using q3)
    subst hys
    have hs : Src P i.size t (.slice A 0 cap) 0 [] w1 := by
      cases A with
      | none => exact Src.ofNil w1 ht cap
      | some a => exact Src.ofSlice w1 ht a 0 cap [] (by simp) (fun j u h => by simp at h) (fun u hu => by cases hu)
    obtain ⟨A2, c2, hv2⟩ : ∃ A2 c2, v = .slice A2 n c2 := by
      rcases hown.2 with ⟨rfl, rfl⟩ | ⟨g, cap, cur, rfl, -⟩
      · exact ⟨_, _, rfl⟩
      · exact ⟨_, _, rfl⟩
    subst hv2
    have hnc : n ≤ c2 := by
      rcases hown.2 with ⟨hv3, rfl⟩ | ⟨g, cap, cur, hv3, _, _, h, _⟩
      · exact Nat.zero_le _
      · injection hv3 with _ _ e; omega
    have hes0 : es = [] := by
      have := (hy1 w1).length
      simp at this
      exact List.eq_nil_of_length_eq_zero this.symm
    subst hes0
    refine ⟨_, w1, run_append_nothing w1 t t ty e i ht hi A2 n c2 hnc _ hs, ?_, hb.mono h0, ⟨rfl, rfl, rfl, Nat.le_refl _, fun _ _ _ => rfl⟩, .inl rfl⟩
    rw [List.append_nil, Nat.add_zero]
    exact OwnP.below ⟨h0, xs, l, g1, g2, g3, g4⟩ hb
  · obtain ⟨b, off, rfl, -, hbl, hc⟩ := q4 h0m
    obtain ⟨v', w', r1, r2, r3, -, r5⟩ := run_append_own_at (P := P) w1 base t ty e i z size bytes ht hi hz hsize hby hzs hsz v n xs hown ⟨b, off, none⟩ m cap ys (by rw [q3])
      (fun j u hj => by rw [Addr.add_lit]; exact hc j u hj) hy2 h63 hbytes (by omega)
    refine ⟨v', w', r1, OwnP.next (w1 := w1) (wa := w1) h0 g1 g2 g3 g4 hb ⟨s1, [], hy1 w1, List.nodup_nil, fun b hb => by cases hb⟩ (Below.refl _ _) r2 r3 r5, (hb.mono h0).grown r3 (by omega) (fun k hk => (g1.lt k hk).1), r3, r5⟩
/-- The same as one step of a region that draws its order. -/
theorem step_ownRow {w0 w1 : World} {ops : Array Oper} {o : Oper} {a : Act} {K : Act → World → Prop} {Q : Exit → Act → World → Prop} {E : Prop} {base : Nat} {e t : TypeId} {size bytes n : Nat} {v : Value} {ds es : List D} {i : TypeInfo} {z : Value} {A : Option Addr} {m cap : Nat}
    (hp : OwnP w0 base e size v n ds) (hb : Below w0.heap.size w0 w1) (hx : D.At w1 anyB (.sl m size es) (.slice A m cap)) (hes : ∀ xs, D.Ats w1 anyB es xs → (∀ w', D.Seps w' es [] xs) ∧ ∀ u ∈ xs, u.oneCell' = true) (s x : Operand)
    (ht : P.underlying t = some (.slice e)) (hi : P.info? e = some i) (hz : i.zero = some z) (hsize : i.size = size) (hby : i.bytes = bytes) (hzs : z.cells.size = size) (hsz : 0 < size) (hbytes : (n + m) * bytes ≤ 140737488355328) (h63 : n + m ≤ maxLen)
    (h : ∀ v' w', OwnP w' base e size v' (n + m) (ds ++ es) → Below base w0 w' → K (a.put o.dst v') w')
    (hgd : o.guard = none := by exact rfl) (ho : o.op = .call { callee := .builtin .append, args := #[s, x], argTypes := #[t, t] } := by exact rfl)
    (hs : a.eval s = v := by simp [Act.eval, Act.put]) (hx' : a.eval x = .slice A m cap := by simp [Act.eval, Act.put]) :
    if Region.wanted o (yielded ops a.tmps) = true then Oper.wp P o a w1 K Q else E := by
  have hw : Region.wanted o (yielded ops a.tmps) = true := by simp [Region.wanted, hgd]
  rw [if_pos hw]
  obtain ⟨v', w', hr', h2, h3, -, -⟩ := run_ownRow (P := P) (ty := o.type) ht hi hz hsize hby hzs hsz hp hb hx hes hbytes h63
  unfold Oper.wp execOp
  simp only [ho, resolve, invoke, builtin, Sem.run_bind, Sem.run_pure, Result.andThen_ok, List.map_toArray, List.map_cons, List.map_nil, hs, hx', hr']
  exact h v' w' h2 h3
end
end Go.Proofs.YtcpadaelgdmipaaGreatDoor
namespace Go.Proofs.YtcpadaelgdmipaaGreatDoor
open Go.RowKit

/-- Which of the type's kids tells a kid's type. -/
theorem kid_index {k m : Int} {c q : Nat} {n : ByteArray} {l : List ByteArray} {kids ts : List Ty} {y : Ty} (hsh : shape (.mk k n l kids) = true) (hn : numFits k l.length m = true) (hts : kts k m c kids = some ts) (hy : ts[q]? = some y) :
    ∃ j : Nat, kids[j]? = some y ∧ (((k = 12 ∨ k = 13) ∧ j = 0) ∨ ((k = 14 ∨ k = 17) ∧ m = (j : Int)) ∨ ((k = 15 ∨ k = 16) ∧ j = q)) := by
  by_cases h12 : k = 12
  · subst h12
    obtain ⟨x, rfl, -⟩ := fit_one hsh (.inl rfl)
    rw [kts_12] at hts
    obtain rfl := Option.some.inj hts
    have : y = x := by
      have := List.mem_of_getElem? hy
      exact (List.mem_replicate.1 this).2
    subst this
    exact ⟨0, rfl, .inl ⟨.inl rfl, rfl⟩⟩
  by_cases h15 : k = 15 ∨ k = 16
  · rw [kts_all h15] at hts
    obtain rfl := Option.some.inj hts
    exact ⟨q, hy, .inr (.inr ⟨h15, rfl⟩)⟩
  by_cases h13 : k = 13
  · subst h13
    obtain ⟨x, rfl, hx⟩ := fit_one hsh (.inr rfl)
    have hm := num_2 (.inr (.inl rfl)) hn
    rcases (by omega : m = 0 ∨ m = 1) with rfl | rfl
    · rw [kts_13_0] at hts
      obtain rfl := Option.some.inj hts
      simp at hy
    · rw [kts_13_1 hx] at hts
      obtain rfl := Option.some.inj hts
      have := List.mem_of_getElem? hy
      simp at this
      subst this
      exact ⟨0, rfl, .inl ⟨.inr rfl, rfl⟩⟩
  by_cases h14 : k = 14 ∨ k = 17
  · obtain ⟨h0, x, hx⟩ := case_at hsh h14 hn
    rw [kts_case h14 h0 hx] at hts
    obtain rfl := Option.some.inj hts
    have hyx : y = x := by
      split at hy
      · simp at hy
      · have := List.mem_of_getElem? hy
        simpa using this
    subst hyx
    exact ⟨m.toNat, hx, .inr (.inl ⟨h14, by omega⟩)⟩
  rw [kts_none (by omega)] at hts
  obtain rfl := Option.some.inj hts
  simp at hy
/-- A struct in memory that anyone may hold comes back. -/
def RetAt (ds : List D) (w : World) (e : Ending) (w' : World) : Prop := ∃ cs, e = .returned (.agg cs.toArray) ∧ D.Ats w' anyB ds cs ∧ Below w.heap.size w w'
theorem ret_at {ds : List D} {w w' : World} {cs : List Value} (h : D.Ats w anyB ds cs) (hb : Below w.heap.size w w') : RetAt ds w (.returned (.agg cs.toArray)) w' := ⟨cs, rfl, h.below hb, hb⟩
set_option maxHeartbeats 4000000 in
set_option maxRecDepth 20000 in
theorem l04Kid_s (k m : Int) (s n : ByteArray) (l : List ByteArray) (kids : List Ty) (vA A A' : Option Addr) (N vc c c' q j : Nat) (y : Ty) (w : World) (k0 : Int) (hv : D.At w anyB (rows Ty.ds 4 kids) (.slice A' kids.length c')) (hy : kids[j]? = some y)
    (hj : ((k = 12 ∨ k = 13) ∧ j = 0) ∨ ((k = 14 ∨ k = 17) ∧ m = (j : Int)) ∨ ((k = 15 ∨ k = 16) ∧ j = q)) :
    Calls Tryz.prog 48 #[.agg #[.int .i64 k0, .int .i64 m, .string s, .slice vA N vc], .agg #[.int .i64 k, .string n, .slice A l.length c, .slice A' kids.length c'], .int .i64 q] w (RetAt y.ds w) := by
  have hpos : j < kids.length := (List.getElem?_eq_some_iff.1 hy).1
  obtain ⟨-, hnk, hck⟩ := rows_bound hv
  unfold maxLen at hck
  have i0 : (0 : Int) ≤ (j : Int) := by omega
  have i1 : (j : Int) < (kids.length : Int) := by omega
  obtain ⟨b, off, u0, u1, u2, u3, e, -, hbl, hat, d0, d1, d2, d3⟩ := rows_at4 Ty.len hv hy
  subst e
  obtain ⟨f0, f1, f2, f3, f4, f5, f6, f7, exx⟩ := Ty.form hat
  simp only [List.cons.injEq, and_true] at exx
  obtain ⟨rfl, rfl, rfl, rfl⟩ := exx
  obtain ⟨w0, hw0⟩ : ∃ w0, w0 = ((w.alloc (.cells #[.int .i64 k0, .int .i64 m, .string s, .slice vA N vc] 34)).alloc (.cells #[.int .i64 k, .string n, .slice A l.length c, .slice (some ⟨b, off, none⟩) kids.length c'] 40)).alloc (.cells #[.int .i64 0, .string ⟨#[]⟩, .slice none 0 0, .slice none 0 0] 40) := ⟨_, rfl⟩
  obtain ⟨B0, bA, bB, bR⟩ := box3 (w := w) (tA := 34) (tB := 40) (tC := 40) (cA := [.int .i64 k0, .int .i64 m, .string s, .slice vA N vc]) (cB := [.int .i64 k, .string n, .slice A l.length c, .slice (some ⟨b, off, none⟩) kids.length c']) (cC := [.int .i64 0, .string ⟨#[]⟩, .slice none 0 0, .slice none 0 0]) (Below.refl _ _)
  change Below w.heap.size w (((w.alloc (.cells #[.int .i64 k0, .int .i64 m, .string s, .slice vA N vc] 34)).alloc (.cells #[.int .i64 k, .string n, .slice A l.length c, .slice (some ⟨b, off, none⟩) kids.length c'] 40)).alloc (.cells #[.int .i64 0, .string ⟨#[]⟩, .slice none 0 0, .slice none 0 0] 40)) at B0
  change Box (((w.alloc (.cells #[.int .i64 k0, .int .i64 m, .string s, .slice vA N vc] 34)).alloc (.cells #[.int .i64 k, .string n, .slice A l.length c, .slice (some ⟨b, off, none⟩) kids.length c'] 40)).alloc (.cells #[.int .i64 0, .string ⟨#[]⟩, .slice none 0 0, .slice none 0 0] 40)) _ _ _ at bA bB bR
  rw [← hw0] at B0 bA bB bR
  replace d0 := (B0.cell (p := ⟨b, off + j * 4, none⟩) hbl).trans d0
  replace d1 := (B0.cell (p := ⟨b, off + j * 4 + 1, none⟩) hbl).trans d1
  replace d2 := (B0.cell (p := ⟨b, off + j * 4 + 2, none⟩) hbl).trans d2
  replace d3 := (B0.cell (p := ⟨b, off + j * 4 + 3, none⟩) hbl).trans d3
  have kA := bA.cell
  have kB := bB.cell
  have kR := bR.cell
  have fR := bR.frozen
  have lR := bR.lt
  have HB0 := Lib.hid B0
  have HA := Lib.hid hat
  clear hy hv hat hpos B0
  rcases hj with ⟨hk, rfl⟩ | ⟨hk, rfl⟩ | ⟨hk, rfl⟩
  · simp only [Nat.zero_mul, Nat.add_zero] at d0 d1 d2 d3
    clear i0
    rcases hk with rfl | rfl
    all_goals
      go_enter Tryz.func48, Tryz.ntmps48
      go_upto_region 1 with fail
      rw [← hw0]
      clear hw0
      go_wp2
      exact bodyPost_ret (v := .agg #[.int .i64 f0, .string f1, .slice f2 f3 f4, .slice f5 f6 f7]) (by simp [results, Tryz.results48, go_sem, kR]) rfl (ret_at (cs := [.int .i64 f0, .string f1, .slice f2 f3 f4, .slice f5 f6 f7]) HA.out (by have := HB0.out; repeat (first | exact this | with_reducible refine Below.setCell ?_ (by simp <;> omega) _)))
  all_goals
    rcases hk with rfl | rfl
    all_goals
      go_enter Tryz.func48, Tryz.ntmps48
      go_upto_region 1 with fail
      rw [← hw0]
      clear hw0
      go_wp2
      exact bodyPost_ret (v := .agg #[.int .i64 f0, .string f1, .slice f2 f3 f4, .slice f5 f6 f7]) (by simp [results, Tryz.results48, go_sem, kR]) rfl (ret_at (cs := [.int .i64 f0, .string f1, .slice f2 f3 f4, .slice f5 f6 f7]) HA.out (by have := HB0.out; repeat (first | exact this | with_reducible refine Below.setCell ?_ (by simp <;> omega) _)))
theorem one_han (w : World) (own : Bool) (n : ByteArray) (m : Int) (h1 : n.size ≤ maxLen) (h2 : -9223372036854775808 ≤ m ∧ m ≤ 9223372036854775807) :
    SepIn (w.alloc (.cells #[.bool own, .string n, .int .i64 m] 75)) w.heap.size (w.heap.size + 1) (rows Hn.ds 3 [⟨own, n, m⟩]) (.slice (some ⟨w.heap.size, 0, none⟩) 1 1) := by
  refine ⟨Nat.le_succ _, [w.heap.size], ?_, by simp, fun b hb => by simp at hb; omega⟩
  unfold rows
  unfold D.Sep
  exact ⟨_, 1, [.bool own, .string n, .int .i64 m], rfl, Nat.le_refl _, by unfold maxLen; omega, rfl, .inr ⟨Nat.one_pos, w.heap.size, [], #[.bool own, .string n, .int .i64 m], 75, rfl, rfl, heap_alloc_new w _, rfl,
    D.Seps.cons (l1 := []) (l2 := []) (D.Sep.bool_ _) (D.Seps.cons (l1 := []) (l2 := []) (D.Sep.str_ h1 _) (D.Seps.cons (l1 := []) (l2 := []) (D.Sep.int_ h2 _) D.Seps.nil))⟩⟩
/-- A row of handles comes back, in a block of its own. -/
def HanFn (v : Va) : Prop := ∀ (t : Ty), Ty.all shape t = true → fitV v t = true → v.nodes ≤ 2000000 → ∀ (cs cs' : List Value) (w : World), D.Ats w anyB v.ds cs → D.Ats w anyB t.ds cs' →
  Calls Tryz.prog 25 #[.agg cs.toArray, .agg cs'.toArray] w (RetS (rows Hn.ds 3 (hns v t)) w)
set_option maxHeartbeats 8000000 in
set_option maxRecDepth 20000 in
theorem l04Handles_s (v : Va) : HanFn v := by
  refine Va.ind (fun k m s vs ih => ?_) v
  intro t hall hfit hnodes cs cs' w hcs hcs'
  obtain ⟨A, c, rfl, hk, hm, hs, hvs⟩ := Va.open_ hcs
  obtain ⟨k', n, l, kids⟩ := t
  obtain ⟨A1, c1, A2, c2, rfl, hk', hn, hl, hkids⟩ := Ty.open_ hcs'
  obtain ⟨-, hvn, hvc⟩ := rows_bound hvs
  unfold maxLen at hvc
  have hsh := all_shape hall
  obtain ⟨rfl, hnf, -, ts, hts, hmem, hlen, hts16, hfits⟩ := fit_open hsh.1 hfit
  obtain ⟨w0, hw0, B0, bA, bB⟩ := blocks2 w 34 40 [.int .i64 k, .int .i64 m, .string s, .slice A vs.length c] [.int .i64 k, .string n, .slice A1 l.length c1, .slice A2 kids.length c2]
  have hs0 : w0.heap.size = w.heap.size + 1 + 1 := by rw [hw0]; simp
  have kA := bA.cell
  have kB := bB.cell
  have HB0 := Lib.hid B0
  cases hh : hdl k
  · have hR := hns_no (k := k) (m := m) (s := s) (n := n) (l := l) hh hts
    rw [hR]
    have g20 : (k == 20) = false := by unfold hdl at hh; simp only [Bool.or_eq_false_iff] at hh; exact hh.1
    have g21 : (k == 21) = false := by unfold hdl at hh; simp only [Bool.or_eq_false_iff] at hh; exact hh.2
    obtain ⟨j0, hj, hy0, hy1, hy2⟩ := info_parts info_hn
    have HJ := Lib.hid (And.intro hj (And.intro hy0 (And.intro hy1 hy2)))
    have HVS := Lib.hid (hvs.below B0)
    have HKD := Lib.hid (hkids.below B0)
    have HBX := Lib.hid (And.intro bA bB)
    have hnv : Va.nodess vs ≤ 2000000 := by simp only [Va.nodes] at hnodes; omega
    have HNV := Lib.hid hnv
    have HIH := Lib.hid (fun x hx y hy => ih x hx y (hsh.2 y (hmem y hy)))
    have HFT := Lib.hid (And.intro hfits (And.intro hlen (fun q y (hy : ts[q]? = some y) => kid_index hsh.1 hnf hts hy)))
    have HLIT := Lib.hid (OwnP.lit w0 75 3)
    have HS0 := Lib.hid hs0
    clear hcs hcs' hk hm hs hvs hk' hn hl hkids ih hall hsh hnf hts hmem hfits hR hfit hnodes hnv hh hj hy0 hy1 hy2 B0
    change Calls Tryz.prog 25 #[.agg #[.int .i64 k, .int .i64 m, .string s, .slice A vs.length c], .agg #[.int .i64 k, .string n, .slice A1 l.length c1, .slice A2 kids.length c2]] w _
    go_enter Tryz.func25, Tryz.ntmps25
    go_upto_region 1 with fail
    rw [← hw0]
    clear hw0 bA bB
    go_wp2
    clear kA kB hs0
    go_loopw [5, 6] (fun o i wr => ∃ (q : Nat), q ≤ vs.length ∧ i = .int .i64 q ∧ OwnP wr w0.heap.size 75 3 o (hnss (vs.take q) ts).length ((hnss (vs.take q) ts).flatMap Hn.ds) ∧ Below w0.heap.size w0 wr) (fun _ i _ => vs.length - (intOf i).toNat)
    case atStart => exact ⟨0, Nat.zero_le _, rfl, by rw [List.take_zero, hnss_nil, ← HS0.out]; exact HLIT.out, (Below.refl _ _).alloc (Nat.le_refl _) _⟩
    case round =>
      obtain ⟨q, hq, rfl, hO, hb⟩ := hrel
      obtain ⟨HH, hHH⟩ : ∃ HH, hnss (vs.take q) ts = HH := ⟨_, rfl⟩
      rw [hHH] at hO
      obtain ⟨AO, cO, rfl⟩ := hO.form
      have bA := HBX.out.1.call hb
      have bB := HBX.out.2.call hb
      by_cases hlt : q < vs.length
      · have hlt' : q < ts.length := by rw [HFT.out.2.1]; exact hlt
        obtain ⟨x, hx⟩ : ∃ x, vs[q]? = some x := ⟨vs[q], List.getElem?_eq_getElem hlt⟩
        obtain ⟨y, hy⟩ : ∃ y, ts[q]? = some y := ⟨ts[q], List.getElem?_eq_getElem hlt'⟩
        obtain ⟨j, hyj, hj⟩ := HFT.out.2.2 q y hy
        have i0 : (0 : Int) ≤ (q : Int) := by omega
        have i1 : (q : Int) < (vs.length : Int) := by omega
        obtain ⟨b, off, u0, u1, u2, u3, e, -, hbl, hat, d0, d1, d2, d3⟩ := rows_at4 Va.len (HVS.out.below hb) hx
        subst e
        obtain ⟨f0, f1, f2, f3, f4, f5, exx⟩ := Va.form hat
        simp only [List.cons.injEq, and_true] at exx
        obtain ⟨rfl, rfl, rfl, rfl⟩ := exx
        have hnd : Va.nodess (vs.take q) + x.nodes ≤ Va.nodess vs := by rw [← Va.nodess_next hx]; exact Va.nodess_take _ _
        have hl1 := hnss_len (vs.take q) ts
        have hl2 := hns_len x y
        have hnv := HNV.out
        have HKI := Lib.hid (fun W (h : Below wr.heap.size wr W) => l04Kid_s k m s n l kids (some ⟨b, off, none⟩) A1 A2 vs.length c c1 c2 q j y W k ((HKD.out.below hb).below h) hyj hj)
        have HHA := Lib.hid (fun csY W (h : Below wr.heap.size wr W) (hY : D.Ats W anyB y.ds csY) => HIH.out x (List.mem_of_getElem? hx) y (List.mem_of_getElem? hy) (fitVs_at HFT.out.1 hx hy) (by omega) [.int .i64 f0, .int .i64 f1, .string f2, .slice f3 f4 f5] csY W (hat.below h) hY)
        have HN := Lib.hid (hnss_next hx hy)
        obtain ⟨H, hH⟩ : ∃ H, hns x y = H := ⟨_, rfl⟩
        rw [hH] at hl2
        simp only [hH] at HHA
        rw [hHH] at hl1
        rw [hH, hHH] at HN
        have hle : HH.length + H.length ≤ 2000000 := by omega
        have kA := bA.cell
        have kB := bB.cell
        have hOd := hO.drew
        have HBW := Lib.hid hb
        have hDr : Below wr.heap.size wr wr.drew := (Below.refl _ wr).drew
        have bAd : Box wr.drew w.heap.size 34 [.int .i64 k, .int .i64 m, .string s, .slice (some ⟨b, off, none⟩) vs.length c] := bA
        clear hx hy hyj hj hat hO hb hnd hl1 hl2 hnv hH hHH bA bB
        go_upto_region 7 with fail
        go_region_law (first
          | (go_simp; go_at_call 48; ((with_reducible refine (HKI.out _ hDr).mono ?_); rintro e w5 ⟨cs5, rfl, hk5, hb5⟩; obtain ⟨z0, z1, z2, z3, z4, z5, z6, z7, rfl⟩ := Ty.form hk5; have e5 : Below wr.heap.size wr w5 := hDr.trans hb5; have c5 := (Box.call (w := wr.drew) bAd hb5).cell; have d0' := (hb5.cell (p := ⟨b, off + q * 4, none⟩) hbl).trans d0; have d1' := (hb5.cell (p := ⟨b, off + q * 4 + 1, none⟩) hbl).trans d1; have d2' := (hb5.cell (p := ⟨b, off + q * 4 + 2, none⟩) hbl).trans d2; have d3' := (hb5.cell (p := ⟨b, off + q * 4 + 3, none⟩) hbl).trans d3))
          | (go_simp; go_at_call 25; ((with_reducible refine (HHA.out [.int .i64 z0, .string z1, .slice z2 z3 z4, .slice z5 z6 z7] w5 e5 hk5).mono ?_); rintro e w6 ⟨v6, rfl, sp6, hb6⟩; have at6 := sp6.at_; obtain ⟨B6, n6, rfl, -, -⟩ := rows_form Hn.len at6; have e6 : Below wr.drew.heap.size wr.drew w6 := hb5.trans (hb6.mono hb5.size)))
          | ((with_reducible refine at_worldH w6 ?_); refine step_ownRow (w0 := wr.drew) hOd e6 at6 (fun xs hxs => ⟨fun w' => (hn_ds_cells hxs w').1, (hn_ds_cells hxs wr).2⟩) (.tmp 32) (.tmp 42) Tryz.underlying56 HJ.out.1 HJ.out.2.1 HJ.out.2.2.1 HJ.out.2.2.2 rfl (by decide) (by omega) (by unfold maxLen; omega) ?_; intro v' w' ho' hb'; obtain ⟨A7, c7, rfl⟩ := ho'.form))
        all_goals
          have HON := Lib.hid (show OwnP w' w0.heap.size 75 3 (.slice A7 (HH.length + H.length) c7) (hnss (vs.take (q + 1)) ts).length ((hnss (vs.take (q + 1)) ts).flatMap Hn.ds) by rw [HN.out, List.length_append, List.flatMap_append]; exact ho')
          have HBN := Lib.hid (show Below w0.heap.size w0 w' from HBW.out.trans (hDr.mono HBW.out.size |>.trans hb'))
          clear ho' hb' kA kB d0 d1 d2 d3 d0' d1' d2' d3' c5 e5 e6 hOd hDr bAd hk5 sp6 at6 hb5 hb6
          go_wp2
          go_roundw
          case rel => exact ⟨q + 1, by omega, by go_num, HON.out, HBN.out⟩
          case measure => simp [intOf]; omega
      · obtain rfl : q = vs.length := by omega
        rw [List.take_length] at hHH
        subst hHH
        have HD := Lib.hid ((hO.done (fun h => by rw [List.eq_nil_of_length_eq_zero h]; rfl)).weaken (lo' := w.heap.size) HB0.out.size (Nat.le_refl _))
        have HB6 := Lib.hid hb
        have kA := bA.cell
        clear hO hb
        go_wp2
        go_ret
        exact ⟨_, rfl, HD.out, HB0.out.trans (HB6.out.mono HB0.out.size)⟩
  · have hR := hns_yes (k := k) (m := m) (s := s) (vs := vs) (n := n) (l := l) (kids := kids) hh
    rw [hR]
    obtain ⟨j0, hj, hy0, hy1, hy2⟩ := info_parts info_hn
    have HS0 := Lib.hid hs0
    have HK := Lib.hid (And.intro hn hm)
    have g : (k == 20) = true ∨ ((k == 20) = false ∧ (k == 21) = true) := by
      unfold hdl at hh
      cases h20 : (k == 20)
      · rw [h20, Bool.false_or] at hh; exact .inr ⟨rfl, hh⟩
      · exact .inl rfl
    clear hcs hcs' hk hm hs hvs hk' hn hl hkids ih hall hsh hnf hts hmem hfits hR hfit hnodes hh hj hy0 hy1 hy2 B0 hlen hts16
    change Calls Tryz.prog 25 #[.agg #[.int .i64 k, .int .i64 m, .string s, .slice A vs.length c], .agg #[.int .i64 k, .string n, .slice A1 l.length c1, .slice A2 kids.length c2]] w _
    rcases g with g20 | ⟨g20, g21⟩
    all_goals
      go_enter Tryz.func25, Tryz.ntmps25
      go_upto_region 1 with fail
      rw [← hw0]
      clear hw0
      go_wp2
      go_ret
      refine ⟨_, rfl, ?_, HB0.out.alloc HB0.out.size _⟩
      rw [g20, ← HS0.out]
      exact (one_han w0 _ n m HK.out.1 HK.out.2).weaken HB0.out.size (by simp)
end Go.Proofs.YtcpadaelgdmipaaGreatDoor
namespace Go.Proofs.YtcpadaelgdmipaaGreatDoor
open Go.RowKit

/-- A visit: the list's box G and the list's own row are turned, nothing else that was there. -/
def Vis (G : Nat) (L L' : Value) (w w' : World) : Prop := (w'.os = w.os ∧ w'.tape = w.tape ∧ w'.output = w.output) ∧ w.heap.size ≤ w'.heap.size ∧ ∀ x, x < w.heap.size → x ≠ G → L.ownBlock ≠ some x → (w'.heap[x]? = w.heap[x]? ∧ L'.ownBlock ≠ some x)
theorem Vis.trans {G : Nat} {L L1 L2 : Value} {w w1 w2 : World} (h : Vis G L L1 w w1) (k : Vis G L1 L2 w1 w2) : Vis G L L2 w w2 := by
  obtain ⟨⟨a1, a2, a3⟩, a4, a5⟩ := h
  obtain ⟨⟨b1, b2, b3⟩, b4, b5⟩ := k
  refine ⟨⟨b1.trans a1, b2.trans a2, b3.trans a3⟩, Nat.le_trans a4 b4, fun x hx h1 h2 => ?_⟩
  obtain ⟨c1, c2⟩ := a5 x hx h1 h2
  obtain ⟨d1, d2⟩ := b5 x (by omega) h1 c2
  exact ⟨d1.trans c1, d2⟩
theorem Vis.of_below {G : Nat} {L : Value} {w w' : World} (h : Below w.heap.size w w') : Vis G L L w w' := ⟨⟨h.os, h.tape, h.output⟩, h.size, fun x hx _ h2 => ⟨h.block x hx, h2⟩⟩
theorem Vis.below {G B : Nat} {L L' : Value} {w w' : World} (h : Vis G L L' w w') (hG : B ≤ G) (hL : ∀ x, L.ownBlock = some x → B ≤ x) (hB : B ≤ w.heap.size) : Below B w w' :=
  ⟨h.1.1, h.1.2.1, h.1.2.2, h.2.1, fun x hx => (h.2.2 x (by omega) (by omega) (fun e => by have := hL x e; omega)).1⟩
/-- Blocks that no visit turns. -/
def SX (G : Nat) (L : Value) : Nat → Prop := fun x => x ≠ G ∧ L.ownBlock ≠ some x
theorem Vis.at_ {G : Nat} {L L' : Value} {w w' : World} {d : D} {v : Value} (h : Vis G L L' w w') (ha : D.At w (SX G L) d v) : D.At w' (SX G L') d v :=
  D.At.keep (fun x hx hs => ⟨(h.2.2 x hx hs.1 hs.2).1, ⟨hs.1, (h.2.2 x hx hs.1 hs.2).2⟩, by have := h.2.1; omega⟩) _ _ ha
theorem Vis.ats {G : Nat} {L L' : Value} {w w' : World} {d : List D} {v : List Value} (h : Vis G L L' w w') (ha : D.Ats w (SX G L) d v) : D.Ats w' (SX G L') d v :=
  D.Ats.keep (fun x hx hs => ⟨(h.2.2 x hx hs.1 hs.2).1, ⟨hs.1, (h.2.2 x hx hs.1 hs.2).2⟩, by have := h.2.1; omega⟩) _ _ ha
theorem Vis.cell {G : Nat} {L L' : Value} {w w' : World} {b o : Nat} (h : Vis G L L' w w') (hb : b < w.heap.size) (hs : SX G L b) : w'.cell? ⟨b, o, none⟩ = w.cell? ⟨b, o, none⟩ := by
  have := (h.2.2 b hb hs.1 hs.2).1
  unfold World.cell?
  rw [this]
theorem Vis.sx {G : Nat} {L L' : Value} {w w' : World} {b : Nat} (h : Vis G L L' w w') (hb : b < w.heap.size) (hs : SX G L b) : SX G L' b := ⟨hs.1, (h.2.2 b hb hs.1 hs.2).2⟩
theorem OwnP.own_lt {w : World} {base : Nat} {e : TypeId} {size : Nat} {v : Value} {n : Nat} {ds : List D} (h : OwnP w base e size v n ds) {x : Nat} (hx : v.ownBlock = some x) : base ≤ x ∧ x < w.heap.size := by
  obtain ⟨_, xs, l, h1, -⟩ := h
  exact h1.lt x hx
theorem OwnP.sx_new {w : World} {base : Nat} {e : TypeId} {size : Nat} {v : Value} {n : Nat} {ds : List D} (h : OwnP w base e size v n ds) {G : Nat} (hG : G < w.heap.size) : ∀ b, w.heap.size ≤ b → SX G v b :=
  fun b hb => ⟨by omega, fun e => by have := (h.own_lt e).2; omega⟩
section
variable {P : Program}
/-- Append of one element, just laid in a block of its own, as one step of a region that draws its order: what is turned. -/
theorem step_ownG {w0 : World} {ops : Array Oper} {o : Oper} {a : Act} {K : Act → World → Prop} {Q : Exit → Act → World → Prop} {E : Prop} {base : Nat} {e t : TypeId} {size bytes n : Nat} {v : Value} {vs : List Value} {ds es : List D} {i : TypeInfo} {z : Value} {fz : Nat × Nat}
    (hp : OwnP w0.drew base e size v n ds) (hr : SepsIn w0.drew w0.drew.heap.size w0.drew.heap.size es vs) (s x : Operand) (ht : P.underlying t = some (.slice e)) (hi : P.info? e = some i) (hz : i.zero = some z)
    (hsize : i.size = size) (hby : i.bytes = bytes) (hzs : z.cells.size = size) (hsz : 0 < size)
    (hl : vs.length = size) (h1 : ∀ u ∈ vs, u.oneCell' = true) (h63 : n + 1 ≤ maxLen) (hbytes : (n + 1) * bytes ≤ 140737488355328)
    (h : ∀ v' w', OwnP w' base e size v' (n + 1) (ds ++ es) → (∀ G, Vis G v v' w0.drew w') → (∀ x, x < w0.heap.size → v.ownBlock ≠ some x → w'.heap[x]? = w0.heap[x]?) → w0.heap.size ≤ w'.heap.size → K (a.put o.dst v') w')
    (hgd : o.guard = none := by exact rfl) (ho : o.op = .call { callee := .builtin .append, args := #[s, x], argTypes := #[t, t] } := by exact rfl)
    (hs : a.eval s = v := by simp [Act.eval, Act.put]) (hx : a.eval x = .slice (some ⟨w0.heap.size, 0, none⟩) 1 1 := by simp [Act.eval, Act.put]) :
    if Region.wanted o (yielded ops a.tmps) = true then Oper.wp P o a ((w0.alloc (.cells vs.toArray e fz)).drew) K Q else E := by
  have hw : Region.wanted o (yielded ops a.tmps) = true := by simp [Region.wanted, hgd]
  rw [if_pos hw]
  obtain ⟨h0, xs, l, g1, g2, g3, g4⟩ := hp
  have hdr : w0.drew.heap.size = w0.heap.size := rfl
  have ha : Below w0.drew.heap.size w0.drew (w0.drew.alloc (.cells vs.toArray e fz)) := (Below.refl _ _).alloc (Nat.le_refl _) _
  have hown : (w0.drew.alloc (.cells vs.toArray e fz)).ownsRow base e size v n xs := own_keep g1 (fun b _ hlt => ha.block b hlt)
  obtain ⟨v', w', q1, q2, q3, -, q5⟩ := run_append_own_at (P := P) (w0.drew.alloc (.cells vs.toArray e fz)) base t o.type e i z size bytes ht hi hz hsize hby hzs hsz v n xs hown ⟨w0.drew.heap.size, 0, none⟩ 1 1 vs (by rw [hl, Nat.one_mul])
    (fun j u hj => by rw [Addr.add_lit, cell_of_row _ _ _ _ _ _ (heap_alloc_new w0.drew _)]; simpa using hj) h1 h63 hbytes (by simp; omega)
  have q1' : (Builtin.append_ #[t, t] o.type #[v, .slice (some ⟨w0.heap.size, 0, none⟩) 1 1]).run P ((w0.alloc (.cells vs.toArray e fz)).drew) = .ok v' w' := q1
  have hblk : ∀ x, x < w0.drew.heap.size → v.ownBlock ≠ some x → w'.heap[x]? = w0.drew.heap[x]? := fun x hx hne => (q3.block x (by simp; omega) (fun e => hne e.symm)).trans (ha.block x hx)
  have hsz' : w0.drew.heap.size ≤ w'.heap.size := Nat.le_trans ha.size q3.size
  unfold Oper.wp execOp
  simp only [ho, resolve, invoke, builtin, Sem.run_bind, Sem.run_pure, Result.andThen_ok, List.map_toArray, List.map_cons, List.map_nil, hs, hx, q1']
  refine h v' w' (OwnP.next (w1 := w0.drew) h0 g1 g2 g3 g4 (Below.refl _ _) hr ha q2 q3 q5) (fun G => ⟨⟨?_, ?_, ?_⟩, hsz', fun x hx _ hne => ⟨hblk x hx hne, fun e => ?_⟩⟩) hblk hsz'
  · exact q3.os.trans ha.os
  · exact q3.tape.trans ha.tape
  · exact q3.output.trans ha.output
  · rcases q5 with q | q
    · exact hne (q ▸ e)
    · rw [q] at e; injection e with e; simp at e; omega
end
theorem seps_hn {w : World} {acc : List Hn} {l : List Nat} {xs : List Value} (h : D.Seps w (acc.flatMap Hn.ds) l xs) : l = [] := by
  induction acc generalizing l xs with
  | nil => simp only [List.flatMap_nil, D.Seps] at h; exact h.1
  | cons x r ih =>
    rw [List.flatMap_cons] at h
    obtain ⟨l1, l2, ys, zs, rfl, rfl, h1, h2⟩ := h.split
    rw [ih h2]
    unfold Hn.ds at h1
    simp only [D.Seps, D.Sep] at h1
    obtain ⟨a, b, v, vs, rfl, -, ⟨rfl, -⟩, a2, b2, v2, vs2, rfl, -, ⟨rfl, -⟩, a3, b3, v3, vs3, rfl, -, ⟨rfl, -⟩, rfl, -⟩ := h1
    rfl
theorem OwnP.setG {w : World} {base : Nat} {e : TypeId} {size : Nat} {v : Value} {n G : Nat} {acc : List Hn} (h : OwnP w base e size v n (acc.flatMap Hn.ds)) (hne : v.ownBlock ≠ some G) (u : Value) : OwnP (w.setCell ⟨G, 0, none⟩ u) base e size v n (acc.flatMap Hn.ds) := by
  obtain ⟨h0, xs, l, h1, h2, h3, h4⟩ := h
  obtain rfl := seps_hn h2
  have hsz : (w.setCell ⟨G, 0, none⟩ u).heap.size = w.heap.size := by simp [World.setCell]
  refine ⟨by rw [hsz]; exact h0, xs, [], ⟨h1.1, ?_⟩, D.Seps.keep _ [] xs (fun b hb => by cases hb) h2, List.nodup_nil, fun b hb => by cases hb⟩
  rcases h1.2 with h | ⟨g, cap, cur, rfl, hb, hg, r⟩
  · exact .inl h
  · exact .inr ⟨g, cap, cur, rfl, hb, (Below.heap_setCell _ _ _ _ (fun e => hne (by have e2 : g = G := e; rw [e2]; rfl))).trans hg, r⟩
theorem Vis.set {G : Nat} {L L' : Value} {w w' : World} (h : Vis G L L' w w') (u : Value) : Vis G L L' w (w'.setCell ⟨G, 0, none⟩ u) :=
  ⟨h.1, by simp [World.setCell]; exact h.2.1, fun x hx h1 h2 => ⟨(Below.heap_setCell _ _ _ _ h1).trans (h.2.2 x hx h1 h2).1, (h.2.2 x hx h1 h2).2⟩⟩
theorem Vis.drew {G : Nat} {L : Value} (w : World) : Vis G L L w w.drew := Vis.of_below (Below.refl _ w).drew
/-- What a visit leaves behind. -/
def RetVis (G base : Nat) (L : Value) (hs : List Hn) (w : World) (e : Ending) (w' : World) : Prop := e = .returned (.tuple #[]) ∧ ∃ L', Box w' G 56 [L'] ∧ OwnP w' base 75 3 L' hs.length (hs.flatMap Hn.ds) ∧ Vis G L L' w w' ∧ L'.ownBlock ≠ some G
set_option maxHeartbeats 8000000 in
set_option maxRecDepth 20000 in
theorem visit1_i (acc : List Hn) (k m : Int) (n : ByteArray) (s1 s2 : Value) (f1 : ∃ a b c, s1 = .slice a b c) (f2 : ∃ a b c, s2 = .slice a b c) (b o G base : Nat) (L : Value) (w : World) (hn : n.size ≤ maxLen) (hm : -9223372036854775808 ≤ m ∧ m ≤ 9223372036854775807) (hacc : acc.length ≤ 3000000)
    (hc : w.cell? ⟨b, o + 1, none⟩ = some (.int .i64 m)) (hbox : Box w G 56 [L]) (hO : OwnP w base 75 3 L acc.length (acc.flatMap Hn.ds)) (hGn : L.ownBlock ≠ some G) :
    Calls Tryz.prog 53 #[.pointer (some ⟨b, o, none⟩), .agg #[.int .i64 k, .string n, s1, s2], .pointer (some ⟨G, 0, none⟩)] w (RetVis G base L (acc ++ [⟨k == 20, n, m⟩]) w) := by
  obtain ⟨a1, b1, c1, rfl⟩ := f1
  obtain ⟨a2, b2, c2, rfl⟩ := f2
  obtain ⟨AO, cO, rfl⟩ := hO.form
  obtain ⟨j0, hj, hy0, hy1, hy2⟩ := info_parts info_hn
  have HJ := Lib.hid (And.intro hj (And.intro hy0 (And.intro hy1 hy2)))
  obtain ⟨w0, hw0⟩ : ∃ w0, w0 = w.alloc (.cells #[.int .i64 k, .string n, .slice a1 b1 c1, .slice a2 b2 c2] 40) := ⟨_, rfl⟩
  have B0 : Below w.heap.size w w0 := by rw [hw0]; exact (Below.refl _ _).alloc (Nat.le_refl _) _
  have bT : Box w0 w.heap.size 40 [.int .i64 k, .string n, .slice a1 b1 c1, .slice a2 b2 c2] := by rw [hw0]; exact Box.new w _ _
  have bG : Box w0 G 56 [.slice AO acc.length cO] := hbox.call B0
  have hcb : b < w.heap.size := block_lt_of_cell hc
  have c1 : w0.cell? ⟨b, o + 1, none⟩ = some (.int .i64 m) := (B0.cell (p := ⟨b, o + 1, none⟩) hcb).trans hc
  have t0 : w0.cell? ⟨w.heap.size, 0, none⟩ = some (.int .i64 k) := bT.cell 0
  have t1 : w0.cell? ⟨w.heap.size, 1, none⟩ = some (.string n) := bT.cell 1
  have g0 : w0.cell? ⟨G, 0, none⟩ = some (.slice AO acc.length cO) := bG.cell 0
  have hGl : G < w0.heap.size := bG.lt
  have hOd : OwnP w0.drew base 75 3 (.slice AO acc.length cO) acc.length (acc.flatMap Hn.ds) := (hO.below B0).drew
  have HV := Lib.hid (Vis.of_below (G := G) (L := .slice AO acc.length cO) B0)
  have HBG := Lib.hid bG
  have hSp : SepsIn w0.drew w0.drew.heap.size w0.drew.heap.size (Hn.ds ⟨k == 20, n, m⟩) [.bool (k == 20), .string n, .int .i64 m] :=
    SepsIn.cons SepIn.bool (SepsIn.cons (SepIn.str hn) (SepsIn.cons (SepIn.int hm) (SepsIn.nil (Nat.le_refl _))))
  clear hj hy0 hy1 hy2 hc hbox hO B0 bT bG
  go_enter Tryz.func53, Tryz.ntmps53
  go_upto_region 1 with fail
  rw [← hw0]
  clear hw0
  go_region_law ((with_reducible refine at_worldH ((w0.alloc (.cells #[.bool (k == 20), .string n, .int .i64 m] 75)).drew) ?_); refine step_ownG (w0 := w0) (vs := [.bool (k == 20), .string n, .int .i64 m]) hOd hSp (.tmp 5) (.tmp 16) Tryz.underlying56 HJ.out.1 HJ.out.2.1 HJ.out.2.2.1 HJ.out.2.2.2 rfl (by decide) rfl (by simp [Value.oneCell']) (by unfold maxLen; omega) (by omega) ?_; intro v' w' ho' hv' hblk' hsz'; obtain ⟨A2, d2, rfl⟩ := ho'.form; have bG2 : Box w' G 56 [.slice AO acc.length cO] := (hblk' G hGl hGn).trans HBG.out; have cg := bG2.cell; have fg := bG2.frozen; have lg := bG2.lt)
  all_goals
    go_wp2
    go_end0
    have hne : (Value.slice A2 (acc.length + 1) d2).ownBlock ≠ some G := ((hv' (G + 1)).2.2 G hGl (by omega) hGn).2
    refine ⟨rfl, .slice A2 (acc.length + 1) d2, bG2.set 0 _, ?_, (HV.out.trans ((Vis.drew w0).trans (hv' G))).set _, hne⟩
    have ho2 : OwnP w' base 75 3 (.slice A2 (acc.length + 1) d2) (acc ++ [(⟨k == 20, n, m⟩ : Hn)]).length ((acc ++ [(⟨k == 20, n, m⟩ : Hn)]).flatMap Hn.ds) := by
      rw [List.length_append, List.flatMap_append, List.flatMap_singleton]
      exact ho'
    exact ho2.setG hne _
end Go.Proofs.YtcpadaelgdmipaaGreatDoor
namespace Go.Proofs.YtcpadaelgdmipaaGreatDoor
open Go.RowKit

/-- All handles of a value in memory are visited in their order. -/
def VisFn (v : Va) : Prop := ∀ (t : Ty), Ty.all shape t = true → fitV v t = true → ∀ (acc : List Hn) (b o G base : Nat) (L : Value) (cs cs' : List Value) (w : World), acc.length + v.nodes ≤ 3000000 → (∀ j u, cs[j]? = some u → w.cell? ⟨b, o + j, none⟩ = some u) → b < w.heap.size → SX G L b →
  D.Ats w (SX G L) v.ds cs → D.Ats w (SX G L) t.ds cs' → Box w G 56 [L] → OwnP w base 75 3 L acc.length (acc.flatMap Hn.ds) → L.ownBlock ≠ some G →
  Calls Tryz.prog 52 #[.pointer (some ⟨b, o, none⟩), .agg cs'.toArray, .func (.func 53) #[] #[.pointer (some ⟨G, 0, none⟩)]] w (RetVis G base L (acc ++ hns v t) w)
set_option maxHeartbeats 8000000 in
set_option maxRecDepth 20000 in
theorem visitHandles_i (v : Va) : VisFn v := by
  refine Va.ind (fun k m s vs ih => ?_) v
  intro t hall hfit acc b o G base L cs cs' w hnodes hcell hbl hSX hcs hcs' hbox hO hGb
  obtain ⟨A, c, rfl, hk, hm, hs, hvs⟩ := Va.open_ hcs
  obtain ⟨k', n, l, kids⟩ := t
  obtain ⟨A1, c1, A2, c2, rfl, hk', hn, hl, hkids⟩ := Ty.open_ hcs'
  obtain ⟨-, hvn, hvc⟩ := rows_bound hvs
  unfold maxLen at hvc
  have hsh := all_shape hall
  obtain ⟨rfl, hnf, -, ts, hts, hmem, hlen, hts16, hfits⟩ := fit_open hsh.1 hfit
  obtain ⟨w0, hw0⟩ : ∃ w0, w0 = w.alloc (.cells #[.int .i64 k, .string n, .slice A1 l.length c1, .slice A2 kids.length c2] 40) := ⟨_, rfl⟩
  have B0 : Below w.heap.size w w0 := by rw [hw0]; exact (Below.refl _ _).alloc (Nat.le_refl _) _
  have bT : Box w0 w.heap.size 40 [.int .i64 k, .string n, .slice A1 l.length c1, .slice A2 kids.length c2] := by rw [hw0]; exact Box.new w _ _
  have kT := bT.cell
  have p0 : w0.cell? ⟨b, o, none⟩ = some (.int .i64 k) := (B0.cell (p := ⟨b, o, none⟩) hbl).trans (hcell 0 _ rfl)
  have p1 : w0.cell? ⟨b, o + 1, none⟩ = some (.int .i64 m) := (B0.cell (p := ⟨b, o + 1, none⟩) hbl).trans (hcell 1 _ rfl)
  have p2 : w0.cell? ⟨b, o + 2, none⟩ = some (.string s) := (B0.cell (p := ⟨b, o + 2, none⟩) hbl).trans (hcell 2 _ rfl)
  have p3 : w0.cell? ⟨b, o + 3, none⟩ = some (.slice A vs.length c) := (B0.cell (p := ⟨b, o + 3, none⟩) hbl).trans (hcell 3 _ rfl)
  have HV0 := Lib.hid (Vis.of_below (G := G) (L := L) B0)
  change Calls Tryz.prog 52 #[.pointer (some ⟨b, o, none⟩), .agg #[.int .i64 k, .string n, .slice A1 l.length c1, .slice A2 kids.length c2], .func (.func 53) #[] #[.pointer (some ⟨G, 0, none⟩)]] w _
  cases hh : hdl k
  · rw [hns_no (k := k) (m := m) (s := s) (n := n) (l := l) hh hts]
    have g20 : (k == 20) = false := by unfold hdl at hh; simp only [Bool.or_eq_false_iff] at hh; exact hh.1
    have g21 : (k == 21) = false := by unfold hdl at hh; simp only [Bool.or_eq_false_iff] at hh; exact hh.2
    have hnv : acc.length + Va.nodess vs ≤ 3000000 := by simp only [Va.nodes] at hnodes; omega
    have HNV := Lib.hid hnv
    have hGw : G < w0.heap.size := Nat.lt_of_lt_of_le hbox.lt B0.size
    have HKT := Lib.hid (fun W (h : Vis G L L w0 W) (hG : G < W.heap.size) (hOW : OwnP W base 75 3 L acc.length (acc.flatMap Hn.ds)) => kidTypes_i (S := SX G L) k m s n l kids A A1 A2 vs.length c c1 c2 W k hsh.1 hnf (hOW.sx_new hG) (h.at_ (HV0.out.at_ hkids)) ts hts)
    have HVS := Lib.hid (HV0.out.at_ hvs)
    have HIH := Lib.hid (fun x hx y hy => ih x hx y (hsh.2 y (hmem y hy)))
    have HFT := Lib.hid (And.intro hfits hlen)
    have HBX := Lib.hid (hbox.call B0)
    have HO0 := Lib.hid (hO.below B0)
    have HSX := Lib.hid (And.intro hbl (And.intro hSX hGb))
    have hbl0 : b < w0.heap.size := Nat.lt_of_lt_of_le hbl B0.size
    have HBL0 := Lib.hid (And.intro hbl0 hGw)
    clear hcs hcs' hk hm hs hvs hk' hn hl hkids ih hall hsh hnf hts hmem hfits hfit hnodes hnv hh hcell hbox hO hSX hbl hGw hGb B0 hlen
    go_enter Tryz.func52, Tryz.ntmps52
    go_upto_region 1 with fail
    rw [← hw0]
    clear hw0
    go_upto_region 3 with fail
    go_cut [6] (fun s6 wx => ∃ A5 c5, s6 = .slice A5 ts.length c5 ∧ D.At wx (SX G L) (rows Ty.ds 4 ts) (.slice A5 ts.length c5) ∧ Below w0.heap.size w0 wx)
    case first =>
      go_region_with (go_at_call 88; (refine (HKT.out _ (Vis.drew w0) HBL0.out.2 HO0.out.drew).mono ?_); rintro e w2 ⟨A5, c5, rfl, hat, hb2⟩)
      all_goals
        have fin := Lib.hid (And.intro hat (show Below w0.heap.size w0 w2 from (Below.refl _ w0).drew.trans hb2))
        clear hat hb2
        go_wp2_with fail
        go_meet
        exact ⟨A5, c5, rfl, fin.out⟩
    case rest =>
      obtain ⟨A5, c5, rfl, hat, hb2⟩ := hcut
      obtain ⟨w2, hw2⟩ : ∃ w2, w2 = wc := ⟨_, rfl⟩
      rw [← hw2] at hat hb2 ⊢
      obtain ⟨-, hn5, hc5⟩ := rows_bound hat
      unfold maxLen at hc5
      have hV2 : Vis G L L w0 w2 := Vis.of_below hb2
      have HV2 := Lib.hid hV2
      have HT2 := Lib.hid hat
      have HB2 := Lib.hid hb2
      replace p3 : w2.cell? ⟨b, o + 3, none⟩ = some (.slice A vs.length c) := (hb2.cell (p := ⟨b, o + 3, none⟩) HBL0.out.1).trans p3
      have HP3 := Lib.hid p3
      clear hw2 hat hb2 hV2 kT bT p0 p1 p2
      go_wp2
      clear p3
      go_loopw [34] (fun i wr => ∃ (q : Nat) (Lq : Value), q ≤ vs.length ∧ i = .int .i64 q ∧ Box wr G 56 [Lq] ∧ OwnP wr base 75 3 Lq (acc ++ hnss (vs.take q) ts).length ((acc ++ hnss (vs.take q) ts).flatMap Hn.ds) ∧ Vis G L Lq w2 wr ∧ Lq.ownBlock ≠ some G) (fun i _ => vs.length - (intOf i).toNat)
      case atStart => exact ⟨0, L, Nat.zero_le _, rfl, HBX.out.call HB2.out, by rw [List.take_zero, hnss_nil, List.append_nil]; exact HO0.out.below HB2.out, Vis.of_below (Below.refl _ _), HSX.out.2.2⟩
      case round =>
        obtain ⟨q, Lq, hq, rfl, bG, hO, hV, hLq⟩ := hrel
        by_cases hlt : q < vs.length
        · have hlt' : q < ts.length := by rw [HFT.out.2]; exact hlt
          obtain ⟨x, hx⟩ : ∃ x, vs[q]? = some x := ⟨vs[q], List.getElem?_eq_getElem hlt⟩
          obtain ⟨y, hy⟩ : ∃ y, ts[q]? = some y := ⟨ts[q], List.getElem?_eq_getElem hlt'⟩
          have i0 : (0 : Int) ≤ (q : Int) := by omega
          have i1 : (q : Int) < (vs.length : Int) := by omega
          have i2 : (q : Int) < (ts.length : Int) := by omega
          have hb2w : b < w2.heap.size := Nat.lt_of_lt_of_le HBL0.out.1 HB2.out.size
          have p3 : wr.cell? ⟨b, o + 3, none⟩ = some (.slice A vs.length c) := (hV.cell hb2w HSX.out.2.1).trans HP3.out
          obtain ⟨b', off, us, hA, hSb, hbl', hat, hul, hce⟩ := rows_at Va.len (hV.at_ (HV2.out.at_ HVS.out)) hx
          subst hA
          obtain ⟨b'', off', v0, v1, v2, v3, e', -, hbl'', hat', e0, e1, e2, e3⟩ := rows_at4 Ty.len (hV.at_ HT2.out) hy
          subst e'
          obtain ⟨g0, g1, g2, g3, g4, g5', g6, g7, eyy⟩ := Ty.form hat'
          simp only [List.cons.injEq, and_true] at eyy
          obtain ⟨rfl, rfl, rfl, rfl⟩ := eyy
          have hnd : Va.nodess (vs.take q) + x.nodes ≤ Va.nodess vs := by rw [← Va.nodess_next hx]; exact Va.nodess_take _ _
          have hl1 := hnss_len (vs.take q) ts
          have hnv := HNV.out
          have hDr : Vis G Lq Lq wr wr.drew := Vis.drew wr
          have HX := Lib.hid (HIH.out x (List.mem_of_getElem? hx) y (List.mem_of_getElem? hy) (fitVs_at HFT.out.1 hx hy) (acc ++ hnss (vs.take q) ts) b' (off + q * 4) G base Lq us [.int .i64 g0, .string g1, .slice g2 g3 g4, .slice g5' g6 g7] wr.drew (by rw [List.length_append]; omega) (fun j u hj => hce j u hj) hbl' (hDr.sx hbl' hSb) (hDr.ats hat) (hDr.ats hat') bG.drew hO.drew hLq)
          have HN := Lib.hid (hnss_next hx hy)
          have HVW := Lib.hid (hV.trans hDr)
          clear hx hy hat hat' hO hV bG hnd hl1 hnv hce hbl' hul hSb hb2w hLq
          go_upto_region 7 with fail
          go_region_with (go_at_call 52; (refine HX.out.mono ?_); rintro e w7 ⟨rfl, L7, bG7, hO7, hV7, hL7⟩)
          all_goals
            have HO7 := Lib.hid (show OwnP w7 base 75 3 L7 (acc ++ hnss (vs.take (q + 1)) ts).length ((acc ++ hnss (vs.take (q + 1)) ts).flatMap Hn.ds) by rw [HN.out, ← List.append_assoc]; exact hO7)
            have HV7 := Lib.hid (HVW.out.trans hV7)
            have HG7 := Lib.hid (And.intro bG7 hL7)
            clear bG7 hO7 hV7 hL7 p3 e0 e1 e2 e3
            go_wp2
            go_roundw
            case rel => exact ⟨q + 1, L7, by omega, by go_num, HG7.out.1, HO7.out, HV7.out, HG7.out.2⟩
            case measure => simp [intOf]; omega
        · obtain rfl : q = vs.length := by omega
          rw [List.take_length] at hO
          have HE := Lib.hid (And.intro bG (And.intro hO (And.intro hV hLq)))
          clear bG hO hV hLq
          go_wp2
          go_end0
          exact ⟨rfl, Lq, HE.out.1, HE.out.2.1, (HV0.out.trans HV2.out).trans HE.out.2.2.1, HE.out.2.2.2⟩
  · rw [hns_yes (k := k) (m := m) (s := s) (vs := vs) (n := n) (l := l) (kids := kids) hh]
    have HCL := Lib.hid (fun bb (hbb : w0.cell? ⟨bb, o + 1, none⟩ = some (.int .i64 m)) => visit1_i acc k m n (.slice A1 l.length c1) (.slice A2 kids.length c2) ⟨_, _, _, rfl⟩ ⟨_, _, _, rfl⟩ bb o G base L w0 hn hm (by omega) hbb (hbox.call B0) (hO.below B0) hGb)
    have HCL2 := Lib.hid (HCL.out b p1)
    have g : (k == 20) = true ∨ ((k == 20) = false ∧ (k == 21) = true) := by
      unfold hdl at hh
      cases h20 : (k == 20)
      · rw [h20, Bool.false_or] at hh; exact .inr ⟨rfl, hh⟩
      · exact .inl rfl
    clear hcs hcs' hk hm hs hvs hk' hn hl hkids ih hall hsh hnf hts hmem hfits hfit hnodes hh hcell hbox hO hSX hbl hGb B0 hlen HCL p0 p1 p2 p3
    rcases g with g20 | ⟨g20, g21⟩
    all_goals
      go_enter Tryz.func52, Tryz.ntmps52
      go_upto_region 1 with fail
      rw [← hw0]
      clear hw0
      go_wp2_with fail
      refine HCL2.out.mono ?_
      rintro e w1 ⟨rfl, L1, bG1, hO1, hV1, hL1⟩
      have HE := Lib.hid (And.intro bG1 (And.intro hO1 (And.intro hV1 hL1)))
      clear bG1 hO1 hV1 hL1
      go_wp2
      exact bodyPost_ret (v := .tuple #[]) (by simp [results, Tryz.results52, go_sem]) rfl ⟨rfl, L1, HE.out.1, HE.out.2.1, HV0.out.trans HE.out.2.2.1, HE.out.2.2.2⟩
end Go.Proofs.YtcpadaelgdmipaaGreatDoor
namespace Go.Proofs.YtcpadaelgdmipaaGreatDoor
open Go.RowKit

def hanOr (v : Va) (t : Ty) : List Hn := if fitsB v t = true then hns v t else []
theorem hn_count (l : List Hn) : D.counts (l.flatMap Hn.ds) = 3 * l.length := by
  induction l with
  | nil => rfl
  | cons x r ih =>
    have e : D.counts (Hn.ds x ++ r.flatMap Hn.ds) = 3 + D.counts (r.flatMap Hn.ds) := by simp [Hn.ds, D.counts, D.count]; omega
    rw [List.flatMap_cons, e, ih, List.length_cons]; omega
theorem hanOr_len (v : Va) (t : Ty) : (hanOr v t).length ≤ v.nodes := by
  unfold hanOr
  split
  · exact hns_len v t
  · simp
set_option maxHeartbeats 4000000 in
set_option maxRecDepth 20000 in
theorem handlesIn_i (v : Va) (t : Ty) (cs cs' : List Value) (w : World) (hall : Ty.all shape t = true) (hfit : fitV v t = true) (hnd : v.nodes ≤ 2000000) (hcs : D.Ats w anyB v.ds cs) (hcs' : D.Ats w anyB t.ds cs') :
    Calls Tryz.prog 32 #[.agg cs.toArray, .agg cs'.toArray] w (RetS (rows Hn.ds 3 (hns v t)) w) := by
  have hlcs : cs.length = 4 := by rw [hcs.length, Va.len]
  have hv0 := hcs
  have ht0 := hcs'
  obtain ⟨k0, k1, k2, k3, k4, k5, rfl⟩ := Va.form hcs
  obtain ⟨q0, q1, q2, q3, q4, q5, q6, q7, rfl⟩ := Ty.form hcs'
  obtain ⟨w0, hw0, B0, bA, bB⟩ := blocks2 w 34 40 [.int .i64 k0, .int .i64 k1, .string k2, .slice k3 k4 k5] [.int .i64 q0, .string q1, .slice q2 q3 q4, .slice q5 q6 q7]
  have hs0 : w0.heap.size = w.heap.size + 1 + 1 := by rw [hw0]; simp
  obtain ⟨w1, hw1⟩ : ∃ w1, w1 = (w0.alloc (.cells #[] 75)).alloc (.cells #[.slice (some ⟨w0.heap.size, 0, none⟩) 0 0] 56) := ⟨_, rfl⟩
  have B1 : Below w0.heap.size w0 w1 := by rw [hw1]; exact ((Below.refl _ _).alloc (Nat.le_refl _) _).alloc (by simp) _
  have bG : Box w1 (w0.heap.size + 1) 56 [.slice (some ⟨w0.heap.size, 0, none⟩) 0 0] := by
    rw [hw1]
    have := Box.new (w0.alloc (.cells #[] 75)) 56 [.slice (some ⟨w0.heap.size, 0, none⟩) 0 0]
    simpa using this
  have hO : OwnP w1 w0.heap.size 75 3 (.slice (some ⟨w0.heap.size, 0, none⟩) 0 0) 0 [] := by
    rw [hw1]; exact (OwnP.lit w0 75 3).below ((Below.refl _ _).alloc (Nat.le_refl _) _)
  have hSX : ∀ b, b < w0.heap.size → SX (w0.heap.size + 1) (.slice (some ⟨w0.heap.size, 0, none⟩) 0 0) b := fun b hb => ⟨by omega, fun e => by simp [Value.ownBlock] at e; omega⟩
  have hin : ∀ {ds : List D} {xs : List Value}, D.Ats w anyB ds xs → D.Ats w1 (SX (w0.heap.size + 1) (.slice (some ⟨w0.heap.size, 0, none⟩) 0 0)) ds xs := fun h =>
    D.Ats.keep (w := w) (w' := w1) (S := anyB) (fun b hb _ => ⟨(B1.block b (by have := B0.size; omega)).trans (B0.block b hb), hSX b (by have := B0.size; omega), by have := B0.size; have := B1.size; omega⟩) _ _ h
  have bA1 := bA.call B1
  have hcell : ∀ j u, ([.int .i64 k0, .int .i64 k1, .string k2, .slice k3 k4 k5] : List Value)[j]? = some u → w1.cell? ⟨w.heap.size, 0 + j, none⟩ = some u := fun j u hj => by
    rw [Nat.zero_add, bA1.cell]; simpa using hj
  have HVI := Lib.hid (visitHandles_i v t hall hfit [] w.heap.size 0 (w0.heap.size + 1) w0.heap.size _ _ _ w1 (by simp; omega) hcell bA1.lt (hSX _ (by omega)) (hin hv0) (hin ht0) bG hO (fun e => by simp [Value.ownBlock] at e))
  have kB := (bB.call B1).cell
  have HB := Lib.hid (And.intro B0 B1)
  have HS0 := Lib.hid hs0
  obtain ⟨H, hH⟩ : ∃ H, hns v t = H := ⟨_, rfl⟩
  rw [List.nil_append, hH] at HVI
  rw [hH]
  clear hcs hcs' hv0 ht0 B0 B1 hO hSX hcell bA1 bG hin hlcs hH hs0 bA bB
  change Calls Tryz.prog 32 #[.agg #[.int .i64 k0, .int .i64 k1, .string k2, .slice k3 k4 k5], .agg #[.int .i64 q0, .string q1, .slice q2 q3 q4, .slice q5 q6 q7]] w _
  go_enter Tryz.func32, Tryz.ntmps32
  go_upto_region 1 with fail
  rw [← hw0]
  clear hw0
  go_upto_region 2 with fail
  rw [← hw1]
  clear hw1
  go_wp2_with fail
  refine HVI.out.mono ?_
  rintro e w2 ⟨rfl, L2, bG2, hO2, hV2, -⟩
  obtain ⟨A2, c2, rfl⟩ := hO2.form
  have hD := (hO2.done (fun h => by rw [List.eq_nil_of_length_eq_zero h]; rfl)).weaken (lo' := w.heap.size) HB.out.1.size (Nat.le_refl _)
  have HD := Lib.hid (show SepIn w2 w.heap.size w2.heap.size (rows Hn.ds 3 H) (.slice A2 H.length c2) from hD)
  have HBB := Lib.hid (show Below w.heap.size w w2 from (HB.out.1.trans (HB.out.2.mono HB.out.1.size)).trans (hV2.below (by have := HS0.out; omega) (fun x e => by simp [Value.ownBlock] at e; have := HS0.out; omega) (by have := HB.out.1.size; have := HB.out.2.size; omega)))
  have kG := bG2.cell
  clear hO2 hV2 bG2 kB hD
  go_wp2
  go_ret
  exact ⟨_, rfl, HD.out, HBB.out⟩
theorem fitsB_ok {v : Va} {t : Ty} (h : fitsB v t = true) : tyOk t = true ∧ fitV v t = true := by
  unfold fitsB at h
  rwa [Bool.and_eq_true] at h
end Go.Proofs.YtcpadaelgdmipaaGreatDoor
