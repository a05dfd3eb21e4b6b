/- A row that the call owns, of elements whose slices lie each in a block of its own; append of one such element to it. The handles of a value, in plain words; a row of elements without slices behind a row that the call owns. A value with other numbers of its handles, in plain words. -/
import Derived.Test.YtcpadaelgdmipaaGreatDoorSepIn
import Derived.Maps.AppendAt
import Derived.Test.YtcpadaelgdmipaaGreatDoorPkFj
import Derived.Test.YtcpadaelgdmipaaGreatDoorCore
import Derived.Deep.Upon
import Derived.Test.YtcpadaelgdmipaaGreatDoorPkMk
namespace Go.Proofs.YtcpadaelgdmipaaGreatDoor
open Go.RowKit

section
variable {w w' : World} {base : Nat} {e : TypeId} {size : Nat} {v : Value} {n : Nat} {xs : List Value} {ds : List D}
theorem own_keep (h : w.ownsRow base e size v n xs) (hk : ∀ b, base ≤ b → b < w.heap.size → w'.heap[b]? = w.heap[b]?) : w'.ownsRow base e size v n xs := by
  refine ⟨h.1, ?_⟩
  rcases h.2 with h | ⟨g, cap, cur, rfl, hb, hg, r⟩
  · exact .inl h
  · exact .inr ⟨g, cap, cur, rfl, hb, (hk g hb (Array.getElem?_eq_some_iff.1 hg).1).trans hg, r⟩
def OwnP (w : World) (base : Nat) (e : TypeId) (size : Nat) (v : Value) (n : Nat) (ds : List D) : Prop :=
  base ≤ w.heap.size ∧ ∃ xs l, w.ownsRow base e size v n xs ∧ D.Seps w ds l xs ∧ l.Nodup ∧ ∀ b ∈ l, base ≤ b ∧ b < w.heap.size ∧ v.ownBlock ≠ some b
theorem OwnP.nil (h : base ≤ w.heap.size) : OwnP w base e size (.slice none 0 0) 0 [] := ⟨h, [], [], World.ownsRow_nil _ _ _ _, D.Seps.nil, List.nodup_nil, fun b hb => by cases hb⟩
theorem OwnP.keep (h : OwnP w base e size v n ds) (hs : w.heap.size ≤ w'.heap.size) (hk : ∀ b, base ≤ b → b < w.heap.size → w'.heap[b]? = w.heap[b]?) : OwnP w' base e size v n ds := by
  obtain ⟨h0, xs, l, h1, h2, h3, h4⟩ := h
  exact ⟨Nat.le_trans h0 hs, xs, l, own_keep h1 hk, D.Seps.keep ds l xs (fun b hb => hk b (h4 b hb).1 (h4 b hb).2.1) h2, h3, fun b hb => ⟨(h4 b hb).1, Nat.lt_of_lt_of_le (h4 b hb).2.1 hs, (h4 b hb).2.2⟩⟩
theorem OwnP.below (h : OwnP w base e size v n ds) (hb : Below w.heap.size w w') : OwnP w' base e size v n ds := h.keep hb.size (fun b _ hlt => hb.block b hlt)
theorem OwnP.set (h : OwnP w base e size v n ds) {p : Addr} (hp : p.block < base) (u : Value) : OwnP (w.setCell p u) base e size v n ds :=
  h.keep (by simp [World.setCell]) (fun b hb _ => Below.heap_setCell _ _ _ _ (by omega))
theorem OwnP.drew (h : OwnP w base e size v n ds) : OwnP w.drew base e size v n ds := OwnP.keep (w := w) (w' := w.drew) h (Nat.le_refl _) (fun _ _ _ => rfl)
theorem OwnP.base_le (h : OwnP w base e size v n ds) : base ≤ w.heap.size := h.1
theorem OwnP.form (h : OwnP w base e size v n ds) : ∃ A c, v = .slice A n c := by
  obtain ⟨_, xs, l, h1, -⟩ := h
  rcases h1.2 with ⟨rfl, rfl⟩ | ⟨g, cap, cur, rfl, -⟩
  · exact ⟨_, _, rfl⟩
  · exact ⟨_, _, rfl⟩
theorem OwnP.done (h : OwnP w base e size v n ds) (hds : n = 0 → ds = []) : SepIn w base w.heap.size (.sl n size ds) v := by
  obtain ⟨h0, xs, l, h1, h2, h3, h4⟩ := h
  rcases Nat.eq_zero_or_pos n with hn | hn
  · subst hn
    have := hds rfl
    subst this
    rcases h1.2 with ⟨rfl, -⟩ | ⟨g, cap, cur, rfl, -, -, -, hm, -⟩
    · exact ⟨h0, [], D.Sep.empty (Nat.zero_le _), List.nodup_nil, fun b hb => by cases hb⟩
    · exact ⟨h0, [], D.Sep.empty hm, List.nodup_nil, fun b hb => by cases hb⟩
  · obtain ⟨g, hg, hs⟩ := D.Sep.of_own h1 h2 hn
    have hlt := h1.lt g hg
    refine ⟨h0, g :: l, hs, List.nodup_cons.2 ⟨fun hm => (h4 g hm).2.2 hg, h3⟩, fun b hb => ?_⟩
    rcases List.mem_cons.1 hb with rfl | hb
    · exact hlt
    · exact ⟨(h4 b hb).1, (h4 b hb).2.1⟩
end
theorem OwnP.next {w0 w1 wa w2 : World} {base : Nat} {e : TypeId} {size n m : Nat} {v v' : Value} {xs vs : List Value} {ds es : List D} {l : List Nat} (h0 : base ≤ w0.heap.size) (h1 : w0.ownsRow base e size v n xs) (h2 : D.Seps w0 ds l xs) (h3 : l.Nodup)
    (h4 : ∀ b ∈ l, base ≤ b ∧ b < w0.heap.size ∧ v.ownBlock ≠ some b) (hb : Below w0.heap.size w0 w1) (hr : SepsIn w1 w0.heap.size w1.heap.size es vs) (ha : Below w1.heap.size w1 wa)
    (ho : w2.ownsRow base e size v' m (xs ++ vs)) (hg : wa.grownBy w2 v.ownBlock) (hat : v'.ownBlock = v.ownBlock ∨ v'.ownBlock = some wa.heap.size) : OwnP w2 base e size v' m (ds ++ es) := by
  obtain ⟨-, l', k1, k2, k3⟩ := hr
  have s1 := hb.size
  have s2 := ha.size
  have s3 := hg.size
  have q1 : ∀ b ∈ l, w2.heap[b]? = w0.heap[b]? := fun b hm => by
    obtain ⟨_, g2, g3⟩ := h4 b hm
    rw [hg.block b (by omega) (fun e => g3 e.symm), ha.block b (by omega), hb.block b g2]
  have q2 : ∀ b ∈ l', w2.heap[b]? = w1.heap[b]? := fun b hm => by
    obtain ⟨g1, g2⟩ := k3 b hm
    rw [hg.block b (by omega) (fun e => by have := (h1.lt b e.symm).2; omega), ha.block b g2]
  refine ⟨by omega, xs ++ vs, l ++ l', ho, (D.Seps.keep ds l xs q1 h2).append (D.Seps.keep es l' vs q2 k1), List.nodup_append.2 ⟨h3, k2, fun a ha' b hb' e => ?_⟩, fun b hm => ?_⟩
  · have := (h4 a ha').2.1; have := (k3 b hb').1; omega
  · rcases List.mem_append.1 hm with hm | hm
    · obtain ⟨g1, g2, g3⟩ := h4 b hm
      refine ⟨g1, by omega, fun e => ?_⟩
      rcases hat with h | h
      · exact g3 (h ▸ e)
      · rw [h] at e; injection e with e; omega
    · obtain ⟨g1, g2⟩ := k3 b hm
      refine ⟨by omega, by omega, fun e => ?_⟩
      rcases hat with h | h
      · have := (h1.lt b (h ▸ e)).2; omega
      · rw [h] at e; injection e with e; omega
section
variable {P : Program}
/-- Append of one element of four cells, just laid in a block of its own, to such a row: what comes back. -/
theorem run_ownP {w0 w1 : World} {base : Nat} {e t ty : TypeId} {size bytes n : Nat} {v : Value} {vs : List Value} {ds es : List D} {i : TypeInfo} {z : Value} {fz : Nat × Nat} (ht : P.underlying t = some (.slice e)) (hi : P.info? e = some i) (hz : i.zero = some z)
    (hsize : i.size = size) (hby : i.bytes = bytes) (hzs : z.cells.size = size) (hsz : 0 < size) (hp : OwnP w0 base e size v n ds) (hb : Below w0.heap.size w0 w1) (hr : SepsIn w1 w0.heap.size w1.heap.size es vs)
    (hl : vs.length = size) (h1 : ∀ u ∈ vs, u.oneCell' = true) (h63 : n + 1 ≤ maxLen) (hbytes : (n + 1) * bytes ≤ 140737488355328) :
    ∃ v' w', (Builtin.append_ #[t, t] ty #[v, .slice (some ⟨w1.heap.size, 0, none⟩) 1 1]).run P (w1.alloc (.cells vs.toArray e fz)) = .ok v' w' ∧ OwnP w' base e size v' (n + 1) (ds ++ es) ∧ Below base w0 w' := by
  obtain ⟨h0, xs, l, g1, g2, g3, g4⟩ := hp
  have s1 := hb.size
  have ha : Below w1.heap.size w1 (w1.alloc (.cells vs.toArray e fz)) := (Below.refl _ _).alloc (Nat.le_refl _) _
  have hown : (w1.alloc (.cells vs.toArray e fz)).ownsRow base e size v n xs := own_keep g1 (fun b _ hlt => by rw [ha.block b (by omega), hb.block b hlt])
  obtain ⟨v', w', q1, q2, q3, -, q5⟩ := run_append_own_at (P := P) (w1.alloc (.cells vs.toArray e fz)) base t ty e i z size bytes ht hi hz hsize hby hzs hsz v n xs hown ⟨w1.heap.size, 0, none⟩ 1 1 vs (by rw [hl, Nat.one_mul])
    (fun j u hj => by rw [Addr.add_lit, cell_of_row _ _ _ _ _ _ (heap_alloc_new w1 _)]; simpa using hj) h1 h63 hbytes (by simp; omega)
  exact ⟨v', w', q1, OwnP.next h0 g1 g2 g3 g4 hb hr ha q2 q3 q5, ((hb.mono h0).trans (ha.mono (by omega))).grown q3 (by simp; omega) (fun k hk => (g1.lt k hk).1)⟩
/-- The same as one step of a region that draws its order. -/
theorem step_ownP {w0 w1 : World} {ops : Array Oper} {o : Oper} {a : Act} {K : Act → World → Prop} {Q : Exit → Act → World → Prop} {E : Prop} {base : Nat} {e t : TypeId} {size bytes n : Nat} {v : Value} {vs : List Value} {ds es : List D} {i : TypeInfo} {z : Value} {fz : Nat × Nat}
    (hp : OwnP w0 base e size v n ds) (hb : Below w0.heap.size w0 w1) (hr : SepsIn w1 w0.heap.size w1.heap.size es vs) (s x : Operand) (ht : P.underlying t = some (.slice e)) (hi : P.info? e = some i) (hz : i.zero = some z)
    (hsize : i.size = size) (hby : i.bytes = bytes) (hzs : z.cells.size = size) (hsz : 0 < size)
    (hl : vs.length = size) (h1 : ∀ u ∈ vs, u.oneCell' = true) (h63 : n + 1 ≤ maxLen) (hbytes : (n + 1) * bytes ≤ 140737488355328)
    (h : ∀ v' w', OwnP w' base e size v' (n + 1) (ds ++ es) → Below base w0 w' → K (a.put o.dst v') w')
    (hgd : o.guard = none := by exact rfl) (ho : o.op = .call { callee := .builtin .append, args := #[s, x], argTypes := #[t, t] } := by exact rfl)
    (hs : a.eval s = v := by simp [Act.eval, Act.put]) (hx : a.eval x = .slice (some ⟨w1.heap.size, 0, none⟩) 1 1 := by simp [Act.eval, Act.put]) :
    if Region.wanted o (yielded ops a.tmps) = true then Oper.wp P o a (w1.alloc (.cells vs.toArray e fz)) K Q else E := by
  have hw : Region.wanted o (yielded ops a.tmps) = true := by simp [Region.wanted, hgd]
  rw [if_pos hw]
  obtain ⟨v', w', hr', h2, h3⟩ := run_ownP (P := P) (ty := o.type) (fz := fz) ht hi hz hsize hby hzs hsz hp hb hr hl h1 h63 hbytes
  unfold Oper.wp execOp
  simp only [ho, resolve, invoke, builtin, Sem.run_bind, Sem.run_pure, Result.andThen_ok, List.map_toArray, List.map_cons, List.map_nil, hs, hx, hr']
  exact h v' w' h2 h3
theorem wpList_ownP {w0 w1 : World} {ops : Array Oper} {rest : List Oper} {o : Oper} {a : Act} {Q : Exit → Act → World → Prop} {base : Nat} {e t : TypeId} {size bytes n : Nat} {v : Value} {vs : List Value} {ds es : List D} {i : TypeInfo} {z : Value} {fz : Nat × Nat}
    (hp : OwnP w0 base e size v n ds) (hb : Below w0.heap.size w0 w1) (hr : SepsIn w1 w0.heap.size w1.heap.size es vs) (s x : Operand) (ht : P.underlying t = some (.slice e)) (hi : P.info? e = some i) (hz : i.zero = some z)
    (hsize : i.size = size) (hby : i.bytes = bytes) (hzs : z.cells.size = size) (hsz : 0 < size)
    (hl : vs.length = size) (h1 : ∀ u ∈ vs, u.oneCell' = true) (h63 : n + 1 ≤ maxLen) (hbytes : (n + 1) * bytes ≤ 140737488355328)
    (h : ∀ v' w', OwnP w' base e size v' (n + 1) (ds ++ es) → Below base w0 w' → wpList P ops Q rest (a.put o.dst v') w')
    (hgd : o.guard = none := by exact rfl) (ho : o.op = .call { callee := .builtin .append, args := #[s, x], argTypes := #[t, t] } := by exact rfl)
    (hs : a.eval s = v := by exact rfl) (hx : a.eval x = .slice (some ⟨w1.heap.size, 0, none⟩) 1 1 := by exact rfl) :
    wpList P ops Q (o :: rest) a (w1.alloc (.cells vs.toArray e fz)) := by
  refine wpList_plain hgd fun K hK => ?_
  obtain ⟨v', w', hr', h2, h3⟩ := run_ownP (P := P) (ty := o.type) (fz := fz) ht hi hz hsize hby hzs hsz hp hb hr hl h1 h63 hbytes
  unfold Oper.wp execOp
  simp only [ho, resolve, invoke, builtin, Sem.run_bind, Sem.run_pure, Result.andThen_ok, List.map_toArray, List.map_cons, List.map_nil, hs, hx, hr']
  exact hK _ _ (h v' w' h2 h3)
end
end Go.Proofs.YtcpadaelgdmipaaGreatDoor
namespace Go.Proofs.YtcpadaelgdmipaaGreatDoor
open Go.RowKit

mutual
def Va.nodes : Va → Nat
  | .mk _ _ _ vs => 1 + Va.nodess vs
def Va.nodess : List Va → Nat
  | [] => 0
  | v :: r => v.nodes + Va.nodess r
end
theorem Va.nodess_take (vs : List Va) (k : Nat) : Va.nodess (vs.take k) ≤ Va.nodess vs := by
  induction vs generalizing k with
  | nil => simp
  | cons v r ih => cases k with
    | zero => simp [Va.nodess]
    | succ k => simp only [List.take_succ_cons, Va.nodess]; have := ih k; omega
theorem Va.nodess_append (a b : List Va) : Va.nodess (a ++ b) = Va.nodess a + Va.nodess b := by
  induction a with
  | nil => simp [Va.nodess]
  | cons v r ih => simp only [List.cons_append, Va.nodess, ih]; omega
theorem Va.nodess_next {vs : List Va} {k : Nat} {v : Va} (h : vs[k]? = some v) : Va.nodess (vs.take (k + 1)) = Va.nodess (vs.take k) + v.nodes := by
  rw [List.take_add_one, h, Va.nodess_append]; simp [Va.nodess]
mutual
theorem Va.nodes_total : ∀ v : Va, v.nodes ≤ D.totals v.ds + 1
  | .mk k m t kids => by
    have := Va.nodess_total kids
    rw [Va.ds_eq]
    simp only [Va.nodes, D.totals, rows_total, D.total]
    omega
theorem Va.nodess_total : ∀ l : List Va, Va.nodess l ≤ l.length + D.totals (l.flatMap Va.ds)
  | [] => by simp [Va.nodess]
  | v :: r => by
    have := Va.nodes_total v
    have := Va.nodess_total r
    rw [List.flatMap_cons, D.totals_append]
    simp only [Va.nodess, List.length_cons]
    omega
end
/-- Whether a part is a handle. -/
def hdl (k : Int) : Bool := (k == 20) || (k == 21)
mutual
/-- The handles of a value that fits. -/
def hns : Va → Ty → List Hn
  | .mk _ m _ vs, t => if hdl t.kind = true then [⟨t.kind == 20, t.name, m⟩] else (match kts t.kind m vs.length t.kids with | none => [] | some ts => hnss vs ts)
def hnss : List Va → List Ty → List Hn
  | [], _ => []
  | v :: r, ts => (match ts with | [] => [] | t :: q => hns v t ++ hnss r q)
end
theorem hns_mk (k m : Int) (s : ByteArray) (vs : List Va) (t : Ty) : hns (.mk k m s vs) t = if hdl t.kind = true then [⟨t.kind == 20, t.name, m⟩] else (match kts t.kind m vs.length t.kids with | none => [] | some ts => hnss vs ts) := by rw [hns]
theorem hnss_cons (v : Va) (r : List Va) (t : Ty) (q : List Ty) : hnss (v :: r) (t :: q) = hns v t ++ hnss r q := by rw [hnss]
theorem hnss_nil (ts : List Ty) : hnss [] ts = [] := by rw [hnss]
theorem hnss_next {vs : List Va} {ts : List Ty} {k : Nat} {v : Va} {t : Ty} (hv : vs[k]? = some v) (ht : ts[k]? = some t) : hnss (vs.take (k + 1)) ts = hnss (vs.take k) ts ++ hns v t := by
  induction vs generalizing ts k with
  | nil => simp at hv
  | cons x r ih =>
    cases ts with
    | nil => simp at ht
    | cons y q =>
      cases k with
      | zero => simp at hv ht; subst hv ht; simp [hnss_cons, hnss_nil]
      | succ k =>
        rw [List.take_succ_cons, List.take_succ_cons, hnss_cons, hnss_cons, ih (by simpa using hv) (by simpa using ht), List.append_assoc]
mutual
theorem hns_len : ∀ (v : Va) (t : Ty), (hns v t).length ≤ v.nodes
  | .mk k m s vs, t => by
    rw [hns_mk]
    split
    · simp [Va.nodes]
    · split
      · simp [Va.nodes]
      · rename_i ts _
        have := hnss_len vs ts
        simp only [Va.nodes]; omega
theorem hnss_len : ∀ (vs : List Va) (ts : List Ty), (hnss vs ts).length ≤ Va.nodess vs
  | [], ts => by rw [hnss_nil]; simp
  | v :: r, [] => by rw [hnss]; simp
  | v :: r, t :: q => by
    rw [hnss_cons, List.length_append]
    have := hns_len v t
    have := hnss_len r q
    simp only [Va.nodess]; omega
end
theorem hns_yes {k m : Int} {s : ByteArray} {vs : List Va} {k' : Int} {n : ByteArray} {l : List ByteArray} {kids : List Ty} (h : hdl k' = true) : hns (.mk k m s vs) (.mk k' n l kids) = [⟨k' == 20, n, m⟩] := by
  rw [hns_mk]; exact if_pos h
theorem hns_no {k m : Int} {s : ByteArray} {vs : List Va} {k' : Int} {n : ByteArray} {l : List ByteArray} {kids ts : List Ty} (h : hdl k' = false) (hk : kts k' m vs.length kids = some ts) : hns (.mk k m s vs) (.mk k' n l kids) = hnss vs ts := by
  rw [hns_mk]
  show (if hdl k' = true then _ else (match kts k' m vs.length kids with | none => [] | some ts => hnss vs ts)) = _
  rw [hk, if_neg (by rw [h]; decide)]
theorem info_hn : (Tryz.prog.info? 75).map (fun i => (i.zero, i.size, i.bytes)) = some (some (.agg #[.bool false, .string ⟨#[]⟩, .int .i64 0]), 3, 32) := by kernel_rfl
/-- The handles' resources are names of the type: short. -/
theorem OwnP.lit (w : World) (e : TypeId) (size : Nat) : OwnP (w.alloc (.cells #[] e)) w.heap.size e size (.slice (some ⟨w.heap.size, 0, none⟩) 0 0) 0 [] :=
  ⟨by simp, [], [], ⟨by simp, .inr ⟨w.heap.size, 0, #[], rfl, Nat.le_refl _, heap_alloc_new w _, Nat.le_refl _, Nat.zero_le _, by simp, by simp⟩⟩, D.Seps.nil, List.nodup_nil, fun b hb => by cases hb⟩
theorem at_worldH {P : Program} {ops : Array Oper} {o : Oper} {a : Act} {K : Act → World → Prop} {Q : Exit → Act → World → Prop} {E : Prop} (W : World) (h : if Region.wanted o (yielded ops a.tmps) = true then Oper.wp P o a W K Q else E) : if Region.wanted o (yielded ops a.tmps) = true then Oper.wp P o a W K Q else E := h
theorem hn_ds_cells {w : World} {S : Nat → Prop} {l : List Hn} {xs : List Value} (h : D.Ats w S (l.flatMap Hn.ds) xs) (w' : World) : D.Seps w' (l.flatMap Hn.ds) [] xs ∧ ∀ u ∈ xs, u.oneCell' = true := by
  induction l generalizing xs with
  | nil => simp only [List.flatMap_nil, D.Ats] at h; subst h; exact ⟨D.Seps.nil, fun u hu => by cases hu⟩
  | cons x r ih =>
    rw [List.flatMap_cons] at h
    obtain ⟨ys, zs, rfl, h1, h2⟩ := h.split
    obtain ⟨g1, g2⟩ := ih h2
    obtain ⟨rfl, q1, q2⟩ := Hn.open_ h1
    refine ⟨?_, fun u hu => ?_⟩
    · rw [List.flatMap_cons]
      exact D.Seps.append (l1 := []) (l2 := []) (D.Seps.cons (l1 := []) (l2 := []) (D.Sep.bool_ w') (D.Seps.cons (l1 := []) (l2 := []) (D.Sep.str_ q1 w') (D.Seps.cons (l1 := []) (l2 := []) (D.Sep.int_ q2 w') D.Seps.nil))) g1
    · rcases List.mem_append.1 hu with hu | hu
      · simp at hu; rcases hu with rfl | rfl | rfl <;> rfl
      · exact g2 u hu
section
variable {P : Program}
/-- Append of a row of elements without slices to such a row. -/
theorem run_ownRow {w0 w1 : World} {base : Nat} {e t ty : TypeId} {size bytes n : Nat} {v : Value} {ds es : List D} {i : TypeInfo} {z : Value} {A : Option Addr} {m cap : Nat} (ht : P.underlying t = some (.slice e)) (hi : P.info? e = some i) (hz : i.zero = some z)
    (hsize : i.size = size) (hby : i.bytes = bytes) (hzs : z.cells.size = size) (hsz : 0 < size) (hp : OwnP w0 base e size v n ds) (hb : Below w0.heap.size w0 w1) (hx : D.At w1 anyB (.sl m size es) (.slice A m cap))
    (hes : ∀ xs, D.Ats w1 anyB es xs → (∀ w', D.Seps w' es [] xs) ∧ ∀ u ∈ xs, u.oneCell' = true) (hbytes : (n + m) * bytes ≤ 140737488355328) (h63 : n + m ≤ maxLen) :
    ∃ v' w', (Builtin.append_ #[t, t] ty #[v, .slice A m cap]).run P w1 = .ok v' w' ∧ OwnP w' base e size v' (n + m) (ds ++ es) ∧ Below base w0 w' ∧ w1.grownBy w' v.ownBlock ∧ (v'.ownBlock = v.ownBlock ∨ v'.ownBlock = some w1.heap.size) := by
  obtain ⟨h0, xs, l, g1, g2, g3, g4⟩ := hp
  have s1 := hb.size
  have hown : w1.ownsRow base e size v n xs := own_keep g1 (fun b _ hlt => hb.block b hlt)
  simp only [D.At] at hx
  obtain ⟨A', cap', ys, hv, q1, q2, q3, q4, q5⟩ := hx
  injection hv with e1 _ e3
  subst e1 e3
  obtain ⟨hy1, hy2⟩ := hes ys q5
  rcases Nat.eq_zero_or_pos m with h0m | h0m
  · subst h0m
    have hys : ys = [] := List.eq_nil_of_length_eq_zero (by simpa using q3)
    subst hys
    have hs : Src P i.size t (.slice A 0 cap) 0 [] w1 := by
      cases A with
      | none => exact Src.ofNil w1 ht cap
      | some a => exact Src.ofSlice w1 ht a 0 cap [] (by simp) (fun j u h => by simp at h) (fun u hu => by cases hu)
    obtain ⟨A2, c2, hv2⟩ : ∃ A2 c2, v = .slice A2 n c2 := by
      rcases hown.2 with ⟨rfl, rfl⟩ | ⟨g, cap, cur, rfl, -⟩
      · exact ⟨_, _, rfl⟩
      · exact ⟨_, _, rfl⟩
    subst hv2
    have hnc : n ≤ c2 := by
      rcases hown.2 with ⟨hv3, rfl⟩ | ⟨g, cap, cur, hv3, _, _, h, _⟩
      · exact Nat.zero_le _
      · injection hv3 with _ _ e; omega
    have hes0 : es = [] := by
      have := (hy1 w1).length
      simp at this
      exact List.eq_nil_of_length_eq_zero this.symm
    subst hes0
    refine ⟨_, w1, run_append_nothing w1 t t ty e i ht hi A2 n c2 hnc _ hs, ?_, hb.mono h0, ⟨rfl, rfl, rfl, Nat.le_refl _, fun _ _ _ => rfl⟩, .inl rfl⟩
    rw [List.append_nil, Nat.add_zero]
    exact OwnP.below ⟨h0, xs, l, g1, g2, g3, g4⟩ hb
  · obtain ⟨b, off, rfl, -, hbl, hc⟩ := q4 h0m
    obtain ⟨v', w', r1, r2, r3, -, r5⟩ := run_append_own_at (P := P) w1 base t ty e i z size bytes ht hi hz hsize hby hzs hsz v n xs hown ⟨b, off, none⟩ m cap ys (by rw [q3])
      (fun j u hj => by rw [Addr.add_lit]; exact hc j u hj) hy2 h63 hbytes (by omega)
    refine ⟨v', w', r1, OwnP.next (w1 := w1) (wa := w1) h0 g1 g2 g3 g4 hb ⟨s1, [], hy1 w1, List.nodup_nil, fun b hb => by cases hb⟩ (Below.refl _ _) r2 r3 r5, (hb.mono h0).grown r3 (by omega) (fun k hk => (g1.lt k hk).1), r3, r5⟩
/-- The same as one step of a region that draws its order. -/
theorem step_ownRow {w0 w1 : World} {ops : Array Oper} {o : Oper} {a : Act} {K : Act → World → Prop} {Q : Exit → Act → World → Prop} {E : Prop} {base : Nat} {e t : TypeId} {size bytes n : Nat} {v : Value} {ds es : List D} {i : TypeInfo} {z : Value} {A : Option Addr} {m cap : Nat}
    (hp : OwnP w0 base e size v n ds) (hb : Below w0.heap.size w0 w1) (hx : D.At w1 anyB (.sl m size es) (.slice A m cap)) (hes : ∀ xs, D.Ats w1 anyB es xs → (∀ w', D.Seps w' es [] xs) ∧ ∀ u ∈ xs, u.oneCell' = true) (s x : Operand)
    (ht : P.underlying t = some (.slice e)) (hi : P.info? e = some i) (hz : i.zero = some z) (hsize : i.size = size) (hby : i.bytes = bytes) (hzs : z.cells.size = size) (hsz : 0 < size) (hbytes : (n + m) * bytes ≤ 140737488355328) (h63 : n + m ≤ maxLen)
    (h : ∀ v' w', OwnP w' base e size v' (n + m) (ds ++ es) → Below base w0 w' → K (a.put o.dst v') w')
    (hgd : o.guard = none := by exact rfl) (ho : o.op = .call { callee := .builtin .append, args := #[s, x], argTypes := #[t, t] } := by exact rfl)
    (hs : a.eval s = v := by simp [Act.eval, Act.put]) (hx' : a.eval x = .slice A m cap := by simp [Act.eval, Act.put]) :
    if Region.wanted o (yielded ops a.tmps) = true then Oper.wp P o a w1 K Q else E := by
  have hw : Region.wanted o (yielded ops a.tmps) = true := by simp [Region.wanted, hgd]
  rw [if_pos hw]
  obtain ⟨v', w', hr', h2, h3, -, -⟩ := run_ownRow (P := P) (ty := o.type) ht hi hz hsize hby hzs hsz hp hb hx hes hbytes h63
  unfold Oper.wp execOp
  simp only [ho, resolve, invoke, builtin, Sem.run_bind, Sem.run_pure, Result.andThen_ok, List.map_toArray, List.map_cons, List.map_nil, hs, hx', hr']
  exact h v' w' h2 h3
end
end Go.Proofs.YtcpadaelgdmipaaGreatDoor
namespace Go.Proofs.YtcpadaelgdmipaaGreatDoor
open Go.RowKit

mutual
/-- A value that fits, with these numbers in the places of its handles. -/
def wth : Va → Ty → List Int → Va
  | .mk k m s vs, t, ns => if hdl t.kind = true then .mk k (ns.headD 0) s [] else .mk k m s (match kts t.kind m vs.length t.kids with | none => [] | some ts => wths vs ts ns)
def wths : List Va → List Ty → List Int → List Va
  | [], _, _ => []
  | v :: r, ts, ns => (match ts with | [] => [] | t :: q => wth v t ns :: wths r q (ns.drop (hns v t).length))
end
theorem wth_mk (k m : Int) (s : ByteArray) (vs : List Va) (t : Ty) (ns : List Int) : wth (.mk k m s vs) t ns = if hdl t.kind = true then .mk k (ns.headD 0) s [] else .mk k m s (match kts t.kind m vs.length t.kids with | none => [] | some ts => wths vs ts ns) := by rw [wth]
theorem wths_cons (v : Va) (r : List Va) (t : Ty) (q : List Ty) (ns : List Int) : wths (v :: r) (t :: q) ns = wth v t ns :: wths r q (ns.drop (hns v t).length) := by rw [wths]
theorem wths_nil (ts : List Ty) (ns : List Int) : wths [] ts ns = [] := by rw [wths]
theorem wth_yes {k m : Int} {s : ByteArray} {vs : List Va} {k' : Int} {n : ByteArray} {l : List ByteArray} {kids : List Ty} {ns : List Int} (h : hdl k' = true) : wth (.mk k m s vs) (.mk k' n l kids) ns = .mk k (ns.headD 0) s [] := by
  rw [wth_mk]; exact if_pos h
theorem wth_no {k m : Int} {s : ByteArray} {vs : List Va} {k' : Int} {n : ByteArray} {l : List ByteArray} {kids ts : List Ty} {ns : List Int} (h : hdl k' = false) (hk : kts k' m vs.length kids = some ts) : wth (.mk k m s vs) (.mk k' n l kids) ns = .mk k m s (wths vs ts ns) := by
  rw [wth_mk]
  show (if hdl k' = true then _ else Va.mk k m s (match kts k' m vs.length kids with | none => [] | some ts => wths vs ts ns)) = _
  rw [hk, if_neg (by rw [h]; decide)]
theorem wths_next {vs : List Va} {ts : List Ty} {k : Nat} {v : Va} {t : Ty} {ns : List Int} (hv : vs[k]? = some v) (ht : ts[k]? = some t) : wths (vs.take (k + 1)) ts ns = wths (vs.take k) ts ns ++ [wth v t (ns.drop (hnss (vs.take k) ts).length)] := by
  induction vs generalizing ts k ns with
  | nil => simp at hv
  | cons x r ih =>
    cases ts with
    | nil => simp at ht
    | cons y q =>
      cases k with
      | zero => simp at hv ht; subst hv ht; simp [wths_cons, wths_nil, hnss_nil]
      | succ k =>
        rw [List.take_succ_cons, List.take_succ_cons, wths_cons, wths_cons, ih (by simpa using hv) (by simpa using ht), hnss_cons, List.length_append, List.cons_append, List.drop_drop]
theorem wths_len {vs : List Va} {ts : List Ty} {ns : List Int} (h : vs.length ≤ ts.length) : (wths vs ts ns).length = vs.length := by
  induction vs generalizing ts ns with
  | nil => rw [wths_nil]
  | cons x r ih =>
    cases ts with
    | nil => simp at h
    | cons y q => rw [wths_cons, List.length_cons, List.length_cons, ih (by simpa using h)]
/-- A handle's part has no parts of its own. -/
theorem hdl_kids {k m : Int} {c : Nat} {kids ts : List Ty} (h : hdl k = true) (hk : kts k m c kids = some ts) : ts = [] := by
  have : k = 20 ∨ k = 21 := by unfold hdl at h; simpa using h
  rw [kts_none (by omega)] at hk
  exact (Option.some.inj hk).symm
mutual
theorem wth_counts : ∀ (v : Va) (t : Ty) (ns : List Int), D.counts (wth v t ns).ds ≤ 4 * v.nodes
  | .mk k m s vs, t, ns => by
    have e : ∀ (a b : Int) (c : ByteArray) (l : List Va), D.counts (Va.ds (.mk a b c l)) = 3 + D.counts (l.flatMap Va.ds) := fun a b c l => by rw [Va.ds_eq]; simp [D.counts, D.count, rows]; omega
    rw [wth_mk]
    simp only [Va.nodes]
    split
    · rw [e]; simp [D.counts]; omega
    · rw [e]
      split
      · simp [D.counts]; omega
      · rename_i ts _
        have := wths_counts vs ts ns
        omega
theorem wths_counts : ∀ (vs : List Va) (ts : List Ty) (ns : List Int), D.counts ((wths vs ts ns).flatMap Va.ds) ≤ 4 * Va.nodess vs
  | [], ts, ns => by rw [wths_nil]; simp [D.counts]
  | v :: r, [], ns => by rw [wths]; simp [D.counts]
  | v :: r, t :: q, ns => by
    rw [wths_cons, List.flatMap_cons, D.counts_append]
    have := wth_counts v t ns
    have := wths_counts r q (ns.drop (hns v t).length)
    simp only [Va.nodess]; omega
end
/-- A number of a list of numbers in memory. -/
theorem int_row {w : World} {S : Nat → Prop} {ns : List Int} {A : Option Addr} {c q : Nat} {x : Int} (h : D.At w S (rows intD 1 ns) (.slice A ns.length c)) (hx : ns[q]? = some x) :
    ∃ b off, A = some ⟨b, off, none⟩ ∧ S b ∧ b < w.heap.size ∧ (-9223372036854775808 ≤ x ∧ x ≤ 9223372036854775807) ∧ w.cell? ⟨b, off + q, none⟩ = some (.int .i64 x) := by
  obtain ⟨b, off, u0, rfl, hS, hbl, hat, c0⟩ := rows_at1 intD_length h hx
  simp only [intD, D.Ats, D.At] at hat
  obtain ⟨v, vs, e, ⟨h1, h2⟩, rfl⟩ := hat
  simp only [List.cons.injEq, and_true] at e
  subst e h1
  exact ⟨b, off, rfl, hS, hbl, h2, c0⟩
end Go.Proofs.YtcpadaelgdmipaaGreatDoor
