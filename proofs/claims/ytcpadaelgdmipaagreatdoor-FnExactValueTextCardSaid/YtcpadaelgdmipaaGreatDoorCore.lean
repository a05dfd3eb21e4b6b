/- Words shared by the proofs of this seat: a byte as a value, a slice of the call's own that holds given bytes, its conversion to a string, and append of one element to it. -/
import Derived.Test.YtcpadaelgdmipaaGreatDoorProg
import Derived.WalkKit
import Derived.WalkSpells
import Derived.WalkLawsBesides
import Derived.Lib.Hide
import Derived.Maps.AppendAt
import Derived.Deep.Draws
import Derived.Lib.SlBytesRow
import Derived.OpenShut
import Derived.Lib.QuietBelow
import Derived.BigQuiet
import Derived.Deep.RegionWith
import Derived.Deep.RegionLaw
import Derived.StillTailTactics
import Derived.PlainAid
namespace Go.Proofs.YtcpadaelgdmipaaGreatDoor
open Go.RowKit

/-- A byte as a value. -/
def bv (c : UInt8) : Value := .int .u8 c.toNat

theorem info_u8 : (Tryz.prog.info? 5).map (fun i => (i.zero, i.size, i.bytes)) = some (some (.int .u8 0), 1, 1) := by kernel_rfl

theorem ret_eq {v u : Value} (h : v = u) : Ending.returned v = .returned u := by rw [h]

theorem own_grown_below {B : Nat} {w w1 w2 : World} {e : TypeId} {size n : Nat} {v : Value} {xs : List Value} (hb : Below B w w1) (ho : w1.ownsRow B e size v n xs)
    (hg : w1.grownBy w2 v.ownBlock) (hB : B ≤ w1.heap.size) : Below B w w2 :=
  hb.grown hg hB (fun k hk => (ho.lt k hk).1)

/-- Old cells and marks behind a call that only makes memory. -/
theorem bcell {W w1 : World} (hb : Below W.heap.size W w1) : (∀ b o, b < W.heap.size → w1.cell? ⟨b, o, none⟩ = W.cell? ⟨b, o, none⟩) ∧ (∀ b o, b < W.heap.size → w1.frozen? ⟨b, o, none⟩ = W.frozen? ⟨b, o, none⟩) :=
  ⟨fun b o h => hb.cell (p := ⟨b, o, none⟩) h, fun b o h => hb.frozen (p := ⟨b, o, none⟩) h⟩

/-- Behind a call made when one boxed argument has been laid. -/
theorem box_call {B : Nat} {w0 w w1 : World} {cs : Array Value} {t : TypeId} {fz : Nat × Nat} (h0 : Below B w0 w) (hB : B ≤ w.heap.size) (hb : Below (w.alloc (.cells cs t fz)).heap.size (w.alloc (.cells cs t fz)) w1) :
    Below B w0 w1 ∧ w.heap.size < w1.heap.size ∧ (∀ j, w1.cell? ⟨w.heap.size, j, none⟩ = cs[j]?) := by
  have hs := hb.size
  simp at hs
  refine ⟨(h0.alloc hB _).trans (hb.mono (by simp; omega)), by omega, fun j => ?_⟩
  rw [hb.cell (p := ⟨w.heap.size, j, none⟩) (by simp), cell_of_row _ _ _ _ _ _ (heap_alloc_new w _)]
/-- Behind the next one. -/
theorem box_next {B g : Nat} {w0 w w1 : World} {cs : Array Value} (h0 : Below B w0 w) (hg : g < w.heap.size) (hc : ∀ j, w.cell? ⟨g, j, none⟩ = cs[j]?) (hB : B ≤ w.heap.size) (hb : Below w.heap.size w w1) :
    Below B w0 w1 ∧ g < w1.heap.size ∧ (∀ j, w1.cell? ⟨g, j, none⟩ = cs[j]?) ∧ B ≤ w1.heap.size := by
  have hs := hb.size
  exact ⟨h0.trans (hb.mono hB), by omega, fun j => (hb.cell (p := ⟨g, j, none⟩) hg).trans (hc j), by omega⟩

theorem below_drewN {B : Nat} {a w : World} (h : Below B a w) (n : Nat) : Below B a (w.drewN n) := ⟨h.os, h.tape, h.output, h.size, h.block⟩
/-- A contract of a function that leaves the world alone, met in a drawing region. -/
theorem regrown_same {P : Program} {f : FuncId} {args : Array Value} {w : World} {d : Nat} {os : Array Obj} {v : Value}
    (h : Calls P f args (Go.Sort.grow (redrawn w d) os) fun e w' => e = .returned v ∧ Go.Sort.grow (redrawn w d) os = w') : Calls P f args (Go.Sort.grow (redrawn w d) os) fun e w'' => e = .returned v ∧ ∃ p : Regrown, w'' = Go.Sort.grow (redrawn w p.d) p.os :=
  h.mono fun _ _ ⟨he, hb⟩ => ⟨he, ⟨d, os⟩, hb.symm⟩
theorem below_of_regrown {w w' : World} (h : ∃ p : Regrown, w' = Go.Sort.grow (redrawn w p.d) p.os) : Below w.heap.size w w' := by
  obtain ⟨p, rfl⟩ := h
  exact below_regrown _ _ _

/-- The conversion of an owned row of bytes to a string. -/
theorem run_own_string (P : Program) (w : World) (src dst e : TypeId) (hs : P.underlying src = some (.slice e)) (he : P.underlying e = some (.int .u8)) (hd : P.underlying dst = some .string)
    {base : Nat} {v : Value} {n : Nat} {l : List UInt8} (ho : w.ownsRow base e 1 v n (l.map bv)) : (convert src dst v).run P w = .ok (.string ⟨l.toArray⟩) w := by
  have hl : l.length = n := by simpa using ho.1
  rcases ho.2 with ⟨rfl, rfl⟩ | ⟨g, cap, cur, rfl, _, hg, _⟩
  · have : l = [] := List.eq_nil_of_length_eq_zero hl
    subst this
    rw [run_convert_bytes_string w src dst e none 0 0 hs he hd]
    rfl
  · have hcell := ho.cells (g := g) rfl
    have hb : Lib.Bytes w g 0 ⟨l.toArray⟩ := by
      intro i hi
      have hi' : i < l.length := by simpa [ByteArray.size] using hi
      have h := hcell i (bv l[i]) (by simp [hi'])
      rw [Addr.add_lit] at h
      rw [h]
      rfl
    have h := Lib.run_convert_whole (P := P) w src e dst hs he hd g 0 ⟨l.toArray⟩ hb cap
    have hn : (ByteArray.mk l.toArray).size = n := by simp [ByteArray.size, hl]
    rw [hn] at h
    exact h

theorem own_string {w : World} {base : Nat} {v : Value} {n : Nat} {l : List UInt8} (ho : w.ownsRow base 5 1 v n (l.map bv)) : (convert 113 9 v).run Tryz.prog w = .ok (.string ⟨l.toArray⟩) w :=
  run_own_string Tryz.prog w _ _ _ Tryz.underlying113 Tryz.underlying5 Tryz.underlying9 ho

/-- A row made with a length. -/
theorem make_fact {P : Program} {t e : TypeId} {i : TypeInfo} {z : Value} {size bytes : Nat} (ht : P.underlying t = some (.slice e)) (hi : P.info? e = some i) (hz : i.zero = some z) (hsz : i.size = size) (hby : i.bytes = bytes)
    (n : Nat) (hb : bytes * n ≤ 281474976710656) (h63 : n ≤ 9223372036854775807) (w : World) :
    ∃ cur : Array Value, cur.size = n * size ∧ (Instr.makeSlice t (.int .i64 (n : Int)) (.int .i64 (n : Int))).run P w = .ok (.slice (some ⟨w.heap.size, 0, none⟩) n n) (w.alloc (.cells cur e)) := by
  subst hsz hby
  have hb' : (i.bytes : Int) * (n : Int) ≤ 281474976710656 := by
    have h : ((i.bytes * n : Nat) : Int) ≤ 281474976710656 := by omega
    rwa [Int.natCast_mul] at h
  have hr := run_make (P := P) w t e i z ht hi hz .i64 .i64 n n (by omega) (Int.le_refl _) hb' (by omega)
  simp only [Int.toNat_natCast] at hr
  exact ⟨_, size_madeCells _ _, hr⟩

/-- Append of one byte, just laid in a block of its own, to a row of bytes that the call owns. -/
theorem wpList_byte {w1 : World} {ops : Array Oper} {rest : List Oper} {o : Oper} {a : Act} {Q : Exit → Act → World → Prop} {base : Nat} {v : Value} {n : Nat} {l : List UInt8} {fz : Nat × Nat}
    (hown : w1.ownsRow base 5 1 v n (l.map bv)) (c : UInt8) {y : Int} (hy : (c.toNat : Int) = y) (s x : Operand)
    (hn : n + 1 ≤ 140737488355328) (hbase : base ≤ w1.heap.size)
    (h : ∀ v' w', w'.ownsRow base 5 1 v' (n + 1) ((l ++ [c]).map bv) → Below base w1 w' → wpList Tryz.prog ops Q rest (a.put o.dst v') w')
    (hgd : o.guard = none := by exact rfl) (ho : o.op = .call { callee := .builtin .append, args := #[s, x], argTypes := #[113, 113] } := by exact rfl)
    (hs : a.eval s = v := by exact rfl) (hx : a.eval x = .slice (some ⟨w1.heap.size, 0, none⟩) 1 1 := by exact rfl) :
    wpList Tryz.prog ops Q (o :: rest) a (w1.alloc (.cells #[.int .u8 y] 5 fz)) := by
  subst hy
  obtain ⟨i0, hi, hz0, hz1, hz2⟩ := info_parts info_u8
  refine wpList_append_own _ hgd s x 113 ho base 5 i0 (.int .u8 0) 1 1 Tryz.underlying113 hi hz0 hz1 hz2 rfl (by decide) v n (l.map bv) hs (hown.alloc _)
    ⟨w1.heap.size, 0, none⟩ 1 1 [bv c] hx rfl ?_ ?_ (by simp only [maxLen]; omega) (by omega) (by simp; omega) ?_
  · intro j u hj
    match j, hj with
    | 0, hj =>
      simp at hj
      subst hj
      rw [Addr.add_lit, cell_of_row _ _ _ _ _ _ (heap_alloc_new w1 _)]
      rfl
  · intro u hu
    simp at hu
    subst hu
    rfl
  · intro v' w' h1 h2 _
    refine h v' w' (by simpa using h1) ?_
    have hb : Below base w1 (w1.alloc (.cells #[.int .u8 c.toNat] 5 fz)) := (Below.refl _ _).alloc hbase _
    exact hb.grown h2 (by simp; omega) (fun k hk => (hown.lt k hk).1)

/-- Append of two bytes, just laid in a block of its own, to a row of bytes that the call owns. -/
theorem wpList_byte2 {w1 : World} {ops : Array Oper} {rest : List Oper} {o : Oper} {a : Act} {Q : Exit → Act → World → Prop} {base : Nat} {v : Value} {n : Nat} {l : List UInt8} {fz : Nat × Nat}
    (hown : w1.ownsRow base 5 1 v n (l.map bv)) (c d : UInt8) {y z : Int} (hy : (c.toNat : Int) = y) (hz : (d.toNat : Int) = z) (s x : Operand)
    (hn : n + 2 ≤ 140737488355328) (hbase : base ≤ w1.heap.size)
    (h : ∀ v' w', w'.ownsRow base 5 1 v' (n + 2) ((l ++ [c, d]).map bv) → Below base w1 w' → wpList Tryz.prog ops Q rest (a.put o.dst v') w')
    (hgd : o.guard = none := by exact rfl) (ho : o.op = .call { callee := .builtin .append, args := #[s, x], argTypes := #[113, 113] } := by exact rfl)
    (hs : a.eval s = v := by exact rfl) (hx : a.eval x = .slice (some ⟨w1.heap.size, 0, none⟩) 2 2 := by exact rfl) :
    wpList Tryz.prog ops Q (o :: rest) a (w1.alloc (.cells #[.int .u8 y, .int .u8 z] 5 fz)) := by
  subst hy hz
  obtain ⟨i0, hi, hz0, hz1, hz2⟩ := info_parts info_u8
  refine wpList_append_own _ hgd s x 113 ho base 5 i0 (.int .u8 0) 1 1 Tryz.underlying113 hi hz0 hz1 hz2 rfl (by decide) v n (l.map bv) hs (hown.alloc _)
    ⟨w1.heap.size, 0, none⟩ 2 2 [bv c, bv d] hx rfl ?_ ?_ (by simp only [maxLen]; omega) (by omega) (by simp; omega) ?_
  · intro j u hj
    match j, hj with
    | 0, hj =>
      simp at hj
      subst hj
      rw [Addr.add_lit, cell_of_row _ _ _ _ _ _ (heap_alloc_new w1 _)]
      rfl
    | 1, hj =>
      simp at hj
      subst hj
      rw [Addr.add_lit, cell_of_row _ _ _ _ _ _ (heap_alloc_new w1 _)]
      rfl
  · intro u hu
    simp at hu
    rcases hu with rfl | rfl <;> rfl
  · intro v' w' h1 h2 _
    refine h v' w' (by simpa using h1) ?_
    have hb : Below base w1 (w1.alloc (.cells #[.int .u8 c.toNat, .int .u8 d.toNat] 5 fz)) := (Below.refl _ _).alloc hbase _
    exact hb.grown h2 (by simp; omega) (fun k hk => (hown.lt k hk).1)

/-- The same as one step of a region that draws its order. -/
theorem step_byte2 {w1 : World} {ops : Array Oper} {o : Oper} {a : Act} {K : Act → World → Prop} {Q : Exit → Act → World → Prop} {E : Prop} {base : Nat} {v : Value} {n : Nat} {l : List UInt8} {fz : Nat × Nat}
    (hown : w1.ownsRow base 5 1 v n (l.map bv)) (c d : UInt8) {y z : Int} (hy : (c.toNat : Int) = y) (hz : (d.toNat : Int) = z) (s x : Operand)
    (hn : n + 2 ≤ 140737488355328) (hbase : base ≤ w1.heap.size)
    (h : ∀ v' w', w'.ownsRow base 5 1 v' (n + 2) ((l ++ [c, d]).map bv) → Below base w1 w' → K (a.put o.dst v') w')
    (hgd : o.guard = none := by exact rfl) (ho : o.op = .call { callee := .builtin .append, args := #[s, x], argTypes := #[113, 113] } := by exact rfl)
    (hs : a.eval s = v := by simp [Act.eval, Act.put]) (hx : a.eval x = .slice (some ⟨w1.heap.size, 0, none⟩) 2 2 := by simp [Act.eval, Act.put]) :
    if Region.wanted o (yielded ops a.tmps) = true then Oper.wp Tryz.prog o a (w1.alloc (.cells #[.int .u8 y, .int .u8 z] 5 fz)) K Q else E := by
  subst hy hz
  have hw : Region.wanted o (yielded ops a.tmps) = true := by simp [Region.wanted, hgd]
  rw [if_pos hw]
  obtain ⟨i0, hi, hz0, hz1, hz2⟩ := info_parts info_u8
  refine wp_append_own _ s x 113 ho base 5 i0 (.int .u8 0) 1 1 Tryz.underlying113 hi hz0 hz1 hz2 rfl (by decide) v n (l.map bv) hs (hown.alloc _)
    ⟨w1.heap.size, 0, none⟩ 2 2 [bv c, bv d] hx rfl ?_ ?_ (by simp only [maxLen]; omega) (by omega) (by simp; omega) ?_
  · intro j u hj
    match j, hj with
    | 0, hj =>
      simp at hj
      subst hj
      rw [Addr.add_lit, cell_of_row _ _ _ _ _ _ (heap_alloc_new w1 _)]
      rfl
    | 1, hj =>
      simp at hj
      subst hj
      rw [Addr.add_lit, cell_of_row _ _ _ _ _ _ (heap_alloc_new w1 _)]
      rfl
  · intro u hu
    simp at hu
    rcases hu with rfl | rfl <;> rfl
  · intro v' w' h1 h2 _
    refine h v' w' (by simpa using h1) ?_
    have hb : Below base w1 (w1.alloc (.cells #[.int .u8 c.toNat, .int .u8 d.toNat] 5 fz)) := (Below.refl _ _).alloc hbase _
    exact hb.grown h2 (by simp; omega) (fun k hk => (hown.lt k hk).1)

end Go.Proofs.YtcpadaelgdmipaaGreatDoor
