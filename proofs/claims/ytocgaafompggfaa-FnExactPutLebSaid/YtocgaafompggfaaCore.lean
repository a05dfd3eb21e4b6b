/- Words shared by the proofs of this seat: a byte as a value, a slice of the call's own that holds given bytes, its conversion to a string, and append of one element to it. -/
import Derived.Test.YtocgaafompggfaaProg
import Derived.WalkKit
import Derived.WalkSpells
import Derived.WalkLawsBesides
import Derived.Lib.Hide
import Derived.Maps.AppendAt
import Derived.Deep.Draws
import Derived.Lib.SlBytesRow
import Derived.OpenShut
namespace Go.Proofs.Ytocgaafompggfaa
open Go.RowKit

/-- A byte as a value. -/
def bv (c : UInt8) : Value := .int .u8 c.toNat

theorem info_u8 : (Try.prog.info? 5).map (fun i => (i.zero, i.size, i.bytes)) = some (some (.int .u8 0), 1, 1) := by kernel_rfl

theorem ret_eq {v u : Value} (h : v = u) : Ending.returned v = .returned u := by rw [h]

theorem own_grown_below {B : Nat} {w w1 w2 : World} {e : TypeId} {size n : Nat} {v : Value} {xs : List Value} (hb : Below B w w1) (ho : w1.ownsRow B e size v n xs)
    (hg : w1.grownBy w2 v.ownBlock) (hB : B ≤ w1.heap.size) : Below B w w2 :=
  hb.grown hg hB (fun k hk => (ho.lt k hk).1)

/-- The conversion of an owned row of bytes to a string. -/
theorem run_own_string (P : Program) (w : World) (src dst e : TypeId) (hs : P.underlying src = some (.slice e)) (he : P.underlying e = some (.int .u8)) (hd : P.underlying dst = some .string)
    {base : Nat} {v : Value} {n : Nat} {l : List UInt8} (ho : w.ownsRow base e 1 v n (l.map bv)) : (convert src dst v).run P w = .ok (.string ⟨l.toArray⟩) w := by
  have hl : l.length = n := by simpa using ho.1
  rcases ho.2 with ⟨rfl, rfl⟩ | ⟨g, cap, cur, rfl, _, hg, _⟩
  · have : l = [] := List.eq_nil_of_length_eq_zero hl
    subst this
    rw [run_convert_bytes_string w src dst e none 0 0 hs he hd]
    rfl
  · have hcell := ho.cells (g := g) rfl
    have hb : Lib.Bytes w g 0 ⟨l.toArray⟩ := by
      intro i hi
      have hi' : i < l.length := by simpa [ByteArray.size] using hi
      have h := hcell i (bv l[i]) (by simp [hi'])
      rw [Addr.add_lit] at h
      rw [h]
      rfl
    have h := Lib.run_convert_whole (P := P) w src e dst hs he hd g 0 ⟨l.toArray⟩ hb cap
    have hn : (ByteArray.mk l.toArray).size = n := by simp [ByteArray.size, hl]
    rw [hn] at h
    exact h

theorem own_string {w : World} {base : Nat} {v : Value} {n : Nat} {l : List UInt8} (ho : w.ownsRow base 5 1 v n (l.map bv)) : (convert 41 9 v).run Try.prog w = .ok (.string ⟨l.toArray⟩) w :=
  run_own_string Try.prog w _ _ _ Try.underlying41 Try.underlying5 Try.underlying9 ho

/-- Append of one byte, just laid in a block of its own, to a row of bytes that the call owns. -/
theorem wpList_byte {w1 : World} {ops : Array Oper} {rest : List Oper} {o : Oper} {a : Act} {Q : Exit → Act → World → Prop} {base : Nat} {v : Value} {n : Nat} {l : List UInt8} {fz : Nat × Nat}
    (hown : w1.ownsRow base 5 1 v n (l.map bv)) (c : UInt8) {y : Int} (hy : (c.toNat : Int) = y) (s x : Operand)
    (hn : n + 1 ≤ 140737488355328) (hbase : base ≤ w1.heap.size)
    (h : ∀ v' w', w'.ownsRow base 5 1 v' (n + 1) ((l ++ [c]).map bv) → Below base w1 w' → wpList Try.prog ops Q rest (a.put o.dst v') w')
    (hgd : o.guard = none := by exact rfl) (ho : o.op = .call { callee := .builtin .append, args := #[s, x], argTypes := #[41, 41] } := by exact rfl)
    (hs : a.eval s = v := by exact rfl) (hx : a.eval x = .slice (some ⟨w1.heap.size, 0, none⟩) 1 1 := by exact rfl) :
    wpList Try.prog ops Q (o :: rest) a (w1.alloc (.cells #[.int .u8 y] 5 fz)) := by
  subst hy
  obtain ⟨i0, hi, hz0, hz1, hz2⟩ := info_parts info_u8
  refine wpList_append_own _ hgd s x 41 ho base 5 i0 (.int .u8 0) 1 1 Try.underlying41 hi hz0 hz1 hz2 rfl (by decide) v n (l.map bv) hs (hown.alloc _)
    ⟨w1.heap.size, 0, none⟩ 1 1 [bv c] hx rfl ?_ ?_ (by simp only [maxLen]; omega) (by omega) (by simp; omega) ?_
  · intro j u hj
    match j, hj with
    | 0, hj =>
      simp at hj
      subst hj
      rw [Addr.add_lit, cell_of_row _ _ _ _ _ _ (heap_alloc_new w1 _)]
      rfl
  · intro u hu
    simp at hu
    subst hu
    rfl
  · intro v' w' h1 h2 _
    refine h v' w' (by simpa using h1) ?_
    have hb : Below base w1 (w1.alloc (.cells #[.int .u8 c.toNat] 5 fz)) := (Below.refl _ _).alloc hbase _
    exact hb.grown h2 (by simp; omega) (fun k hk => (hown.lt k hk).1)

end Go.Proofs.Ytocgaafompggfaa
