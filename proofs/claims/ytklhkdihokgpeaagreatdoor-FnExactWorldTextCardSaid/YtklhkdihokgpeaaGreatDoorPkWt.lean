/- The listing of a world. No program in sight. The listing of a world: the reference's walk. strings.Builder: what a written text adds, by this program's own body of WriteString. The listing of a world: the program's walk. The listing of a world, whole: by the reference and by the program. WorldText: the law. -/
import Derived.Test.YtklhkdihokgpeaaGreatDoorPkWo
import Derived.Test.YtklhkdihokgpeaaGreatDoorPkTx
import Derived.Test.YtklhkdihokgpeaaGreatDoorCore
import Derived.Test.YtklhkdihokgpeaaGreatDoorShelf
import Derived.Lib.Builder
import Derived.Lib.AppendStr
import Derived.Lib.UnsafeStr
import Derived.Deep.RegionLaw
import Derived.BigQuiet
import Derived.Test.YtklhkdihokgpeaaGreatDoorPkO
import Derived.Test.YtklhkdihokgpeaaGreatDoorGWorld
import Derived.Deep.DeepCutAuto
namespace Go.Proofs.YtklhkdihokgpeaaGreatDoor
open Go.RowKit

theorem nil_cat (b : ByteArray) : (⟨#[]⟩ : ByteArray) ++ b = b := ByteArray.ext (by simp)
/-- Texts one behind the other. -/
def catB (l : List ByteArray) : ByteArray := l.foldl (· ++ ·) ⟨#[]⟩
theorem catB_next (l : List ByteArray) (x : ByteArray) : catB (l ++ [x]) = catB l ++ x := by simp [catB]
theorem catB_at {l : List ByteArray} {k : Nat} {x : ByteArray} (h : l[k]? = some x) : catB (l.take (k + 1)) = catB (l.take k) ++ x := by rw [List.take_add_one, h]; exact catB_next _ _
theorem catB_size {l : List ByteArray} {c : Nat} (h : ∀ s ∈ l, s.size ≤ c) : (catB l).size ≤ l.length * c := by
  have H : ∀ (l : List ByteArray) (a : ByteArray), (∀ s ∈ l, s.size ≤ c) → (l.foldl (· ++ ·) a).size ≤ a.size + l.length * c := by
    intro l
    induction l with
    | nil => intro a _; simp
    | cons x r ih =>
      intro a h
      have h1 := ih (a ++ x) (fun s hs => h s (by simp [hs]))
      have h2 := h x (by simp)
      rw [List.foldl_cons, List.length_cons, Nat.add_mul]
      rw [ByteArray.size_append] at h1
      omega
  have h1 := H l ⟨#[]⟩ h
  rw [show (⟨#[]⟩ : ByteArray).size = 0 from rfl, Nat.zero_add] at h1
  exact h1
def headB (word : ByteArray) (f : Fa) : ByteArray := word ++ ⟨#[32]⟩ ++ f.pkg ++ ⟨#[47]⟩ ++ f.name ++ ⟨#[64]⟩ ++ f.ver ++ ⟨#[10]⟩
def ownB (s : ByteArray) : ByteArray := ⟨#[32, 32, 114, 101, 115, 111, 117, 114, 99, 101, 32]⟩ ++ s ++ ⟨#[10]⟩
def funB (u : Fu) : ByteArray := ⟨#[32, 32]⟩ ++ u.name ++ ⟨#[58, 32]⟩ ++ fnT u.ty ++ ⟨#[10]⟩
def faceB (word : ByteArray) (f : Fa) : ByteArray := catB (headB word f :: (f.owns.map ownB ++ f.funcs.map funB))
def facesB (word : ByteArray) (l : List Fa) : ByteArray := catB (l.map (faceB word))
def wordI : ByteArray := ⟨#[105, 109, 112, 111, 114, 116]⟩
def wordE : ByteArray := ⟨#[101, 120, 112, 111, 114, 116]⟩
def worldB (x : Wo) : ByteArray := ⟨#[119, 111, 114, 108, 100, 32]⟩ ++ x.pkg ++ ⟨#[47]⟩ ++ x.name ++ ⟨#[64]⟩ ++ x.ver ++ ⟨#[10]⟩ ++ facesB wordI x.imps ++ facesB wordE x.exps
def worldT (x : Wo) : ByteArray := if worldOk x = true then worldB x else ⟨#[]⟩
/-- What is written of a face before its functions: the head and so many of its resources. -/
def ownsTo (word : ByteArray) (f : Fa) (k : Nat) : ByteArray := catB (headB word f :: (f.owns.take k).map ownB)
def funsTo (word : ByteArray) (f : Fa) (k : Nat) : ByteArray := catB (headB word f :: (f.owns.map ownB ++ (f.funcs.take k).map funB))
theorem ownsTo_zero (word : ByteArray) (f : Fa) : ownsTo word f 0 = headB word f := by
  show catB [headB word f] = _
  exact nil_cat _
theorem ownsTo_next {word : ByteArray} {f : Fa} {k : Nat} {s : ByteArray} (h : f.owns[k]? = some s) : ownsTo word f (k + 1) = ownsTo word f k ++ ownB s := by
  unfold ownsTo
  rw [List.take_add_one, h, List.map_append, ← List.cons_append]
  exact catB_next _ _
theorem ownsTo_end (word : ByteArray) (f : Fa) : ownsTo word f f.owns.length = funsTo word f 0 := by simp [ownsTo, funsTo]
theorem funsTo_next {word : ByteArray} {f : Fa} {k : Nat} {u : Fu} (h : f.funcs[k]? = some u) : funsTo word f (k + 1) = funsTo word f k ++ funB u := by
  unfold funsTo
  rw [List.take_add_one, h, List.map_append, ← List.append_assoc, ← List.cons_append]
  exact catB_next _ _
theorem funsTo_end (word : ByteArray) (f : Fa) : funsTo word f f.funcs.length = faceB word f := by simp [funsTo, faceB]
theorem facesB_next {word : ByteArray} {l : List Fa} {k : Nat} {x : Fa} (h : l[k]? = some x) : facesB word (l.take (k + 1)) = facesB word (l.take k) ++ faceB word x := by
  unfold facesB
  rw [List.take_add_one, h, List.map_append]
  exact catB_next _ _
theorem fnT_size {x : Fn} (ht : D.totals x.ds ≤ 1048576) : (fnT x).size ≤ 100000000 := by
  have he := Fn.totals_eq x
  have hj := Pa.join_len x.params
  have hh := fnHead_size x.async
  have h1 : (fnT x).size = (fnHead x.async).size + ((Lib.join (x.params.map Pa.text) [44]).length + (1 + (fnTail x.res).length)) := by
    have e : (fnT x).size = x.text.length := by simp [fnT, ByteArray.size]
    have e2 : (fnHead x.async).data.toList.length = (fnHead x.async).size := by simp
    rw [e]
    unfold Fn.text
    rw [List.length_append, List.length_append, List.length_cons, e2]
    omega
  have h2 : (fnTail x.res).length ≤ 2 + x.res.text.length := by
    unfold fnTail
    split
    · simp
    · simp; omega
  have h3 := Ty.text_len x.res
  omega
structure SizesF (f : Fa) : Prop where
  pkg : f.pkg.size ≤ 1048576
  name : f.name.size ≤ 1048576
  ver : f.ver.size ≤ 1048576
  owns : ∀ s ∈ f.owns, s.size ≤ 1048576
  funcs : ∀ u ∈ f.funcs, u.name.size ≤ 1048576 ∧ D.totals u.ty.ds ≤ 1048576
theorem Fa.sizes {f : Fa} (h : D.totals f.ds ≤ 1048576) : SizesF f := by
  have e : D.totals f.ds = f.pkg.size + (f.name.size + (f.ver.size + ((strs f.owns).total + ((rows Fu.ds 7 f.funcs).total + 0)))) := rfl
  have e2 : (strs f.owns).total = f.owns.length + D.totals (f.owns.flatMap strD) := rows_total ..
  rw [rows_total] at e
  refine ⟨by omega, by omega, by omega, fun s hs => ?_, fun u hu => ?_⟩
  · have h1 := totals_mem (f := strD) hs
    have h2 : D.totals (strD s) = s.size := by simp [strD, D.totals, D.total]
    omega
  · have h1 := totals_mem (f := Fu.ds) hu
    have h2 : D.totals u.ds = u.name.size + D.totals u.ty.ds := rfl
    omega
structure GoodF (f : Fa) : Prop where
  sz : SizesF f
  owns : f.owns.length ≤ 4
  funcs : f.funcs.length ≤ 8
  ok : ∀ u ∈ f.funcs, fnOk u.ty = true
theorem good_of {f : Fa} (h : faceOk f = true) (ht : D.totals f.ds ≤ 1048576) : GoodF f := by
  unfold faceOk at h
  simp only [Bool.and_eq_true, decide_eq_true_eq] at h
  obtain ⟨-, -, -, h1, h2, -, h3, -⟩ := h
  refine ⟨Fa.sizes ht, h1, h2, fun u hu => ?_⟩
  have := List.all_eq_true.1 h3 u hu
  unfold fuOk at this
  simp only [Bool.and_eq_true] at this
  exact this.2.1
theorem good_all {l : List Fa} (h : facesOk l = true) (ht : ∀ f ∈ l, D.totals f.ds ≤ 1048576) : l.length ≤ 6 ∧ ∀ f ∈ l, GoodF f := by
  unfold facesOk at h
  simp only [Bool.and_eq_true, decide_eq_true_eq] at h
  exact ⟨h.1, fun f hf => good_of (List.all_eq_true.1 h.2.1 f hf) (ht f hf)⟩
theorem headB_size {word : ByteArray} {f : Fa} (hw : word.size ≤ 6) (g : SizesF f) : (headB word f).size ≤ 200000000 := by
  have h1 := g.pkg
  have h2 := g.name
  have h3 := g.ver
  have z0 : (⟨#[32]⟩ : ByteArray).size = 1 := rfl
  have z1 : (⟨#[47]⟩ : ByteArray).size = 1 := rfl
  have z2 : (⟨#[64]⟩ : ByteArray).size = 1 := rfl
  have z3 : (⟨#[10]⟩ : ByteArray).size = 1 := rfl
  unfold headB
  simp only [ByteArray.size_append]
  omega
theorem ownB_size {s : ByteArray} (h : s.size ≤ 1048576) : (ownB s).size ≤ 200000000 := by
  have z0 : (⟨#[32, 32, 114, 101, 115, 111, 117, 114, 99, 101, 32]⟩ : ByteArray).size = 11 := rfl
  have z1 : (⟨#[10]⟩ : ByteArray).size = 1 := rfl
  unfold ownB
  simp only [ByteArray.size_append]
  omega
theorem funB_size {u : Fu} (h : u.name.size ≤ 1048576 ∧ D.totals u.ty.ds ≤ 1048576) : (funB u).size ≤ 200000000 := by
  have h1 := fnT_size h.2
  have h2 := h.1
  have z0 : (⟨#[32, 32]⟩ : ByteArray).size = 2 := rfl
  have z1 : (⟨#[58, 32]⟩ : ByteArray).size = 2 := rfl
  have z2 : (⟨#[10]⟩ : ByteArray).size = 1 := rfl
  unfold funB
  simp only [ByteArray.size_append]
  omega
theorem funsTo_size {word : ByteArray} {f : Fa} (hw : word.size ≤ 6) (g : GoodF f) (k : Nat) : (funsTo word f k).size ≤ 2600000000 := by
  have h := catB_size (l := headB word f :: (f.owns.map ownB ++ (f.funcs.take k).map funB)) (c := 200000000) (fun s hs => by
    rcases List.mem_cons.1 hs with rfl | hs
    · exact headB_size hw g.sz
    · rcases List.mem_append.1 hs with hs | hs
      · obtain ⟨a, ha, rfl⟩ := List.mem_map.1 hs
        exact ownB_size (g.sz.owns a ha)
      · obtain ⟨a, ha, rfl⟩ := List.mem_map.1 hs
        exact funB_size (g.sz.funcs a (List.mem_of_mem_take ha)))
  have h1 := g.owns
  have h2 := g.funcs
  have h3 : (headB word f :: (f.owns.map ownB ++ (f.funcs.take k).map funB)).length ≤ 13 := by
    simp only [List.length_cons, List.length_append, List.length_map, List.length_take]
    omega
  unfold funsTo
  have h4 := Nat.mul_le_mul_right 200000000 h3
  omega
theorem ownsTo_size {word : ByteArray} {f : Fa} (hw : word.size ≤ 6) (g : GoodF f) (k : Nat) : (ownsTo word f k).size ≤ 2600000000 := by
  have h := catB_size (l := headB word f :: (f.owns.take k).map ownB) (c := 200000000) (fun s hs => by
    rcases List.mem_cons.1 hs with rfl | hs
    · exact headB_size hw g.sz
    · obtain ⟨a, ha, rfl⟩ := List.mem_map.1 hs
      exact ownB_size (g.sz.owns a (List.mem_of_mem_take ha)))
  have h1 := g.owns
  have h3 : (headB word f :: (f.owns.take k).map ownB).length ≤ 13 := by
    simp only [List.length_cons, List.length_map, List.length_take]
    omega
  unfold ownsTo
  have h4 := Nat.mul_le_mul_right 200000000 h3
  omega
theorem facesB_size {word : ByteArray} {l : List Fa} (hw : word.size ≤ 6) (hl : l.length ≤ 6) (g : ∀ f ∈ l, GoodF f) (k : Nat) : (facesB word (l.take k)).size ≤ 15600000000 := by
  have h := catB_size (l := (l.take k).map (faceB word)) (c := 2600000000) (fun s hs => by
    obtain ⟨a, ha, rfl⟩ := List.mem_map.1 hs
    rw [← funsTo_end]
    exact funsTo_size hw (g a (List.mem_of_mem_take ha)) _)
  have h3 : ((l.take k).map (faceB word)).length ≤ 6 := by
    simp only [List.length_map, List.length_take]
    omega
  unfold facesB
  have h4 := Nat.mul_le_mul_right 2600000000 h3
  omega
end Go.Proofs.YtklhkdihokgpeaaGreatDoor
namespace Go.Proofs.YtklhkdihokgpeaaGreatDoor
open Go.RowKit

set_option maxHeartbeats 4000000 in
set_option maxRecDepth 20000 in
theorem l07FacesText_s (word : ByteArray) (hw : word.size ≤ 6) (l : List Fa) (A : Option Addr) (cap : Nat) (w : World) (hok : facesOk l = true) (ht : ∀ f ∈ l, D.totals f.ds ≤ 1048576) (hv : D.At w anyB (rows Fa.ds 5 l) (.slice A l.length cap)) :
    Calls Tryz.prog 58 #[.string word, .slice A l.length cap] w fun e w' => e = .returned (.string (facesB word l)) ∧ Below w.heap.size w w' := by
  obtain ⟨-, hn, hc⟩ := rows_bound hv
  unfold maxLen at hc
  have HV := Lib.hid hv
  have HG := Lib.hid (good_all hok ht)
  have hl6 := HG.out.1
  clear hv hok ht
  go_enter Tryz.func58, Tryz.ntmps58
  go_wp2
  go_loopw [5, 6, 7, 8, 9] (fun t i _ _ _ wr => ∃ (q : Nat) (T : ByteArray), q ≤ l.length ∧ i = .int .i64 q ∧ t = .string T ∧ T = facesB word (l.take q) ∧ Below w.heap.size w wr) (fun _ i _ _ _ _ => l.length - (intOf i).toNat)
  case atStart => exact ⟨0, _, Nat.zero_le _, rfl, rfl, rfl, Below.refl _ _⟩
  case round =>
    obtain ⟨q, T, hq, rfl, rfl, hT, hb⟩ := hrel
    rename World => wo
    have hTs : T.size ≤ 15600000000 := by rw [hT]; exact facesB_size hw HG.out.1 HG.out.2 q
    have HT := Lib.hid hT
    clear hT
    by_cases hlt : q < l.length
    · obtain ⟨x, hx⟩ : ∃ x, l[q]? = some x := ⟨l[q], List.getElem?_eq_getElem hlt⟩
      have hk0 : (0 : Int) ≤ (q : Int) := by omega
      have hk1 : (q : Int) < (l.length : Int) := by omega
      obtain ⟨b, off, u0, u1, u2, u3, u4, e, -, hbl, hat, d0, d1, d2, d3, d4⟩ := rows_at5 Fa.len (HV.out.below hb) hx
      subst e
      obtain ⟨AO, cO, AF, cF, exx, -, -, -, hO, hF⟩ := Fa.open_ hat
      simp only [List.cons.injEq, and_true] at exx
      obtain ⟨rfl, rfl, rfl, rfl, rfl⟩ := exx
      have HGx := Lib.hid (HG.out.2 x (List.mem_of_getElem? hx))
      have hp1 := HGx.out.sz.pkg
      have hp2 := HGx.out.sz.name
      have hp3 := HGx.out.sz.ver
      have HNX := Lib.hid (facesB_next (word := word) hx)
      obtain ⟨w2, hw2⟩ : ∃ w2, w2 = wo.alloc (.cells #[.string x.pkg, .string x.name, .string x.ver, .slice AO x.owns.length cO, .slice AF x.funcs.length cF] 30) := ⟨_, rfl⟩
      have bA : Box w2 wo.heap.size 30 [.string x.pkg, .string x.name, .string x.ver, .slice AO x.owns.length cO, .slice AF x.funcs.length cF] := by rw [hw2]; exact Box.new wo _ _
      have bw : Below wo.heap.size wo w2 := by rw [hw2]; exact (Below.refl _ _).alloc (Nat.le_refl _) _
      have HR := Lib.hid (And.intro (hO.below bw) (hF.below bw))
      have HB2 := Lib.hid (And.intro (hb.trans (bw.mono hb.size)) bA)
      obtain ⟨-, hnO, hcO⟩ := rows_bound hO
      obtain ⟨-, hnF, hcF⟩ := rows_bound hF
      unfold maxLen at hcO hcF
      clear hx hat hO hF bw
      go_upto_region 6 with fail
      rw [← hw2]
      have kA := bA.cell
      clear hw2 d0 d1 d2 d3 d4 bA
      have HH := Lib.hid (show T ++ (word ++ ⟨#[32]⟩ ++ x.pkg ++ ⟨#[47]⟩ ++ x.name ++ ⟨#[64]⟩ ++ x.ver ++ ⟨#[10]⟩) = T ++ ownsTo word x 0 by rw [ownsTo_zero]; rfl)
      go_wp2
      go_loopw [5, 8] (fun t i wq => ∃ (k : Nat) (P : ByteArray), k ≤ x.owns.length ∧ i = .int .i64 k ∧ t = .string P ∧ P = T ++ ownsTo word x k ∧ Below w2.heap.size w2 wq) (fun _ i _ => x.owns.length - (intOf i).toNat)
      case atStart => exact ⟨0, _, Nat.zero_le _, rfl, rfl, HH.out, Below.refl _ _⟩
      clear kA
      case round =>
        obtain ⟨k, P, hk, rfl, rfl, hP, hbq⟩ := hrel
        have hPs : P.size ≤ 20000000000 := by
          have := ownsTo_size hw HGx.out k
          rw [hP, ByteArray.size_append]
          omega
        have HP := Lib.hid hP
        have kA := (HB2.out.2.call hbq).cell
        clear hP
        by_cases hltk : k < x.owns.length
        · obtain ⟨s, hs⟩ : ∃ s, x.owns[k]? = some s := ⟨x.owns[k], List.getElem?_eq_getElem hltk⟩
          have hm0 : (0 : Int) ≤ (k : Int) := by omega
          have hm1 : (k : Int) < (x.owns.length : Int) := by omega
          obtain ⟨b', off', u0, e, -, -, hat, c0⟩ := rows_at1 strD_length (HR.out.1.below hbq) hs
          subst e
          obtain ⟨rfl, -⟩ := str_open hat
          have hss := HGx.out.sz.owns s (List.mem_of_getElem? hs)
          have HN := Lib.hid (show P ++ (⟨#[32, 32, 114, 101, 115, 111, 117, 114, 99, 101, 32]⟩ ++ s ++ ⟨#[10]⟩) = T ++ ownsTo word x (k + 1) by rw [ownsTo_next hs, HP.out, ByteArray.append_assoc]; rfl)
          clear hs hat
          go_wp2
          go_roundw
          case rel => exact ⟨k + 1, _, by omega, by go_num, rfl, HN.out, hbq⟩
          case measure => simp [intOf]; omega
        · obtain rfl : k = x.owns.length := by omega
          obtain ⟨W2, hW2⟩ : ∃ W2, W2 = wr := ⟨_, rfl⟩
          rw [← hW2] at hbq kA ⊢
          clear hW2
          have HP2 := Lib.hid (show P = T ++ funsTo word x 0 by rw [HP.out, ownsTo_end])
          have HBQ := Lib.hid (And.intro (HB2.out.1.trans (hbq.mono HB2.out.1.size)) (HB2.out.2.call hbq))
          have HF2 := Lib.hid (HR.out.2.below hbq)
          go_wp2
          go_loopw [5, 9] (fun t i wq => ∃ (k : Nat) (P : ByteArray), k ≤ x.funcs.length ∧ i = .int .i64 k ∧ t = .string P ∧ P = T ++ funsTo word x k ∧ Below W2.heap.size W2 wq) (fun _ i _ => x.funcs.length - (intOf i).toNat)
          case atStart => exact ⟨0, _, Nat.zero_le _, rfl, rfl, HP2.out, Below.refl _ _⟩
          clear kA hbq
          case round =>
            obtain ⟨k, P, hk, rfl, rfl, hP, hbq⟩ := hrel
            have hPs : P.size ≤ 20000000000 := by
              have := funsTo_size hw HGx.out k
              rw [hP, ByteArray.size_append]
              omega
            have HP := Lib.hid hP
            have bQ := HBQ.out.2.call hbq
            have kA := bQ.cell
            clear hP
            by_cases hltk : k < x.funcs.length
            · obtain ⟨u, hs⟩ : ∃ u, x.funcs[k]? = some u := ⟨x.funcs[k], List.getElem?_eq_getElem hltk⟩
              have hm0 : (0 : Int) ≤ (k : Int) := by omega
              have hm1 : (k : Int) < (x.funcs.length : Int) := by omega
              obtain ⟨b', off', u0, u1, u2, u3, u4, u5, u6, e, -, -, hat, c0, c1, c2, c3, c4, c5, c6⟩ := rows_at7 Fu.len (HF2.out.below hbq) hs
              subst e
              obtain ⟨y0, y1, y2, y3, y4, y5, y6, y7, y8, y9, y10, y11, exx, -, hatx⟩ := Fu.open_ hat
              simp only [List.cons.injEq, and_true] at exx
              obtain ⟨rfl, rfl, rfl, rfl, rfl, rfl, rfl⟩ := exx
              have hss := HGx.out.sz.funcs u (List.mem_of_getElem? hs)
              have hus := hss.1
              have hft := fnT_size hss.2
              have HOK := Lib.hid (HGx.out.ok u (List.mem_of_getElem? hs))
              have HFt := Lib.hid (fun W (G : Below wr.heap.size wr W) => askFText_s u.ty (fnT u.ty) _ W (by unfold fnTextOr; rw [if_pos HOK.out]) (hatx.below G) hss.2)
              have HN := Lib.hid (show P ++ (⟨#[32, 32]⟩ ++ u.name ++ ⟨#[58, 32]⟩ ++ fnT u.ty ++ ⟨#[10]⟩) = T ++ funsTo word x (k + 1) by rw [funsTo_next hs, HP.out, ByteArray.append_assoc]; rfl)
              obtain ⟨R, hR⟩ : ∃ R, fnT u.ty = R := ⟨_, rfl⟩
              rw [hR] at HFt HN hft
              have g1 := cell_regrown (show wr.cell? ⟨wo.heap.size, 4, none⟩ = some (.slice (some ⟨b', off', none⟩) x.funcs.length cF) from kA 4)
              have d0 := cell_regrown c0
              have d1 := cell_regrown c1
              have d2 := cell_regrown c2
              have d3 := cell_regrown c3
              have d4 := cell_regrown c4
              have d5 := cell_regrown c5
              have d6 := cell_regrown c6
              go_upto_region 14 with fail
              clear hs hat hatx hR hss c0 c1 c2 c3 c4 c5 c6 kA
              refine wp_region_quiet_below (by kernel_rfl) (by kernel_rfl) ?_
              repeat (first | go_big_quiet_step (with_reducible exact Calls.regrown_of (HFt.out _ (below_regrown _ _ _))) | quiet_step (with_reducible exact Calls.regrown_of (HFt.out _ (below_regrown _ _ _))))
              refine wpQuiet_nil ?_
              intro w3 hw3
              have hb3 := hbq.trans ((below_of_regrown hw3).mono hbq.size)
              clear hw3 d0 d1 d2 d3 d4 d5 d6 g1
              go_wp2
              go_roundw
              case rel => exact ⟨k + 1, _, by omega, by go_num, rfl, HN.out, hb3⟩
              case measure => simp [intOf]; omega
            · obtain rfl : k = x.funcs.length := by omega
              have HE := Lib.hid (show P = facesB word (l.take (q + 1)) by rw [HP.out, funsTo_end, HNX.out, HT.out])
              have hbe := HBQ.out.1.trans (hbq.mono HBQ.out.1.size)
              go_wp2
              go_roundw
              case rel => exact ⟨q + 1, _, by omega, by go_num, rfl, HE.out, hbe⟩
              case measure => simp [intOf]; omega
    · obtain rfl : q = l.length := by omega
      have HE := Lib.hid (show T = facesB word l by rw [HT.out, List.take_length])
      go_wp2
      go_ret
      exact ⟨ret_eq (by rw [HE.out]; try rfl), hb⟩
end Go.Proofs.YtklhkdihokgpeaaGreatDoor
namespace Go.Proofs.YtklhkdihokgpeaaGreatDoor
open Go.RowKit

theorem bld_size : (Tryz.prog.info? 119).map (·.size) = some 2 := by kernel_rfl
theorem bld_lies : liesAt Tryz.prog Tryz.prog.depth 119 (2 / Tryz.prog.cellsOf 119) 0 119 1 = true := by kernel_rfl
theorem byte_info : (Tryz.prog.info? 5).map (fun i => (i.zero, i.size, i.bytes)) = some (some (.int .u8 0), 1, 1) := by kernel_rfl
set_option maxRecDepth 100000 in
/-- A builder that has been written to: the check turns nothing. -/
theorem bld_used (b : Nat) (w : World) (h : w.cell? ⟨b, 0, none⟩ = some (.pointer (some ⟨b, 0, none⟩))) :
    Calls Tryz.prog 113 #[.pointer (some ⟨b, 0, none⟩)] w fun e w' => e = .returned (.tuple #[]) ∧ w' = w := by
  obtain ⟨j, hj, -⟩ := Option.map_eq_some_iff.1 bld_size
  go_enter Tryz.func113, Tryz.ntmps113
  go_wp2
  rw [Lib.run_neq_ptr_same w _ Tryz.underlying116 hj]
  go_wp2
  go_end0
  exact ⟨rfl, rfl⟩
set_option maxRecDepth 100000 in
/-- A new builder: the check lays down where it lies. -/
theorem bld_new (b : Nat) (w : World) (h : w.cell? ⟨b, 0, none⟩ = some (.pointer none)) (hs : w.shape? b = some (119, 2)) (hf : w.frozen? ⟨b, 0, none⟩ = false) :
    Calls Tryz.prog 113 #[.pointer (some ⟨b, 0, none⟩)] w fun e w' => e = .returned (.tuple #[]) ∧ w' = w.setCell ⟨b, 0, none⟩ (.pointer (some ⟨b, 0, none⟩)) := by
  obtain ⟨j, hj, hjs⟩ := Option.map_eq_some_iff.1 bld_size
  go_enter Tryz.func113, Tryz.ntmps113
  go_wp2
  rw [Lib.run_to_unsafe w ⟨b, 0, none⟩ Tryz.underlying116 Tryz.underlying164 hj (by rw [hjs]; decide) hs (Nat.zero_lt_succ 1)]
  simp only [Result.andThen]
  rw [Oper.upon_value]
  go_wp2
  rw [run_callFunc_extern Tryz.func140 (by kernel_rfl) (by kernel_rfl) (by kernel_rfl) (e := Extern.AbiNoEscape.same) (by kernel_rfl)]
  rw [Lib.run_noEscape]
  simp only [Result.andThen]
  rw [Oper.upon_value]
  go_wp2
  rw [Lib.run_from_unsafe w ⟨b, 0, none⟩ Tryz.underlying164 Tryz.underlying116 hj hs bld_lies]
  simp only [Result.andThen]
  rw [Oper.upon_value]
  go_wp2
  go_end0
  exact ⟨rfl, rfl⟩
theorem bld_check (B b : Nat) (l : List Value) (w : World) (h : Lib.IsBuilder 119 5 B b l w) :
    Calls Tryz.prog 113 #[.pointer (some ⟨b, 0, none⟩)] w fun e w' => e = .returned (.tuple #[]) ∧ Lib.BuilderAt 119 5 B b (.pointer (some ⟨b, 0, none⟩)) l w' ∧ Below B w w' := by
  rcases h with h | h
  · refine (bld_new b w h.cell0 h.shape h.frozen0).mono ?_
    rintro e w' ⟨rfl, rfl⟩
    exact ⟨rfl, h.used _, (Below.refl B w).setCell (p := ⟨b, 0, none⟩) h.1 _⟩
  · refine (bld_used b w h.cell0).mono ?_
    rintro e w' ⟨rfl, rfl⟩
    exact ⟨rfl, h, Below.refl B _⟩
set_option maxHeartbeats 2000000 in
set_option maxRecDepth 100000 in
theorem bld_write (B b : Nat) (l : List Value) (s : ByteArray) (w : World) (h : Lib.IsBuilder 119 5 B b l w) (hl : l.length + s.size ≤ 140737488355328) (hB : B ≤ w.heap.size) :
    Calls Tryz.prog 88 #[.pointer (some ⟨b, 0, none⟩), .string s] w fun e w' => e = .returned (.tuple #[.int .i64 s.size, .nilIface]) ∧ Lib.BuilderAt 119 5 B b (.pointer (some ⟨b, 0, none⟩)) (l ++ Lib.strCells s) w' ∧ Below B w w' := by
  obtain ⟨i0, hi, z0, z1, z2⟩ := info_parts byte_info
  go_enter Tryz.func88, Tryz.ntmps88
  go_wp2_with (go_at_call 113; refine (bld_check B b l _ h).mono ?_)
  rintro e w1 ⟨rfl, h1, b1⟩
  obtain ⟨hb, v, hk, ho, hne⟩ := h1
  have c0 : w1.cell? ⟨b, 0, none⟩ = some (.pointer (some ⟨b, 0, none⟩)) := by rw [Lib.cell_of_heap hk]; rfl
  have c1 : w1.cell? ⟨b, 1, none⟩ = some v := by rw [Lib.cell_of_heap hk]; rfl
  go_wp2_with (at_builtin; refine Lib.wpList_append_own_string _ rfl _ _ 117 9 rfl B 5 i0 Tryz.underlying117 Tryz.underlying9 hi z0 z1 z2 _ _ _ rfl ho s rfl ?d1 ?d2 ?d3 ?_)
  case d1 => unfold maxLen; omega
  case d2 => omega
  case d3 => have := b1.size; omega
  intro v' w2 ho2 hg _
  have hlt : b < w1.heap.size := by
    rcases Nat.lt_or_ge b w1.heap.size with h' | h'
    · exact h'
    · simp [Array.getElem?_eq_none h'] at hk
  have hk2 : w2.heap[b]? = some (.cells #[.pointer (some ⟨b, 0, none⟩), v] 119 (0, 0)) := by
    rw [hg.block b hlt (fun e => hne e.symm)]
    exact hk
  have e0 : w2.cell? ⟨b, 0, none⟩ = some (.pointer (some ⟨b, 0, none⟩)) := by rw [Lib.cell_of_heap hk2]; rfl
  have e1 : w2.cell? ⟨b, 1, none⟩ = some v := by rw [Lib.cell_of_heap hk2]; rfl
  have f1 : w2.frozen? ⟨b, 1, none⟩ = false := Lib.frozen_of_heap hk2 1
  obtain ⟨ao, n', cap, rfl⟩ : ∃ ao n' cap, v' = .slice ao n' cap := by
    rcases ho2.2 with ⟨hv, -⟩ | ⟨g, cap, cur, hv, -⟩
    · exact ⟨_, _, _, hv⟩
    · exact ⟨_, _, _, hv⟩
  go_wp2
  go_ret2
  exact ⟨rfl, Lib.BuilderAt.put (T := 119) (e := 5) hb hk2 (bs' := l ++ Lib.strCells s) (by simpa [Lib.strCells_length] using ho2) (by decide),
    (b1.grown hg (by have := b1.size; omega) (fun k hk => (ho.lt k hk).1)).setCell (p := ⟨b, 1, none⟩) hb _⟩
theorem strCells_bytes (s : ByteArray) : Lib.strCells s = Lib.byteCells s.data.toList := rfl
/-- A builder that holds a text's bytes. -/
def BldIs (B b : Nat) (s : ByteArray) (w : World) : Prop := Lib.IsBuilder 119 5 B b (Lib.byteCells s.data.toList) w
theorem BldIs.new (w : World) : BldIs w.heap.size w.heap.size ⟨#[]⟩ (w.alloc (.cells #[.pointer none, .slice none 0 0] 119)) := Lib.fresh_isBuilder _ _ w
theorem bldWrite (B b : Nat) (t s : ByteArray) (w : World) (h : BldIs B b t w) (hl : t.size + s.size ≤ 140737488355328) (hB : B ≤ w.heap.size) :
    Calls Tryz.prog 88 #[.pointer (some ⟨b, 0, none⟩), .string s] w fun e w' => e = .returned (.tuple #[.int .i64 s.size, .nilIface]) ∧ BldIs B b (t ++ s) w' ∧ Below B w w' := by
  refine (bld_write B b _ s w h (by rw [Lib.byteCells_length]; simpa using hl) hB).mono ?_
  rintro e w' ⟨rfl, h1, h2⟩
  refine ⟨rfl, .inr ?_, h2⟩
  rw [strCells_bytes] at h1
  rw [show (t ++ s).data.toList = t.data.toList ++ s.data.toList by simp, Lib.byteCells, List.map_append]
  exact h1
theorem bldString (B b : Nat) (t : ByteArray) (w : World) (h : BldIs B b t w) (hB : B ≤ w.heap.size) :
    Calls Tryz.prog 90 #[.pointer (some ⟨b, 0, none⟩)] w fun e w' => e = .returned (.string t) ∧ Below B w w' := by
  refine (Tryz.Builder_String_any B b t.data.toList w h hB).mono ?_
  rintro e w' ⟨rfl, h2⟩
  exact ⟨by simp, h2⟩
end Go.Proofs.YtklhkdihokgpeaaGreatDoor
namespace Go.Proofs.YtklhkdihokgpeaaGreatDoor
open Go.RowKit

theorem BldIs.below {B b : Nat} {s : ByteArray} {w w' : World} (h : BldIs B b s w) (hb : Below w.heap.size w w') : BldIs B b s w' := by
  have key : ∀ p, Lib.BuilderAt 119 5 B b p (Lib.byteCells s.data.toList) w → Lib.BuilderAt 119 5 B b p (Lib.byteCells s.data.toList) w' := by
    rintro p hp
    have hlt := hp.lt
    obtain ⟨h1, v, h2, h3, h4⟩ := hp
    exact ⟨h1, v, by rw [hb.block b hlt]; exact h2, own_below' h3 hb, h4⟩
  exact h.imp (key _) (key _)
theorem BldIs.lt {B b : Nat} {s : ByteArray} {w : World} (h : BldIs B b s w) : B ≤ b ∧ b < w.heap.size := by
  rcases h with h | h
  · exact ⟨h.1, h.lt⟩
  · exact ⟨h.1, h.lt⟩
set_option maxHeartbeats 4000000 in
set_option maxRecDepth 20000 in
theorem faceText_i (word : ByteArray) (hw : word.size ≤ 6) (x : Fa) (cs : List Value) (w : World) (g : GoodF x) (hcs : D.Ats w anyB x.ds cs) :
    Calls Tryz.prog 59 #[.string word, .agg cs.toArray] w fun e w' => e = .returned (.string (faceB word x)) ∧ Below w.heap.size w w' := by
  obtain ⟨AO, cO, AF, cF, rfl, -, -, -, hO, hF⟩ := Fa.open_ hcs
  obtain ⟨-, hnO, hcO⟩ := rows_bound hO
  obtain ⟨-, hnF, hcF⟩ := rows_bound hF
  unfold maxLen at hcO hcF
  have hp1 := g.sz.pkg
  have hp2 := g.sz.name
  have hp3 := g.sz.ver
  have HG := Lib.hid g
  obtain ⟨w0, hw0⟩ : ∃ w0, w0 = (w.alloc (.cells #[.string x.pkg, .string x.name, .string x.ver, .slice AO x.owns.length cO, .slice AF x.funcs.length cF] 30)).alloc (.cells #[.pointer none, .slice none 0 0] 119) := ⟨_, rfl⟩
  have bA : Box w0 w.heap.size 30 [.string x.pkg, .string x.name, .string x.ver, .slice AO x.owns.length cO, .slice AF x.funcs.length cF] := by rw [hw0]; exact (Box.new w _ _).alloc _
  have B0 : Below w.heap.size w w0 := by rw [hw0]; exact ((Below.refl _ _).alloc (Nat.le_refl _) _).alloc (by simp) _
  have K0 : BldIs (w.heap.size + 1) (w.heap.size + 1) ⟨#[]⟩ w0 := by
    rw [hw0]
    have := BldIs.new (w.alloc (.cells #[.string x.pkg, .string x.name, .string x.ver, .slice AO x.owns.length cO, .slice AF x.funcs.length cF] 30))
    simpa using this
  have HR := Lib.hid (And.intro hO hF)
  have HK := Lib.hid K0
  have HB := Lib.hid (And.intro B0 bA)
  have hsz := K0.lt.2
  clear hcs hO hF g
  change Calls Tryz.prog 59 #[.string word, .agg #[.string x.pkg, .string x.name, .string x.ver, .slice AO x.owns.length cO, .slice AF x.funcs.length cF]] w _
  go_enter Tryz.func59, Tryz.ntmps59
  go_upto_region 2 with fail
  rw [← hw0]
  have kA := bA.cell
  clear hw0 bA B0 K0
  have HH := Lib.hid (show (⟨#[]⟩ : ByteArray) ++ (word ++ ⟨#[32]⟩ ++ x.pkg ++ ⟨#[47]⟩ ++ x.name ++ ⟨#[64]⟩ ++ x.ver ++ ⟨#[10]⟩) = ownsTo word x 0 by rw [ownsTo_zero, nil_cat]; rfl)
  have hhs := headB_size hw HG.out.sz
  obtain ⟨HD, hHD⟩ : ∃ HD, word ++ ⟨#[32]⟩ ++ x.pkg ++ ⟨#[47]⟩ ++ x.name ++ ⟨#[64]⟩ ++ x.ver ++ ⟨#[10]⟩ = HD := ⟨_, rfl⟩
  have HHD := Lib.hid hHD
  rw [show headB word x = HD from hHD] at hhs
  rw [hHD] at HH
  clear hHD
  have hz0 : (⟨#[]⟩ : ByteArray).size + HD.size ≤ 140737488355328 := by
    have e : (⟨#[]⟩ : ByteArray).size = 0 := rfl
    omega
  have HW := Lib.hid (bldWrite (w.heap.size + 1) (w.heap.size + 1) ⟨#[]⟩ HD _ HK.out hz0 (by omega))
  clear hz0
  go_wp2_with fail
  rw [HHD.out]
  refine HW.out.mono ?_
  rintro e w1 ⟨rfl, h1, b1⟩
  have HB1 := Lib.hid (And.intro (HB.out.1.trans (b1.mono (Nat.le_succ _))) (HB.out.2.under' b1 (Nat.lt_succ_self _)))
  rw [HH.out] at h1
  have HK1 := Lib.hid h1
  clear kA h1 b1
  have kA := HB1.out.2.cell
  go_wp2
  go_loopw [7, 28] (fun _ i wr => ∃ k : Nat, k ≤ x.owns.length ∧ i = .int .i64 k ∧ BldIs (w.heap.size + 1) (w.heap.size + 1) (ownsTo word x k) wr ∧ Below w.heap.size w wr ∧ Box wr w.heap.size 30 [.string x.pkg, .string x.name, .string x.ver, .slice AO x.owns.length cO, .slice AF x.funcs.length cF]) (fun _ i _ => x.owns.length - (intOf i).toNat)
  case atStart => exact ⟨0, Nat.zero_le _, rfl, HK1.out, HB1.out⟩
  clear kA
  case round =>
    obtain ⟨k, hk, rfl, hK, hb, bA⟩ := hrel
    have HKk := Lib.hid hK
    have hlt2 := hK.lt.2
    have kA := bA.cell
    by_cases hlt : k < x.owns.length
    · obtain ⟨s, hs⟩ : ∃ s, x.owns[k]? = some s := ⟨x.owns[k], List.getElem?_eq_getElem hlt⟩
      have hm0 : (0 : Int) ≤ (k : Int) := by omega
      have hm1 : (k : Int) < (x.owns.length : Int) := by omega
      obtain ⟨b', off', u0, e, -, -, hat, c0⟩ := rows_at1 strD_length (HR.out.1.below hb) hs
      subst e
      obtain ⟨rfl, -⟩ := str_open hat
      have hss := HG.out.sz.owns s (List.mem_of_getElem? hs)
      have hos := ownB_size hss
      have hts := ownsTo_size hw HG.out k
      have HN := Lib.hid (show ownsTo word x k ++ ownB s = ownsTo word x (k + 1) from (ownsTo_next hs).symm)
      obtain ⟨HD2, hHD⟩ : ∃ HD2, (⟨#[32, 32, 114, 101, 115, 111, 117, 114, 99, 101, 32]⟩ : ByteArray) ++ s ++ ⟨#[10]⟩ = HD2 := ⟨_, rfl⟩
      have HHD2 := Lib.hid hHD
      rw [show ownB s = HD2 from hHD] at hos HN
      clear hs hat hHD hK
      have HW := Lib.hid (bldWrite (w.heap.size + 1) (w.heap.size + 1) (ownsTo word x k) HD2 _ HKk.out (by omega) (by omega))
      go_wp2_with fail
      rw [HHD2.out]
      refine HW.out.mono ?_
      rintro e w2 ⟨rfl, h2, b2⟩
      have HB2 := Lib.hid (And.intro (hb.trans (b2.mono (Nat.le_succ _))) (bA.under' b2 (Nat.lt_succ_self _)))
      rw [HN.out] at h2
      have HK2 := Lib.hid h2
      clear kA h2 b2 hb bA c0
      go_wp2
      go_roundw
      case rel => exact ⟨k + 1, by omega, by go_num, HK2.out, HB2.out⟩
      case measure => simp [intOf]; omega
    · obtain rfl : k = x.owns.length := by omega
      obtain ⟨W2, hW2⟩ : ∃ W2, W2 = wr := ⟨_, rfl⟩
      rw [← hW2] at hb bA kA hK ⊢
      clear hW2 HKk
      have HB2 := Lib.hid (And.intro hb bA)
      rw [ownsTo_end] at hK
      have HK2 := Lib.hid hK
      clear hb bA hK
      go_wp2
      go_loopw [9, 40] (fun _ i wr => ∃ k : Nat, k ≤ x.funcs.length ∧ i = .int .i64 k ∧ BldIs (w.heap.size + 1) (w.heap.size + 1) (funsTo word x k) wr ∧ Below w.heap.size w wr ∧ Box wr w.heap.size 30 [.string x.pkg, .string x.name, .string x.ver, .slice AO x.owns.length cO, .slice AF x.funcs.length cF]) (fun _ i _ => x.funcs.length - (intOf i).toNat)
      case atStart => exact ⟨0, Nat.zero_le _, rfl, HK2.out, HB2.out⟩
      clear kA
      case round =>
        obtain ⟨k, hk, rfl, hK, hb, bA⟩ := hrel
        have HKk := Lib.hid hK
        have hlt2 := hK.lt.2
        by_cases hlt : k < x.funcs.length
        · obtain ⟨u, hs⟩ : ∃ u, x.funcs[k]? = some u := ⟨x.funcs[k], List.getElem?_eq_getElem hlt⟩
          have hm0 : (0 : Int) ≤ (k : Int) := by omega
          have hm1 : (k : Int) < (x.funcs.length : Int) := by omega
          obtain ⟨b', off', u0, u1, u2, u3, u4, u5, u6, e, -, -, hat, c0, c1, c2, c3, c4, c5, c6⟩ := rows_at7 Fu.len (HR.out.2.below hb) hs
          subst e
          obtain ⟨y0, y1, y2, y3, y4, y5, y6, y7, y8, y9, y10, y11, exx, -, hatx⟩ := Fu.open_ hat
          simp only [List.cons.injEq, and_true] at exx
          obtain ⟨rfl, rfl, rfl, rfl, rfl, rfl, rfl⟩ := exx
          have hss := HG.out.sz.funcs u (List.mem_of_getElem? hs)
          have hus := hss.1
          have hft := fnT_size hss.2
          have hos := funB_size hss
          have hts := funsTo_size hw HG.out k
          have HN := Lib.hid (show funsTo word x k ++ funB u = funsTo word x (k + 1) from (funsTo_next hs).symm)
          have hok := HG.out.ok u (List.mem_of_getElem? hs)
          have hwW : Below wr.heap.size wr (wr.alloc (.cells #[.string u.name, .slice y0 y1 y2, .int .i64 y3, .string y4, .slice y5 y6 y7, .slice y8 y9 y10, .bool y11] 66)).drew := ((Below.refl _ _).alloc (Nat.le_refl _) _).drew
          have HC := Lib.hid (funcText_i u.ty _ (wr.alloc (.cells #[.string u.name, .slice y0 y1 y2, .int .i64 y3, .string y4, .slice y5 y6 y7, .slice y8 y9 y10, .bool y11] 66)).drew (hatx.below hwW) hok hss.2)
          have KD := hK.below hwW
          have hsd : w.heap.size + 1 ≤ (wr.alloc (.cells #[.string u.name, .slice y0 y1 y2, .int .i64 y3, .string y4, .slice y5 y6 y7, .slice y8 y9 y10, .bool y11] 66)).drew.heap.size := by simp; omega
          have bP : Box (wr.alloc (.cells #[.string u.name, .slice y0 y1 y2, .int .i64 y3, .string y4, .slice y5 y6 y7, .slice y8 y9 y10, .bool y11] 66)).drew wr.heap.size 66 [.string u.name, .slice y0 y1 y2, .int .i64 y3, .string y4, .slice y5 y6 y7, .slice y8 y9 y10, .bool y11] := Box.new wr _ _
          obtain ⟨R, hR⟩ : ∃ R, fnT u.ty = R := ⟨_, rfl⟩
          have HFB := Lib.hid (show (⟨#[32, 32]⟩ : ByteArray) ++ u.name ++ ⟨#[58, 32]⟩ ++ R ++ ⟨#[10]⟩ = funB u by rw [← hR]; rfl)
          rw [hR] at HC hft
          have hq1 : ¬ 9223372036854775807 < 2 + u.name.size := by omega
          have hq2 : ¬ 9223372036854775807 < 2 + u.name.size + 2 := by omega
          have hq3 : ¬ 9223372036854775807 < 2 + u.name.size + 2 + R.size := by omega
          have hq4 : ¬ 9223372036854775807 < 2 + u.name.size + 2 + R.size + 1 := by omega
          obtain ⟨FB, hFB⟩ : ∃ FB, funB u = FB := ⟨_, rfl⟩
          rw [hFB] at HFB HN hos
          have HBD := Lib.hid (And.intro (hb.trans (hwW.mono hb.size)) (bA.call hwW))
          clear hs hat hatx hss hok hR hFB hK hb bA
          go_upto_region 11 with fail
          go_region_law (first
            | (go_simp; go_at_call 89; ((refine HC.out.mono ?_); rintro e w3 ⟨rfl, hb3⟩; have K3 := KD.below hb3; have hbs3 : w.heap.size + 1 ≤ w3.heap.size := Nat.le_trans hsd hb3.size; have c9 := (Box.call bP hb3).cell))
            | (go_simp; go_at_call 88; rw [HFB.out]; ((refine (bldWrite (w.heap.size + 1) (w.heap.size + 1) (funsTo word x k) FB _ K3 (by omega) hbs3).mono ?_); rintro e w4 ⟨rfl, h4, b4⟩)))
          all_goals
            have B3 := HBD.out.1.trans (hb3.mono HBD.out.1.size)
            have f3 := HBD.out.2.call hb3
            have HB4 := Lib.hid (And.intro (B3.trans (b4.mono (Nat.le_succ _))) (f3.under' b4 (Nat.lt_succ_self _)))
            rw [HN.out] at h4
            have HK4 := Lib.hid h4
            clear B3 f3 h4 b4 hb3 K3 c9 hbs3 KD bP hsd hwW c0 c1 c2 c3 c4 c5 c6
            go_wp2
            go_roundw
            case rel => exact ⟨k + 1, by omega, by go_num, HK4.out, HB4.out⟩
            case measure => simp [intOf]; omega
        · obtain rfl : k = x.funcs.length := by omega
          rw [funsTo_end] at hK
          have HKe := Lib.hid hK
          clear HKk
          have HW := Lib.hid (bldString (w.heap.size + 1) (w.heap.size + 1) (faceB word x) _ HKe.out (by omega))
          go_wp2_with fail
          refine HW.out.mono ?_
          rintro e w2 ⟨rfl, b2⟩
          have HB3 := Lib.hid (hb.trans (b2.mono (Nat.le_succ _)))
          clear b2 hb
          go_wp2
          go_ret
          exact ⟨rfl, HB3.out⟩
end Go.Proofs.YtklhkdihokgpeaaGreatDoor
namespace Go.Proofs.YtklhkdihokgpeaaGreatDoor
open Go.RowKit

theorem cat_nil (b : ByteArray) : b ++ (⟨#[]⟩ : ByteArray) = b := ByteArray.ext (by simp)
def headW (x : Wo) : ByteArray := (⟨#[119, 111, 114, 108, 100, 32]⟩ : ByteArray) ++ x.pkg ++ ⟨#[47]⟩ ++ x.name ++ ⟨#[64]⟩ ++ x.ver ++ ⟨#[10]⟩
theorem headW_size {x : Wo} (h : x.pkg.size ≤ 1048576 ∧ x.name.size ≤ 1048576 ∧ x.ver.size ≤ 1048576) : (headW x).size ≤ 4000000 := by
  obtain ⟨h1, h2, h3⟩ := h
  have z0 : (⟨#[119, 111, 114, 108, 100, 32]⟩ : ByteArray).size = 6 := rfl
  have z1 : (⟨#[47]⟩ : ByteArray).size = 1 := rfl
  have z2 : (⟨#[64]⟩ : ByteArray).size = 1 := rfl
  have z3 : (⟨#[10]⟩ : ByteArray).size = 1 := rfl
  unfold headW
  simp only [ByteArray.size_append]
  omega
theorem Wo.sizes {x : Wo} (h : D.totals x.ds ≤ 1048576) : x.pkg.size ≤ 1048576 ∧ x.name.size ≤ 1048576 ∧ x.ver.size ≤ 1048576 := by
  have e : D.totals x.ds = x.pkg.size + (x.name.size + (x.ver.size + ((rows Fa.ds 5 x.imps).total + ((rows Fa.ds 5 x.exps).total + 0)))) := rfl
  omega
theorem world_faces {x : Wo} (h : worldOk x = true) : facesOk x.imps = true ∧ facesOk x.exps = true := by
  unfold worldOk at h
  simp only [Bool.and_eq_true] at h
  exact h.2.2.2
theorem facesB_all {word : ByteArray} {l : List Fa} (hw : word.size ≤ 6) (h : facesOk l = true) (ht : ∀ f ∈ l, D.totals f.ds ≤ 1048576) : (facesB word l).size ≤ 15600000000 := by
  have g := good_all h ht
  have := facesB_size hw g.1 g.2 l.length
  rwa [List.take_length] at this
set_option maxHeartbeats 4000000 in
set_option maxRecDepth 20000 in
theorem worldText_s (x : Wo) (cs : List Value) (w : World) (hcs : D.Ats w anyB x.ds cs) (ht : D.totals x.ds ≤ 1048576) :
    Calls Tryz.prog 23 #[.agg cs.toArray] w fun e w' => e = .returned (.string (worldT x)) ∧ Below w.heap.size w w' := by
  have HX := Lib.hid hcs
  obtain ⟨AI, cI, AE, cE, rfl, -, -, -, hI, hE⟩ := Wo.open_ hcs
  have HR := Lib.hid (And.intro hI hE)
  have HT := Lib.hid (Wo.bounds ht)
  obtain ⟨hp1, hp2, hp3⟩ := Wo.sizes ht
  obtain ⟨w0, hw0⟩ : ∃ w0, w0 = w.alloc (.cells #[.string x.pkg, .string x.name, .string x.ver, .slice AI x.imps.length cI, .slice AE x.exps.length cE] 41) := ⟨_, rfl⟩
  have bA : Box w0 w.heap.size 41 [.string x.pkg, .string x.name, .string x.ver, .slice AI x.imps.length cI, .slice AE x.exps.length cE] := by rw [hw0]; exact Box.new w _ _
  have B0 : Below w.heap.size w w0 := by rw [hw0]; exact (Below.refl _ _).alloc (Nat.le_refl _) _
  clear hcs hI hE ht
  change Calls Tryz.prog 23 #[.agg #[.string x.pkg, .string x.name, .string x.ver, .slice AI x.imps.length cI, .slice AE x.exps.length cE]] w _
  have kA := bA.cell
  go_enter Tryz.func23, Tryz.ntmps23
  go_upto_region 1 with fail
  rw [← hw0]
  clear hw0
  go_wp2_with fail
  refine (l07WorldOk_s x _ _ (HX.out.below B0)).mono ?_
  rintro e w1 ⟨rfl, hb1⟩
  have B1 := B0.trans (hb1.mono B0.size)
  have bA1 := bA.call hb1
  clear kA hb1
  cases o1 : worldOk x
  · have HV := Lib.hid (show worldT x = ⟨#[]⟩ by unfold worldT; rw [o1]; rfl)
    clear o1
    go_wp2
    exact bodyPost_ret (v := .string ⟨#[]⟩) (by simp [results, Tryz.results23, go_sem]) rfl ⟨by rw [HV.out], B1⟩
  · have HO := Lib.hid (world_faces o1)
    have HV := Lib.hid (show worldT x = headW x ++ facesB wordI x.imps ++ facesB wordE x.exps by unfold worldT; rw [o1]; rfl)
    have hs1 := facesB_all (word := wordI) (by decide) HO.out.1 HT.out.2.1
    have hs2 := facesB_all (word := wordE) (by decide) HO.out.2 HT.out.2.2
    have H1 := Lib.hid (fun W (G : Below w1.heap.size w1 W) => l07FacesText_s wordI (by decide) x.imps AI cI W HO.out.1 HT.out.2.1 ((HR.out.1.below B1).below G))
    have H2 := Lib.hid (fun W (G : Below w1.heap.size w1 W) => l07FacesText_s wordE (by decide) x.exps AE cE W HO.out.2 HT.out.2.2 ((HR.out.2.below B1).below G))
    obtain ⟨TI, hTI⟩ : ∃ TI, facesB wordI x.imps = TI := ⟨_, rfl⟩
    obtain ⟨TE, hTE⟩ : ∃ TE, facesB wordE x.exps = TE := ⟨_, rfl⟩
    obtain ⟨RT, hRT⟩ : ∃ RT, worldT x = RT := ⟨_, rfl⟩
    rw [hTI] at hs1 H1 HV
    rw [hTE] at hs2 H2 HV
    rw [hRT] at HV
    unfold headW at HV
    unfold wordI at H1
    unfold wordE at H2
    have kA := bA1.cell
    have g0 := cell_regrown (show w1.cell? ⟨w.heap.size, 0, none⟩ = some (.string x.pkg) from kA 0)
    have g1 := cell_regrown (show w1.cell? ⟨w.heap.size, 1, none⟩ = some (.string x.name) from kA 1)
    have g2 := cell_regrown (show w1.cell? ⟨w.heap.size, 2, none⟩ = some (.string x.ver) from kA 2)
    have g3 := cell_regrown (show w1.cell? ⟨w.heap.size, 3, none⟩ = some (.slice AI x.imps.length cI) from kA 3)
    have g4 := cell_regrown (show w1.cell? ⟨w.heap.size, 4, none⟩ = some (.slice AE x.exps.length cE) from kA 4)
    clear kA o1 hTI hTE
    go_wp2_with fail
    refine wp_region_quiet_below (by kernel_rfl) (by kernel_rfl) ?_
    repeat (first | go_big_quiet_step (first | with_reducible exact Calls.regrown_of (H1.out _ (below_regrown _ _ _)) | with_reducible exact Calls.regrown_of (H2.out _ (below_regrown _ _ _))) | quiet_step (first | with_reducible exact Calls.regrown_of (H1.out _ (below_regrown _ _ _)) | with_reducible exact Calls.regrown_of (H2.out _ (below_regrown _ _ _))))
    refine wpQuiet_nil ?_
    intro w3 hw3
    have hb3 := B1.trans ((below_of_regrown hw3).mono B1.size)
    clear hw3 g0 g1 g2 g3 g4
    go_wp2
    go_ret
    exact ⟨ret_eq (by rw [hRT, HV.out]; try rfl), hb3⟩
set_option maxHeartbeats 4000000 in
set_option maxRecDepth 20000 in
theorem worldText_i (x : Wo) (cs : List Value) (w : World) (hv : VerW w) (hcs : D.Ats w anyB x.ds cs) (ht : D.totals x.ds ≤ 1048576) :
    Calls Tryz.prog 24 #[.agg cs.toArray] w fun e w' => e = .returned (.string (worldT x)) ∧ Below w.heap.size w w' := by
  have HX := Lib.hid hcs
  obtain ⟨AI, cI, AE, cE, rfl, -, -, -, hI, hE⟩ := Wo.open_ hcs
  obtain ⟨-, hnI, hcI⟩ := rows_bound hI
  obtain ⟨-, hnE, hcE⟩ := rows_bound hE
  unfold maxLen at hcI hcE
  have HR := Lib.hid (And.intro hI hE)
  have HT := Lib.hid (Wo.bounds ht)
  have HTT := Lib.hid ht
  have HVW := Lib.hid hv
  have hsz := Wo.sizes ht
  have hhs := headW_size hsz
  obtain ⟨hp1, hp2, hp3⟩ := hsz
  obtain ⟨w0, hw0⟩ : ∃ w0, w0 = w.alloc (.cells #[.string x.pkg, .string x.name, .string x.ver, .slice AI x.imps.length cI, .slice AE x.exps.length cE] 41) := ⟨_, rfl⟩
  have bA : Box w0 w.heap.size 41 [.string x.pkg, .string x.name, .string x.ver, .slice AI x.imps.length cI, .slice AE x.exps.length cE] := by rw [hw0]; exact Box.new w _ _
  have B0 : Below w.heap.size w w0 := by rw [hw0]; exact (Below.refl _ _).alloc (Nat.le_refl _) _
  clear hcs hI hE ht hv
  change Calls Tryz.prog 24 #[.agg #[.string x.pkg, .string x.name, .string x.ver, .slice AI x.imps.length cI, .slice AE x.exps.length cE]] w _
  have kA := bA.cell
  go_enter Tryz.func24, Tryz.ntmps24
  go_upto_region 1 with fail
  rw [← hw0]
  clear hw0
  go_wp2_with fail
  refine (worldOk_i x _ _ (HVW.out.below B0) (HX.out.below B0) HTT.out).mono ?_
  rintro e w1 ⟨rfl, hb1⟩
  have B1 := B0.trans (hb1.mono B0.size)
  have bA1 := bA.call hb1
  clear kA hb1
  have kA := bA1.cell
  cases o1 : worldOk x
  · have HV := Lib.hid (show worldT x = ⟨#[]⟩ by unfold worldT; rw [o1]; rfl)
    clear o1
    go_wp2
    exact bodyPost_ret (v := .string ⟨#[]⟩) (by simp [results, Tryz.results24, go_sem]) rfl ⟨by rw [HV.out], B1⟩
  · have HO := Lib.hid (world_faces o1)
    have HV := Lib.hid (show worldT x = headW x ++ facesB wordI x.imps ++ facesB wordE x.exps by unfold worldT; rw [o1]; rfl)
    have HH := Lib.hid (show (⟨#[119, 111, 114, 108, 100, 32]⟩ : ByteArray) ++ x.pkg ++ ⟨#[47]⟩ ++ x.name ++ ⟨#[64]⟩ ++ x.ver ++ ⟨#[10]⟩ = headW x ++ facesB wordI (x.imps.take 0) from (cat_nil _).symm)
    have HB1 := Lib.hid (And.intro B1 bA1)
    have HPS := Lib.hid (show (headW x).size ≤ 20000000000 by omega)
    clear o1 B0 B1 bA bA1
    go_wp2
    go_loopw [3, 5, 26] (fun t _ i wr => ∃ (k : Nat) (P : ByteArray), k ≤ x.imps.length ∧ i = .int .i64 k ∧ t = .string P ∧ P = headW x ++ facesB wordI (x.imps.take k) ∧ Below w.heap.size w wr ∧ Box wr w.heap.size 41 [.string x.pkg, .string x.name, .string x.ver, .slice AI x.imps.length cI, .slice AE x.exps.length cE]) (fun _ _ i _ => x.imps.length - (intOf i).toNat)
    case atStart => exact ⟨0, _, Nat.zero_le _, rfl, rfl, HH.out, HB1.out⟩
    clear kA
    case round =>
      obtain ⟨k, P, hk, rfl, rfl, hP, hb, bA⟩ := hrel
      have hPs : P.size ≤ 40000000000 := by
        have h1 := facesB_size (word := wordI) (by decide) (good_all HO.out.1 HT.out.2.1).1 (good_all HO.out.1 HT.out.2.1).2 k
        have h2 := HPS.out
        rw [hP, ByteArray.size_append]
        omega
      have HP := Lib.hid hP
      have kA := bA.cell
      clear hP
      by_cases hlt : k < x.imps.length
      · obtain ⟨f, hf⟩ : ∃ f, x.imps[k]? = some f := ⟨x.imps[k], List.getElem?_eq_getElem hlt⟩
        have hm0 : (0 : Int) ≤ (k : Int) := by omega
        have hm1 : (k : Int) < (x.imps.length : Int) := by omega
        obtain ⟨b', off', u0, u1, u2, u3, u4, e, -, hbl, hat, d0, d1, d2, d3, d4⟩ := rows_at5 Fa.len (HR.out.1.below hb) hf
        subst e
        obtain ⟨AO, cO, AF, cF, exx, -, -, -, -, -⟩ := Fa.open_ hat
        simp only [List.cons.injEq, and_true] at exx
        obtain ⟨rfl, rfl, rfl, rfl, rfl⟩ := exx
        have hg := (good_all HO.out.1 HT.out.2.1).2 f (List.mem_of_getElem? hf)
        have hfs : (faceB wordI f).size ≤ 2600000000 := by
          rw [← funsTo_end]
          exact funsTo_size (by decide) hg _
        have HN := Lib.hid (show P ++ faceB wordI f = headW x ++ facesB wordI (x.imps.take (k + 1)) by rw [facesB_next hf, HP.out, ByteArray.append_assoc])
        have hwW : Below wr.heap.size wr (wr.alloc (.cells #[.string f.pkg, .string f.name, .string f.ver, .slice AO f.owns.length cO, .slice AF f.funcs.length cF] 30)) := (Below.refl _ _).alloc (Nat.le_refl _) _
        have HF := Lib.hid (faceText_i wordI (by decide) f _ _ hg (hat.below hwW))
        have HBW := Lib.hid (And.intro (hb.trans (hwW.mono hb.size)) (bA.call hwW))
        obtain ⟨FT, hFT⟩ : ∃ FT, faceB wordI f = FT := ⟨_, rfl⟩
        rw [hFT] at hfs HN HF
        clear hf hat hg hFT hb bA hwW
        go_wp2_with fail
        refine HF.out.mono ?_
        rintro e w2 ⟨rfl, b2⟩
        have HB2 := Lib.hid (And.intro (HBW.out.1.trans (b2.mono HBW.out.1.size)) (HBW.out.2.call b2))
        clear kA b2 d0 d1 d2 d3 d4
        go_wp2
        go_roundw
        case rel => exact ⟨k + 1, _, by omega, by go_num, rfl, HN.out, HB2.out⟩
        case measure => simp [intOf]; omega
      · obtain rfl : k = x.imps.length := by omega
        have HP2 := Lib.hid (show P = headW x ++ facesB wordI x.imps by rw [HP.out, List.take_length])
        have HP3 := Lib.hid (show P = P ++ facesB wordE (x.exps.take 0) from (cat_nil _).symm)
        have HB2 := Lib.hid (And.intro hb bA)
        replace HPS := Lib.hid (show P.size ≤ 20000000000 by have h1 := facesB_all (word := wordI) (by decide) HO.out.1 HT.out.2.1; rw [HP2.out, ByteArray.size_append]; omega)
        obtain ⟨Q, hQ⟩ : ∃ Q, Q = P := ⟨_, rfl⟩
        rw [← hQ] at HP2 HP3 HPS ⊢
        clear hb bA hQ hPs HP
        go_wp2
        go_loopw [3, 7, 38] (fun t _ i wr => ∃ (k : Nat) (P : ByteArray), k ≤ x.exps.length ∧ i = .int .i64 k ∧ t = .string P ∧ P = Q ++ facesB wordE (x.exps.take k) ∧ Below w.heap.size w wr ∧ Box wr w.heap.size 41 [.string x.pkg, .string x.name, .string x.ver, .slice AI x.imps.length cI, .slice AE x.exps.length cE]) (fun _ _ i _ => x.exps.length - (intOf i).toNat)
        case atStart => exact ⟨0, _, Nat.zero_le _, rfl, rfl, HP3.out, HB2.out⟩
        clear kA
        case round =>
          obtain ⟨k, P, hk, rfl, rfl, hP, hb, bA⟩ := hrel
          have hPs : P.size ≤ 40000000000 := by
            have h1 := facesB_size (word := wordE) (by decide) (good_all HO.out.2 HT.out.2.2).1 (good_all HO.out.2 HT.out.2.2).2 k
            have h2 := HPS.out
            rw [hP, ByteArray.size_append]
            omega
          have HP := Lib.hid hP
          have kA := bA.cell
          clear hP
          by_cases hlt : k < x.exps.length
          · obtain ⟨f, hf⟩ : ∃ f, x.exps[k]? = some f := ⟨x.exps[k], List.getElem?_eq_getElem hlt⟩
            have hm0 : (0 : Int) ≤ (k : Int) := by omega
            have hm1 : (k : Int) < (x.exps.length : Int) := by omega
            obtain ⟨b', off', u0, u1, u2, u3, u4, e, -, hbl, hat, d0, d1, d2, d3, d4⟩ := rows_at5 Fa.len (HR.out.2.below hb) hf
            subst e
            obtain ⟨AO, cO, AF, cF, exx, -, -, -, -, -⟩ := Fa.open_ hat
            simp only [List.cons.injEq, and_true] at exx
            obtain ⟨rfl, rfl, rfl, rfl, rfl⟩ := exx
            have hg := (good_all HO.out.2 HT.out.2.2).2 f (List.mem_of_getElem? hf)
            have hfs : (faceB wordE f).size ≤ 2600000000 := by
              rw [← funsTo_end]
              exact funsTo_size (by decide) hg _
            have HN := Lib.hid (show P ++ faceB wordE f = Q ++ facesB wordE (x.exps.take (k + 1)) by rw [facesB_next hf, HP.out, ByteArray.append_assoc])
            have hwW : Below wr.heap.size wr (wr.alloc (.cells #[.string f.pkg, .string f.name, .string f.ver, .slice AO f.owns.length cO, .slice AF f.funcs.length cF] 30)) := (Below.refl _ _).alloc (Nat.le_refl _) _
            have HF := Lib.hid (faceText_i wordE (by decide) f _ _ hg (hat.below hwW))
            have HBW := Lib.hid (And.intro (hb.trans (hwW.mono hb.size)) (bA.call hwW))
            obtain ⟨FT, hFT⟩ : ∃ FT, faceB wordE f = FT := ⟨_, rfl⟩
            rw [hFT] at hfs HN HF
            clear hf hat hg hFT hb bA hwW
            go_wp2_with fail
            refine HF.out.mono ?_
            rintro e w2 ⟨rfl, b2⟩
            have HB2 := Lib.hid (And.intro (HBW.out.1.trans (b2.mono HBW.out.1.size)) (HBW.out.2.call b2))
            clear kA b2 d0 d1 d2 d3 d4
            go_wp2
            go_roundw
            case rel => exact ⟨k + 1, _, by omega, by go_num, rfl, HN.out, HB2.out⟩
            case measure => simp [intOf]; omega
          · obtain rfl : k = x.exps.length := by omega
            have HE := Lib.hid (show P = worldT x by rw [HP.out, List.take_length, HP2.out, HV.out])
            go_wp2
            go_ret
            exact ⟨ret_eq (by rw [HE.out]; try rfl), hb⟩
end Go.Proofs.YtklhkdihokgpeaaGreatDoor
namespace Go.Proofs.YtklhkdihokgpeaaGreatDoor
open Go.RowKit Go.ChangeShapes Go.WideShapes

theorem toWorld_cWorldText (x : Wo) (cs : List Value) (w : World) (h : D.Ats w anyB x.ds cs) (ht : D.totals x.ds ≤ 1048576) : Calls Tryz.prog 14 #[.agg cs.toArray] w (RetDs x.ds w) := toWorld_w x cs w h ht
theorem eqWorld_cWorldText (x y : Wo) (cs cs' : List Value) (w : World) (h : D.Ats w anyB x.ds cs) (h' : D.Ats w anyB y.ds cs') :
    Calls Tryz.prog 16 #[.agg cs.toArray, .agg cs'.toArray] w fun e w' => e = .returned (.bool (Wo.same x y)) ∧ Below w.heap.size w w' := eqWorld_w x y cs cs' w h h'

set_option maxHeartbeats 2000000 in
set_option maxRecDepth 20000 in
theorem law_FnExactWorldText {H : Type} {enc : TypeId × Value → H} {b0 : Nat} {w : World} (v : Value) (d : DataW H) (p : List MemPlace) (hv : Value.okWide Tryz.prog w .any b0 36 v)
    (h : DataW.Trod enc Tryz.prog w 0 (fun _ => true) true 36 v d p) (ht : VerW w) :
    Calls Tryz.prog 6 #[v] w fun e w' => e = .returned (.bool true) ∧ Below w.heap.size w w' := by
  obtain ⟨cs, X, rfl, hx⟩ := World_arg hv h
  clear hv h
  have HVW := Lib.hid ht
  clear ht
  obtain ⟨k0, k1, k2, k3, k4, k5, k6, k7, k8, rfl⟩ := Wo.form hx
  have HX := Lib.hid hx
  clear hx
  go_enter Tryz.func6, Tryz.ntmps6
  go_wp2_with fail
  refine (szWorld_w X _ _ _ (HX.out.below (by repeat (first | exact Below.refl _ _ | refine Below.alloc ?_ (by first | omega | (simp <;> omega)) _))) (by omega) (by omega)).mono ?_
  rintro e w1 ⟨rfl, hb1⟩
  obtain ⟨B1, bA⟩ := box1 (cA := [_, _, _, _, _]) hb1
  clear hb1
  by_cases hle : (D.totals X.ds : Int) ≤ 1048576
  · rw [left_yes hle]
    have hg : ¬ (1048576 - (D.totals X.ds : Int) < 0) := by omega
    have HPP := Lib.hid (show D.totals X.ds ≤ 1048576 by omega)
    have c := bA.cell
    go_wp2_with fail
    refine (toWorld_w X _ _ (HX.out.below B1) (by omega)).mono ?_
    rintro e w2 ⟨cs2, rfl, hcs2, hb2⟩
    obtain ⟨z0, z1, z2, z3, z4, z5, z6, z7, z8, rfl⟩ := Wo.form hcs2
    have B2 := B1.trans (hb2.mono B1.size)
    replace bA := bA.call hb2
    have q2 := Lib.hid (show D.Ats w2 anyB X.ds _ from hcs2.weaken (fun _ _ => trivial))
    clear c hb2 hcs2
    have c := bA.cell
    go_wp2_with fail
    refine (worldText_s X _ _ q2.out HPP.out).mono ?_
    rintro e w3 ⟨rfl, hb3⟩
    have B3 := B2.trans (hb3.mono B2.size)
    replace bA := bA.call hb3
    clear c hb3 q2
    obtain ⟨R, hR⟩ : ∃ R, worldT X = R := ⟨_, rfl⟩
    rw [hR]
    have HR := Lib.hid hR
    clear hR
    have c := bA.cell
    go_wp2_with fail
    refine (toWorld_w X _ _ (HX.out.below B3) (by omega)).mono ?_
    rintro e w4 ⟨cs4, rfl, hcs4, hb4⟩
    obtain ⟨y0, y1, y2, y3, y4, y5, y6, y7, y8, rfl⟩ := Wo.form hcs4
    have B4 := B3.trans (hb4.mono B3.size)
    replace bA := bA.call hb4
    have q4 := hcs4.weaken (S' := anyB) (fun _ _ => trivial)
    have Q4 := Lib.hid q4
    clear c hb4 hcs4 q4
    have c := bA.cell
    have lA := bA.lt
    go_wp2_with fail
    refine (worldText_i X _ _ (HVW.out.below (B4.alloc B4.size _)) (Q4.out.below ((Below.refl _ _).alloc (Nat.le_refl _) _)) HPP.out).mono ?_
    rintro e w5 ⟨rfl, hb5⟩
    have bC : Box w5 w4.heap.size 41 [.string y0, .string y1, .string y2, .slice y3 y4 y5, .slice y6 y7 y8] := (Box.new w4 _ _).call hb5
    have B5 := (B4.alloc B4.size _).trans (hb5.mono (Nat.le_trans B4.size (by simp)))
    replace bA := (bA.alloc _).call hb5
    have Q5 := Lib.hid ((Q4.out.below ((Below.refl _ _).alloc (Nat.le_refl _) _)).below hb5)
    clear c hb5 Q4 lA B4
    rw [HR.out]
    have hne : (R.toList != R.toList) = false := by simp
    have c := bA.cell
    have f := bC.cell
    have q5d : D.Ats w5.drew anyB X.ds _ := Q5.out.drew
    go_upto_region 10 with fail
    go_cut [26] (fun s wx => s = .bool false ∧ Below w.heap.size w wx)
    case first =>
      go_region_with (first
        | (go_at_call 14; ((with_reducible refine (toWorld_cWorldText X _ _ (HX.out.below B5.drew) (by omega)).mono ?_); rintro e w8 ⟨cs8, rfl, hcs8, hb8⟩; have q8 : D.Ats w8 anyB X.ds cs8 := hcs8.weaken (fun _ _ => trivial); have f8 := (Box.call (w := w5.drew) bC hb8).cell))
        | (go_at_call 16; ((with_reducible refine (eqWorld_cWorldText X X _ _ _ (q5d.below hb8) q8).mono ?_); rintro e w9 ⟨rfl, hb9⟩)))
      all_goals
        have fin := Lib.hid (show Below w.heap.size w w9 from (B5.drew.trans (hb8.mono B5.size)).trans (hb9.mono (B5.drew.trans (hb8.mono B5.size)).size))
        have hrf := Wo.same_refl X
        go_wp2_with fail
        go_meet
        exact ⟨by rw [hrf]; rfl, fin.out⟩
    case rest =>
      obtain ⟨rfl, B9⟩ := hcut
      go_wp2
      go_ret
      exact ⟨rfl, B9⟩
  · rw [left_no hle]
    go_wp2
    go_ret
    exact ⟨rfl, B1⟩
end Go.Proofs.YtklhkdihokgpeaaGreatDoor
