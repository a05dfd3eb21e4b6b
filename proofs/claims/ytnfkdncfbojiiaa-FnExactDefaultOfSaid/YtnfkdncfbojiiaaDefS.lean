/- The default value of a type: by the reference. -/
import Derived.Test.YtnfkdncfbojiiaaCore
import Derived.Test.YtnfkdncfbojiiaaOwnT
import Derived.Test.YtnfkdncfbojiiaaDefP
import Derived.Deep.RegionLaw
import Derived.Deep.DeepCutAuto
namespace Go.Proofs.Ytnfkdncfbojiiaa
open Go.RowKit

/-- A function hands back the default value of a valid type, every slice of it in a block of its own. -/
def DefTo (F : FuncId) (x : Ty) : Prop := Ty.all shape x = true → ∀ (cs : List Value) (w : World), D.Ats w anyB x.ds cs → Calls Try.prog F #[.agg cs.toArray] w (RetSs x.dflt.ds w)
theorem all_shape {k : Int} {n : ByteArray} {l : List ByteArray} {kids : List Ty} (h : Ty.all shape (.mk k n l kids) = true) : shape (.mk k n l kids) = true ∧ ∀ x ∈ kids, Ty.all shape x = true := by
  rw [Ty.all_mk, Bool.and_eq_true] at h
  exact ⟨h.1, fun x hx => List.all_eq_true.1 h.2 x hx⟩
theorem shape_fit {k : Int} {n : ByteArray} {l : List ByteArray} {kids : List Ty} (h : shape (.mk k n l kids) = true) : kidsFit k l.length kids = true ∧ (isLabelled k = true → labelsOk l = true) := by
  rw [shape_mk, Bool.and_eq_true] at h
  refine ⟨h.2, fun hl => ?_⟩
  have := h.1
  unfold headOk at this
  simp only [Bool.and_eq_true] at this
  have h4 := this.2.2.2
  rw [hl] at h4
  simpa using h4
theorem labels_len {l : List ByteArray} (h : labelsOk l = true) : 1 ≤ l.length ∧ l.length ≤ 16 := by
  unfold labelsOk at h
  simp only [Bool.and_eq_true, decide_eq_true_eq] at h
  exact h.1
theorem fit_len {k : Int} {n : ByteArray} {l : List ByteArray} {kids : List Ty} (h : shape (.mk k n l kids) = true) (hk : k = 15 ∨ k = 16) : kids.length ≤ 16 := by
  obtain ⟨h1, h2⟩ := shape_fit h
  rcases hk with rfl | rfl
  · rw [kf4 rfl] at h1
    simp only [Bool.and_eq_true, decide_eq_true_eq] at h1
    omega
  · rw [kf5 rfl] at h1
    simp only [Bool.and_eq_true, beq_iff_eq] at h1
    have := labels_len (h2 (by decide))
    omega
theorem fit_pos {k : Int} {n : ByteArray} {l : List ByteArray} {kids : List Ty} (h : shape (.mk k n l kids) = true) (hk : k = 14 ∨ k = 17) : 0 < kids.length := by
  obtain ⟨h1, h2⟩ := shape_fit h
  rcases hk with rfl | rfl
  · rw [kf3 rfl, beq_iff_eq] at h1
    omega
  · rw [kf6 rfl, beq_iff_eq] at h1
    have := labels_len (h2 (by decide))
    omega
def dD (x : Ty) : List D := x.dflt.ds
theorem rows_dflt (l : List Ty) : rows Va.ds 4 (l.map Ty.dflt) = .sl l.length 4 (l.flatMap dD) := by
  unfold rows
  rw [List.length_map, List.flatMap_map]
  rfl
theorem info_tV : (Try.prog.info? 42).map (fun i => (i.zero, i.size, i.bytes)) = some (some (.agg #[.int .i64 0, .int .i64 0, .string ⟨#[]⟩, .slice none 0 0]), 4, 56) := by kernel_rfl
/-- At the end: the parts of the value. -/
theorem dflt_end {w w' : World} {h : Nat} {k : Int} {n : ByteArray} {l : List ByteArray} {kids ks : List Ty} {vK : Value} {B : Nat} (hk : -9223372036854775808 ≤ k ∧ k ≤ 9223372036854775807) (hd : dts k kids = ks)
    (hB : h ≤ B) (hK : SepIn w B w.heap.size (.sl ks.length 4 (ks.flatMap dD)) vK) (hw : w'.heap.size = w.heap.size) (hkeep : ∀ b, B ≤ b → w'.heap[b]? = w.heap[b]?) : SepsIn w' h w'.heap.size (Ty.dflt (.mk k n l kids)).ds [.int .i64 k, .int .i64 0, .string ⟨#[]⟩, vK] := by
  have hK' : SepIn w' B w'.heap.size (rows Va.ds 4 (ks.map Ty.dflt)) vK := by
    rw [hw, rows_dflt]
    exact hK.keep (fun b h1 _ => hkeep b h1)
  rw [Ty.dflt_mk, hd, Va.ds_eq]
  exact SepsIn.weaken (SepsIn.cons (SepIn.int hk) (SepsIn.cons (SepIn.int (by omega)) (SepsIn.cons (SepIn.str (by decide)) (SepsIn.cons hK' (SepsIn.nil (Nat.le_refl _)))))) hB (Nat.le_refl _)
set_option maxHeartbeats 4000000 in
set_option maxRecDepth 20000 in
theorem l04Default_s (x : Ty) : DefTo 41 x := by
  refine Ty.ind (fun k n l kids ih => ?_) x
  intro hall cs w hcs
  obtain ⟨A, c, A', c', rfl, hk, hn, hl, hkids⟩ := Ty.open_ hcs
  obtain ⟨-, hnk, hck⟩ := rows_bound hkids
  unfold maxLen at hck
  have HK := Lib.hid hk
  have HSH := Lib.hid (all_shape hall)
  have HI := Lib.hid ih
  obtain ⟨j0, hj, hy0, hy1, hy2⟩ := info_parts info_tV
  have HJ := Lib.hid (And.intro hj (And.intro hy0 (And.intro hy1 hy2)))
  obtain ⟨w0, hw0⟩ : ∃ w0, w0 = (w.alloc (.cells #[.int .i64 k, .string n, .slice A l.length c, .slice A' kids.length c'] 33)).alloc (.cells #[.int .i64 0, .int .i64 0, .string ⟨#[]⟩, .slice none 0 0] 42) := ⟨_, rfl⟩
  have bA0 : Box w0 w.heap.size 33 [.int .i64 k, .string n, .slice A l.length c, .slice A' kids.length c'] := by rw [hw0]; exact (Box.new w _ _).alloc _
  have bR0 : Box w0 (w.heap.size + 1) 42 [.int .i64 0, .int .i64 0, .string ⟨#[]⟩, .slice none 0 0] := by rw [hw0]; have := Box.new (w.alloc (.cells #[.int .i64 k, .string n, .slice A l.length c, .slice A' kids.length c'] 33)) 42 [.int .i64 0, .int .i64 0, .string ⟨#[]⟩, .slice none 0 0]; simpa using this
  have B0 : Below w.heap.size w w0 := by rw [hw0]; exact ((Below.refl _ _).alloc (Nat.le_refl _) _).alloc (by simp) _
  have HS0 := Lib.hid (show w0.heap.size = w.heap.size + 2 by rw [hw0]; simp)
  have HV := Lib.hid (D.At.below hkids B0)
  have HB1 := Lib.hid (And.intro B0 (And.intro bA0 bR0))
  have zA := bA0.lt
  have zR := bR0.lt
  obtain ⟨W1, hW1⟩ : ∃ W1, W1 = w0.alloc (.cells #[.int .i64 k, .int .i64 0, .string ⟨#[]⟩, .slice none 0 0] 42) := ⟨_, rfl⟩
  obtain ⟨g, hgE⟩ : ∃ g, g = w0.heap.size := ⟨_, rfl⟩
  have bG1 : Box W1 g 42 [.int .i64 k, .int .i64 0, .string ⟨#[]⟩, .slice none 0 0] := by rw [hW1, hgE]; exact Box.new w0 _ _
  have hg : w0.heap.size ≤ g := by omega
  have hgl := bG1.lt
  have HGE := Lib.hid hgE
  have B1 : Below w0.heap.size w0 W1 := by rw [hW1]; exact (Below.refl _ _).alloc (Nat.le_refl _) _
  have hs1 : w0.heap.size ≤ W1.heap.size := by rw [hW1]; simp
  have HG := Lib.hid bG1
  have HB1' := Lib.hid B1
  have bA1 := bA0.call B1
  have kA := bA1.cell
  have kA0 := bA0.cell
  have lA := bA1.lt
  clear hcs hk hn hl hkids ih hall hj hy0 hy1 hy2 bR0 bG1 B0 B1 bA1 hgE
  change Calls Try.prog 41 #[.agg #[.int .i64 k, .string n, .slice A l.length c, .slice A' kids.length c']] w _
  by_cases hk : k = 15 ∨ k = 16
  · have hkl := fit_len HSH.out.1 hk
    have HDT := Lib.hid (dts_all (kids := kids) hk)
    have g : (k == 15) = true ∨ ((k == 15) = false ∧ (k == 16) = true) := by rcases hk with rfl | rfl <;> simp
    clear hk
    rcases g with g15 | ⟨g15, g16⟩
    all_goals
      go_enter Try.func41, Try.ntmps41
      go_upto_region 2 with fail
      rw [← hw0, ← hW1, show w.heap.size + 1 + 1 = g by rw [HGE.out, HS0.out]]
      clear kA0 bA0 hW1 hw0
      go_wp2
      go_loopw [4] (fun i wr => ∃ (q : Nat) (vK : Value), q ≤ kids.length ∧ i = .int .i64 q ∧ Box wr g 42 [.int .i64 k, .int .i64 0, .string ⟨#[]⟩, vK] ∧ OwnP wr W1.heap.size 42 4 vK q ((kids.take q).flatMap dD) ∧ Below w0.heap.size w0 wr) (fun i _ => kids.length - (intOf i).toNat)
      case atStart => exact ⟨0, _, Nat.zero_le _, rfl, HG.out, OwnP.nil (Nat.le_refl _), HB1'.out⟩
      clear kA
      case round =>
        obtain ⟨q, vK, hq, rfl, bG, hO, hb⟩ := hrel
        obtain ⟨AK, cK, rfl⟩ := hO.form
        have lG := bG.lt
        have bA : Box wr w.heap.size 33 _ := (hb.block _ zA).trans HB1.out.2.1
        by_cases hlt : q < kids.length
        · obtain ⟨x, hx⟩ : ∃ x, kids[q]? = some x := ⟨kids[q], List.getElem?_eq_getElem hlt⟩
          have hk0 : (0 : Int) ≤ (q : Int) := by omega
          have hk1 : (q : Int) < (kids.length : Int) := by omega
          obtain ⟨b, off, u0, u1, u2, u3, e, -, hbl, hat, d0, d1, d2, d3⟩ := rows_at4 Ty.len (HV.out.below hb) hx
          subst e
          obtain ⟨f0, f1, f2, f3, f4, f5, f6, f7, exx⟩ := Ty.form hat
          simp only [List.cons.injEq, and_true] at exx
          obtain ⟨rfl, rfl, rfl, rfl⟩ := exx
          have hxm := List.mem_of_getElem? hx
          have HC := Lib.hid (HI.out x hxm (HSH.out.2 x hxm) _ wr.drew hat.drew)
          have hOd := hO.drew
          have bGd : Box wr.drew g 42 [.int .i64 k, .int .i64 0, .string ⟨#[]⟩, .slice AK q cK] := bG
          have HN := Lib.hid (take_next (f := dD) hx)
          have HKP := Lib.hid hb.drew
          have kA := bA.cell
          have kG := bG.cell
          clear hx hxm hat hO bG hb bA
          go_upto_region 8 with fail
          go_region_law (first
            | (go_simp; go_at_call 41; ((refine HC.out.mono ?_); rintro e w3 ⟨cs3, rfl, hs3, hb3⟩; obtain ⟨z0, z1, z2, z3, z4, z5, rfl⟩ := Va.form hs3.ats; have bG3 := Box.call (w := wr.drew) bGd hb3; have c9 := bG3.cell; have l9 := bG3.lt))
            | ((with_reducible refine at_world (w3.alloc (.cells #[.int .i64 z0, .int .i64 z1, .string z2, .slice z3 z4 z5] 42)) ?_); refine step_ownP (vs := [.int .i64 z0, .int .i64 z1, .string z2, .slice z3 z4 z5]) hOd hb3 hs3 (.tmp 21) (.tmp 28) Try.underlying40 HJ.out.1 HJ.out.2.1 HJ.out.2.2.1 HJ.out.2.2.2 rfl (by decide) rfl (by simp [Value.oneCell']) (by unfold maxLen; omega) (by omega) ?_; intro v' w' ho' hb'; obtain ⟨A2, c2, rfl⟩ := ho'.form; have bG2 : Box w' g 42 [.int .i64 k, .int .i64 0, .string ⟨#[]⟩, .slice AK q cK] := (hb'.block g hgl).trans bGd; have cg := bG2.cell; have fg := bG2.frozen; have lg := bG2.lt))
          all_goals
            have HON := Lib.hid (ho'.set (p := ⟨g, 3, none⟩) hgl (.slice A2 (q + 1) c2))
            have HBN := Lib.hid (show Box (w'.setCell ⟨g, 3, none⟩ (.slice A2 (q + 1) c2)) g 42 [.int .i64 k, .int .i64 0, .string ⟨#[]⟩, .slice A2 (q + 1) c2] from bG2.set 3 _)
            have HWN := Lib.hid (show Below w0.heap.size w0 (w'.setCell ⟨g, 3, none⟩ (.slice A2 (q + 1) c2)) from (HKP.out.trans (hb'.mono hs1)).setCell hg _)
            clear kA kG d0 d1 d2 d3 cg fg lg bG2 bGd hOd ho' hb'
            go_wp2
            go_roundw
            case rel => exact ⟨q + 1, _, by omega, by go_num, HBN.out, by rw [HN.out]; exact HON.out, HWN.out⟩
            case measure => simp [intOf]; omega
        · obtain rfl : q = kids.length := by omega
          have hD := hO.done (fun h0 => by rw [List.take_length, List.eq_nil_of_length_eq_zero h0]; rfl)
          rw [List.take_length] at hD
          have HD := Lib.hid hD
          have HWE := Lib.hid hb
          have HBE := Lib.hid bG
          have kA := bA.cell
          clear hD hO hb bG
          have bR : Box wr (w.heap.size + 1) 42 [.int .i64 0, .int .i64 0, .string ⟨#[]⟩, .slice none 0 0] := (HWE.out.block _ zR).trans HB1.out.2.2
          have kG := HBE.out.cell
          have lG := HBE.out.lt
          have kR := bR.cell
          have fR := bR.frozen
          have lR := bR.lt
          go_wp2
          refine bodyPost_ret (v := .agg #[.int .i64 k, .int .i64 0, .string ⟨#[]⟩, .slice AK kids.length cK]) (by simp [results, Try.results41, go_sem, kR]) rfl ⟨[.int .i64 k, .int .i64 0, .string ⟨#[]⟩, .slice AK kids.length cK], rfl, ?_, ?_⟩
          · refine dflt_end (w := wr) (B := W1.heap.size) HK.out HDT.out (by have := HS0.out; omega) HD.out (by simp [World.setCell]) (fun b hb => ?_)
            have hne : b ≠ w.heap.size + 1 := by have := HS0.out; omega
            rw [Below.heap_setCell _ _ _ _ hne, Below.heap_setCell _ _ _ _ hne, Below.heap_setCell _ _ _ _ hne, Below.heap_setCell _ _ _ _ hne]
          · have := HB1.out.1.trans (HWE.out.mono HB1.out.1.size)
            with_reducible refine Below.setCell (Below.setCell (Below.setCell (Below.setCell ?_ ?_ _) ?_ _) ?_ _) ?_ _
            · exact this
            all_goals exact Nat.le_succ _
  · by_cases hk2 : k = 14 ∨ k = 17
    · have hpos := fit_pos HSH.out.1 hk2
      obtain ⟨y, hy⟩ : ∃ y, kids[0]? = some y := ⟨kids[0], List.getElem?_eq_getElem hpos⟩
      have hk1 : (0 : Int) < (kids.length : Int) := by omega
      obtain ⟨b, off, u0, u1, u2, u3, e, -, hbl, hat, d0, d1, d2, d3⟩ := rows_at4 Ty.len (HV.out.below HB1'.out) hy
      subst e
      simp only [Nat.zero_mul, Nat.add_zero] at d0 d1 d2 d3
      obtain ⟨yk, yn, yl, ykids⟩ := y
      obtain ⟨f2, f4, f5, f7, exx, -⟩ := Ty.open_ hat
      simp only [List.cons.injEq, and_true] at exx
      obtain ⟨rfl, rfl, rfl, rfl⟩ := exx
      have hym := List.mem_of_getElem? hy
      obtain ⟨r, hr⟩ : ∃ r, kids = .mk yk yn yl ykids :: r := by
        cases kids with
        | nil => simp at hy
        | cons z r => simp at hy; exact ⟨r, by rw [hy]⟩
      have HDT := Lib.hid (And.intro (fun hu => (congrArg (dts k) hr).trans (dts_unit (r := r) (x := .mk yk yn yl ykids) hk2 hu)) (fun hu => (congrArg (dts k) hr).trans (dts_one (r := r) (x := .mk yk yn yl ykids) hk2 hu)))
      have HC := Lib.hid (HI.out _ hym (HSH.out.2 _ hym) _ W1.drew (hat.drew))
      clear hy hr hym hat
      cases hu : (yk == 1)
      · have hu' : (yk != 1) = true := by simp [bne, hu]
        have HDU := Lib.hid (HDT.out.2 hu)
        have g15 : (k == 15) = false := beq_eq_false_iff_ne.2 (by omega)
        have g16 : (k == 16) = false := beq_eq_false_iff_ne.2 (by omega)
        have g : (k == 14) = true ∨ ((k == 14) = false ∧ (k == 17) = true) := by rcases hk2 with rfl | rfl <;> simp
        clear hk hk2
        rcases g with g14 | ⟨g14, g17⟩
        all_goals
          go_enter Try.func41, Try.ntmps41
          go_upto_region 2 with fail
          rw [← hw0, ← hW1, show w.heap.size + 1 + 1 = g by rw [HGE.out, HS0.out]]
          clear kA0 bA0 hW1 hw0
          have hOd : OwnP W1.drew W1.heap.size 42 4 (.slice none 0 0) 0 [] := (OwnP.nil (Nat.le_refl _)).drew
          have bGd : Box W1.drew g 42 [.int .i64 k, .int .i64 0, .string ⟨#[]⟩, .slice none 0 0] := HG.out
          have HKP := Lib.hid HB1'.out.drew
          have kG := HG.out.cell
          have lG := HG.out.lt
          go_wp2
          go_upto_region 12 with fail
          go_region_law (first
            | (go_simp; go_at_call 41; ((refine HC.out.mono ?_); rintro e w3 ⟨cs3, rfl, hs3, hb3⟩; obtain ⟨z0, z1, z2, z3, z4, z5, rfl⟩ := Va.form hs3.ats; have bG3 := Box.call (w := W1.drew) bGd hb3; have c9 := bG3.cell; have l9 := bG3.lt))
            | ((with_reducible refine at_world (w3.alloc (.cells #[.int .i64 z0, .int .i64 z1, .string z2, .slice z3 z4 z5] 42)) ?_); refine step_ownP (vs := [.int .i64 z0, .int .i64 z1, .string z2, .slice z3 z4 z5]) hOd hb3 hs3 (.tmp 41) (.tmp 47) Try.underlying40 HJ.out.1 HJ.out.2.1 HJ.out.2.2.1 HJ.out.2.2.2 rfl (by decide) rfl (by simp [Value.oneCell']) (by unfold maxLen; omega) (by omega) ?_; intro v' w' ho' hb'; obtain ⟨A2, c2, rfl⟩ := ho'.form; have bG2 : Box w' g 42 [.int .i64 k, .int .i64 0, .string ⟨#[]⟩, .slice none 0 0] := (hb'.block g hgl).trans bGd; have cg := bG2.cell; have fg := bG2.frozen; have lg := bG2.lt))
          all_goals
            have HON := Lib.hid (ho'.set (p := ⟨g, 3, none⟩) hgl (.slice A2 1 c2))
            have HBN := Lib.hid (show Box (w'.setCell ⟨g, 3, none⟩ (.slice A2 1 c2)) g 42 [.int .i64 k, .int .i64 0, .string ⟨#[]⟩, .slice A2 1 c2] from bG2.set 3 _)
            have HWN := Lib.hid (show Below w0.heap.size w0 (w'.setCell ⟨g, 3, none⟩ (.slice A2 1 c2)) from (HKP.out.trans (hb'.mono hs1)).setCell hg _)
            clear kA kG d0 d1 d2 d3 cg fg lg bG2 bGd hOd ho' hb'
            have HD := Lib.hid (HON.out.done (fun h0 => absurd h0 (by omega)))
            obtain ⟨WE, hWE⟩ : ∃ WE, WE = w'.setCell ⟨g, 3, none⟩ (.slice A2 1 c2) := ⟨_, rfl⟩
            rw [← hWE] at HD
            have HWE := Lib.hid (show Below w0.heap.size w0 WE by rw [hWE]; exact HWN.out)
            have HBE := Lib.hid (show Box WE g _ _ by rw [hWE]; exact HBN.out)
            go_upto_region 13 with fail
            rw [← hWE]
            clear hWE
            have bR : Box WE (w.heap.size + 1) 42 [.int .i64 0, .int .i64 0, .string ⟨#[]⟩, .slice none 0 0] := (HWE.out.block _ zR).trans HB1.out.2.2
            have kG := HBE.out.cell
            have lG := HBE.out.lt
            have kR := bR.cell
            have fR := bR.frozen
            have lR := bR.lt
            go_wp2
            refine bodyPost_ret (v := .agg #[.int .i64 k, .int .i64 0, .string ⟨#[]⟩, .slice A2 1 c2]) (by simp [results, Try.results41, go_sem, kR]) rfl ⟨[.int .i64 k, .int .i64 0, .string ⟨#[]⟩, .slice A2 1 c2], rfl, ?_, ?_⟩
            · refine dflt_end (w := WE) (B := W1.heap.size) HK.out HDU.out (by have := HS0.out; omega) HD.out (by simp [World.setCell]) (fun b hb => ?_)
              have hne : b ≠ w.heap.size + 1 := by have := HS0.out; omega
              rw [Below.heap_setCell _ _ _ _ hne, Below.heap_setCell _ _ _ _ hne, Below.heap_setCell _ _ _ _ hne, Below.heap_setCell _ _ _ _ hne]
            · have := HB1.out.1.trans (HWE.out.mono HB1.out.1.size)
              with_reducible refine Below.setCell (Below.setCell (Below.setCell (Below.setCell ?_ ?_ _) ?_ _) ?_ _) ?_ _
              · exact this
              all_goals exact Nat.le_succ _
      · have hu' : (yk != 1) = false := by simp [bne, hu]
        have HDU := Lib.hid (HDT.out.1 hu)
        have g15 : (k == 15) = false := beq_eq_false_iff_ne.2 (by omega)
        have g16 : (k == 16) = false := beq_eq_false_iff_ne.2 (by omega)
        have g : (k == 14) = true ∨ ((k == 14) = false ∧ (k == 17) = true) := by rcases hk2 with rfl | rfl <;> simp
        clear hk hk2
        rcases g with g14 | ⟨g14, g17⟩
        all_goals
          go_enter Try.func41, Try.ntmps41
          go_upto_region 2 with fail
          rw [← hw0, ← hW1, show w.heap.size + 1 + 1 = g by rw [HGE.out, HS0.out]]
          clear kA0 bA0 hW1 hw0
          have HD := Lib.hid (show SepIn W1 W1.heap.size W1.heap.size (.sl ([] : List Ty).length 4 (([] : List Ty).flatMap dD)) (.slice none 0 0) from (OwnP.nil (Nat.le_refl _) (e := 42) (size := 4)).done (fun _ => rfl))
          have HWE := HB1'
          have HBE := HG
          have kG0 := HG.out.cell
          have lG0 := HG.out.lt
          have bR : Box W1 (w.heap.size + 1) 42 [.int .i64 0, .int .i64 0, .string ⟨#[]⟩, .slice none 0 0] := (HWE.out.block _ zR).trans HB1.out.2.2
          have kG := HBE.out.cell
          have lG := HBE.out.lt
          have kR := bR.cell
          have fR := bR.frozen
          have lR := bR.lt
          go_wp2
          refine bodyPost_ret (v := .agg #[.int .i64 k, .int .i64 0, .string ⟨#[]⟩, .slice none 0 0]) (by simp [results, Try.results41, go_sem, kR]) rfl ⟨[.int .i64 k, .int .i64 0, .string ⟨#[]⟩, .slice none 0 0], rfl, ?_, ?_⟩
          · refine dflt_end (w := W1) (B := W1.heap.size) HK.out HDU.out (by have := HS0.out; omega) HD.out (by simp [World.setCell]) (fun b hb => ?_)
            have hne : b ≠ w.heap.size + 1 := by have := HS0.out; omega
            rw [Below.heap_setCell _ _ _ _ hne, Below.heap_setCell _ _ _ _ hne, Below.heap_setCell _ _ _ _ hne, Below.heap_setCell _ _ _ _ hne]
          · have := HB1.out.1.trans (HWE.out.mono HB1.out.1.size)
            with_reducible refine Below.setCell (Below.setCell (Below.setCell (Below.setCell ?_ ?_ _) ?_ _) ?_ _) ?_ _
            · exact this
            all_goals exact Nat.le_succ _
    · have HDU := Lib.hid (dts_none (k := k) (kids := kids) (by omega))
      have g14 : (k == 14) = false := beq_eq_false_iff_ne.2 (by omega)
      have g15 : (k == 15) = false := beq_eq_false_iff_ne.2 (by omega)
      have g16 : (k == 16) = false := beq_eq_false_iff_ne.2 (by omega)
      have g17 : (k == 17) = false := beq_eq_false_iff_ne.2 (by omega)
      clear hk hk2
      go_enter Try.func41, Try.ntmps41
      go_upto_region 2 with fail
      rw [← hw0, ← hW1, show w.heap.size + 1 + 1 = g by rw [HGE.out, HS0.out]]
      clear kA0 bA0 hW1 hw0
      have HD := Lib.hid (show SepIn W1 W1.heap.size W1.heap.size (.sl ([] : List Ty).length 4 (([] : List Ty).flatMap dD)) (.slice none 0 0) from (OwnP.nil (Nat.le_refl _) (e := 42) (size := 4)).done (fun _ => rfl))
      have HWE := HB1'
      have HBE := HG
      have kG0 := HG.out.cell
      have lG0 := HG.out.lt
      have bR : Box W1 (w.heap.size + 1) 42 [.int .i64 0, .int .i64 0, .string ⟨#[]⟩, .slice none 0 0] := (HWE.out.block _ zR).trans HB1.out.2.2
      have kG := HBE.out.cell
      have lG := HBE.out.lt
      have kR := bR.cell
      have fR := bR.frozen
      have lR := bR.lt
      go_wp2
      refine bodyPost_ret (v := .agg #[.int .i64 k, .int .i64 0, .string ⟨#[]⟩, .slice none 0 0]) (by simp [results, Try.results41, go_sem, kR]) rfl ⟨[.int .i64 k, .int .i64 0, .string ⟨#[]⟩, .slice none 0 0], rfl, ?_, ?_⟩
      · refine dflt_end (w := W1) (B := W1.heap.size) HK.out HDU.out (by have := HS0.out; omega) HD.out (by simp [World.setCell]) (fun b hb => ?_)
        have hne : b ≠ w.heap.size + 1 := by have := HS0.out; omega
        rw [Below.heap_setCell _ _ _ _ hne, Below.heap_setCell _ _ _ _ hne, Below.heap_setCell _ _ _ _ hne, Below.heap_setCell _ _ _ _ hne]
      · have := HB1.out.1.trans (HWE.out.mono HB1.out.1.size)
        with_reducible refine Below.setCell (Below.setCell (Below.setCell (Below.setCell ?_ ?_ _) ?_ _) ?_ _) ?_ _
        · exact this
        all_goals exact Nat.le_succ _
end Go.Proofs.Ytnfkdncfbojiiaa
