/- termOf: the program's copy of a type as a term. -/
import Derived.Test.YtnfkdncfbojiiaaOwnT
import Derived.Test.YtnfkdncfbojiiaaShelf
import Derived.Deep.RegionLaw
import Derived.Deep.RegionHeld3
import Derived.Deep.DeepCutAuto
namespace Go.Proofs.Ytnfkdncfbojiiaa
open Go.RowKit

theorem own_low {w : World} {base base' : Nat} {e : TypeId} {size n : Nat} {v : Value} {xs : List Value} (h : w.ownsRow base e size v n xs) (hb : base' ≤ base) : w.ownsRow base' e size v n xs := by
  refine ⟨h.1, ?_⟩
  rcases h.2 with h | ⟨g, cap, cur, e1, e2, e3⟩
  · exact .inl h
  · exact .inr ⟨g, cap, cur, e1, Nat.le_trans hb e2, e3⟩
theorem clone_i (l : List ByteArray) (A : Option Addr) (c : Nat) (w : World) (hv : D.At w anyB (strs l) (.slice A l.length c)) (hl : l.length ≤ 4194304) :
    Calls Try.prog 55 #[.slice A l.length c] w fun e w' => ∃ v', e = .returned v' ∧ w'.ownsRow w.heap.size 9 1 v' l.length (l.map Value.string) ∧ Below w.heap.size w w' := by
  rcases Nat.eq_zero_or_pos l.length with h0 | h0
  · have hR : l = [] := List.eq_nil_of_length_eq_zero h0
    subst hR
    cases A with
    | none =>
      refine (Try.slices_Clone_string_nil 0 c w).mono ?_
      rintro e w' ⟨rfl, rfl⟩
      exact ⟨_, rfl, World.ownsRow_nil _ _ _ _, Below.refl _ _⟩
    | some a =>
      refine (Try.slices_Clone_string_zero a c w).mono ?_
      rintro e w' ⟨v', rfl, h1, -, h2⟩
      exact ⟨v', rfl, h1, h2⟩
  · unfold strs rows at hv
    simp only [D.At] at hv
    obtain ⟨A', cap', xs, hv, h1, h2, h3, h4, h5⟩ := hv
    injection hv with e1 e2 e3
    subst e1 e3
    obtain ⟨rfl, -⟩ := strs_xs h5
    obtain ⟨b, off, rfl, -, hbl, hc⟩ := h4 h0
    refine (Try.slices_Clone_string b off l.length c l w (Nat.le_refl _) (by omega) (fun j hj => ?_)).mono ?_
    · rw [hc j (.string l[j]) (by simp [hj])]
      simp [List.getD, hj]
    · rintro e w' ⟨v', rfl, h1, -, h2⟩
      rw [List.take_length] at h1
      exact ⟨v', rfl, h1, h2⟩
set_option maxHeartbeats 4000000 in
set_option maxRecDepth 20000 in
theorem termOf_i (x : Ty) : OwnTo 32 x := by
  refine Ty.ind (fun k n l kids ih => ?_) x
  intro cs w hcs ht
  obtain ⟨A, c, A', c', rfl, hk, hn, hl, hkids⟩ := Ty.open_ hcs
  obtain ⟨-, hnl, hcl⟩ := rows_bound hl
  obtain ⟨-, hnk, hck⟩ := rows_bound hkids
  obtain ⟨hl4, hk4, hkt⟩ := own_sizes ht
  unfold maxLen at hcl hck
  have HK := Lib.hid (And.intro hk (And.intro hn (strs_small hl)))
  have hlm : l.length ≤ maxLen := by unfold maxLen; omega
  have HI := Lib.hid ih
  have HT := Lib.hid hkt
  obtain ⟨i0, hi, hz0, hz1, hz2⟩ := info_parts info_sTerm
  obtain ⟨j0, hj, hy0, hy1, hy2⟩ := info_parts info_tTerm
  have HS := Lib.hid (And.intro hi (And.intro hz0 (And.intro hz1 hz2)))
  have HJ := Lib.hid (And.intro hj (And.intro hy0 (And.intro hy1 hy2)))
  obtain ⟨w0, hw0⟩ : ∃ w0, w0 = (w.alloc (.cells #[.int .i64 k, .string n, .slice A l.length c, .slice A' kids.length c'] 33)).alloc (.cells #[.int .i64 0, .string ⟨#[]⟩, .slice none 0 0, .slice none 0 0] 29) := ⟨_, rfl⟩
  have bA : Box w0 w.heap.size 33 [.int .i64 k, .string n, .slice A l.length c, .slice A' kids.length c'] := by rw [hw0]; exact (Box.new w _ _).alloc _
  have bR : Box w0 (w.heap.size + 1) 29 [.int .i64 0, .string ⟨#[]⟩, .slice none 0 0, .slice none 0 0] := by rw [hw0]; have := Box.new (w.alloc (.cells #[.int .i64 k, .string n, .slice A l.length c, .slice A' kids.length c'] 33)) 29 [.int .i64 0, .string ⟨#[]⟩, .slice none 0 0, .slice none 0 0]; simpa using this
  have B0 : Below w.heap.size w w0 := by rw [hw0]; exact ((Below.refl _ _).alloc (Nat.le_refl _) _).alloc (by simp) _
  have hs0 : w0.heap.size = w.heap.size + 2 := by rw [hw0]; simp
  have HL := Lib.hid (D.At.below hl B0)
  have HV := Lib.hid (D.At.below hkids B0)
  have HS0 := Lib.hid hs0
  clear hcs hk hn hl hkids ih ht hkt hi hz0 hz1 hz2 hj hy0 hy1 hy2 hs0
  change Calls Try.prog 32 #[.agg #[.int .i64 k, .string n, .slice A l.length c, .slice A' kids.length c']] w _
  have kA := bA.cell
  go_enter Try.func32, Try.ntmps32
  go_upto_region 1 with fail
  rw [← hw0]
  clear hw0
  have a0 : w0.cell? ⟨w.heap.size, 0, none⟩ = some (.int .i64 k) := kA 0
  have a1 : w0.cell? ⟨w.heap.size, 1, none⟩ = some (.string n) := kA 1
  have a2 : w0.cell? ⟨w.heap.size, 2, none⟩ = some (.slice A l.length c) := kA 2
  clear kA
  have zA := bA.lt
  go_cut [3] (fun s wx => ∃ (g : Nat) (vL : Value), s = .pointer (some ⟨g, 0, none⟩) ∧ w0.heap.size ≤ g ∧ Box wx g 29 [.int .i64 k, .string n, vL, .slice none 0 0] ∧ (∃ bl, D.Sep wx (strs l) bl vL ∧ bl.Nodup ∧ ∀ b ∈ bl, w0.heap.size ≤ b ∧ b < wx.heap.size ∧ b ≠ g) ∧ Below w0.heap.size w0 wx)
  case first =>
    have K0 : Below w0.heap.size w0 w0.drew := (Below.refl _ w0).drew
    have m3 : Below w0.heap.size w0 (w0.alloc (.cells #[.int .i64 0, .string ⟨#[]⟩, .slice none 0 0, .slice none 0 0] 29)).drew := ((Below.refl _ w0).alloc (Nat.le_refl _) _).drew
    have b3 : Box (w0.alloc (.cells #[.int .i64 0, .string ⟨#[]⟩, .slice none 0 0, .slice none 0 0] 29)).drew w0.heap.size 29 [.int .i64 0, .string ⟨#[]⟩, .slice none 0 0, .slice none 0 0] := Box.new w0 _ [.int .i64 0, .string ⟨#[]⟩, .slice none 0 0, .slice none 0 0]
    have x0 := HL.out.below K0
    have x3 := HL.out.below m3
    go_region_held3 (fun w' => w'.cell? ⟨w.heap.size, 0, none⟩ = some (.int .i64 k) ∧ w'.cell? ⟨w.heap.size, 1, none⟩ = some (.string n) ∧ w'.cell? ⟨w.heap.size, 2, none⟩ = some (.slice A l.length c))
      (first | with_reducible exact ⟨e0, e1, e2⟩ | ((refine keep3 zA a0 a1 a2 ?_); (repeat (first | with_reducible exact K0 | with_reducible exact m3 | with_reducible exact bw | with_reducible exact Below.refl _ _ | with_reducible refine Below.drew ?_ | (with_reducible refine Below.setCell ?_ ?_ _; rotate_left; (first | with_reducible exact Nat.le_refl _ | with_reducible exact Nat.le_succ _ | with_reducible exact bw.size | (simp; done))) | (with_reducible refine Below.alloc ?_ ?_ _; rotate_left; (first | with_reducible exact Nat.le_refl _ | with_reducible exact bw.size | (simp; done) | (simp; omega))))); done) | (trace_state; fail))
      (first
      | (go_at_call 55; ((with_reducible refine (clone_i l A c w0.drew x0 hl4).mono ?_); rintro e w' ⟨v', rfl, ho0, hb'⟩; have ho' := own_low (base' := w0.heap.size) ho0 (Nat.le_refl _); have bw : Below w0.heap.size w0 w' := K0.trans (hb'.mono (Nat.le_refl _)); have e0 := (bw.cell (p := ⟨w.heap.size, 0, none⟩) zA).trans a0; have e1 := (bw.cell (p := ⟨w.heap.size, 1, none⟩) zA).trans a1; have e2 := (bw.cell (p := ⟨w.heap.size, 2, none⟩) zA).trans a2; have zB := Nat.lt_of_lt_of_le zA bw.size; obtain ⟨A2, c2, rfl⟩ := own_slice ho'))
      | (go_at_call 55; ((with_reducible refine (clone_i l A c (w0.alloc (.cells #[.int .i64 0, .string ⟨#[]⟩, .slice none 0 0, .slice none 0 0] 29)).drew x3 hl4).mono ?_); rintro e w' ⟨v', rfl, ho0, hb'⟩; have ho' := own_low (base' := w0.heap.size) ho0 m3.size; have hn0 : (∀ b, v'.ownBlock = some b → w0.heap.size + 1 ≤ b) := fun b hb => (by have := (ho0.lt b hb).1; simpa using this); have bw : Below w0.heap.size w0 w' := m3.trans (hb'.mono m3.size); have e0 := (bw.cell (p := ⟨w.heap.size, 0, none⟩) zA).trans a0; have e1 := (bw.cell (p := ⟨w.heap.size, 1, none⟩) zA).trans a1; have e2 := (bw.cell (p := ⟨w.heap.size, 2, none⟩) zA).trans a2; have zB := Nat.lt_of_lt_of_le zA bw.size; obtain ⟨A2, c2, rfl⟩ := own_slice ho'; have bZ := Box.call b3 hb'; have cz := bZ.cell; have fz := bZ.frozen; have lz := bZ.lt)))
    all_goals
      go_wp2_with fail
      go_meet
      first
        | (have hz : Box w' w0.heap.size 29 [.int .i64 0, .string ⟨#[]⟩, .slice none 0 0, .slice none 0 0] := (by with_reducible exact bZ)
           exact ⟨w0.heap.size, .slice A2 l.length c2, rfl, own_cutB hz (own_texts ho' HK.out.2.2 hlm) bw (Nat.le_refl _) (fun e => by have := hn0 _ e; omega)⟩)
        | exact ⟨w'.heap.size, .slice A2 l.length c2, rfl, own_cutC (own_texts ho' HK.out.2.2 hlm) bw (fun e => Nat.lt_irrefl _ (ho'.lt _ e).2) bw.size⟩
  case rest =>
    obtain ⟨g, vL, rfl, hg, bG, ⟨bl, sL, nd, hbl⟩, B1⟩ := hcut
    obtain ⟨W1, hW1⟩ : ∃ W1, W1 = wc := ⟨_, rfl⟩
    rw [← hW1] at bG sL hbl B1 ⊢
    clear hW1 a0 a1 a2 zA
    obtain ⟨AL, cL, rfl, -, -, -⟩ := sL.sl_form
    have hs1 := B1.size
    have hgl := bG.lt
    have zA := bA.lt
    have zR := bR.lt
    have HS1 := Lib.hid (And.intro sL (And.intro nd hbl))
    have HB1 := Lib.hid (And.intro B0 (And.intro bA bR))
    have HG := Lib.hid bG
    have HB1' := Lib.hid B1
    have kA1 := (bA.call B1).cell
    have kG1 := bG.cell
    clear sL nd hbl bA bR B0 bG HL B1
    go_wp2
    go_loopw [17] (fun i wr => ∃ (q : Nat) (vK : Value), q ≤ kids.length ∧ i = .int .i64 q ∧ Box wr g 29 [.int .i64 k, .string n, .slice AL l.length cL, vK] ∧ OwnP wr W1.heap.size 29 4 vK q ((kids.take q).flatMap Ty.ds) ∧ (∀ b, b < W1.heap.size → b ≠ g → wr.heap[b]? = W1.heap[b]?) ∧ Below w0.heap.size w0 wr) (fun i _ => kids.length - (intOf i).toNat)
    case atStart => exact ⟨0, _, Nat.zero_le _, rfl, HG.out, OwnP.nil (Nat.le_refl _), fun _ _ _ => rfl, HB1'.out⟩
    clear kA1 kG1
    case round =>
      obtain ⟨q, vK, hq, rfl, bG, hO, hkp, hb⟩ := hrel
      obtain ⟨AK, cK, rfl⟩ := hO.form
      have lG := bG.lt
      have bA : Box wr w.heap.size 33 [.int .i64 k, .string n, .slice A l.length c, .slice A' kids.length c'] := (hb.block _ zA).trans HB1.out.2.1
      by_cases hlt : q < kids.length
      · obtain ⟨x, hx⟩ : ∃ x, kids[q]? = some x := ⟨kids[q], List.getElem?_eq_getElem hlt⟩
        have hk0 : (0 : Int) ≤ (q : Int) := by omega
        have hk1 : (q : Int) < (kids.length : Int) := by omega
        obtain ⟨b, off, u0, u1, u2, u3, e, -, hbl, hat, d0, d1, d2, d3⟩ := rows_at4 Ty.len (HV.out.below hb) hx
        subst e
        obtain ⟨f0, f1, f2, f3, f4, f5, f6, f7, exx⟩ := Ty.form hat
        simp only [List.cons.injEq, and_true] at exx
        obtain ⟨rfl, rfl, rfl, rfl⟩ := exx
        have hxm := List.mem_of_getElem? hx
        have hWW : Below wr.heap.size wr (wr.alloc (.cells #[.int .i64 f0, .string f1, .slice f2 f3 f4, .slice f5 f6 f7] 33)).drew := ((Below.refl _ wr).alloc (Nat.le_refl _) _).drew
        have HC := Lib.hid (HI.out x hxm _ (wr.alloc (.cells #[.int .i64 f0, .string f1, .slice f2 f3 f4, .slice f5 f6 f7] 33)).drew (hat.below hWW) (HT.out x hxm))
        have hOd := hO.below hWW
        have bGd : Box (wr.alloc (.cells #[.int .i64 f0, .string f1, .slice f2 f3 f4, .slice f5 f6 f7] 33)).drew g 29 [.int .i64 k, .string n, .slice AL l.length cL, .slice AK q cK] := bG.call hWW
        have HN := Lib.hid (take_next (f := Ty.ds) hx)
        have hbs := hO.base_le
        have HKP := Lib.hid (And.intro (show ∀ b, b < W1.heap.size → b ≠ g → ((wr.alloc (.cells #[.int .i64 f0, .string f1, .slice f2 f3 f4, .slice f5 f6 f7] 33)).drew).heap[b]? = W1.heap[b]? from fun b h1 h2 => (hWW.block b (by omega)).trans (hkp b h1 h2)) (hb.trans (hWW.mono hb.size)))
        have kA := bA.cell
        have kG := bG.cell
        clear hx hxm hat hO bG hkp hb bA hWW hbs
        go_upto_region 5 with fail
        go_region_law (first
          | (go_simp; go_at_call 32; ((refine HC.out.mono ?_); rintro e w3 ⟨cs3, rfl, hs3, hb3⟩; obtain ⟨z0, z1, z2, z3, z4, z5, z6, z7, rfl⟩ := Ty.form hs3.ats; have bG3 := Box.call (w := (wr.alloc (.cells #[.int .i64 f0, .string f1, .slice f2 f3 f4, .slice f5 f6 f7] 33)).drew) bGd hb3; have c9 := bG3.cell; have l9 := bG3.lt))
          | ((with_reducible refine at_world (w3.alloc (.cells #[.int .i64 z0, .string z1, .slice z2 z3 z4, .slice z5 z6 z7] 29)) ?_); refine step_ownP (vs := [.int .i64 z0, .string z1, .slice z2 z3 z4, .slice z5 z6 z7]) hOd hb3 hs3 (.tmp 22) (.tmp 25) Try.underlying27 HJ.out.1 HJ.out.2.1 HJ.out.2.2.1 HJ.out.2.2.2 rfl (by decide) rfl (by simp [Value.oneCell']) (by unfold maxLen; omega) (by omega) ?_; intro v' w' ho' hb'; obtain ⟨A2, c2, rfl⟩ := ho'.form; have bG2 : Box w' g 29 [.int .i64 k, .string n, .slice AL l.length cL, .slice AK q cK] := (hb'.block g hgl).trans bGd; have cg := bG2.cell; have fg := bG2.frozen; have lg := bG2.lt))
        all_goals
          have HON := Lib.hid (ho'.set (p := ⟨g, 3, none⟩) hgl (.slice A2 (q + 1) c2))
          have HBN := Lib.hid (show Box (w'.setCell ⟨g, 3, none⟩ (.slice A2 (q + 1) c2)) g 29 [.int .i64 k, .string n, .slice AL l.length cL, .slice A2 (q + 1) c2] from bG2.set 3 _)
          have HKN := Lib.hid (show ∀ b, b < W1.heap.size → b ≠ g → (w'.setCell ⟨g, 3, none⟩ (.slice A2 (q + 1) c2)).heap[b]? = W1.heap[b]? from fun b h1 h2 => ((Below.heap_setCell _ _ _ _ h2).trans (hb'.block b h1)).trans (HKP.out.1 b h1 h2))
          have HWN := Lib.hid (show Below w0.heap.size w0 (w'.setCell ⟨g, 3, none⟩ (.slice A2 (q + 1) c2)) from (HKP.out.2.trans (hb'.mono hs1)).setCell hg _)
          clear kA kG d0 d1 d2 d3 cg fg lg bG2 bGd hOd ho' hb'
          go_wp2
          go_roundw
          case rel => exact ⟨q + 1, _, by omega, by go_num, HBN.out, by rw [HN.out]; exact HON.out, HKN.out, HWN.out⟩
          case measure => simp [intOf]; omega
      · obtain rfl : q = kids.length := by omega
        have hD := hO.done (fun h0 => by rw [List.take_length, List.eq_nil_of_length_eq_zero h0]; rfl)
        rw [List.take_length] at hD
        have HD := Lib.hid hD
        have HKP := Lib.hid (And.intro hkp hb)
        have bR : Box wr (w.heap.size + 1) 29 [.int .i64 0, .string ⟨#[]⟩, .slice none 0 0, .slice none 0 0] := (hb.block _ zR).trans HB1.out.2.2
        have kA := bA.cell
        have kG := bG.cell
        have kR := bR.cell
        have fR := bR.frozen
        have lR := bR.lt
        clear hD hO hkp hb
        go_wp2
        refine bodyPost_ret (v := .agg #[.int .i64 k, .string n, .slice AL l.length cL, .slice AK kids.length cK]) (by simp [results, Try.results32, go_sem, kR]) rfl ⟨[.int .i64 k, .string n, .slice AL l.length cL, .slice AK kids.length cK], rfl, ?_, ?_⟩
        · have h3 : ∀ b ∈ bl, b ≠ w.heap.size + 1 := fun b hb => by have := HS1.out.2.2 b hb; have := HS0.out; omega
          have hsz := HKP.out.2.size
          refine own_end (w := wr) (B := W1.heap.size) HK.out.1 HK.out.2.1 (D.Sep.keep _ _ _ (fun b hb => HKP.out.1 b (HS1.out.2.2 b hb).2.1 (HS1.out.2.2 b hb).2.2) HS1.out.1) HS1.out.2.1 (fun b hb => ⟨by have := HS1.out.2.2 b hb; have := HS0.out; omega, (HS1.out.2.2 b hb).2.1⟩) (by have := HS0.out; omega) HD.out (by simp [World.setCell]) (fun b hb => ?_)
          have hne : b ≠ w.heap.size + 1 := by
            rcases hb with hb | hb
            · exact h3 b hb
            · have := HS0.out; omega
          rw [Below.heap_setCell _ _ _ _ hne, Below.heap_setCell _ _ _ _ hne, Below.heap_setCell _ _ _ _ hne, Below.heap_setCell _ _ _ _ hne]
        · have := HB1.out.1.trans (HKP.out.2.mono HB1.out.1.size)
          with_reducible refine Below.setCell (Below.setCell (Below.setCell (Below.setCell ?_ ?_ _) ?_ _) ?_ _) ?_ _
          · exact this
          all_goals exact Nat.le_succ _
end Go.Proofs.Ytnfkdncfbojiiaa
