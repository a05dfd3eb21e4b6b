/- A value with other numbers of its handles, in plain words. Whether all numbers are numbers of handles: by the reference and by the program. A value with other numbers of its handles: by the reference. What a visit that writes leaves behind: one number of a struct turned, or the parts below it. No program in sight. A value with other numbers of its handles: by the program: the visit that writes. A copy of a value, by the program: every slice of it in a block of its own. A copy of a value, by the program: the value. WithHandles on both sides, as the law wants it. -/
import Derived.Test.YtcpadaelgdmipaaGreatDoorPkHa
import Derived.Test.YtcpadaelgdmipaaGreatDoorPkIn
import Derived.Test.YtcpadaelgdmipaaGreatDoorNums
import Derived.Test.YtcpadaelgdmipaaGreatDoorCore
import Derived.Test.YtcpadaelgdmipaaGreatDoorPkFi
import Derived.Deep.DeepCutAuto
import Derived.Deep.RegionHeld3
import Derived.Test.YtcpadaelgdmipaaGreatDoorSep
import Derived.Test.YtcpadaelgdmipaaGreatDoorVaM
import Derived.Deep.RegionLaw
import Derived.Test.YtcpadaelgdmipaaGreatDoorOwnP
namespace Go.Proofs.YtcpadaelgdmipaaGreatDoor
open Go.RowKit

mutual
/-- A value that fits, with these numbers in the places of its handles. -/
def wth : Va → Ty → List Int → Va
  | .mk k m s vs, t, ns => if hdl t.kind = true then .mk k (ns.headD 0) s [] else .mk k m s (match kts t.kind m vs.length t.kids with | none => [] | some ts => wths vs ts ns)
def wths : List Va → List Ty → List Int → List Va
  | [], _, _ => []
  | v :: r, ts, ns => (match ts with | [] => [] | t :: q => wth v t ns :: wths r q (ns.drop (hns v t).length))
end
theorem wth_mk (k m : Int) (s : ByteArray) (vs : List Va) (t : Ty) (ns : List Int) : wth (.mk k m s vs) t ns = if hdl t.kind = true then .mk k (ns.headD 0) s [] else .mk k m s (match kts t.kind m vs.length t.kids with | none => [] | some ts => wths vs ts ns) := by rw [wth]
theorem wths_cons (v : Va) (r : List Va) (t : Ty) (q : List Ty) (ns : List Int) : wths (v :: r) (t :: q) ns = wth v t ns :: wths r q (ns.drop (hns v t).length) := by rw [wths]
theorem wths_nil (ts : List Ty) (ns : List Int) : wths [] ts ns = [] := by rw [wths]
theorem wth_yes {k m : Int} {s : ByteArray} {vs : List Va} {k' : Int} {n : ByteArray} {l : List ByteArray} {kids : List Ty} {ns : List Int} (h : hdl k' = true) : wth (.mk k m s vs) (.mk k' n l kids) ns = .mk k (ns.headD 0) s [] := by
  rw [wth_mk]; exact if_pos h
theorem wth_no {k m : Int} {s : ByteArray} {vs : List Va} {k' : Int} {n : ByteArray} {l : List ByteArray} {kids ts : List Ty} {ns : List Int} (h : hdl k' = false) (hk : kts k' m vs.length kids = some ts) : wth (.mk k m s vs) (.mk k' n l kids) ns = .mk k m s (wths vs ts ns) := by
  rw [wth_mk]
  show (if hdl k' = true then _ else Va.mk k m s (match kts k' m vs.length kids with | none => [] | some ts => wths vs ts ns)) = _
  rw [hk, if_neg (by rw [h]; decide)]
theorem wths_next {vs : List Va} {ts : List Ty} {k : Nat} {v : Va} {t : Ty} {ns : List Int} (hv : vs[k]? = some v) (ht : ts[k]? = some t) : wths (vs.take (k + 1)) ts ns = wths (vs.take k) ts ns ++ [wth v t (ns.drop (hnss (vs.take k) ts).length)] := by
  induction vs generalizing ts k ns with
  | nil => simp at hv
  | cons x r ih =>
    cases ts with
    | nil => simp at ht
    | cons y q =>
      cases k with
      | zero => simp at hv ht; subst hv ht; simp [wths_cons, wths_nil, hnss_nil]
      | succ k =>
        rw [List.take_succ_cons, List.take_succ_cons, wths_cons, wths_cons, ih (by simpa using hv) (by simpa using ht), hnss_cons, List.length_append, List.cons_append, List.drop_drop]
theorem wths_len {vs : List Va} {ts : List Ty} {ns : List Int} (h : vs.length ≤ ts.length) : (wths vs ts ns).length = vs.length := by
  induction vs generalizing ts ns with
  | nil => rw [wths_nil]
  | cons x r ih =>
    cases ts with
    | nil => simp at h
    | cons y q => rw [wths_cons, List.length_cons, List.length_cons, ih (by simpa using h)]
/-- A handle's part has no parts of its own. -/
theorem hdl_kids {k m : Int} {c : Nat} {kids ts : List Ty} (h : hdl k = true) (hk : kts k m c kids = some ts) : ts = [] := by
  have : k = 20 ∨ k = 21 := by unfold hdl at h; simpa using h
  rw [kts_none (by omega)] at hk
  exact (Option.some.inj hk).symm
mutual
theorem wth_counts : ∀ (v : Va) (t : Ty) (ns : List Int), D.counts (wth v t ns).ds ≤ 4 * v.nodes
  | .mk k m s vs, t, ns => by
    have e : ∀ (a b : Int) (c : ByteArray) (l : List Va), D.counts (Va.ds (.mk a b c l)) = 3 + D.counts (l.flatMap Va.ds) := fun a b c l => by rw [Va.ds_eq]; simp [D.counts, D.count, rows]; omega
    rw [wth_mk]
    simp only [Va.nodes]
    split
    · rw [e]; simp [D.counts]; omega
    · rw [e]
      split
      · simp [D.counts]; omega
      · rename_i ts _
        have := wths_counts vs ts ns
        omega
theorem wths_counts : ∀ (vs : List Va) (ts : List Ty) (ns : List Int), D.counts ((wths vs ts ns).flatMap Va.ds) ≤ 4 * Va.nodess vs
  | [], ts, ns => by rw [wths_nil]; simp [D.counts]
  | v :: r, [], ns => by rw [wths]; simp [D.counts]
  | v :: r, t :: q, ns => by
    rw [wths_cons, List.flatMap_cons, D.counts_append]
    have := wth_counts v t ns
    have := wths_counts r q (ns.drop (hns v t).length)
    simp only [Va.nodess]; omega
end
/-- A number of a list of numbers in memory. -/
theorem int_row {w : World} {S : Nat → Prop} {ns : List Int} {A : Option Addr} {c q : Nat} {x : Int} (h : D.At w S (rows intD 1 ns) (.slice A ns.length c)) (hx : ns[q]? = some x) :
    ∃ b off, A = some ⟨b, off, none⟩ ∧ S b ∧ b < w.heap.size ∧ (-9223372036854775808 ≤ x ∧ x ≤ 9223372036854775807) ∧ w.cell? ⟨b, off + q, none⟩ = some (.int .i64 x) := by
  obtain ⟨b, off, u0, rfl, hS, hbl, hat, c0⟩ := rows_at1 intD_length h hx
  simp only [intD, D.Ats, D.At] at hat
  obtain ⟨v, vs, e, ⟨h1, h2⟩, rfl⟩ := hat
  simp only [List.cons.injEq, and_true] at e
  subst e h1
  exact ⟨b, off, rfl, hS, hbl, h2, c0⟩
end Go.Proofs.YtcpadaelgdmipaaGreatDoor
namespace Go.Proofs.YtcpadaelgdmipaaGreatDoor
open Go.RowKit

def numB (n : Int) : Bool := inR 0 n 2147483647
def NumsTo (l : List Int) (k : Nat) : Prop := (l.take k).all numB = true
theorem NumsTo.next {l : List Int} {k : Nat} {x : Int} (h : NumsTo l k) (hx : l[k]? = some x) (hs : numB x = true) : NumsTo l (k + 1) := by
  unfold NumsTo at h ⊢
  rw [List.take_add_one, hx, List.all_append, h]
  simp [hs]
theorem nums_bad {l : List Int} {k : Nat} {x : Int} (hx : l[k]? = some x) (hs : numB x = false) : l.all numB = false := by
  rw [List.all_eq_false]
  exact ⟨x, List.mem_of_getElem? hx, by rw [hs]; decide⟩
theorem NumsTo.end_ {l : List Int} (h : NumsTo l l.length) : l.all numB = true := by unfold NumsTo at h; rwa [List.take_length] at h
set_option maxHeartbeats 2000000 in
set_option maxRecDepth 20000 in
theorem l04Nums_s (l : List Int) (A : Option Addr) (cap : Nat) (w : World) (hv : D.At w anyB (rows intD 1 l) (.slice A l.length cap)) :
    Calls Tryz.prog 26 #[.slice A l.length cap] w fun e w' => e = .returned (.bool (l.all numB)) ∧ w = w' := by
  obtain ⟨-, hn, hc⟩ := rows_bound hv
  unfold maxLen at hc
  have HV := Lib.hid hv
  clear hv
  go_enter Tryz.func26, Tryz.ntmps26
  go_wp2
  go_loop [3] (fun i => ∃ k : Nat, k ≤ l.length ∧ i = .int .i64 k ∧ NumsTo l k) (fun i => l.length - (intOf i).toNat)
  case atStart => exact ⟨0, Nat.zero_le _, rfl, by simp [NumsTo]⟩
  case round =>
    obtain ⟨k, hk, rfl, hst⟩ := hrel
    by_cases hlt : k < l.length
    · obtain ⟨x, hx⟩ : ∃ x, l[k]? = some x := ⟨l[k], List.getElem?_eq_getElem hlt⟩
      have hk0 : (0 : Int) ≤ (k : Int) := by omega
      have hk1 : (k : Int) < (l.length : Int) := by omega
      obtain ⟨b, off, e, -, hbl, hxr, c0⟩ := int_row HV.out hx
      subst e
      have HN := Lib.hid (And.intro hx hst)
      clear hx hst hxr
      obtain ⟨Z, hZ⟩ : ∃ Z, inR 0 x 2147483647 = Z := ⟨_, rfl⟩
      have HC := Lib.hid (l00In_z hZ)
      have HZ := Lib.hid hZ
      clear hZ
      go_wp2_with fail
      refine (HC.out _).mono ?_
      rintro e w1 ⟨rfl, rfl⟩
      cases Z
      · have HB := Lib.hid (nums_bad HN.out.1 HZ.out)
        go_wp2
        go_ret
        exact ⟨ret_eq (by rw [HB.out]; rfl), rfl⟩
      · have HB := Lib.hid (HN.out.2.next HN.out.1 HZ.out)
        go_wp2
        go_round
        case rel => exact ⟨k + 1, by omega, by go_num, HB.out⟩
        case measure => simp [intOf]; omega
    · obtain rfl : k = l.length := by omega
      have HB := Lib.hid hst.end_
      clear hst
      go_wp2
      go_ret
      exact ⟨ret_eq (by rw [HB.out]; rfl), rfl⟩
theorem withIn_i (n : Int) (w : World) : Calls Tryz.prog 34 #[.int .i64 n] w fun e w' => e = .returned (.bool (!numB n)) ∧ w = w' := by
  obtain ⟨Z, hZ⟩ : ∃ Z, numB n = Z := ⟨_, rfl⟩
  have HC : Hid (Calls Tryz.prog 35 #[.int .i64 n, .int .i64 0, .int .i64 2147483647] w fun e w' => e = .returned (.bool Z) ∧ w = w') := Lib.hid (by rw [← hZ]; exact within_any n 0 2147483647 w)
  rw [hZ]
  clear hZ
  go_enter Tryz.func34, Tryz.ntmps34
  go_wp2_with fail
  refine HC.out.mono ?_
  rintro e w1 ⟨rfl, rfl⟩
  go_wp2
  exact bodyPost_ret (v := .bool (!Z)) (by simp [results, Tryz.results34, go_sem]) rfl ⟨rfl, rfl⟩
set_option maxHeartbeats 2000000 in
set_option maxRecDepth 20000 in
theorem numsIdx_i (L : List Int) (A : Option Addr) (cap : Nat) (w : World) (hv : D.At w anyB (rows intD 1 L) (.slice A L.length cap)) :
    Calls Tryz.prog 54 #[.slice A L.length cap, .func (.func 34) #[] #[]] w fun e w' => (∃ r : Int, e = .returned (.int .i64 r) ∧ decide (0 ≤ r) = !(L.all numB)) ∧ w = w' := by
  obtain ⟨-, hn, hc⟩ := rows_bound hv
  unfold maxLen at hc
  have HV := Lib.hid hv
  have hF : ∀ args w, (callFunc 34 args).run Tryz.prog w = .ok (.enter 34 args) w := enters_of Tryz.func34 (by kernel_rfl) rfl
  clear hv
  go_enter Tryz.func54, Tryz.ntmps54
  go_wp2
  go_loop [5, 8] (fun _ i => ∃ k : Nat, k ≤ L.length ∧ i = .int .i64 k ∧ NumsTo L k) (fun _ i => L.length - (intOf i).toNat)
  case atStart => exact ⟨0, Nat.zero_le _, rfl, by simp [NumsTo]⟩
  case round =>
    obtain ⟨k, hk, rfl, hst⟩ := hrel
    by_cases hlt : k < L.length
    · obtain ⟨x, hx⟩ : ∃ x, L[k]? = some x := ⟨L[k], List.getElem?_eq_getElem hlt⟩
      have hk0 : (0 : Int) ≤ (k : Int) := by omega
      have hk1 : (k : Int) < (L.length : Int) := by omega
      obtain ⟨b, off, e, -, hbl, hxr, c0⟩ := int_row HV.out hx
      subst e
      have HN := Lib.hid (And.intro hx hst)
      clear hx hst hxr
      obtain ⟨Z, hZ⟩ : ∃ Z, numB x = Z := ⟨_, rfl⟩
      have HC : Hid (∀ W, Calls Tryz.prog 34 #[.int .i64 x] W fun e w' => e = .returned (.bool (!Z)) ∧ W = w') := Lib.hid (fun W => by rw [← hZ]; exact withIn_i x W)
      have HZ := Lib.hid hZ
      clear hZ
      go_wp2_with fail
      refine (HC.out _).mono ?_
      rintro e w1 ⟨rfl, rfl⟩
      cases Z
      · have HB := Lib.hid (nums_bad HN.out.1 HZ.out)
        go_wp2
        go_ret
        exact ⟨⟨_, rfl, by rw [HB.out]; simp⟩, rfl⟩
      · have HB := Lib.hid (HN.out.2.next HN.out.1 HZ.out)
        go_wp2
        go_round
        case rel => exact ⟨k + 1, by omega, by go_num, HB.out⟩
        case measure => simp [intOf]; omega
    · obtain rfl : k = L.length := by omega
      have HB := Lib.hid hst.end_
      clear hst
      go_wp2
      go_ret
      exact ⟨⟨-1, rfl, by rw [HB.out]; rfl⟩, rfl⟩
set_option maxRecDepth 20000 in
theorem numsCon_i (L : List Int) (A : Option Addr) (cap : Nat) (w : World) (hv : D.At w anyB (rows intD 1 L) (.slice A L.length cap)) :
    Calls Tryz.prog 33 #[.slice A L.length cap, .func (.func 34) #[] #[]] w fun e w' => e = .returned (.bool (!(L.all numB))) ∧ w = w' := by
  have H := Lib.hid (numsIdx_i L A cap w hv)
  clear hv
  obtain ⟨Z, hZ⟩ : ∃ Z, (!(L.all numB)) = Z := ⟨_, rfl⟩
  rw [hZ] at H ⊢
  clear hZ
  go_enter Tryz.func33, Tryz.ntmps33
  go_wp2_with fail
  refine H.out.mono ?_
  rintro e w1 ⟨⟨r, rfl, hr⟩, rfl⟩
  have HR := Lib.hid hr
  clear hr
  by_cases h0 : 0 ≤ r
  all_goals
    go_wp2
    go_ret
    exact ⟨ret_eq (by rw [← HR.out]; simp [h0]), rfl⟩
end Go.Proofs.YtcpadaelgdmipaaGreatDoor
namespace Go.Proofs.YtcpadaelgdmipaaGreatDoor
open Go.RowKit

/-- The rest of a row of numbers. -/
theorem int_drop {w : World} {S : Nat → Prop} {ns : List Int} {A : Option Addr} {c n : Nat} (h : D.At w S (rows intD 1 ns) (.slice A ns.length c)) (hn : n ≤ ns.length) (X : Option Addr) (hX : X = if c = n then A else A.map (fun x => x.add n)) :
    D.At w S (rows intD 1 (ns.drop n)) (.slice X (ns.drop n).length (c - n)) := by
  unfold rows at h ⊢
  simp only [D.At] at h ⊢
  obtain ⟨A', cap, xs, hv, h1, h2, h3, h4, h5⟩ := h
  injection hv with e1 _ e3
  subst e1 e3
  have hl : (ns.drop n).length = ns.length - n := List.length_drop
  refine ⟨X, c - n, xs.drop n, rfl, by omega, by omega, by rw [List.length_drop, hl]; omega, fun hp => ?_, ?_⟩
  · obtain ⟨b, off, rfl, hS, hbl, hc⟩ := h4 (by omega)
    refine ⟨b, off + n, ?_, hS, hbl, fun j u hj => ?_⟩
    · rw [hX, if_neg (by omega), Option.map_some, Addr.add_lit]
    · rw [List.getElem?_drop] at hj
      rw [Nat.add_assoc]
      exact hc (n + j) u hj
  · rw [flat_take_drop intD ns n] at h5
    obtain ⟨ys, zs, e, g1, g2⟩ := h5.split
    have hy : ys.length = n := by rw [g1.length, flat_length intD_length, List.length_take]; omega
    rw [e, ← hy, List.drop_left]
    rw [hy]
    exact g2
def RetNw (v : Va) (t : Ty) (ns : List Int) (w : World) (e : Ending) (w' : World) : Prop := ∃ cs, e = .returned (.tuple #[.agg cs.toArray, .int .i64 ((hns v t).length : Int)]) ∧ SepsIn w' w.heap.size w'.heap.size (wth v t ns).ds cs ∧ Below w.heap.size w w'
def NwFn (v : Va) : Prop := ∀ (t : Ty), Ty.all shape t = true → fitV v t = true → v.nodes ≤ 2000000 → ∀ (ns : List Int) (A : Option Addr) (c : Nat) (cs cs' : List Value) (w : World), (hns v t).length ≤ ns.length → D.Ats w anyB v.ds cs → D.Ats w anyB t.ds cs' → D.At w anyB (rows intD 1 ns) (.slice A ns.length c) →
  Calls Tryz.prog 27 #[.agg cs.toArray, .agg cs'.toArray, .slice A ns.length c] w (RetNw v t ns w)
theorem arr_get {α : Type} {l : List α} {i : Nat} {o : α} (h : l[i]? = some o) : (l.toArray)[i]? = some o := by simpa using h
theorem info_wV : (Tryz.prog.info? 34).map (fun i => (i.zero, i.size, i.bytes)) = some (some (.agg #[.int .i64 0, .int .i64 0, .string ⟨#[]⟩, .slice none 0 0]), 4, 56) := by kernel_rfl
theorem hnss_take_le (vs : List Va) (ts : List Ty) (k : Nat) : (hnss (vs.take k) ts).length ≤ (hnss vs ts).length := by
  induction vs generalizing ts k with
  | nil => simp
  | cons x r ih =>
    cases k with
    | zero => simp [hnss_nil]
    | succ k =>
      cases ts with
      | nil => rw [List.take_succ_cons, hnss]; simp
      | cons y q =>
        rw [List.take_succ_cons, hnss_cons, hnss_cons, List.length_append, List.length_append]
        have := ih q k
        omega
/-- The head of a list of numbers. -/
theorem headD_at {ns : List Int} {x : Int} (h : ns[0]? = some x) : ns.headD 0 = x := by
  cases ns with
  | nil => simp at h
  | cons y r => simpa using h
theorem nw_end {w w' : World} {h B : Nat} {k m : Int} {s : ByteArray} {vs : List Va} {vK : Value} (hk : -9223372036854775808 ≤ k ∧ k ≤ 9223372036854775807) (hm : -9223372036854775808 ≤ m ∧ m ≤ 9223372036854775807) (hs : s.size ≤ maxLen)
    (hB : h ≤ B) (hK : SepIn w B w.heap.size (rows Va.ds 4 vs) vK) (hw : w'.heap.size = w.heap.size) (hkeep : ∀ b, B ≤ b → w'.heap[b]? = w.heap[b]?) : SepsIn w' h w'.heap.size (Va.ds (.mk k m s vs)) [.int .i64 k, .int .i64 m, .string s, vK] := by
  have hK' : SepIn w' B w'.heap.size (rows Va.ds 4 vs) vK := by
    rw [hw]
    exact hK.keep (fun b h1 _ => hkeep b h1)
  rw [Va.ds_eq]
  exact SepsIn.weaken (SepsIn.cons (SepIn.int hk) (SepsIn.cons (SepIn.int hm) (SepsIn.cons (SepIn.str hs) (SepsIn.cons hK' (SepsIn.nil (Nat.le_refl _)))))) hB (Nat.le_refl _)
set_option maxHeartbeats 8000000 in
set_option maxRecDepth 20000 in
theorem l04With_s (v : Va) : NwFn v := by
  refine Va.ind (fun k m s vs ih => ?_) v
  intro t hall hfit hnodes ns A0 c0 cs cs' w hnl hcs hcs' hns
  obtain ⟨A, c, rfl, hk, hm, hs, hvs⟩ := Va.open_ hcs
  obtain ⟨k', n, l, kids⟩ := t
  obtain ⟨A1, c1, A2, c2, rfl, hk', hn, hl, hkids⟩ := Ty.open_ hcs'
  obtain ⟨-, hvn, hvc⟩ := rows_bound hvs
  obtain ⟨-, hnn, hnc⟩ := rows_bound hns
  unfold maxLen at hvc hnc
  have hsh := all_shape hall
  obtain ⟨rfl, hnf, -, ts, hts, hmem, hlen, hts16, hfits⟩ := fit_open hsh.1 hfit
  obtain ⟨w0, hw0⟩ : ∃ w0, w0 = ((w.alloc (.cells #[.int .i64 k, .int .i64 m, .string s, .slice A vs.length c] 34)).alloc (.cells #[.int .i64 k, .string n, .slice A1 l.length c1, .slice A2 kids.length c2] 40)).alloc (.cells #[.int .i64 0, .int .i64 0, .string ⟨#[]⟩, .slice none 0 0] 34) := ⟨_, rfl⟩
  obtain ⟨B0, bA, bB, bR⟩ := box3 (w := w) (tA := 34) (tB := 40) (tC := 34) (cA := [.int .i64 k, .int .i64 m, .string s, .slice A vs.length c]) (cB := [.int .i64 k, .string n, .slice A1 l.length c1, .slice A2 kids.length c2]) (cC := [.int .i64 0, .int .i64 0, .string ⟨#[]⟩, .slice none 0 0]) (Below.refl _ _)
  change Below w.heap.size w (((w.alloc (.cells #[.int .i64 k, .int .i64 m, .string s, .slice A vs.length c] 34)).alloc (.cells #[.int .i64 k, .string n, .slice A1 l.length c1, .slice A2 kids.length c2] 40)).alloc (.cells #[.int .i64 0, .int .i64 0, .string ⟨#[]⟩, .slice none 0 0] 34)) at B0
  change Box (((w.alloc (.cells #[.int .i64 k, .int .i64 m, .string s, .slice A vs.length c] 34)).alloc (.cells #[.int .i64 k, .string n, .slice A1 l.length c1, .slice A2 kids.length c2] 40)).alloc (.cells #[.int .i64 0, .int .i64 0, .string ⟨#[]⟩, .slice none 0 0] 34)) _ _ _ at bA bB bR
  rw [← hw0] at B0 bA bB bR
  have hs0 : w0.heap.size = w.heap.size + 3 := by rw [hw0]; simp
  obtain ⟨W1, hW1⟩ : ∃ W1, W1 = w0.alloc (.cells #[.int .i64 k, .int .i64 m, .string s, .slice none 0 0] 34) := ⟨_, rfl⟩
  obtain ⟨g, hgE⟩ : ∃ g, g = w0.heap.size := ⟨_, rfl⟩
  have bG : Box W1 g 34 [.int .i64 k, .int .i64 m, .string s, .slice none 0 0] := by rw [hW1, hgE]; exact Box.new w0 _ _
  have B1 : Below w0.heap.size w0 W1 := by rw [hW1]; exact (Below.refl _ _).alloc (Nat.le_refl _) _
  have hs1 : W1.heap.size = w0.heap.size + 1 := by rw [hW1]; simp
  have HS := Lib.hid (And.intro hs0 (And.intro hs1 hgE))
  have HB0 := Lib.hid B0
  have HB1 := Lib.hid (B0.trans (B1.mono B0.size))
  have bA1 := bA.call B1
  have bB1 := bB.call B1
  have bR1 := bR.call B1
  have HBX := Lib.hid (And.intro bA1 (And.intro bB1 bR1))
  have HG := Lib.hid bG
  have HP := Lib.hid (And.intro hk (And.intro hm hs))
  have kA := bA.cell
  have kB1 := bB1.cell
  change Calls Tryz.prog 27 #[.agg #[.int .i64 k, .int .i64 m, .string s, .slice A vs.length c], .agg #[.int .i64 k, .string n, .slice A1 l.length c1, .slice A2 kids.length c2], .slice A0 ns.length c0] w _
  cases hh : hdl k
  · have hR := hns_no (k := k) (m := m) (s := s) (n := n) (l := l) hh hts
    have hW := wth_no (k := k) (m := m) (s := s) (n := n) (l := l) (ns := ns) hh hts
    unfold RetNw
    rw [hR] at hnl
    rw [hR, hW]
    have g20 : (k == 20) = false := by unfold hdl at hh; simp only [Bool.or_eq_false_iff] at hh; exact hh.1
    have g21 : (k == 21) = false := by unfold hdl at hh; simp only [Bool.or_eq_false_iff] at hh; exact hh.2
    obtain ⟨j0, hj, hy0, hy1, hy2⟩ := info_parts info_wV
    have HJ := Lib.hid (And.intro hj (And.intro hy0 (And.intro hy1 hy2)))
    have HVS := Lib.hid (hvs.below B0)
    have HKD := Lib.hid (hkids.below B0)
    have HNS := Lib.hid (hns.below B0)
    have HB10 := Lib.hid B1
    have hnv : Va.nodess vs ≤ 2000000 := by simp only [Va.nodes] at hnodes; omega
    have HNV := Lib.hid hnv
    have HNL := Lib.hid hnl
    have HIH := Lib.hid (fun x hx y hy => ih x hx y (hsh.2 y (hmem y hy)))
    have HFT := Lib.hid (And.intro hfits (And.intro hlen (fun q y (hy : ts[q]? = some y) => kid_index hsh.1 hnf hts hy)))
    clear hcs hcs' hk hm hs hvs hk' hn hl hkids ih hall hsh hnf hts hmem hfits hR hW hfit hnodes hnv hh hj hy0 hy1 hy2 B0 hnl hns bA bB bR bA1 bB1 bR1 bG B1 hs0
    go_enter Tryz.func27, Tryz.ntmps27
    go_upto_region 2 with fail
    rw [← hw0, ← hW1, show w.heap.size + 1 + 1 + 1 = g by rw [HS.out.2.2, HS.out.1]]
    clear hw0 hW1 hgE kA hs1
    go_wp2
    clear kB1
    go_loopw [9, 10] (fun nn i wr => ∃ (q : Nat) (vK : Value), q ≤ vs.length ∧ i = .int .i64 q ∧ nn = .int .i64 ((hnss (vs.take q) ts).length : Int) ∧ Box wr g 34 [.int .i64 k, .int .i64 m, .string s, vK] ∧ OwnP wr W1.heap.size 34 4 vK q ((wths (vs.take q) ts ns).flatMap Va.ds) ∧ Below w0.heap.size W1 wr) (fun _ i _ => vs.length - (intOf i).toNat)
    case atStart => exact ⟨0, _, Nat.zero_le _, rfl, by rw [List.take_zero, hnss_nil]; rfl, HG.out, by rw [List.take_zero, wths_nil]; exact OwnP.nil (Nat.le_refl _), Below.refl _ _⟩
    case round =>
      obtain ⟨q, vK, hq, rfl, rfl, bG, hO, hb⟩ := hrel
      obtain ⟨AK, cK, rfl⟩ := hO.form
      obtain ⟨HH, hHH⟩ : ∃ HH, hnss (vs.take q) ts = HH := ⟨_, rfl⟩
      obtain ⟨PP, hPP⟩ : ∃ PP, (wths (vs.take q) ts ns).flatMap Va.ds = PP := ⟨_, rfl⟩
      rw [hPP] at hO
      rw [hHH]
      have hsz1 : w0.heap.size ≤ W1.heap.size := by have := HS.out.2.1; omega
      have hbW : Below W1.heap.size W1 wr ∨ True := .inr trivial
      have lG := bG.lt
      have bA : Box wr w.heap.size 34 [.int .i64 k, .int .i64 m, .string s, .slice A vs.length c] := (hb.block _ (by have := HS.out; omega)).trans HBX.out.1
      have bB : Box wr (w.heap.size + 1) 40 [.int .i64 k, .string n, .slice A1 l.length c1, .slice A2 kids.length c2] := (hb.block _ (by have := HS.out; omega)).trans HBX.out.2.1
      by_cases hlt : q < vs.length
      · have hlt' : q < ts.length := by rw [HFT.out.2.1]; exact hlt
        obtain ⟨x, hx⟩ : ∃ x, vs[q]? = some x := ⟨vs[q], List.getElem?_eq_getElem hlt⟩
        obtain ⟨y, hy⟩ : ∃ y, ts[q]? = some y := ⟨ts[q], List.getElem?_eq_getElem hlt'⟩
        obtain ⟨j, hyj, hj⟩ := HFT.out.2.2 q y hy
        have i0 : (0 : Int) ≤ (q : Int) := by omega
        have i1 : (q : Int) < (vs.length : Int) := by omega
        have hvw : Below w0.heap.size w0 wr := HB10.out.trans hb
        obtain ⟨b, off, u0, u1, u2, u3, e, -, hbl, hat, d0, d1, d2, d3⟩ := rows_at4 Va.len (HVS.out.below hvw) hx
        subst e
        obtain ⟨f0, f1, f2, f3, f4, f5, exx⟩ := Va.form hat
        simp only [List.cons.injEq, and_true] at exx
        obtain ⟨rfl, rfl, rfl, rfl⟩ := exx
        have hnd : Va.nodess (vs.take q) + x.nodes ≤ Va.nodess vs := by rw [← Va.nodess_next hx]; exact Va.nodess_take _ _
        have hl1 := hnss_len (vs.take q) ts
        have hl2 := hns_len x y
        have hnv := HNV.out
        have hN := hnss_next hx hy
        have hle : HH.length + (hns x y).length ≤ ns.length := by
          have h1 := hnss_take_le vs ts (q + 1)
          have h2 := HNL.out
          rw [hN, List.length_append, hHH] at h1
          omega
        rw [hHH] at hl1
        have hH1 : HH.length ≤ ns.length := by omega
        have n0 : (0 : Int) ≤ (HH.length : Int) := by omega
        have n1 : (HH.length : Int) ≤ (ns.length : Int) := by omega
        have n2 : HH.length ≤ 2000000 := by omega
        have n3 : (hns x y).length ≤ 2000000 := by omega
        have q2 : q + 1 ≤ 2000000 := by omega
        have HKI := Lib.hid (fun W (h : Below wr.heap.size wr W) => l04Kid_s k m s n l kids (some ⟨b, off, none⟩) A1 A2 vs.length c c1 c2 q j y W k ((HKD.out.below hvw).below h) hyj hj)
        have HHA : Hid (∀ (csY : List Value) (W : World) (h : Below wr.heap.size wr W) (hY : D.Ats W anyB y.ds csY) (X : Option Addr) (hX : X = if c0 = HH.length then A0 else A0.map (fun x => x.add HH.length)) (L : Nat) (hL : L = ns.length - HH.length) (C : Nat) (hC : C = c0 - HH.length),
            Calls Tryz.prog 27 #[.agg #[.int .i64 f0, .int .i64 f1, .string f2, .slice f3 f4 f5], .agg csY.toArray, .slice X L C] W (RetNw x y (ns.drop HH.length) W)) := Lib.hid (fun csY W h hY X hX L hL C hC => by
          subst hC hL
          have h9 := HIH.out x (List.mem_of_getElem? hx) y (List.mem_of_getElem? hy) (fitVs_at HFT.out.1 hx hy) (by omega) (ns.drop HH.length) X (c0 - HH.length) [.int .i64 f0, .int .i64 f1, .string f2, .slice f3 f4 f5] csY W (by rw [List.length_drop]; omega) (hat.below h) hY (int_drop ((HNS.out.below hvw).below h) hH1 X hX)
          rw [List.length_drop] at h9
          exact h9)
        have HN := Lib.hid (show (hnss (vs.take (q + 1)) ts).length = HH.length + (hns x y).length by rw [hN, List.length_append, hHH])
        have HNW := Lib.hid (show (wths (vs.take (q + 1)) ts ns).flatMap Va.ds = PP ++ (wth x y (ns.drop HH.length)).ds by rw [wths_next (ns := ns) hx hy, List.flatMap_append, hPP, hHH, List.flatMap_singleton])
        obtain ⟨M, hM⟩ : ∃ M, (hns x y).length = M := ⟨_, rfl⟩
        rw [hM] at HN n3
        have HMM := Lib.hid hM
        have kA := bA.cell
        have kB := bB.cell
        have HO9 := Lib.hid hO
        have HBG := Lib.hid bG
        have hOd := hO.drew
        have HBW := Lib.hid hb
        have hDr : Below wr.heap.size wr wr.drew := (Below.refl _ wr).drew
        have bA0 := bA
        have bB0 := bB
        have lA := bA.lt
        have lB := bB.lt
        have bAd : Box wr.drew w.heap.size 34 [.int .i64 k, .int .i64 m, .string s, .slice (some ⟨b, off, none⟩) vs.length c] := bA
        have bGd : Box wr.drew g 34 [.int .i64 k, .int .i64 m, .string s, .slice AK q cK] := bG
        clear hx hy hyj hj hat hO hb hnd hl1 hl2 hnv hHH hPP hN hle bA bB bG hvw hbW hM
        have hDz : Below wr.heap.size wr ((wr.alloc (.cells #[.int .i64 0, .int .i64 0, .string ⟨#[]⟩, .slice none 0 0] 34)).drew) := ((Below.refl _ wr).alloc (Nat.le_refl _) _).drew
        have bZ0 : Box ((wr.alloc (.cells #[.int .i64 0, .int .i64 0, .string ⟨#[]⟩, .slice none 0 0] 34)).drew) wr.heap.size 34 [.int .i64 0, .int .i64 0, .string ⟨#[]⟩, .slice none 0 0] := Box.new wr _ [.int .i64 0, .int .i64 0, .string ⟨#[]⟩, .slice none 0 0]
        have HK12 : ∀ W : World, Below wr.heap.size wr W → W.cell? ⟨w.heap.size, 0, none⟩ = some (.int .i64 k) ∧ W.cell? ⟨w.heap.size, 1, none⟩ = some (.int .i64 m) ∧ W.cell? ⟨w.heap.size, 2, none⟩ = some (.string s) ∧ W.cell? ⟨w.heap.size, 3, none⟩ = some (.slice (some ⟨b, off, none⟩) vs.length c) ∧ W.cell? ⟨w.heap.size + 1, 0, none⟩ = some (.int .i64 k) ∧ W.cell? ⟨w.heap.size + 1, 1, none⟩ = some (.string n) ∧ W.cell? ⟨w.heap.size + 1, 2, none⟩ = some (.slice A1 l.length c1) ∧ W.cell? ⟨w.heap.size + 1, 3, none⟩ = some (.slice A2 kids.length c2) ∧ W.cell? ⟨b, off + q * 4, none⟩ = some (.int .i64 f0) ∧ W.cell? ⟨b, off + q * 4 + 1, none⟩ = some (.int .i64 f1) ∧ W.cell? ⟨b, off + q * 4 + 2, none⟩ = some (.string f2) ∧ W.cell? ⟨b, off + q * 4 + 3, none⟩ = some (.slice f3 f4 f5) := fun W h => ⟨(h.cell (p := ⟨w.heap.size, 0, none⟩) lA).trans (bA0.cell 0), (h.cell (p := ⟨w.heap.size, 1, none⟩) lA).trans (bA0.cell 1), (h.cell (p := ⟨w.heap.size, 2, none⟩) lA).trans (bA0.cell 2), (h.cell (p := ⟨w.heap.size, 3, none⟩) lA).trans (bA0.cell 3), (h.cell (p := ⟨w.heap.size + 1, 0, none⟩) lB).trans (bB0.cell 0), (h.cell (p := ⟨w.heap.size + 1, 1, none⟩) lB).trans (bB0.cell 1), (h.cell (p := ⟨w.heap.size + 1, 2, none⟩) lB).trans (bB0.cell 2), (h.cell (p := ⟨w.heap.size + 1, 3, none⟩) lB).trans (bB0.cell 3), (h.cell (p := ⟨b, off + q * 4, none⟩) hbl).trans d0, (h.cell (p := ⟨b, off + q * 4 + 1, none⟩) hbl).trans d1, (h.cell (p := ⟨b, off + q * 4 + 2, none⟩) hbl).trans d2, (h.cell (p := ⟨b, off + q * 4 + 3, none⟩) hbl).trans d3⟩
        rcases Decidable.em (c0 = HH.length) with rfl | hc0
        all_goals
          go_upto_region 9 with fail
          go_cut [11, 12] (fun s11 s12 wx => ∃ (g2 : Nat) (x0 x1 : Int) (x2 : ByteArray) (x3 : Option Addr) (x4 x5 : Nat), s11 = .pointer (some ⟨g2, 0, none⟩) ∧ s12 = .int .i64 (M : Int) ∧ Box wx g2 34 [.int .i64 x0, .int .i64 x1, .string x2, .slice x3 x4 x5] ∧ SepsIn wx wr.heap.size wx.heap.size (wth x y (ns.drop HH.length)).ds [.int .i64 x0, .int .i64 x1, .string x2, .slice x3 x4 x5] ∧ Below wr.heap.size wr wx)
          case first =>
            refine wp_region_held_drew (S := (fun W => W.cell? ⟨w.heap.size, 0, none⟩ = some (.int .i64 k) ∧ W.cell? ⟨w.heap.size, 1, none⟩ = some (.int .i64 m) ∧ W.cell? ⟨w.heap.size, 2, none⟩ = some (.string s) ∧ W.cell? ⟨w.heap.size, 3, none⟩ = some (.slice (some ⟨b, off, none⟩) vs.length c) ∧ W.cell? ⟨w.heap.size + 1, 0, none⟩ = some (.int .i64 k) ∧ W.cell? ⟨w.heap.size + 1, 1, none⟩ = some (.string n) ∧ W.cell? ⟨w.heap.size + 1, 2, none⟩ = some (.slice A1 l.length c1) ∧ W.cell? ⟨w.heap.size + 1, 3, none⟩ = some (.slice A2 kids.length c2) ∧ W.cell? ⟨b, off + q * 4, none⟩ = some (.int .i64 f0) ∧ W.cell? ⟨b, off + q * 4 + 1, none⟩ = some (.int .i64 f1) ∧ W.cell? ⟨b, off + q * 4 + 2, none⟩ = some (.string f2) ∧ W.cell? ⟨b, off + q * 4 + 3, none⟩ = some (.slice f3 f4 f5))) (by kernel_rfl) ?_ (fun hHeld => ?_)
            · (try dsimp only); (first | with_reducible assumption | ((refine HK12 _ ?_); (repeat (first | with_reducible exact e6 | with_reducible exact e5 | with_reducible exact hDz | with_reducible exact hDr | with_reducible exact Below.refl _ _ | with_reducible refine Below.drew ?_ | (with_reducible refine Below.setCell ?_ ?_ _; rotate_left; (first | with_reducible exact Nat.le_refl _ | with_reducible exact e5.size | with_reducible exact e6.size | (simp; done))) | (with_reducible refine Below.alloc ?_ ?_ _; rotate_left; (first | with_reducible exact Nat.le_refl _ | with_reducible exact e5.size | with_reducible exact e6.size | (simp; done))))); done))
            refine wpAnyH_take (i := 0) (v := ?_) (arr_get rfl) (by kernel_rfl) (by kernel_rfl) (by kernel_rfl) (fun _ _ _ h => h) (Or.inl ⟨by rfl, ?_⟩) (by assumption) ?_
            rotate_left 1
            · (intro W hSw; (try dsimp only at hSw); go_simp; try with_reducible rfl)
            (try simp only [Act.put, List.setIfInBounds_toArray, List.set_cons_zero, List.set_cons_succ])
            refine wpAnyH_take (i := 1) (v := ?_) (arr_get rfl) (by kernel_rfl) (by kernel_rfl) (by kernel_rfl) (fun _ _ _ h => h) (Or.inl ⟨by rfl, ?_⟩) (by assumption) ?_
            rotate_left 1
            · (intro W hSw; (try dsimp only at hSw); go_simp; try with_reducible rfl)
            (try simp only [Act.put, List.setIfInBounds_toArray, List.set_cons_zero, List.set_cons_succ])
            refine wpAnyH_take (i := 2) (v := ?_) (arr_get rfl) (by kernel_rfl) (by kernel_rfl) (by kernel_rfl) (fun _ _ _ h => h) (Or.inl ⟨by rfl, ?_⟩) (by assumption) ?_
            rotate_left 1
            · (intro W hSw; (try dsimp only at hSw); go_simp; try with_reducible rfl)
            (try simp only [Act.put, List.setIfInBounds_toArray, List.set_cons_zero, List.set_cons_succ])
            refine wpAnyH_take (i := 3) (v := ?_) (arr_get rfl) (by kernel_rfl) (by kernel_rfl) (by kernel_rfl) (fun _ _ _ h => h) (Or.inl ⟨by rfl, ?_⟩) (by assumption) ?_
            rotate_left 1
            · (intro W hSw; (try dsimp only at hSw); go_simp; try with_reducible rfl)
            (try simp only [Act.put, List.setIfInBounds_toArray, List.set_cons_zero, List.set_cons_succ])
            refine wpAnyH_take (i := 4) (v := ?_) (arr_get rfl) (by kernel_rfl) (by kernel_rfl) (by kernel_rfl) (fun _ _ _ h => h) (Or.inl ⟨by rfl, ?_⟩) (by assumption) ?_
            rotate_left 1
            · (intro W hSw; (try dsimp only at hSw); go_simp; try with_reducible rfl)
            (try simp only [Act.put, List.setIfInBounds_toArray, List.set_cons_zero, List.set_cons_succ])
            refine wpAnyH_take (i := 5) (v := ?_) (arr_get rfl) (by kernel_rfl) (by kernel_rfl) (by kernel_rfl) (fun _ _ _ h => h) (Or.inl ⟨by rfl, ?_⟩) (by assumption) ?_
            rotate_left 1
            · (intro W hSw; (try dsimp only at hSw); go_simp; try with_reducible rfl)
            (try simp only [Act.put, List.setIfInBounds_toArray, List.set_cons_zero, List.set_cons_succ])
            refine wpAnyH_take (i := 6) (v := ?_) (arr_get rfl) (by kernel_rfl) (by kernel_rfl) (by kernel_rfl) (fun _ _ _ h => h) (Or.inl ⟨by rfl, ?_⟩) (by assumption) ?_
            rotate_left 1
            · (intro W hSw; (try dsimp only at hSw); go_simp; try with_reducible rfl)
            (try simp only [Act.put, List.setIfInBounds_toArray, List.set_cons_zero, List.set_cons_succ])
            refine wpAnyH_take (i := 7) (v := ?_) (arr_get rfl) (by kernel_rfl) (by kernel_rfl) (by kernel_rfl) (fun _ _ _ h => h) (Or.inl ⟨by rfl, ?_⟩) (by assumption) ?_
            rotate_left 1
            · (intro W hSw; (try dsimp only at hSw); go_simp; try with_reducible rfl)
            (try simp only [Act.put, List.setIfInBounds_toArray, List.set_cons_zero, List.set_cons_succ])
            refine wpAnyH_take (i := 9) (v := ?_) (arr_get rfl) (by kernel_rfl) (by kernel_rfl) (by kernel_rfl) (fun _ _ _ h => h) (Or.inl ⟨by rfl, ?_⟩) (by assumption) ?_
            rotate_left 1
            · (intro W hSw; (try dsimp only at hSw); go_simp; try with_reducible rfl)
            (try simp only [Act.put, List.setIfInBounds_toArray, List.set_cons_zero, List.set_cons_succ])
            refine wpAnyH_take (i := 10) (v := ?_) (arr_get rfl) (by kernel_rfl) (by kernel_rfl) (by kernel_rfl) (fun _ _ _ h => h) (Or.inl ⟨by rfl, ?_⟩) (by assumption) ?_
            rotate_left 1
            · (intro W hSw; (try dsimp only at hSw); go_simp; try with_reducible rfl)
            (try simp only [Act.put, List.setIfInBounds_toArray, List.set_cons_zero, List.set_cons_succ])
            refine wpAnyH_take (i := 11) (v := ?_) (arr_get rfl) (by kernel_rfl) (by kernel_rfl) (by kernel_rfl) (fun _ _ _ h => h) (Or.inl ⟨by rfl, ?_⟩) (by assumption) ?_
            rotate_left 1
            · (intro W hSw; (try dsimp only at hSw); go_simp; try with_reducible rfl)
            (try simp only [Act.put, List.setIfInBounds_toArray, List.set_cons_zero, List.set_cons_succ])
            refine wpAnyH_ready (rs := [8, 16]) (by kernel_rfl) (by simp) ?_
            refine AllReadyH.cons (arr_get rfl) (fun K hK => ?_) ?_
            · (go_simp; go_at_call 48; ((with_reducible refine (HKI.out _ hDr).mono ?_); rintro e w5 ⟨cs5, rfl, hk5, hb5⟩; obtain ⟨z0, z1, z2, z3, z4, z5, z6, z7, rfl⟩ := Ty.form hk5; have e5 : Below wr.heap.size wr w5 := hDr.trans (hb5.mono hDr.size)))
              (first | refine hK.out _ _ ?_ (fun hHeld => ?_) | (go_wp2_with fail; refine hK.out _ _ ?_ (fun hHeld => ?_)))
              · (try dsimp only); (first | with_reducible assumption | ((refine HK12 _ ?_); (repeat (first | with_reducible exact e6 | with_reducible exact e5 | with_reducible exact hDz | with_reducible exact hDr | with_reducible exact Below.refl _ _ | with_reducible refine Below.drew ?_ | (with_reducible refine Below.setCell ?_ ?_ _; rotate_left; (first | with_reducible exact Nat.le_refl _ | with_reducible exact e5.size | with_reducible exact e6.size | (simp; done))) | (with_reducible refine Below.alloc ?_ ?_ _; rotate_left; (first | with_reducible exact Nat.le_refl _ | with_reducible exact e5.size | with_reducible exact e6.size | (simp; done))))); done))
              clear hK K
              (try simp only [Act.put, List.setIfInBounds_toArray, List.set_cons_zero, List.set_cons_succ])
              refine wpAnyH_ready (rs := [12, 16]) (by kernel_rfl) (by simp) ?_
              refine AllReadyH.cons (arr_get rfl) (fun K hK => ?_) ?_
              · (go_simp; go_at_call 27; ((first | with_reducible refine Calls.mono (HHA.out [.int .i64 z0, .string z1, .slice z2 z3 z4, .slice z5 z6 z7] w5 e5 hk5 A0 (if_pos rfl).symm 0 (by omega) 0 (by omega)) ?_ | with_reducible refine Calls.mono (HHA.out [.int .i64 z0, .string z1, .slice z2 z3 z4, .slice z5 z6 z7] w5 e5 hk5 (A0.map (fun x => x.add HH.length)) (if_neg hc0).symm _ rfl _ rfl) ?_); rintro e w6 ⟨cs6, rfl, hs6, hb6⟩; obtain ⟨x0, x1, x2, x3, x4, x5, rfl⟩ := Va.form hs6.ats; have e6 : Below wr.heap.size wr w6 := e5.trans (hb6.mono e5.size)))
                (first | refine hK.out _ _ ?_ (fun hHeld => ?_) | (go_wp2_with fail; refine hK.out _ _ ?_ (fun hHeld => ?_)))
                · (try dsimp only); (first | with_reducible assumption | ((refine HK12 _ ?_); (repeat (first | with_reducible exact e6 | with_reducible exact e5 | with_reducible exact hDz | with_reducible exact hDr | with_reducible exact Below.refl _ _ | with_reducible refine Below.drew ?_ | (with_reducible refine Below.setCell ?_ ?_ _; rotate_left; (first | with_reducible exact Nat.le_refl _ | with_reducible exact e5.size | with_reducible exact e6.size | (simp; done))) | (with_reducible refine Below.alloc ?_ ?_ _; rotate_left; (first | with_reducible exact Nat.le_refl _ | with_reducible exact e5.size | with_reducible exact e6.size | (simp; done))))); done))
                clear hK K
                (try simp only [Act.put, List.setIfInBounds_toArray, List.set_cons_zero, List.set_cons_succ])
                refine wpAnyH_take (i := 13) (v := ?_) (arr_get rfl) (by kernel_rfl) (by kernel_rfl) (by kernel_rfl) (fun _ _ _ h => h) (Or.inl ⟨by rfl, ?_⟩) (by assumption) ?_
                rotate_left 1
                · (intro W hSw; (try dsimp only at hSw); go_simp; try with_reducible rfl)
                (try simp only [Act.put, List.setIfInBounds_toArray, List.set_cons_zero, List.set_cons_succ])
                refine wpAnyH_take (i := 14) (v := ?_) (arr_get rfl) (by kernel_rfl) (by kernel_rfl) (by kernel_rfl) (fun _ _ _ h => h) (Or.inl ⟨by rfl, ?_⟩) (by assumption) ?_
                rotate_left 1
                · (intro W hSw; (try dsimp only at hSw); go_simp; try with_reducible rfl)
                (try simp only [Act.put, List.setIfInBounds_toArray, List.set_cons_zero, List.set_cons_succ])
                refine wpAnyH_take (i := 15) (v := ?_) (arr_get rfl) (by kernel_rfl) (by kernel_rfl) (by kernel_rfl) (fun _ _ _ h => h) (Or.inl ⟨by rfl, ?_⟩) (by assumption) ?_
                rotate_left 1
                · (intro W hSw; (try dsimp only at hSw); go_simp; try with_reducible rfl)
                (try simp only [Act.put, List.setIfInBounds_toArray, List.set_cons_zero, List.set_cons_succ])
                refine wpAnyH_ready (rs := [16]) (by kernel_rfl) (by simp) ?_
                refine AllReadyH.cons (arr_get rfl) (fun K hK => ?_) ?_
                · go_simp
                  (first | refine hK.out _ _ ?_ (fun hHeld => ?_) | (go_wp2_with fail; refine hK.out _ _ ?_ (fun hHeld => ?_)))
                  · (try dsimp only); (first | with_reducible assumption | ((refine HK12 _ ?_); (repeat (first | with_reducible exact e6 | with_reducible exact e5 | with_reducible exact hDz | with_reducible exact hDr | with_reducible exact Below.refl _ _ | with_reducible refine Below.drew ?_ | (with_reducible refine Below.setCell ?_ ?_ _; rotate_left; (first | with_reducible exact Nat.le_refl _ | with_reducible exact e5.size | with_reducible exact e6.size | (simp; done))) | (with_reducible refine Below.alloc ?_ ?_ _; rotate_left; (first | with_reducible exact Nat.le_refl _ | with_reducible exact e5.size | with_reducible exact e6.size | (simp; done))))); done))
                  clear hK K
                  (try simp only [Act.put, List.setIfInBounds_toArray, List.set_cons_zero, List.set_cons_succ])
                  refine wpAnyH_ready (rs := [17]) (by kernel_rfl) (by simp) ?_
                  refine AllReadyH.cons (arr_get rfl) (fun K hK => ?_) ?_
                  · go_simp
                    (first | refine hK.out _ _ ?_ (fun hHeld => ?_) | (go_wp2_with fail; refine hK.out _ _ ?_ (fun hHeld => ?_)))
                    · (try dsimp only); (first | with_reducible assumption | ((refine HK12 _ ?_); (repeat (first | with_reducible exact e6 | with_reducible exact e5 | with_reducible exact hDz | with_reducible exact hDr | with_reducible exact Below.refl _ _ | with_reducible refine Below.drew ?_ | (with_reducible refine Below.setCell ?_ ?_ _; rotate_left; (first | with_reducible exact Nat.le_refl _ | with_reducible exact e5.size | with_reducible exact e6.size | (simp; done))) | (with_reducible refine Below.alloc ?_ ?_ _; rotate_left; (first | with_reducible exact Nat.le_refl _ | with_reducible exact e5.size | with_reducible exact e6.size | (simp; done))))); done))
                    clear hK K
                    (try simp only [Act.put, List.setIfInBounds_toArray, List.set_cons_zero, List.set_cons_succ])
                    refine wpAnyH_take (i := 18) (v := ?_) (arr_get rfl) (by kernel_rfl) (by kernel_rfl) (by kernel_rfl) (fun _ _ _ h => h) (Or.inl ⟨by rfl, ?_⟩) (by assumption) ?_
                    rotate_left 1
                    · (intro W hSw; (try dsimp only at hSw); go_simp; try with_reducible rfl)
                    (try simp only [Act.put, List.setIfInBounds_toArray, List.set_cons_zero, List.set_cons_succ])
                    refine wpAnyH_done (by kernel_rfl) ?_ _
                    clear hHeld
                    go_wp2_with fail
                    go_meet
                    exact ⟨w6.heap.size, x0, x1, x2, x3, x4, x5, rfl, (by rw [HMM.out]), Box.new w6 _ [.int .i64 x0, .int .i64 x1, .string x2, .slice x3 x4 x5], (hs6.below ((Below.refl _ _).alloc (Nat.le_refl _) _) (Nat.le_refl _)).weaken e5.size (by simp), e6.alloc e6.size _⟩
                  exact AllReadyH.nil
                exact AllReadyH.nil
              refine AllReadyH.cons (arr_get rfl) (fun K hK => ?_) ?_
              · go_simp
                (first | refine hK.out _ _ ?_ (fun hHeld => ?_) | (go_wp2_with fail; refine hK.out _ _ ?_ (fun hHeld => ?_)))
                · (try dsimp only); (first | with_reducible assumption | ((refine HK12 _ ?_); (repeat (first | with_reducible exact e6 | with_reducible exact e5 | with_reducible exact hDz | with_reducible exact hDr | with_reducible exact Below.refl _ _ | with_reducible refine Below.drew ?_ | (with_reducible refine Below.setCell ?_ ?_ _; rotate_left; (first | with_reducible exact Nat.le_refl _ | with_reducible exact e5.size | with_reducible exact e6.size | (simp; done))) | (with_reducible refine Below.alloc ?_ ?_ _; rotate_left; (first | with_reducible exact Nat.le_refl _ | with_reducible exact e5.size | with_reducible exact e6.size | (simp; done))))); done))
                clear hK K
                (try simp only [Act.put, List.setIfInBounds_toArray, List.set_cons_zero, List.set_cons_succ])
                refine wpAnyH_ready (rs := [12]) (by kernel_rfl) (by simp) ?_
                refine AllReadyH.cons (arr_get rfl) (fun K hK => ?_) ?_
                · (go_simp; go_at_call 27; ((first | with_reducible refine Calls.mono (HHA.out [.int .i64 z0, .string z1, .slice z2 z3 z4, .slice z5 z6 z7] (w5.alloc (.cells #[.int .i64 0, .int .i64 0, .string ⟨#[]⟩, .slice none 0 0] 34)) (e5.alloc e5.size _) (hk5.below ((Below.refl _ _).alloc (Nat.le_refl _) _)) A0 (if_pos rfl).symm 0 (by omega) 0 (by omega)) ?_ | with_reducible refine Calls.mono (HHA.out [.int .i64 z0, .string z1, .slice z2 z3 z4, .slice z5 z6 z7] (w5.alloc (.cells #[.int .i64 0, .int .i64 0, .string ⟨#[]⟩, .slice none 0 0] 34)) (e5.alloc e5.size _) (hk5.below ((Below.refl _ _).alloc (Nat.le_refl _) _)) (A0.map (fun x => x.add HH.length)) (if_neg hc0).symm _ rfl _ rfl) ?_); rintro e w6 ⟨cs6, rfl, hs6, hb6⟩; obtain ⟨x0, x1, x2, x3, x4, x5, rfl⟩ := Va.form hs6.ats; have e6 : Below wr.heap.size wr w6 := (e5.alloc e5.size _).trans (hb6.mono (e5.alloc e5.size _).size); have bz6 : Box w6 w5.heap.size 34 [.int .i64 0, .int .i64 0, .string ⟨#[]⟩, .slice none 0 0] := Box.call (Box.new w5 _ [.int .i64 0, .int .i64 0, .string ⟨#[]⟩, .slice none 0 0]) hb6; have kZ := bz6.cell; have fZ := bz6.frozen; have lZ := bz6.lt; have hlo : w5.heap.size < (w5.alloc (.cells #[.int .i64 0, .int .i64 0, .string ⟨#[]⟩, .slice none 0 0] 34)).heap.size := (by simp)))
                  (first | refine hK.out _ _ ?_ (fun hHeld => ?_) | (go_wp2_with fail; refine hK.out _ _ ?_ (fun hHeld => ?_)))
                  · (try dsimp only); (first | with_reducible assumption | ((refine HK12 _ ?_); (repeat (first | with_reducible exact e6 | with_reducible exact e5 | with_reducible exact hDz | with_reducible exact hDr | with_reducible exact Below.refl _ _ | with_reducible refine Below.drew ?_ | (with_reducible refine Below.setCell ?_ ?_ _; rotate_left; (first | with_reducible exact Nat.le_refl _ | with_reducible exact e5.size | with_reducible exact e6.size | (simp; done))) | (with_reducible refine Below.alloc ?_ ?_ _; rotate_left; (first | with_reducible exact Nat.le_refl _ | with_reducible exact e5.size | with_reducible exact e6.size | (simp; done))))); done))
                  clear hK K
                  (try simp only [Act.put, List.setIfInBounds_toArray, List.set_cons_zero, List.set_cons_succ])
                  refine wpAnyH_take (i := 13) (v := ?_) (arr_get rfl) (by kernel_rfl) (by kernel_rfl) (by kernel_rfl) (fun _ _ _ h => h) (Or.inl ⟨by rfl, ?_⟩) (by assumption) ?_
                  rotate_left 1
                  · (intro W hSw; (try dsimp only at hSw); go_simp; try with_reducible rfl)
                  (try simp only [Act.put, List.setIfInBounds_toArray, List.set_cons_zero, List.set_cons_succ])
                  refine wpAnyH_take (i := 14) (v := ?_) (arr_get rfl) (by kernel_rfl) (by kernel_rfl) (by kernel_rfl) (fun _ _ _ h => h) (Or.inl ⟨by rfl, ?_⟩) (by assumption) ?_
                  rotate_left 1
                  · (intro W hSw; (try dsimp only at hSw); go_simp; try with_reducible rfl)
                  (try simp only [Act.put, List.setIfInBounds_toArray, List.set_cons_zero, List.set_cons_succ])
                  refine wpAnyH_take (i := 15) (v := ?_) (arr_get rfl) (by kernel_rfl) (by kernel_rfl) (by kernel_rfl) (fun _ _ _ h => h) (Or.inl ⟨by rfl, ?_⟩) (by assumption) ?_
                  rotate_left 1
                  · (intro W hSw; (try dsimp only at hSw); go_simp; try with_reducible rfl)
                  (try simp only [Act.put, List.setIfInBounds_toArray, List.set_cons_zero, List.set_cons_succ])
                  refine wpAnyH_ready (rs := [17]) (by kernel_rfl) (by simp) ?_
                  refine AllReadyH.cons (arr_get rfl) (fun K hK => ?_) ?_
                  · go_simp
                    (first | refine hK.out _ _ ?_ (fun hHeld => ?_) | (go_wp2_with fail; refine hK.out _ _ ?_ (fun hHeld => ?_)))
                    · (try dsimp only); (first | with_reducible assumption | ((refine HK12 _ ?_); (repeat (first | with_reducible exact e6 | with_reducible exact e5 | with_reducible exact hDz | with_reducible exact hDr | with_reducible exact Below.refl _ _ | with_reducible refine Below.drew ?_ | (with_reducible refine Below.setCell ?_ ?_ _; rotate_left; (first | with_reducible exact Nat.le_refl _ | with_reducible exact e5.size | with_reducible exact e6.size | (simp; done))) | (with_reducible refine Below.alloc ?_ ?_ _; rotate_left; (first | with_reducible exact Nat.le_refl _ | with_reducible exact e5.size | with_reducible exact e6.size | (simp; done))))); done))
                    clear hK K
                    (try simp only [Act.put, List.setIfInBounds_toArray, List.set_cons_zero, List.set_cons_succ])
                    refine wpAnyH_take (i := 18) (v := ?_) (arr_get rfl) (by kernel_rfl) (by kernel_rfl) (by kernel_rfl) (fun _ _ _ h => h) (Or.inl ⟨by rfl, ?_⟩) (by assumption) ?_
                    rotate_left 1
                    · (intro W hSw; (try dsimp only at hSw); go_simp; try with_reducible rfl)
                    (try simp only [Act.put, List.setIfInBounds_toArray, List.set_cons_zero, List.set_cons_succ])
                    refine wpAnyH_done (by kernel_rfl) ?_ _
                    clear hHeld
                    go_wp2_with fail
                    go_meet
                    exact ⟨w5.heap.size, x0, x1, x2, x3, x4, x5, rfl, (by rw [HMM.out]), (((bz6.set 0 (.int .i64 x0)).set 1 (.int .i64 x1)).set 2 (.string x2)).set 3 (.slice x3 x4 x5), ((((hs6.set (p := ⟨w5.heap.size, 0, none⟩) (.inl hlo) (.int .i64 x0)).set (p := ⟨w5.heap.size, 1, none⟩) (.inl hlo) (.int .i64 x1)).set (p := ⟨w5.heap.size, 2, none⟩) (.inl hlo) (.string x2)).set (p := ⟨w5.heap.size, 3, none⟩) (.inl hlo) (.slice x3 x4 x5)).weaken (e5.alloc e5.size _).size (by simp [World.setCell]), (((e6.setCell e5.size _).setCell e5.size _).setCell e5.size _).setCell e5.size _⟩
                  exact AllReadyH.nil
                exact AllReadyH.nil
              exact AllReadyH.nil
            refine AllReadyH.cons (arr_get rfl) (fun K hK => ?_) ?_
            · go_simp
              (first | refine hK.out _ _ ?_ (fun hHeld => ?_) | (go_wp2_with fail; refine hK.out _ _ ?_ (fun hHeld => ?_)))
              · (try dsimp only); (first | with_reducible assumption | ((refine HK12 _ ?_); (repeat (first | with_reducible exact e6 | with_reducible exact e5 | with_reducible exact hDz | with_reducible exact hDr | with_reducible exact Below.refl _ _ | with_reducible refine Below.drew ?_ | (with_reducible refine Below.setCell ?_ ?_ _; rotate_left; (first | with_reducible exact Nat.le_refl _ | with_reducible exact e5.size | with_reducible exact e6.size | (simp; done))) | (with_reducible refine Below.alloc ?_ ?_ _; rotate_left; (first | with_reducible exact Nat.le_refl _ | with_reducible exact e5.size | with_reducible exact e6.size | (simp; done))))); done))
              clear hK K
              (try simp only [Act.put, List.setIfInBounds_toArray, List.set_cons_zero, List.set_cons_succ])
              refine wpAnyH_ready (rs := [8]) (by kernel_rfl) (by simp) ?_
              refine AllReadyH.cons (arr_get rfl) (fun K hK => ?_) ?_
              · (go_simp; go_at_call 48; ((with_reducible refine (HKI.out _ hDz).mono ?_); rintro e w5 ⟨cs5, rfl, hk5, hb5⟩; obtain ⟨z0, z1, z2, z3, z4, z5, z6, z7, rfl⟩ := Ty.form hk5; have e5 : Below wr.heap.size wr w5 := hDz.trans (hb5.mono hDz.size); have bz5 : Box w5 wr.heap.size 34 [.int .i64 0, .int .i64 0, .string ⟨#[]⟩, .slice none 0 0] := Box.call bZ0 hb5))
                (first | refine hK.out _ _ ?_ (fun hHeld => ?_) | (go_wp2_with fail; refine hK.out _ _ ?_ (fun hHeld => ?_)))
                · (try dsimp only); (first | with_reducible assumption | ((refine HK12 _ ?_); (repeat (first | with_reducible exact e6 | with_reducible exact e5 | with_reducible exact hDz | with_reducible exact hDr | with_reducible exact Below.refl _ _ | with_reducible refine Below.drew ?_ | (with_reducible refine Below.setCell ?_ ?_ _; rotate_left; (first | with_reducible exact Nat.le_refl _ | with_reducible exact e5.size | with_reducible exact e6.size | (simp; done))) | (with_reducible refine Below.alloc ?_ ?_ _; rotate_left; (first | with_reducible exact Nat.le_refl _ | with_reducible exact e5.size | with_reducible exact e6.size | (simp; done))))); done))
                clear hK K
                (try simp only [Act.put, List.setIfInBounds_toArray, List.set_cons_zero, List.set_cons_succ])
                refine wpAnyH_ready (rs := [12]) (by kernel_rfl) (by simp) ?_
                refine AllReadyH.cons (arr_get rfl) (fun K hK => ?_) ?_
                · (go_simp; go_at_call 27; ((first | with_reducible refine Calls.mono (HHA.out [.int .i64 z0, .string z1, .slice z2 z3 z4, .slice z5 z6 z7] w5 e5 hk5 A0 (if_pos rfl).symm 0 (by omega) 0 (by omega)) ?_ | with_reducible refine Calls.mono (HHA.out [.int .i64 z0, .string z1, .slice z2 z3 z4, .slice z5 z6 z7] w5 e5 hk5 (A0.map (fun x => x.add HH.length)) (if_neg hc0).symm _ rfl _ rfl) ?_); rintro e w6 ⟨cs6, rfl, hs6, hb6⟩; obtain ⟨x0, x1, x2, x3, x4, x5, rfl⟩ := Va.form hs6.ats; have e6 : Below wr.heap.size wr w6 := e5.trans (hb6.mono e5.size); have bz6 : Box w6 wr.heap.size 34 [.int .i64 0, .int .i64 0, .string ⟨#[]⟩, .slice none 0 0] := Box.call bz5 hb6; have kZ := bz6.cell; have fZ := bz6.frozen; have lZ := bz6.lt; have hlo : wr.heap.size < w5.heap.size := bz5.lt))
                  (first | refine hK.out _ _ ?_ (fun hHeld => ?_) | (go_wp2_with fail; refine hK.out _ _ ?_ (fun hHeld => ?_)))
                  · (try dsimp only); (first | with_reducible assumption | ((refine HK12 _ ?_); (repeat (first | with_reducible exact e6 | with_reducible exact e5 | with_reducible exact hDz | with_reducible exact hDr | with_reducible exact Below.refl _ _ | with_reducible refine Below.drew ?_ | (with_reducible refine Below.setCell ?_ ?_ _; rotate_left; (first | with_reducible exact Nat.le_refl _ | with_reducible exact e5.size | with_reducible exact e6.size | (simp; done))) | (with_reducible refine Below.alloc ?_ ?_ _; rotate_left; (first | with_reducible exact Nat.le_refl _ | with_reducible exact e5.size | with_reducible exact e6.size | (simp; done))))); done))
                  clear hK K
                  (try simp only [Act.put, List.setIfInBounds_toArray, List.set_cons_zero, List.set_cons_succ])
                  refine wpAnyH_take (i := 13) (v := ?_) (arr_get rfl) (by kernel_rfl) (by kernel_rfl) (by kernel_rfl) (fun _ _ _ h => h) (Or.inl ⟨by rfl, ?_⟩) (by assumption) ?_
                  rotate_left 1
                  · (intro W hSw; (try dsimp only at hSw); go_simp; try with_reducible rfl)
                  (try simp only [Act.put, List.setIfInBounds_toArray, List.set_cons_zero, List.set_cons_succ])
                  refine wpAnyH_take (i := 14) (v := ?_) (arr_get rfl) (by kernel_rfl) (by kernel_rfl) (by kernel_rfl) (fun _ _ _ h => h) (Or.inl ⟨by rfl, ?_⟩) (by assumption) ?_
                  rotate_left 1
                  · (intro W hSw; (try dsimp only at hSw); go_simp; try with_reducible rfl)
                  (try simp only [Act.put, List.setIfInBounds_toArray, List.set_cons_zero, List.set_cons_succ])
                  refine wpAnyH_take (i := 15) (v := ?_) (arr_get rfl) (by kernel_rfl) (by kernel_rfl) (by kernel_rfl) (fun _ _ _ h => h) (Or.inl ⟨by rfl, ?_⟩) (by assumption) ?_
                  rotate_left 1
                  · (intro W hSw; (try dsimp only at hSw); go_simp; try with_reducible rfl)
                  (try simp only [Act.put, List.setIfInBounds_toArray, List.set_cons_zero, List.set_cons_succ])
                  refine wpAnyH_ready (rs := [17]) (by kernel_rfl) (by simp) ?_
                  refine AllReadyH.cons (arr_get rfl) (fun K hK => ?_) ?_
                  · go_simp
                    (first | refine hK.out _ _ ?_ (fun hHeld => ?_) | (go_wp2_with fail; refine hK.out _ _ ?_ (fun hHeld => ?_)))
                    · (try dsimp only); (first | with_reducible assumption | ((refine HK12 _ ?_); (repeat (first | with_reducible exact e6 | with_reducible exact e5 | with_reducible exact hDz | with_reducible exact hDr | with_reducible exact Below.refl _ _ | with_reducible refine Below.drew ?_ | (with_reducible refine Below.setCell ?_ ?_ _; rotate_left; (first | with_reducible exact Nat.le_refl _ | with_reducible exact e5.size | with_reducible exact e6.size | (simp; done))) | (with_reducible refine Below.alloc ?_ ?_ _; rotate_left; (first | with_reducible exact Nat.le_refl _ | with_reducible exact e5.size | with_reducible exact e6.size | (simp; done))))); done))
                    clear hK K
                    (try simp only [Act.put, List.setIfInBounds_toArray, List.set_cons_zero, List.set_cons_succ])
                    refine wpAnyH_take (i := 18) (v := ?_) (arr_get rfl) (by kernel_rfl) (by kernel_rfl) (by kernel_rfl) (fun _ _ _ h => h) (Or.inl ⟨by rfl, ?_⟩) (by assumption) ?_
                    rotate_left 1
                    · (intro W hSw; (try dsimp only at hSw); go_simp; try with_reducible rfl)
                    (try simp only [Act.put, List.setIfInBounds_toArray, List.set_cons_zero, List.set_cons_succ])
                    refine wpAnyH_done (by kernel_rfl) ?_ _
                    clear hHeld
                    go_wp2_with fail
                    go_meet
                    exact ⟨wr.heap.size, x0, x1, x2, x3, x4, x5, rfl, (by rw [HMM.out]), (((bz6.set 0 (.int .i64 x0)).set 1 (.int .i64 x1)).set 2 (.string x2)).set 3 (.slice x3 x4 x5), ((((hs6.set (p := ⟨wr.heap.size, 0, none⟩) (.inl hlo) (.int .i64 x0)).set (p := ⟨wr.heap.size, 1, none⟩) (.inl hlo) (.int .i64 x1)).set (p := ⟨wr.heap.size, 2, none⟩) (.inl hlo) (.string x2)).set (p := ⟨wr.heap.size, 3, none⟩) (.inl hlo) (.slice x3 x4 x5)).weaken e5.size (by simp [World.setCell]), (((e6.setCell (Nat.le_refl _) _).setCell (Nat.le_refl _) _).setCell (Nat.le_refl _) _).setCell (Nat.le_refl _) _⟩
                  exact AllReadyH.nil
                exact AllReadyH.nil
              exact AllReadyH.nil
            exact AllReadyH.nil
          case rest =>
            obtain ⟨g2, x0, x1, x2, x3, x4, x5, rfl, rfl, bX, hsX, hbX⟩ := hcut
            obtain ⟨wx, hwx⟩ : ∃ wx, wx = wc := ⟨_, rfl⟩
            rw [← hwx] at bX hsX hbX ⊢
            clear hwx
            have lGr := HBG.out.lt
            have bGx : Box wx g 34 [.int .i64 k, .int .i64 m, .string s, .slice AK q cK] := (hbX.block g lGr).trans HBG.out
            have kG := bGx.cell
            have kX := bX.cell
            have HOX := HO9.out
            have hgl : g < W1.heap.size := by have := HS.out; omega
            clear kA kB hOd bAd bGd d0 d1 d2 d3 HK12 bA0 bB0 bZ0 hDz hDr
            go_wp2_with (at_builtin; refine wpList_ownP (vs := [.int .i64 x0, .int .i64 x1, .string x2, .slice x3 x4 x5]) HOX hbX hsX (.tmp 57) (.tmp 59) Tryz.underlying32 HJ.out.1 HJ.out.2.1 HJ.out.2.2.1 HJ.out.2.2.2 rfl (by decide) rfl (by simp [Value.oneCell']) (by unfold maxLen; omega) (by omega) ?_; intro v' w' ho' hb'; obtain ⟨A9, c9, rfl⟩ := ho'.form; have bG2 := (hb'.block g hgl).trans HBG.out; have cg := Box.cell bG2; have fg := Box.frozen bG2; have lg := Box.lt bG2; clear kG kX)
            have bG2 : Box w' g 34 [.int .i64 k, .int .i64 m, .string s, .slice AK q cK] := (hb'.block g hgl).trans HBG.out
            have HON := Lib.hid (show OwnP (w'.setCell ⟨g, 3, none⟩ (.slice A9 (q + 1) c9)) W1.heap.size 34 4 (.slice A9 (q + 1) c9) (q + 1) ((wths (vs.take (q + 1)) ts ns).flatMap Va.ds) by rw [HNW.out]; exact ho'.set (p := ⟨g, 3, none⟩) hgl _)
            have HBN := Lib.hid (show Box (w'.setCell ⟨g, 3, none⟩ (.slice A9 (q + 1) c9)) g 34 [.int .i64 k, .int .i64 m, .string s, .slice A9 (q + 1) c9] from bG2.set 3 _)
            have HWN := Lib.hid (show Below w0.heap.size W1 (w'.setCell ⟨g, 3, none⟩ (.slice A9 (q + 1) c9)) from (HBW.out.trans (hb'.mono hsz1)).setCell (by show w0.heap.size ≤ g; have := HS.out; omega) _)
            clear HOX hbX hsX bX bGx ho' hb' bG2
            go_wp2
            go_roundw
            case rel => exact ⟨q + 1, _, by omega, by go_num, by rw [HN.out]; go_num, HBN.out, HON.out, HWN.out⟩
            case measure => simp [intOf]; omega
      · obtain rfl : q = vs.length := by omega
        rw [List.take_length] at hHH hPP
        have hwl : (wths vs ts ns).length = vs.length := wths_len (by rw [HFT.out.2.1]; exact Nat.le_refl _)
        have HD := Lib.hid (show SepIn wr W1.heap.size wr.heap.size (rows Va.ds 4 (wths vs ts ns)) (.slice AK vs.length cK) by
          have h := hO.done (fun h => by rw [← hPP, List.eq_nil_of_length_eq_zero h, wths_nil]; rfl)
          unfold rows
          rw [hwl, hPP]
          exact h)
        have HWE := Lib.hid hb
        have bR : Box wr (w.heap.size + 2) 34 [.int .i64 0, .int .i64 0, .string ⟨#[]⟩, .slice none 0 0] := (hb.block _ (by have := HS.out; omega)).trans HBX.out.2.2
        have kA := bA.cell
        have kB := bB.cell
        have kG := bG.cell
        have kR := bR.cell
        have fR := bR.frozen
        have lR := bR.lt
        have hRg : w.heap.size + 2 < w0.heap.size := by have := HS.out; omega
        clear hO hb hbW
        go_wp2
        refine bodyPost_ret (v := .tuple #[.agg #[.int .i64 k, .int .i64 m, .string s, .slice AK vs.length cK], .int .i64 (HH.length : Int)]) (by simp [results, Tryz.results27, go_sem, kR]) rfl ⟨[.int .i64 k, .int .i64 m, .string s, .slice AK vs.length cK], by rw [hHH], ?_, ?_⟩
        · refine nw_end (w := wr) (B := W1.heap.size) HP.out.1 HP.out.2.1 HP.out.2.2 (by omega) HD.out (by simp [World.setCell]) (fun b hb => ?_)
          have hne : b ≠ w.heap.size + 2 := by omega
          rw [Below.heap_setCell _ _ _ _ hne, Below.heap_setCell _ _ _ _ hne, Below.heap_setCell _ _ _ _ hne, Below.heap_setCell _ _ _ _ hne]
        · have h := HB1.out.trans (HWE.out.mono (by omega))
          repeat (first | with_reducible exact h | with_reducible refine Below.setCell ?_ (by show w.heap.size ≤ w.heap.size + 2; omega) _)
  · have hR := hns_yes (k := k) (m := m) (s := s) (vs := vs) (n := n) (l := l) (kids := kids) hh
    have hW := wth_yes (k := k) (m := m) (s := s) (vs := vs) (n := n) (l := l) (kids := kids) (ns := ns) hh
    unfold RetNw
    rw [hR] at hnl
    rw [hR, hW]
    have h1 : 1 ≤ ns.length := hnl
    obtain ⟨x, hx⟩ : ∃ x, ns[0]? = some x := ⟨ns[0], List.getElem?_eq_getElem (by omega)⟩
    obtain ⟨b, off, e, -, hbl, hxr, c0x⟩ := int_row (hns.below (B0.trans (B1.mono B0.size))) hx
    subst e
    have c1x : W1.cell? ⟨b, off, none⟩ = some (.int .i64 x) := c0x
    have hx0 : ns.headD 0 = x := headD_at hx
    rw [hx0]
    have i1 : (0 : Int) < (ns.length : Int) := by omega
    have h20 : (k == 20) = true ∨ ((k == 20) = false ∧ (k == 21) = true) := by
      unfold hdl at hh
      cases h : (k == 20)
      · right; exact ⟨rfl, by rw [h] at hh; simpa using hh⟩
      · left; rfl
    have kG := bG.cell
    have fG := bG.frozen
    have lG := bG.lt
    have kR := bR1.cell
    have fR := bR1.frozen
    have lR := bR1.lt
    have hRg : w.heap.size + 2 ≠ g := by omega
    have HXR := Lib.hid hxr
    have hs3 : W1.heap.size = w.heap.size + 4 := by omega
    have HS3 := Lib.hid hs3
    clear hcs hcs' hk hm hs hvs hk' hn hl hkids ih hall hsh hnf hts hmem hfits hR hW hfit hnodes hh B0 hnl hns bA bB bR bA1 bB1 bR1 B1 hs0 hx hx0 hbl hxr c0x hs3 bG
    rcases h20 with g20 | ⟨g20, g21⟩
    all_goals
      go_enter Tryz.func27, Tryz.ntmps27
      go_upto_region 2 with fail
      rw [← hw0, ← hW1, show w.heap.size + 1 + 1 + 1 = g by rw [HS.out.2.2, HS.out.1]]
      clear hw0 hW1 hgE kA hs1
      go_wp2
      refine bodyPost_ret (v := .tuple #[.agg #[.int .i64 k, .int .i64 x, .string s, .slice none 0 0], .int .i64 1]) (by simp [results, Tryz.results27, go_sem, kR]) rfl ⟨[.int .i64 k, .int .i64 x, .string s, .slice none 0 0], rfl, ?_, ?_⟩
      · rw [Va.ds_eq]
        have hsz := HS3.out
        refine SepsIn.weaken (lo := w.heap.size) (hi := w.heap.size) ?_ (Nat.le_refl _) (by simp [World.setCell]; omega)
        exact SepsIn.cons (SepIn.int HP.out.1) (SepsIn.cons (SepIn.int HXR.out) (SepsIn.cons (SepIn.str HP.out.2.2) (SepsIn.cons ⟨Nat.le_refl _, [], D.Sep.empty (Nat.zero_le _), List.nodup_nil, fun b hb => by cases hb⟩ (SepsIn.nil (Nat.le_refl _)))))
      · have h := HB1.out
        have hgg : w.heap.size ≤ g := by have := HS.out; omega
        repeat (first | with_reducible exact h | with_reducible refine Below.setCell ?_ (by first | exact hgg | (show w.heap.size ≤ w.heap.size + 2; omega)) _)
end Go.Proofs.YtcpadaelgdmipaaGreatDoor
namespace Go.Proofs.YtcpadaelgdmipaaGreatDoor
open Go.RowKit

section
variable {w w' : World}
/-- The same world, but for one block, which is as it was. -/
theorem wr_shadow {K : Nat} {l : List Nat} (h : Wr (K :: l) w w') (hK : K < w.heap.size) : ∃ w3, Wr l w w3 ∧ ∀ b, b ≠ K → w3.heap[b]? = w'.heap[b]? := by
  have hK' : K < w'.heap.size := Nat.lt_of_lt_of_le hK h.size
  refine ⟨{ w' with heap := w'.heap.set K (w.heap[K]'hK) hK' }, ⟨h.os, h.tape, h.output, by simpa using h.size, fun b hb hn => ?_⟩, fun b hb => ?_⟩
  · by_cases e : b = K
    · subst e
      simp [Array.getElem?_eq_getElem hb]
    · rw [show ({ w' with heap := w'.heap.set K (w.heap[K]'hK) hK' } : World).heap[b]? = w'.heap[b]? by simp [Ne.symm e]]
      exact h.block b hb (fun hm => (List.mem_cons.1 hm).elim e hn)
  · simp [Ne.symm hb]
/-- What the visit of a struct leaves: its number turned, or its parts; and the counter. -/
def Eff (k m : Int) (s : ByteArray) (vs : List Va) (x' : Va) (K b o : Nat) (bl : List Nat) (sv : Value) (w w' : World) : Prop :=
  (∃ m' : Int, (-9223372036854775808 ≤ m' ∧ m' ≤ 9223372036854775807) ∧ x' = .mk k m' s vs ∧ Wr [K] (w.setCell ⟨b, o + 1, none⟩ (.int .i64 m')) w') ∨
  (∃ vs', x' = .mk k m s vs' ∧ vs'.length = vs.length ∧ Wr (K :: bl) w w' ∧ D.Sep w' (rows Va.ds 4 vs') bl sv)
theorem sep_cong {d : D} {l : List Nat} {v : Value} {a b : World} (h : D.Sep a d l v) (hk : ∀ x ∈ l, b.heap[x]? = a.heap[x]?) : D.Sep b d l v := D.Sep.keep _ _ _ hk h
/-- One element of a row: what its visit needs, and the row behind it. -/
theorem row_visit {n o g : Nat} {P R : List D} {k m : Int} {s : ByteArray} {vs : List Va} {L : List Nat} {c : Nat} (hP : P.length = o) (h : D.Sep w (.sl n 4 (P ++ (Va.ds (.mk k m s vs) ++ R))) L (.slice (some ⟨g, 0, none⟩) n c)) (hnd : L.Nodup) :
    ∃ l2 A2 c2, w.cell? ⟨g, o, none⟩ = some (.int .i64 k) ∧ w.cell? ⟨g, o + 1, none⟩ = some (.int .i64 m) ∧ w.cell? ⟨g, o + 2, none⟩ = some (.string s) ∧ w.cell? ⟨g, o + 3, none⟩ = some (.slice A2 vs.length c2) ∧ w.frozen? ⟨g, o + 1, none⟩ = false ∧
      D.Sep w (rows Va.ds 4 vs) l2 (.slice A2 vs.length c2) ∧ l2.Nodup ∧ (∀ b ∈ l2, b ∈ L) ∧ g ∉ l2 ∧ g ∈ L ∧ g < w.heap.size ∧
      ∀ x' K w', K ∉ L → K < w.heap.size → Eff k m s vs x' K g o l2 (.slice A2 vs.length c2) w w' → D.Sep w' (.sl n 4 (P ++ (x'.ds ++ R))) L (.slice (some ⟨g, 0, none⟩) n c) ∧ Wr (K :: L) w w' := by
  subst hP
  rw [Va.ds_eq] at h
  have h0 : D.Sep w (.sl n 4 (P ++ .int k :: (.int m :: .str s :: rows Va.ds 4 vs :: R))) L (.slice (some ⟨g, 0, none⟩) n c) := by simpa using h
  have h1 : D.Sep w (.sl n 4 ((P ++ [.int k]) ++ .int m :: (.str s :: rows Va.ds 4 vs :: R))) L (.slice (some ⟨g, 0, none⟩) n c) := by simpa using h
  have h2 : D.Sep w (.sl n 4 ((P ++ [.int k, .int m]) ++ .str s :: (rows Va.ds 4 vs :: R))) L (.slice (some ⟨g, 0, none⟩) n c) := by simpa using h
  have h3 : D.Sep w (.sl n 4 ((P ++ [.int k, .int m, .str s]) ++ rows Va.ds 4 vs :: R)) L (.slice (some ⟨g, 0, none⟩) n c) := by simpa using h
  obtain ⟨⟨a0, -⟩, -⟩ := D.Sep.step_int _ rfl h0 hnd
  obtain ⟨⟨a1, z1⟩, put1⟩ := D.Sep.step_int (P.length + 1) (by simp) h1 hnd
  obtain ⟨⟨a2, -⟩, -⟩ := D.Sep.step_str (P.length + 2) (by simp) h2 hnd
  obtain ⟨g', l2, x, hA, hgL, hg, hc, -, hs, hn2, hsub, hgn, -, hput⟩ := h3.field hnd
  cases hA
  obtain ⟨A2, c2, rfl, -, -, -⟩ := D.Sep.sl_form (n := vs.length) (size := 4) (ds := vs.flatMap Va.ds) hs
  have hcc : w.cell? ⟨g, P.length + 3, none⟩ = some (.slice A2 vs.length c2) := by simpa using hc
  refine ⟨l2, A2, c2, a0, a1, a2, hcc, z1, hs, hn2, hsub, hgn, hgL, hg, fun x' K w' hK hKl he => ?_⟩
  rcases he with ⟨m', hm', rfl, hw⟩ | ⟨vs', rfl, hl, hw, hs'⟩
  · have h4 := put1 m' hm'
    refine ⟨?_, ?_⟩
    · have h5 : D.Sep (w.setCell ⟨g, P.length + 1, none⟩ (.int .i64 m')) (.sl n 4 (P ++ (Va.ds (.mk k m' s vs) ++ R))) L (.slice (some ⟨g, 0, none⟩) n c) := by
        rw [Va.ds_eq]; simpa using h4
      exact h5.wr hw (fun b hb hm => hK (by rw [List.mem_singleton] at hm; exact hm ▸ hb))
    · exact ((Wr.refl (K :: L) w).set (p := ⟨g, P.length + 1, none⟩) (List.mem_cons_of_mem _ hgL) _).trans (hw.mono (fun b hb => by rw [List.mem_singleton] at hb; rw [hb]; exact List.mem_cons_self))
  · obtain ⟨w3, hw3, hsame⟩ := wr_shadow hw hKl
    have hs3 : D.Sep w3 (rows Va.ds 4 vs') l2 (.slice A2 vs.length c2) := sep_cong hs' (fun b hb => hsame b (fun e => hK (e ▸ hsub b hb)))
    have h6 := hput (rows Va.ds 4 vs') w3 hw3 hs3
    refine ⟨?_, hw.mono (fun b hb => (List.mem_cons.1 hb).elim (fun e => by rw [e]; exact List.mem_cons_self) (fun hb => List.mem_cons_of_mem _ (hsub b hb)))⟩
    have h7 : D.Sep w3 (.sl n 4 (P ++ (Va.ds (.mk k m s vs') ++ R))) L (.slice (some ⟨g, 0, none⟩) n c) := by rw [Va.ds_eq]; simpa using h6
    exact sep_cong h7 (fun b hb => (hsame b (fun e => hK (e ▸ hb))).symm)
/-- A struct made and then a cell stored, or the other way round. -/
theorem alloc_set (w : World) (ob : Obj) {a : Addr} {u : Value} {x : Nat} (hx : x < w.heap.size) : ((w.alloc ob).setCell a u).heap[x]? = (w.setCell a u).heap[x]? := by
  have h := Below.heap_alloc w ob x hx
  simp only [World.setCell, Array.getElem?_modify, h]
end
end Go.Proofs.YtcpadaelgdmipaaGreatDoor
namespace Go.Proofs.YtcpadaelgdmipaaGreatDoor
open Go.RowKit

theorem head_drop {ns : List Int} {p : Nat} {x : Int} (h : ns[p]? = some x) : (ns.drop p).headD 0 = x := by
  have e : (ns.drop p)[0]? = some x := by rw [List.getElem?_drop]; exact h
  cases hd : ns.drop p with
  | nil => rw [hd] at e; simp at e
  | cons y r => rw [hd] at e; simpa using e
/-- A struct as a visit meets it: its four cells, and the parts below it. -/
def At4 (w : World) (b o : Nat) (A : Option Addr) (c : Nat) (bl : List Nat) : Va → Prop
  | .mk k m s vs => w.cell? ⟨b, o, none⟩ = some (.int .i64 k) ∧ w.cell? ⟨b, o + 1, none⟩ = some (.int .i64 m) ∧ w.cell? ⟨b, o + 2, none⟩ = some (.string s) ∧ w.cell? ⟨b, o + 3, none⟩ = some (.slice A vs.length c) ∧ w.frozen? ⟨b, o + 1, none⟩ = false ∧ D.Sep w (rows Va.ds 4 vs) bl (.slice A vs.length c)
def EffV (x' : Va) (K b o : Nat) (A : Option Addr) (c : Nat) (bl : List Nat) (w w' : World) : Va → Prop
  | .mk k m s vs => Eff k m s vs x' K b o bl (.slice A vs.length c) w w'
def RetVN (v : Va) (t : Ty) (ns : List Int) (p K b o : Nat) (A : Option Addr) (c : Nat) (bl : List Nat) (w : World) (e : Ending) (w' : World) : Prop :=
  e = .returned (.tuple #[]) ∧ Box w' K 3 [.int .i64 ((p + (hns v t).length : Nat) : Int)] ∧ EffV (wth v t (ns.drop p)) K b o A c bl w w' v
set_option maxHeartbeats 2000000 in
set_option maxRecDepth 20000 in
theorem visitW_i (x : Int) (p : Nat) (ns : List Int) (NB K b o : Nat) (AN : Option Addr) (cN : Nat) (tk : Int) (tn : ByteArray) (A1 : Option Addr) (n1 c1 : Nat) (A2 : Option Addr) (n2 c2 : Nat) (m0 : Int) (w : World) (hx : ns[p]? = some x) (hp : p ≤ 2000000)
    (hN : Box w NB 29 [.slice AN ns.length cN]) (hns : D.At w anyB (rows intD 1 ns) (.slice AN ns.length cN)) (hK : Box w K 3 [.int .i64 (p : Int)]) (hb : w.cell? ⟨b, o + 1, none⟩ = some (.int .i64 m0)) (hf : w.frozen? ⟨b, o + 1, none⟩ = false) (hbl : b < w.heap.size) (hbK : b ≠ K) :
    Calls Tryz.prog 56 #[.pointer (some ⟨b, o, none⟩), .agg #[.int .i64 tk, .string tn, .slice A1 n1 c1, .slice A2 n2 c2], .pointer (some ⟨NB, 0, none⟩), .pointer (some ⟨K, 0, none⟩)] w fun e w' =>
      e = .returned (.tuple #[]) ∧ Box w' K 3 [.int .i64 ((p + 1 : Nat) : Int)] ∧ Wr [K] (w.setCell ⟨b, o + 1, none⟩ (.int .i64 x)) w' := by
  obtain ⟨-, hnn, hnc⟩ := rows_bound hns
  unfold maxLen at hnc
  have hlt : p < ns.length := (List.getElem?_eq_some_iff.1 hx).1
  obtain ⟨b', off, e, -, hbl', hxr, c0⟩ := int_row hns hx
  subst e
  obtain ⟨w0, hw0⟩ : ∃ w0, w0 = w.alloc (.cells #[.int .i64 tk, .string tn, .slice A1 n1 c1, .slice A2 n2 c2] 40) := ⟨_, rfl⟩
  have B0 : Below w.heap.size w w0 := by rw [hw0]; exact (Below.refl _ _).alloc (Nat.le_refl _) _
  have bN := hN.call B0
  have bK := hK.call B0
  have e0 : w0.cell? ⟨b', off + p, none⟩ = some (.int .i64 x) := (B0.cell (p := ⟨b', off + p, none⟩) hbl').trans c0
  have e1 : w0.cell? ⟨b, o + 1, none⟩ = some (.int .i64 m0) := (B0.cell (p := ⟨b, o + 1, none⟩) hbl).trans hb
  have e2 : w0.frozen? ⟨b, o + 1, none⟩ = false := (B0.frozen (p := ⟨b, o + 1, none⟩) hbl).trans hf
  have lb : b < w0.heap.size := Nat.lt_of_lt_of_le hbl B0.size
  obtain ⟨w1, hw1⟩ : ∃ w1, w1 = w0.setCell ⟨b, o + 1, none⟩ (.int .i64 x) := ⟨_, rfl⟩
  have bK1 : Box w1 K 3 [.int .i64 (p : Int)] := by rw [hw1]; exact bK.set_ne (Ne.symm hbK) _
  have kN := bN.cell
  have kK := bK.cell
  have fK := bK.frozen
  have lK := bK.lt
  have kK1 := bK1.cell
  have fK1 := bK1.frozen
  have lK1 := bK1.lt
  have i0 : (0 : Int) ≤ (p : Int) := by omega
  have i1 : (p : Int) < (ns.length : Int) := by omega
  have HF := Lib.hid (show Box (w1.setCell ⟨K, 0, none⟩ (.int .i64 ((p + 1 : Nat) : Int))) K 3 [.int .i64 ((p + 1 : Nat) : Int)] from bK1.set 0 _)
  have HW := Lib.hid (show Wr [K] (w.setCell ⟨b, o + 1, none⟩ (.int .i64 x)) (w1.setCell ⟨K, 0, none⟩ (.int .i64 ((p + 1 : Nat) : Int))) from by
    refine Wr.set ?_ (by simp) _
    rw [hw1, hw0]
    exact ⟨rfl, rfl, rfl, by simp [World.setCell], fun y hy _ => alloc_set w _ (by simpa [World.setCell] using hy)⟩)
  clear hx hN hns hK hb hf hbl hbl' hxr c0 B0 bN bK bK1
  go_enter Tryz.func56, Tryz.ntmps56
  go_upto_region 1 with fail
  rw [← hw0]
  clear hw0
  go_upto_region 2 with fail
  rw [← hw1]
  clear hw1 kN kK fK lK e0 e1 e2
  go_wp2
  go_end0
  exact ⟨rfl, HF.out, HW.out⟩
def VisN (v : Va) : Prop := ∀ (t : Ty), Ty.all shape t = true → fitV v t = true → ∀ (M : Nat → Prop) (ns : List Int) (p b o K NB : Nat) (AN : Option Addr) (cN : Nat) (bl : List Nat) (A : Option Addr) (c : Nat) (cs' : List Value) (w : World),
  p + (hns v t).length ≤ ns.length → ns.length ≤ 2000000 → (∀ x, M x → x < w.heap.size) → M b → M K → b ≠ K → K ∉ bl → b ∉ bl → (∀ x ∈ bl, M x) → bl.Nodup → b < w.heap.size → c ≤ maxLen →
  At4 w b o A c bl v → D.Ats w (fun x => ¬ M x) t.ds cs' → Box w K 3 [.int .i64 (p : Int)] → Box w NB 29 [.slice AN ns.length cN] → ¬ M NB → D.At w (fun x => ¬ M x) (rows intD 1 ns) (.slice AN ns.length cN) →
  Calls Tryz.prog 52 #[.pointer (some ⟨b, o, none⟩), .agg cs'.toArray, .func (.func 56) #[] #[.pointer (some ⟨NB, 0, none⟩), .pointer (some ⟨K, 0, none⟩)]] w (RetVN v t ns p K b o A c bl w)
/-- What does not lie in the blocks that the visit may turn reads as before. -/
theorem wr_at {M : Nat → Prop} {l : List Nat} {w w' : World} {d : D} {v : Value} (h : D.At w (fun x => ¬ M x) d v) (hw : Wr l w w') (hl : ∀ x ∈ l, M x) : D.At w' (fun x => ¬ M x) d v :=
  D.At.keep (fun b h1 h2 => ⟨hw.block b h1 (fun hm => h2 (hl b hm)), h2, Nat.lt_of_lt_of_le h1 hw.size⟩) _ _ h
theorem wr_ats {M : Nat → Prop} {l : List Nat} {w w' : World} {d : List D} {v : List Value} (h : D.Ats w (fun x => ¬ M x) d v) (hw : Wr l w w') (hl : ∀ x ∈ l, M x) : D.Ats w' (fun x => ¬ M x) d v :=
  D.Ats.keep (fun b h1 h2 => ⟨hw.block b h1 (fun hm => h2 (hl b hm)), h2, Nat.lt_of_lt_of_le h1 hw.size⟩) _ _ h
theorem drop_head {α : Type} {l : List α} {q : Nat} {x : α} (h : l[q]? = some x) : l.drop q = x :: l.drop (q + 1) := by
  obtain ⟨hq, e⟩ := List.getElem?_eq_some_iff.1 h
  rw [List.drop_eq_getElem_cons hq, e]
theorem hnss_take_le2 (vs : List Va) (ts : List Ty) (k : Nat) : (hnss (vs.take k) ts).length ≤ (hnss vs ts).length := by
  induction vs generalizing ts k with
  | nil => simp
  | cons x r ih =>
    cases k with
    | zero => simp [hnss_nil]
    | succ k =>
      cases ts with
      | nil => rw [List.take_succ_cons, hnss]; simp
      | cons y q =>
        rw [List.take_succ_cons, hnss_cons, hnss_cons, List.length_append, List.length_append]
        have := ih q k
        omega
set_option maxHeartbeats 8000000 in
set_option maxRecDepth 20000 in
theorem visitN_i (v : Va) : VisN v := by
  refine Va.ind (fun k m s vs ih => ?_) v
  intro t hall hfit M ns p b o K NB AN cN bl A c cs' w hpl hnsl hMs hMb hMK hbK hKbl hbbl hblM hnd hbl hcm hat4 hcs' hbox hNB hMN hns
  obtain ⟨c0, c1_, c2_, c3, cf, hsep⟩ := hat4
  obtain ⟨k', n, l, kids⟩ := t
  obtain ⟨A1, c1, A2, c2, rfl, hk', hn, hl, hkids⟩ := Ty.open_ hcs'
  unfold maxLen at hcm
  have hvn : vs.length ≤ c := by
    obtain ⟨A', c', e, h1, -, -⟩ := D.Sep.sl_form (n := vs.length) (size := 4) (ds := vs.flatMap Va.ds) hsep
    injection e with _ _ e3
    omega
  have hsh := all_shape hall
  obtain ⟨rfl, hnf, -, ts, hts, hmem, hlen, hts16, hfits⟩ := fit_open hsh.1 hfit
  obtain ⟨w0, hw0⟩ : ∃ w0, w0 = w.alloc (.cells #[.int .i64 k, .string n, .slice A1 l.length c1, .slice A2 kids.length c2] 40) := ⟨_, rfl⟩
  have B0 : Below w.heap.size w w0 := by rw [hw0]; exact (Below.refl _ _).alloc (Nat.le_refl _) _
  have bT : Box w0 w.heap.size 40 [.int .i64 k, .string n, .slice A1 l.length c1, .slice A2 kids.length c2] := by rw [hw0]; exact Box.new w _ _
  have kT := bT.cell
  have p0 : w0.cell? ⟨b, o, none⟩ = some (.int .i64 k) := (B0.cell (p := ⟨b, o, none⟩) hbl).trans c0
  have p1 : w0.cell? ⟨b, o + 1, none⟩ = some (.int .i64 m) := (B0.cell (p := ⟨b, o + 1, none⟩) hbl).trans c1_
  have p2 : w0.cell? ⟨b, o + 2, none⟩ = some (.string s) := (B0.cell (p := ⟨b, o + 2, none⟩) hbl).trans c2_
  have p3 : w0.cell? ⟨b, o + 3, none⟩ = some (.slice A vs.length c) := (B0.cell (p := ⟨b, o + 3, none⟩) hbl).trans c3
  have pf : w0.frozen? ⟨b, o + 1, none⟩ = false := (B0.frozen (p := ⟨b, o + 1, none⟩) hbl).trans cf
  change Calls Tryz.prog 52 #[.pointer (some ⟨b, o, none⟩), .agg #[.int .i64 k, .string n, .slice A1 l.length c1, .slice A2 kids.length c2], .func (.func 56) #[] #[.pointer (some ⟨NB, 0, none⟩), .pointer (some ⟨K, 0, none⟩)]] w _
  cases hh : hdl k
  · have hR := hns_no (k := k) (m := m) (s := s) (n := n) (l := l) hh hts
    have hW := wth_no (k := k) (m := m) (s := s) (n := n) (l := l) (ns := ns.drop p) hh hts
    unfold RetVN
    rw [hR] at hpl
    rw [hR, hW]
    have g20 : (k == 20) = false := by unfold hdl at hh; simp only [Bool.or_eq_false_iff] at hh; exact hh.1
    have g21 : (k == 21) = false := by unfold hdl at hh; simp only [Bool.or_eq_false_iff] at hh; exact hh.2
    have HKT := Lib.hid (fun W (h : Below w.heap.size w W) => kidTypes_i (S := fun x => ¬ M x) k m s n l kids A A1 A2 vs.length c c1 c2 W k hsh.1 hnf (fun bb h1 h2 => by have := hMs bb h2; have := h.size; omega) (hkids.below h) ts hts)
    have HIH := Lib.hid (fun x hx y hy => ih x hx y (hsh.2 y (hmem y hy)))
    have HFT := Lib.hid (And.intro hfits hlen)
    have HBX := Lib.hid (And.intro (hbox.call B0) (And.intro (hNB.call B0) (hns.below B0)))
    have HM := Lib.hid (And.intro hMs (And.intro hMK (And.intro hKbl (And.intro hbbl (And.intro hblM (And.intro hnd (And.intro hbK hMN)))))))
    have HSP := Lib.hid (hsep.below B0)
    have HPL := Lib.hid (And.intro hpl hnsl)
    have hbl0 : b < w0.heap.size := Nat.lt_of_lt_of_le hbl B0.size
    have HB0 := Lib.hid (And.intro B0 (And.intro hbl0 hbl))
    clear hcs' hk' hn hl hkids ih hall hsh hnf hts hmem hfits hfit hh hbox hNB hns hMs hMb hMK hKbl hbbl hblM hnd hMN hsep hpl c0 c1_ c2_ c3 cf B0 hbl hlen hbK hR hW pf
    go_enter Tryz.func52, Tryz.ntmps52
    go_upto_region 1 with fail
    rw [← hw0]
    clear hw0
    go_upto_region 3 with fail
    go_cut [6] (fun s6 wx => ∃ A5 c5, s6 = .slice A5 ts.length c5 ∧ D.At wx (fun x => ¬ M x) (rows Ty.ds 4 ts) (.slice A5 ts.length c5) ∧ Below w0.heap.size w0 wx)
    case first =>
      go_region_with (go_at_call 88; (refine (HKT.out w0.drew HB0.out.1.drew).mono ?_); rintro e w2 ⟨A5, c5, rfl, hat, hb2⟩)
      all_goals
        have fin := Lib.hid (And.intro hat (show Below w0.heap.size w0 w2 from (Below.refl _ w0).drew.trans hb2))
        clear hat hb2
        go_wp2_with fail
        go_meet
        exact ⟨A5, c5, rfl, fin.out⟩
    case rest =>
      obtain ⟨A5, c5, rfl, hat, hb2⟩ := hcut
      obtain ⟨w2, hw2⟩ : ∃ w2, w2 = wc := ⟨_, rfl⟩
      rw [← hw2] at hat hb2 ⊢
      obtain ⟨-, hn5, hc5⟩ := rows_bound hat
      unfold maxLen at hc5
      have HT2 := Lib.hid hat
      have HB2 := Lib.hid hb2
      replace p3 : w2.cell? ⟨b, o + 3, none⟩ = some (.slice A vs.length c) := (hb2.cell (p := ⟨b, o + 3, none⟩) HB0.out.2.1).trans p3
      have HP3 := Lib.hid p3
      clear hw2 hat hb2 kT bT p0 p1 p2
      go_wp2
      clear p3
      go_loopw [34] (fun i wr => ∃ q : Nat, q ≤ vs.length ∧ i = .int .i64 q ∧ D.Sep wr (.sl vs.length 4 ((wths (vs.take q) ts (ns.drop p) ++ vs.drop q).flatMap Va.ds)) bl (.slice A vs.length c) ∧ Box wr K 3 [.int .i64 ((p + (hnss (vs.take q) ts).length : Nat) : Int)] ∧ Wr (K :: bl) w2 wr) (fun i _ => vs.length - (intOf i).toNat)
      case atStart => exact ⟨0, Nat.zero_le _, rfl, by rw [List.take_zero, wths_nil]; exact HSP.out.below HB2.out, by rw [List.take_zero, hnss_nil]; exact HBX.out.1.call HB2.out, Wr.refl _ _⟩
      case round =>
        obtain ⟨q, hq, rfl, hS, bK, hV⟩ := hrel
        have hKM : ∀ x ∈ K :: bl, M x := fun x hx => by
          rcases List.mem_cons.1 hx with rfl | hx
          · exact HM.out.2.1
          · exact HM.out.2.2.2.2.1 x hx
        have hb2w : b < w2.heap.size := Nat.lt_of_lt_of_le HB0.out.2.1 HB2.out.size
        have hbn : b ∉ K :: bl := fun hm => by
          rcases List.mem_cons.1 hm with e | hm
          · exact HM.out.2.2.2.2.2.2.1 e
          · exact HM.out.2.2.2.1 hm
        by_cases hlt : q < vs.length
        · have hlt' : q < ts.length := by rw [HFT.out.2]; exact hlt
          obtain ⟨x, hx⟩ : ∃ x, vs[q]? = some x := ⟨vs[q], List.getElem?_eq_getElem hlt⟩
          obtain ⟨y, hy⟩ : ∃ y, ts[q]? = some y := ⟨ts[q], List.getElem?_eq_getElem hlt'⟩
          have i0 : (0 : Int) ≤ (q : Int) := by omega
          have i1 : (q : Int) < (vs.length : Int) := by omega
          have i2 : (q : Int) < (ts.length : Int) := by omega
          have p3 : wr.cell? ⟨b, o + 3, none⟩ = some (.slice A vs.length c) := (World.cell?_of_block (a := ⟨b, o + 3, none⟩) (hV.block b hb2w hbn)).trans HP3.out
          obtain ⟨PP, hPP⟩ : ∃ PP, (wths (vs.take q) ts (ns.drop p)).flatMap Va.ds = PP := ⟨_, rfl⟩
          obtain ⟨RR, hRR⟩ : ∃ RR, (vs.drop (q + 1)).flatMap Va.ds = RR := ⟨_, rfl⟩
          have hPl : PP.length = q * 4 := by
            rw [← hPP, flat_length Va.len, wths_len (by rw [List.length_take]; omega), List.length_take, Nat.min_eq_left (by omega)]
          obtain ⟨h, hh⟩ : ∃ h, (hnss (vs.take q) ts).length = h := ⟨_, rfl⟩
          have hNX := hnss_next hx hy
          have hle : h + (hns x y).length ≤ (hnss vs ts).length := by
            have h1 := hnss_take_le2 vs ts (q + 1)
            rw [hNX, List.length_append, hh] at h1
            exact h1
          have hN1 : (hnss (vs.take (q + 1)) ts).length = h + (hns x y).length := by rw [hNX, List.length_append, hh]
          have hWX : (wths (vs.take (q + 1)) ts (ns.drop p) ++ vs.drop (q + 1)).flatMap Va.ds = PP ++ ((wth x y (ns.drop (p + h))).ds ++ RR) := by
            rw [wths_next hx hy, hh, List.drop_drop, List.append_assoc, List.flatMap_append, hPP, List.singleton_append, List.flatMap_cons, hRR]
          have hS0 : D.Sep wr.drew (.sl vs.length 4 (PP ++ (x.ds ++ RR))) bl (.slice A vs.length c) := by
            have h9 := hS
            rw [List.flatMap_append, hPP, drop_head hx, List.flatMap_cons, hRR] at h9
            exact sep_cong (b := wr.drew) h9 (fun _ _ => rfl)
          have hA : ∃ g, A = some ⟨g, 0, none⟩ ∧ g ∈ bl := by
            obtain ⟨xk, xm, xs, xv⟩ := x
            rw [Va.ds_eq] at hS0
            exact D.Sep.block (P := PP) hS0 HM.out.2.2.2.2.2.1
          obtain ⟨g, rfl, hgbl⟩ := hA
          rw [hh] at bK
          have hVd : Wr (K :: bl) w2 wr.drew := ⟨hV.os, hV.tape, hV.output, hV.size, hV.block⟩
          have hsz2 : w.heap.size ≤ wr.drew.heap.size := Nat.le_trans HB0.out.1.size (Nat.le_trans HB2.out.size hVd.size)
          obtain ⟨b'', off', v0, v1, v2, v3, e', -, hbl'', hat', e0, e1, e2, e3⟩ := rows_at4 Ty.len (wr_at HT2.out hV hKM) hy
          subst e'
          obtain ⟨g0, g1, g2, g3, g4, g5', g6, g7, eyy⟩ := Ty.form hat'
          simp only [List.cons.injEq, and_true] at eyy
          obtain ⟨rfl, rfl, rfl, rfl⟩ := eyy
          have hat2 : D.Ats wr.drew (fun x => ¬ M x) y.ds _ := hat'.drew
          have hnd2 := HM.out.2.2.2.2.2.1
          obtain ⟨xk, xm, xs, xv⟩ := x
          obtain ⟨l2, A9, c9, r0, r1, r2, r3, rf, rs, rnd, rsub, rg, -, rgl, rput⟩ := row_visit hPl hS0 hnd2
          have hc9 : c9 ≤ maxLen := by
            obtain ⟨A', c', e, -, h2, -⟩ := D.Sep.sl_form (n := xv.length) (size := 4) (ds := xv.flatMap Va.ds) rs
            injection e with _ _ e3
            omega
          have hKw : K < wr.drew.heap.size := bK.lt
          have hgK : g ≠ K := fun e => HM.out.2.2.1 (e ▸ hgbl)
          have hKn : K ∉ l2 := fun hm => HM.out.2.2.1 (rsub K hm)
          have bNB : Box wr.drew NB 29 [.slice AN ns.length cN] := (hVd.block NB (HBX.out.2.1.call HB2.out).lt (fun hm => HM.out.2.2.2.2.2.2.2 (hKM NB hm))).trans (HBX.out.2.1.call HB2.out)
          have HX := Lib.hid (HIH.out (.mk xk xm xs xv) (List.mem_of_getElem? hx) y (List.mem_of_getElem? hy) (fitVs_at HFT.out.1 hx hy) M ns (p + h) g (q * 4) K NB AN cN l2 A9 c9 [.int .i64 g0, .string g1, .slice g2 g3 g4, .slice g5' g6 g7] wr.drew
            (by have := HPL.out.1; omega) HPL.out.2 (fun x hx => Nat.lt_of_lt_of_le (HM.out.1 x hx) hsz2) (HM.out.2.2.2.2.1 g hgbl) HM.out.2.1 hgK hKn rg (fun x hx => HM.out.2.2.2.2.1 x (rsub x hx)) rnd rgl hc9 ⟨r0, r1, r2, r3, rf, rs⟩ hat2 bK bNB HM.out.2.2.2.2.2.2.2 (wr_at (HBX.out.2.2.below HB2.out) hVd hKM))
          have HN := Lib.hid (And.intro hN1 (And.intro hWX hVd))
          have HPUT := Lib.hid (fun x' w' => rput x' K w' HM.out.2.2.1 hKw)
          clear hx hy hat' hat2 hS hS0 hV hVd bK hle hN1 hWX hNX r0 r1 r2 r3 rf rs rnd rsub rg rgl rput hPP hRR hPl hh hnd2 hc9 hKw hgK hKn bNB hsz2 hgbl hb2w hbn hKM hbl''
          go_upto_region 7 with fail
          go_region_with (go_at_call 52; (refine HX.out.mono ?_); rintro e w7 ⟨rfl, bK7, heff⟩)
          all_goals
            have HEF := Lib.hid (HPUT.out _ _ heff)
            have HB7 := Lib.hid bK7
            clear bK7 heff p3 e0 e1 e2 e3
            go_wp2
            go_roundw
            case rel => exact ⟨q + 1, by omega, by go_num, by rw [HN.out.2.1]; exact HEF.out.1, by rw [HN.out.1, ← Nat.add_assoc]; exact HB7.out, HN.out.2.2.trans HEF.out.2⟩
            case measure => simp [intOf]; omega
        · obtain rfl : q = vs.length := by omega
          rw [List.take_length] at bK
          rw [List.take_length, List.drop_length, List.append_nil] at hS
          have hwl : (wths vs ts (ns.drop p)).length = vs.length := wths_len (by rw [HFT.out.2]; exact Nat.le_refl _)
          have HE := Lib.hid (And.intro bK (And.intro hS (And.intro hV hwl)))
          clear bK hS hV hwl
          go_wp2
          go_end0
          refine ⟨rfl, HE.out.1, .inr ⟨wths vs ts (ns.drop p), rfl, HE.out.2.2.2, ?_, ?_⟩⟩
          · exact ((Wr.of_below HB0.out.1).trans (Wr.of_below HB2.out)).trans HE.out.2.2.1
          · unfold rows
            rw [HE.out.2.2.2]
            exact HE.out.2.1
  · have hv0 : vs = [] := List.eq_nil_of_length_eq_zero (by rw [← hlen, hdl_kids hh hts]; rfl)
    subst hv0
    have hR := hns_yes (k := k) (m := m) (s := s) (vs := []) (n := n) (l := l) (kids := kids) hh
    have hW := wth_yes (k := k) (m := m) (s := s) (vs := []) (n := n) (l := l) (kids := kids) (ns := ns.drop p) hh
    unfold RetVN
    rw [hR] at hpl
    rw [hR, hW]
    have hp1 : p + 1 ≤ ns.length := hpl
    obtain ⟨x, hx⟩ : ∃ x, ns[p]? = some x := ⟨ns[p]'(by omega), List.getElem?_eq_getElem _⟩
    obtain ⟨_, _, -, -, -, hxr, -⟩ := int_row hns hx
    have hhd := head_drop hx
    have HCL := Lib.hid (visitW_i x p ns NB K b o AN cN k n A1 l.length c1 A2 kids.length c2 m w0 hx (by omega) (hNB.call B0) ((hns.below B0).weaken (fun _ _ => trivial)) (hbox.call B0) p1 pf (Nat.lt_of_lt_of_le hbl B0.size) hbK)
    have HX := Lib.hid (And.intro hhd hxr)
    have HAW := Lib.hid (show Wr [K] (w.setCell ⟨b, o + 1, none⟩ (.int .i64 x)) (w0.setCell ⟨b, o + 1, none⟩ (.int .i64 x)) by
      rw [hw0]
      exact ⟨rfl, rfl, rfl, by simp [World.setCell], fun y hy _ => alloc_set w _ (by simpa [World.setCell] using hy)⟩)
    have g : (k == 20) = true ∨ ((k == 20) = false ∧ (k == 21) = true) := by
      unfold hdl at hh
      cases h20 : (k == 20)
      · rw [h20, Bool.false_or] at hh; exact .inr ⟨rfl, hh⟩
      · exact .inl rfl
    clear hcs' hk' hn hl hkids ih hall hsh hnf hts hmem hfits hfit hh hbox hNB hns hMs hMb hMK hKbl hbbl hblM hnd hMN hsep hpl c0 c1_ c2_ c3 cf B0 hbl hlen hbK hR hW pf p0 p1 p2 p3 hx hhd hxr
    rcases g with g20 | ⟨g20, g21⟩
    all_goals
      go_enter Tryz.func52, Tryz.ntmps52
      go_upto_region 1 with fail
      rw [← hw0]
      clear hw0
      go_wp2_with fail
      refine HCL.out.mono ?_
      rintro e w1 ⟨rfl, bK1, hw1⟩
      have HE := Lib.hid (And.intro bK1 (HAW.out.trans hw1))
      clear bK1 hw1
      go_wp2
      exact bodyPost_ret (v := .tuple #[]) (by simp [results, Tryz.results52, go_sem]) rfl ⟨rfl, HE.out.1, .inl ⟨x, HX.out.2, by rw [HX.out.1], HE.out.2⟩⟩
end Go.Proofs.YtcpadaelgdmipaaGreatDoor
namespace Go.Proofs.YtcpadaelgdmipaaGreatDoor
open Go.RowKit

theorem Va.nodes_pos (v : Va) : 1 ≤ v.nodes := by
  cases v; simp only [Va.nodes]; omega
theorem Va.nodess_ge (l : List Va) : l.length ≤ Va.nodess l := by
  induction l with
  | nil => exact Nat.zero_le _
  | cons x r ih =>
    have := Va.nodes_pos x
    simp only [List.length_cons, Va.nodess]; omega
theorem Va.nodess_mem {l : List Va} {x : Va} (h : x ∈ l) : x.nodes ≤ Va.nodess l := by
  induction l with
  | nil => cases h
  | cons y r ih =>
    simp only [Va.nodess]
    rcases List.mem_cons.1 h with rfl | h
    · omega
    · have := ih h; omega
theorem info_cV : (Tryz.prog.info? 34).map (fun i => (i.zero, i.size, i.bytes)) = some (some (.agg #[.int .i64 0, .int .i64 0, .string ⟨#[]⟩, .slice none 0 0]), 4, 56) := by kernel_rfl
def CopTo (x : Va) : Prop := ∀ (cs : List Value) (w : World), D.Ats w anyB x.ds cs → x.nodes ≤ 2000000 → Calls Tryz.prog 55 #[.agg cs.toArray] w (RetSs x.ds w)
set_option maxHeartbeats 4000000 in
set_option maxRecDepth 20000 in
theorem copyValues_i (l : List Va) (hl : ∀ x ∈ l, CopTo x) (v : Value) (w : World) (hv : D.At w anyB (rows Va.ds 4 l) v) (hnd : Va.nodess l ≤ 2000000) : Calls Tryz.prog 89 #[v] w (RetS (rows Va.ds 4 l) w) := by
  obtain ⟨A, cap, rfl, hn, hc⟩ := rows_form Va.len hv
  unfold maxLen at hc
  have hge := Va.nodess_ge l
  have HV := Lib.hid hv
  have HL := Lib.hid hl
  have HN0 := Lib.hid hnd
  obtain ⟨j0, hj, hy0, hy1, hy2⟩ := info_parts info_cV
  have HJ := Lib.hid (And.intro hj (And.intro hy0 (And.intro hy1 hy2)))
  have HO0 := Lib.hid (OwnP.lit w 34 4)
  clear hv hl hj hy0 hy1 hy2 hnd
  go_enter Tryz.func89, Tryz.ntmps89
  go_wp2
  go_loopw [3, 9] (fun o i wr => ∃ q : Nat, q ≤ l.length ∧ i = .int .i64 q ∧ OwnP wr w.heap.size 34 4 o q ((l.take q).flatMap Va.ds) ∧ Below w.heap.size w wr) (fun _ i _ => l.length - (intOf i).toNat)
  case atStart => exact ⟨0, Nat.zero_le _, rfl, by rw [List.take_zero]; exact HO0.out, (Below.refl _ _).alloc (Nat.le_refl _) _⟩
  case round =>
    obtain ⟨q, hq, rfl, hO, hb⟩ := hrel
    obtain ⟨AO, cO, rfl⟩ := hO.form
    by_cases hlt : q < l.length
    · obtain ⟨x, hx⟩ : ∃ x, l[q]? = some x := ⟨l[q], List.getElem?_eq_getElem hlt⟩
      have i0 : (0 : Int) ≤ (q : Int) := by omega
      have i1 : (q : Int) < (l.length : Int) := by omega
      obtain ⟨b, off, u0, u1, u2, u3, e, -, hbl, hat, d0, d1, d2, d3⟩ := rows_at4 Va.len (HV.out.below hb) hx
      subst e
      obtain ⟨f0, f1, f2, f3, f4, f5, exx⟩ := Va.form hat
      simp only [List.cons.injEq, and_true] at exx
      obtain ⟨rfl, rfl, rfl, rfl⟩ := exx
      have hxm := List.mem_of_getElem? hx
      have hxn := Va.nodess_mem hxm
      have hN0 := HN0.out
      have hq2 : q + 1 ≤ 2000000 := by omega
      obtain ⟨w1, hw1⟩ : ∃ w1, w1 = wr.alloc (.cells #[.int .i64 f0, .int .i64 f1, .string f2, .slice f3 f4 f5] 34) := ⟨_, rfl⟩
      have hb1 : Below wr.heap.size wr w1 := by rw [hw1]; exact (Below.refl _ _).alloc (Nat.le_refl _) _
      have HC := Lib.hid (HL.out x hxm _ w1 (hat.below hb1) (by omega))
      have HO1 := Lib.hid (hO.below hb1)
      have HB1 := Lib.hid (hb.trans (hb1.mono hb.size))
      have HN := Lib.hid (take_next (f := Va.ds) hx)
      have bX : Box w1 wr.heap.size 34 [.int .i64 f0, .int .i64 f1, .string f2, .slice f3 f4 f5] := by rw [hw1]; exact Box.new wr _ _
      have kX := bX.cell
      clear hx hxm hat hO hb hxn hN0 hb1
      go_upto_region 5 with fail
      rw [← hw1]
      clear hw1 d0 d1 d2 d3 bX
      go_wp2_with fail
      refine HC.out.mono ?_
      rintro e w3 ⟨cs3, rfl, hs3, hb3⟩
      obtain ⟨z0, z1, z2, z3, z4, z5, rfl⟩ := Va.form hs3.ats
      have hO1 := HO1.out
      clear kX
      go_wp2_with (at_builtin; refine wpList_ownP (vs := [.int .i64 z0, .int .i64 z1, .string z2, .slice z3 z4 z5]) hO1 hb3 hs3 (.tmp 13) (.tmp 16) Tryz.underlying32 HJ.out.1 HJ.out.2.1 HJ.out.2.2.1 HJ.out.2.2.2 rfl (by decide) rfl (by simp [Value.oneCell']) (by unfold maxLen; omega) (by omega) ?_; intro v' w' ho' hb')
      have HON := Lib.hid (show OwnP w' w.heap.size 34 4 v' (q + 1) ((l.take (q + 1)).flatMap Va.ds) by rw [HN.out]; exact ho')
      have HBN := Lib.hid (HB1.out.trans hb')
      clear ho' hb' hO1 hs3 hb3
      go_wp2
      go_roundw
      case rel => exact ⟨q + 1, by omega, by go_num, HON.out, HBN.out⟩
      case measure => simp [intOf]; omega
    · obtain rfl : q = l.length := by omega
      rw [List.take_length] at hO
      have HD := Lib.hid (hO.done (fun h => by rw [List.eq_nil_of_length_eq_zero h]; rfl))
      have HB := Lib.hid hb
      clear hO hb
      go_wp2
      go_ret
      exact ⟨_, rfl, HD.out, HB.out⟩
end Go.Proofs.YtcpadaelgdmipaaGreatDoor
namespace Go.Proofs.YtcpadaelgdmipaaGreatDoor
open Go.RowKit

def K4 (h : Nat) (a b c d : Value) (w : World) : Prop := w.cell? ⟨h, 0, none⟩ = some a ∧ w.cell? ⟨h, 1, none⟩ = some b ∧ w.cell? ⟨h, 2, none⟩ = some c ∧ w.cell? ⟨h, 3, none⟩ = some d
theorem kept4 {w0 W : World} {h : Nat} {a b c d : Value} (zA : h < w0.heap.size) (e : K4 h a b c d w0) (G : Below w0.heap.size w0 W) :
    W.cell? ⟨h, 0, none⟩ = some a ∧ W.cell? ⟨h, 1, none⟩ = some b ∧ W.cell? ⟨h, 2, none⟩ = some c ∧ W.cell? ⟨h, 3, none⟩ = some d :=
  ⟨(G.cell (p := ⟨h, 0, none⟩) zA).trans e.1, (G.cell (p := ⟨h, 1, none⟩) zA).trans e.2.1, (G.cell (p := ⟨h, 2, none⟩) zA).trans e.2.2.1, (G.cell (p := ⟨h, 3, none⟩) zA).trans e.2.2.2⟩
theorem kept4s {W : World} {h o : Nat} {u a b c d : Value} (e : W.cell? ⟨h, 0, none⟩ = some a ∧ W.cell? ⟨h, 1, none⟩ = some b ∧ W.cell? ⟨h, 2, none⟩ = some c ∧ W.cell? ⟨h, 3, none⟩ = some d) :
    (W.setCell ⟨h + 1, o, none⟩ u).cell? ⟨h, 0, none⟩ = some a ∧ (W.setCell ⟨h + 1, o, none⟩ u).cell? ⟨h, 1, none⟩ = some b ∧ (W.setCell ⟨h + 1, o, none⟩ u).cell? ⟨h, 2, none⟩ = some c ∧ (W.setCell ⟨h + 1, o, none⟩ u).cell? ⟨h, 3, none⟩ = some d := by
  have hk : ∀ j, (W.setCell ⟨h + 1, o, none⟩ u).cell? ⟨h, j, none⟩ = W.cell? ⟨h, j, none⟩ := fun j => by
    unfold World.cell?
    rw [Below.heap_setCell W ⟨h + 1, o, none⟩ u h (by simp)]
  rw [hk, hk, hk, hk]
  exact e
set_option maxHeartbeats 4000000 in
set_option maxRecDepth 20000 in
theorem copyValue_i (x : Va) : CopTo x := by
  refine Va.ind (fun k m s kids ih => ?_) x
  intro cs w hcs hnd
  obtain ⟨A, c, rfl, hk, hm, hs, hvs⟩ := Va.open_ hcs
  have hnd' : Va.nodess kids ≤ 2000000 := by simp only [Va.nodes] at hnd; omega
  obtain ⟨w0, hw0⟩ : ∃ w0, w0 = (w.alloc (.cells #[.int .i64 k, .int .i64 m, .string s, .slice A kids.length c] 34)).alloc (.cells #[.int .i64 0, .int .i64 0, .string ⟨#[]⟩, .slice none 0 0] 34) := ⟨_, rfl⟩
  have bA : Box w0 w.heap.size 34 [.int .i64 k, .int .i64 m, .string s, .slice A kids.length c] := by rw [hw0]; exact (Box.new w _ _).alloc _
  have bR : Box w0 (w.heap.size + 1) 34 [.int .i64 0, .int .i64 0, .string ⟨#[]⟩, .slice none 0 0] := by rw [hw0]; have := Box.new (w.alloc (.cells #[.int .i64 k, .int .i64 m, .string s, .slice A kids.length c] 34)) 34 [.int .i64 0, .int .i64 0, .string ⟨#[]⟩, .slice none 0 0]; simpa using this
  have B0 : Below w.heap.size w w0 := by rw [hw0]; exact ((Below.refl _ _).alloc (Nat.le_refl _) _).alloc (by simp) _
  have hs0 : w0.heap.size = w.heap.size + 2 := by rw [hw0]; simp
  have HC := Lib.hid (copyValues_i kids ih (.slice A kids.length c) w0.drew ((hvs.below B0).drew) hnd')
  have HP := Lib.hid (And.intro hk (And.intro hm hs))
  have HB := Lib.hid B0
  have bAd : Box w0.drew w.heap.size 34 [.int .i64 k, .int .i64 m, .string s, .slice A kids.length c] := bA
  have bRd : Box w0.drew (w.heap.size + 1) 34 [.int .i64 0, .int .i64 0, .string ⟨#[]⟩, .slice none 0 0] := bR
  have HS0 := Lib.hid hs0
  have kA := bA.cell
  have kR := bR.cell
  have fR := bR.frozen
  have lR := bR.lt
  clear hcs hk hm hs hvs hnd hnd' ih bA bR B0
  change Calls Tryz.prog 55 #[.agg #[.int .i64 k, .int .i64 m, .string s, .slice A kids.length c]] w _
  go_enter Tryz.func55, Tryz.ntmps55
  go_upto_region 1 with fail
  rw [← hw0]
  clear hw0
  have a0 : w0.cell? ⟨w.heap.size, 0, none⟩ = some (.int .i64 k) := kA 0
  have a1 : w0.cell? ⟨w.heap.size, 1, none⟩ = some (.int .i64 m) := kA 1
  have a2 : w0.cell? ⟨w.heap.size, 2, none⟩ = some (.string s) := kA 2
  have a3 : w0.cell? ⟨w.heap.size, 3, none⟩ = some (.slice A kids.length c) := kA 3
  clear kA
  have zA : w.heap.size < w0.heap.size := by have := HS0.out; omega
  have K0 : Below w0.heap.size w0 w0.drew := (Below.refl _ w0).drew
  go_region_held3 (fun w' => w'.cell? ⟨w.heap.size, 0, none⟩ = some (.int .i64 k) ∧ w'.cell? ⟨w.heap.size, 1, none⟩ = some (.int .i64 m) ∧ w'.cell? ⟨w.heap.size, 2, none⟩ = some (.string s) ∧ w'.cell? ⟨w.heap.size, 3, none⟩ = some (.slice A kids.length c))
      (first | with_reducible exact HE0 | ((repeat (with_reducible refine kept4s ?_)); with_reducible exact HE0) | ((refine kept4 zA ⟨a0, a1, a2, a3⟩ ?_); (repeat (first | with_reducible exact K0 | with_reducible exact bw | with_reducible exact Below.refl _ _ | with_reducible refine Below.drew ?_)); done) | (trace_state; fail))
      (first | (go_simp; go_at_call 89; ((with_reducible refine HC.out.mono ?_); rintro e w3 ⟨v3, rfl, hs3, hb3⟩; have bw : Below w0.heap.size w0 w3 := K0.trans hb3; have HE0 := kept4 zA ⟨a0, a1, a2, a3⟩ bw; have bR3 := Box.call (w := w0.drew) bRd hb3; have cR := bR3.cell; have gR := bR3.frozen; have mR := bR3.lt; obtain ⟨A3, n3, hv3, -, -⟩ := rows_form Va.len hs3.at_; subst hv3)))
  all_goals
    have HE := Lib.hid (And.intro hs3 (And.intro hb3 bR3))
    clear hs3 hb3 bAd bRd kR fR lR
    go_wp2
    refine bodyPost_ret (v := .agg #[.int .i64 k, .int .i64 m, .string s, .slice A3 kids.length n3]) (by simp [results, Tryz.results55, go_sem, cR]) rfl ⟨[.int .i64 k, .int .i64 m, .string s, .slice A3 kids.length n3], rfl, ?_, ?_⟩
    · rw [Va.ds_eq]
      have hq := HE.out.1
      have h2 : w0.drew.heap.size = w.heap.size + 2 := HS0.out
      have hz : w.heap.size + 1 < w0.drew.heap.size := by omega
      refine SepsIn.weaken (lo := w0.drew.heap.size) (hi := w3.heap.size) ?_ (by omega) (by simp [World.setCell])
      repeat (with_reducible refine SepsIn.set ?_ (Or.inl hz) _)
      exact SepsIn.cons (SepIn.int HP.out.1) (SepsIn.cons (SepIn.int HP.out.2.1) (SepsIn.cons (SepIn.str HP.out.2.2) (SepsIn.cons hq (SepsIn.nil (Nat.le_refl _)))))
    · have := HB.out.trans (bw.mono (by have := HS0.out; omega))
      repeat (first | exact this | with_reducible refine Below.setCell ?_ (by simp <;> omega) _)
end Go.Proofs.YtcpadaelgdmipaaGreatDoor
namespace Go.Proofs.YtcpadaelgdmipaaGreatDoor
open Go.RowKit

def zVa : Va := .mk 0 0 ⟨#[]⟩ []
/-- A value with other numbers of its handles, and what went wrong. -/
def whV (v : Va) (t : Ty) (ns : List Int) : Va × Int := if fitsB v t = true then (if ns.length = (hns v t).length ∧ ns.all numB = true then (wth v t ns, 0) else (zVa, 2)) else (zVa, 1)
def RetWh (R : Va × Int) (w : World) (e : Ending) (w' : World) : Prop := ∃ cs, e = .returned (.tuple #[.agg cs.toArray, .int .i64 R.2]) ∧ SepsIn w' w.heap.size w'.heap.size R.1.ds cs ∧ Below w.heap.size w w'
theorem zVa_seps {w : World} {lo : Nat} : SepsIn w lo lo zVa.ds [.int .i64 0, .int .i64 0, .string ⟨#[]⟩, .slice none 0 0] := by
  unfold zVa
  rw [Va.ds_eq]
  exact SepsIn.cons (SepIn.int (by omega)) (SepsIn.cons (SepIn.int (by omega)) (SepsIn.cons (SepIn.str (by decide)) (SepsIn.cons ⟨Nat.le_refl _, [], D.Sep.empty (Nat.zero_le _), List.nodup_nil, fun b hb => by cases hb⟩ (SepsIn.nil (Nat.le_refl _)))))
theorem seps_open {w : World} {k m : Int} {s : ByteArray} {vs : List Va} {bl : List Nat} {cs : List Value} (h : D.Seps w (Va.ds (.mk k m s vs)) bl cs) :
    ∃ A c, cs = [.int .i64 k, .int .i64 m, .string s, .slice A vs.length c] ∧ c ≤ maxLen ∧ D.Sep w (rows Va.ds 4 vs) bl (.slice A vs.length c) := by
  rw [Va.ds_eq] at h
  obtain ⟨l1, l2, v, r, rfl, rfl, s1, h⟩ := h.head
  obtain ⟨l3, l4, v', r', rfl, rfl, s2, h⟩ := h.head
  obtain ⟨l5, l6, v'', r'', rfl, rfl, s3, h⟩ := h.head
  obtain ⟨v3, rfl, s4⟩ := h.one
  simp only [D.Sep] at s1 s2 s3
  obtain ⟨rfl, rfl, -⟩ := s1
  obtain ⟨rfl, rfl, -⟩ := s2
  obtain ⟨rfl, rfl, -⟩ := s3
  obtain ⟨A, c, rfl, -, hc, -⟩ := D.Sep.sl_form (n := vs.length) (size := 4) (ds := vs.flatMap Va.ds) s4
  exact ⟨A, c, rfl, hc, by simpa using s4⟩
theorem eff_top {w w' : World} {k m : Int} {s : ByteArray} {vs : List Va} {x' : Va} {K g : Nat} {bl : List Nat} {A : Option Addr} {c : Nat} {t : TypeId} (h : Eff k m s vs x' K g 0 bl (.slice A vs.length c) w w') (hm : -9223372036854775808 ≤ m ∧ m ≤ 9223372036854775807)
    (hg : Box w g t [.int .i64 k, .int .i64 m, .string s, .slice A vs.length c]) (hs : D.Sep w (rows Va.ds 4 vs) bl (.slice A vs.length c)) (hgK : g ≠ K) (hgb : g ∉ bl) (hKb : K ∉ bl) :
    ∃ mm vv, x' = .mk k mm s vv ∧ (-9223372036854775808 ≤ mm ∧ mm ≤ 9223372036854775807) ∧ Box w' g t [.int .i64 k, .int .i64 mm, .string s, .slice A vs.length c] ∧ D.Sep w' (rows Va.ds 4 vv) bl (.slice A vs.length c) ∧ Wr (g :: K :: bl) w w' := by
  rcases h with ⟨m', hm', rfl, hw⟩ | ⟨vs', rfl, hl, hw, hs'⟩
  · have b1 : Box (w.setCell ⟨g, 0 + 1, none⟩ (.int .i64 m')) g t [.int .i64 k, .int .i64 m', .string s, .slice A vs.length c] := hg.set 1 _
    have hne : ∀ b ∈ bl, b ≠ g := fun b hb e => hgb (e ▸ hb)
    refine ⟨m', vs, rfl, hm', (hw.block _ b1.lt (by simpa using hgK)).trans b1, ?_, ?_⟩
    · have h1 : D.Sep (w.setCell ⟨g, 0 + 1, none⟩ (.int .i64 m')) (rows Va.ds 4 vs) bl (.slice A vs.length c) := sep_cong hs (fun b hb => Below.heap_setCell _ _ _ _ (hne b hb))
      exact D.Sep.wr h1 hw (fun b hb hm => hKb (by rw [List.mem_singleton] at hm; exact hm ▸ hb))
    · exact ((Wr.refl (g :: K :: bl) w).set (p := ⟨g, 0 + 1, none⟩) List.mem_cons_self _).trans (hw.mono (fun b hb => by rw [List.mem_singleton] at hb; rw [hb]; exact List.mem_cons_of_mem _ List.mem_cons_self))
  · refine ⟨m, vs', rfl, hm, (hw.block _ hg.lt (fun hm => (List.mem_cons.1 hm).elim hgK hgb)).trans hg, hs', hw.mono (fun b hb => List.mem_cons_of_mem _ hb)⟩
set_option maxHeartbeats 4000000 in
set_option maxRecDepth 20000 in
theorem withHandles_i (v : Va) (t : Ty) (ns : List Int) (AN : Option Addr) (cN : Nat) (cs cs' : List Value) (w : World) (hall : Ty.all shape t = true) (hfit : fitV v t = true) (hnd : v.nodes ≤ 2000000) (hlen : ns.length = (hns v t).length) (hnl : ns.length ≤ 2000000) (hcs : D.Ats w anyB v.ds cs) (hcs' : D.Ats w anyB t.ds cs') (hns' : D.At w anyB (rows intD 1 ns) (.slice AN ns.length cN)) :
    Calls Tryz.prog 36 #[.agg cs.toArray, .agg cs'.toArray, .slice AN ns.length cN] w (RetSs (wth v t ns).ds w) := by
  have HV := Lib.hid hcs
  have HT := Lib.hid hcs'
  have HNS := Lib.hid hns'
  obtain ⟨k0, k1, k2, k3, k4, k5, rfl⟩ := Va.form hcs
  obtain ⟨q0, q1, q2, q3, q4, q5, q6, q7, rfl⟩ := Ty.form hcs'
  obtain ⟨k, m, s, vs⟩ := v
  have HM := Lib.hid (show -9223372036854775808 ≤ m ∧ m ≤ 9223372036854775807 by
    obtain ⟨_, _, -, -, h, -⟩ := Va.open_ hcs
    exact h)
  obtain ⟨w0, hw0⟩ : ∃ w0, w0 = (((w.alloc (.cells #[.int .i64 k0, .int .i64 k1, .string k2, .slice k3 k4 k5] 34)).alloc (.cells #[.int .i64 q0, .string q1, .slice q2 q3 q4, .slice q5 q6 q7] 40)).alloc (.cells #[.slice AN ns.length cN] 29)).alloc (.cells #[.int .i64 0, .int .i64 0, .string ⟨#[]⟩, .slice none 0 0] 34) := ⟨_, rfl⟩
  have B0 : Below w.heap.size w w0 := by rw [hw0]; exact ((((Below.refl _ _).alloc (Nat.le_refl _) _).alloc (by simp) _).alloc (by simp; omega) _).alloc (by simp; omega) _
  have hs0 : w0.heap.size = w.heap.size + 4 := by rw [hw0]; simp
  have bA : Box w0 w.heap.size 34 [.int .i64 k0, .int .i64 k1, .string k2, .slice k3 k4 k5] := by rw [hw0]; exact (((Box.new w _ _).alloc _).alloc _).alloc _
  have bB : Box w0 (w.heap.size + 1) 40 [.int .i64 q0, .string q1, .slice q2 q3 q4, .slice q5 q6 q7] := by rw [hw0]; have := Box.new (w.alloc (.cells #[.int .i64 k0, .int .i64 k1, .string k2, .slice k3 k4 k5] 34)) 40 [.int .i64 q0, .string q1, .slice q2 q3 q4, .slice q5 q6 q7]; simp only [World.size_alloc] at this; exact (this.alloc _).alloc _
  have bN : Box w0 (w.heap.size + 2) 29 [.slice AN ns.length cN] := by rw [hw0]; have := Box.new ((w.alloc (.cells #[.int .i64 k0, .int .i64 k1, .string k2, .slice k3 k4 k5] 34)).alloc (.cells #[.int .i64 q0, .string q1, .slice q2 q3 q4, .slice q5 q6 q7] 40)) 29 [.slice AN ns.length cN]; simp only [World.size_alloc] at this; exact this.alloc _
  have bR : Box w0 (w.heap.size + 3) 34 [.int .i64 0, .int .i64 0, .string ⟨#[]⟩, .slice none 0 0] := by rw [hw0]; have := Box.new (((w.alloc (.cells #[.int .i64 k0, .int .i64 k1, .string k2, .slice k3 k4 k5] 34)).alloc (.cells #[.int .i64 q0, .string q1, .slice q2 q3 q4, .slice q5 q6 q7] 40)).alloc (.cells #[.slice AN ns.length cN] 29)) 34 [.int .i64 0, .int .i64 0, .string ⟨#[]⟩, .slice none 0 0]; simpa using this
  have HCP := Lib.hid (copyValue_i (.mk k m s vs) _ w0 (hcs.below B0) hnd)
  have HB := Lib.hid (And.intro B0 (And.intro hs0 (And.intro bA (And.intro bB (And.intro bN bR)))))
  have HP := Lib.hid (And.intro hall (And.intro hfit (And.intro hlen hnl)))
  have kA := bA.cell
  clear hcs hcs' hns' B0 hs0 bA bB bN bR hall hfit hlen hnl hnd
  change Calls Tryz.prog 36 #[.agg #[.int .i64 k0, .int .i64 k1, .string k2, .slice k3 k4 k5], .agg #[.int .i64 q0, .string q1, .slice q2 q3 q4, .slice q5 q6 q7], .slice AN ns.length cN] w _
  go_enter Tryz.func36, Tryz.ntmps36
  go_upto_region 1 with fail
  rw [← hw0]
  clear hw0
  go_wp2_with fail
  refine HCP.out.mono ?_
  rintro e w1 ⟨cs1, rfl, hs1, hb1⟩
  obtain ⟨hlo, bl, hsq, hbn, hbr⟩ := hs1
  obtain ⟨A1, c1, rfl, hc1, hsp⟩ := seps_open hsq
  obtain ⟨w2, hw2⟩ : ∃ w2, w2 = (w1.alloc (.cells #[.int .i64 k, .int .i64 m, .string s, .slice A1 vs.length c1] 34)).alloc (.cells #[.int .i64 0] 3) := ⟨_, rfl⟩
  have b12 : Below w1.heap.size w1 w2 := by rw [hw2]; exact ((Below.refl _ _).alloc (Nat.le_refl _) _).alloc (by simp) _
  have hs2 : w2.heap.size = w1.heap.size + 2 := by rw [hw2]; simp
  have bG : Box w2 w1.heap.size 34 [.int .i64 k, .int .i64 m, .string s, .slice A1 vs.length c1] := by rw [hw2]; exact (Box.new w1 _ _).alloc _
  have bK : Box w2 (w1.heap.size + 1) 3 [.int .i64 ((0 : Nat) : Int)] := by rw [hw2]; have := Box.new (w1.alloc (.cells #[.int .i64 k, .int .i64 m, .string s, .slice A1 vs.length c1] 34)) 3 [.int .i64 0]; simpa using this
  have hs01 := hb1.size
  have hsz := HB.out.2.1
  have B02 : Below w0.heap.size w0 w2 := hb1.trans (b12.mono hs01)
  have B2 : Below w.heap.size w w2 := HB.out.1.trans (B02.mono HB.out.1.size)
  have bN2 := HB.out.2.2.2.2.1.call B02
  have bR2 := HB.out.2.2.2.2.2.call B02
  have bB2 := HB.out.2.2.2.1.call B02
  have hsp2 : D.Sep w2 (rows Va.ds 4 vs) bl (.slice A1 vs.length c1) := hsp.below b12
  have hKb : w1.heap.size + 1 ∉ bl := fun h => by have := (hbr _ h).2; omega
  have hGb : w1.heap.size ∉ bl := fun h => by have := (hbr _ h).2; omega
  have hlow : ∀ b, b < w.heap.size → ¬ (b ∈ bl ∨ b = w1.heap.size ∨ b = w1.heap.size + 1) := fun b hb h => by
    rcases h with h | h | h
    · have := (hbr _ h).1; omega
    · omega
    · omega
  have HVI := Lib.hid (visitN_i (.mk k m s vs) t HP.out.1 HP.out.2.1 (fun b => b ∈ bl ∨ b = w1.heap.size ∨ b = w1.heap.size + 1) ns 0 w1.heap.size 0 (w1.heap.size + 1) (w.heap.size + 2) AN cN bl A1 c1 [.int .i64 q0, .string q1, .slice q2 q3 q4, .slice q5 q6 q7] w2
    (by have := HP.out.2.2.1; omega) HP.out.2.2.2 (fun x hx => by rcases hx with hx | hx | hx <;> first | omega | (have := (hbr _ hx).2; omega)) (.inr (.inl rfl)) (.inr (.inr rfl)) (by omega) hKb hGb (fun x hx => .inl hx) hbn bG.lt hc1
    ⟨bG.cell 0, bG.cell 1, bG.cell 2, bG.cell 3, bG.frozen 1, hsp2⟩
    (D.Ats.keep (w := w) (w' := w2) (S := anyB) (fun b hb _ => ⟨B2.block b hb, hlow b hb, Nat.lt_of_lt_of_le hb B2.size⟩) _ _ HT.out) bK bN2
    (fun h => by rcases h with h | h | h <;> first | omega | (have := (hbr _ h).1; omega))
    (D.At.keep (w := w) (w' := w2) (S := anyB) (fun b hb _ => ⟨B2.block b hb, hlow b hb, Nat.lt_of_lt_of_le hb B2.size⟩) _ _ HNS.out))
  have HG := Lib.hid (And.intro bG (And.intro hsp2 (And.intro hGb (And.intro hKb (And.intro hbn hbr)))))
  have HB2 := Lib.hid (And.intro B2 bR2)
  have HSZ := Lib.hid (And.intro hs2 (And.intro hs01 hsz))
  have kA1 := (HB.out.2.2.1.call hb1).cell
  have kB1 := (HB.out.2.2.2.1.call hb1).cell
  have kB2 := bB2.cell
  clear kA hlo hsq hbn hbr hc1 hsp b12 hs2 bG bK hs01 hsz B02 B2 bN2 bR2 bB2 hsp2 hKb hGb hlow hb1
  go_upto_region 2 with fail
  rw [← hw2]
  clear hw2 kA1 kB1
  go_wp2_with fail
  refine HVI.out.mono ?_
  rintro e w3 ⟨rfl, -, heff⟩
  rw [List.drop_zero] at heff
  obtain ⟨mm, vv, hx, hmm, bG3, hs3, hw3⟩ := eff_top heff HM.out HG.out.1 HG.out.2.1 (by omega) HG.out.2.2.1 HG.out.2.2.2.1
  have hlow : ∀ b ∈ w1.heap.size :: (w1.heap.size + 1) :: bl, w.heap.size + 4 ≤ b := fun b hb => by
    have h1 := HSZ.out
    rcases List.mem_cons.1 hb with rfl | hb
    · omega
    · rcases List.mem_cons.1 hb with rfl | hb
      · omega
      · have := (HG.out.2.2.2.2.2 b hb).1; omega
  have bR3 : Box w3 (w.heap.size + 3) 34 [.int .i64 0, .int .i64 0, .string ⟨#[]⟩, .slice none 0 0] := (hw3.block _ HB2.out.2.lt (fun hm => by have := hlow _ hm; omega)).trans HB2.out.2
  have HE := Lib.hid (And.intro hx (And.intro hmm (And.intro hs3 (HB2.out.1.trans (hw3.below HB2.out.1.size (fun b hb => by have := hlow b hb; omega))))))
  have hs23 := hw3.size
  have HS3 := Lib.hid hs23
  have kG := bG3.cell
  have kR := bR3.cell
  have fR := bR3.frozen
  have lR := bR3.lt
  clear kB2 heff hx hmm bG3 hs3 hw3 hlow bR3 hs23
  go_wp2
  refine bodyPost_ret (v := .agg #[.int .i64 k, .int .i64 mm, .string s, .slice A1 vs.length c1]) (by simp [results, Tryz.results36, go_sem, kR]) rfl ⟨[.int .i64 k, .int .i64 mm, .string s, .slice A1 vs.length c1], rfl, ?_, ?_⟩
  · rw [HE.out.1, Va.ds_eq]
    have hz : w.heap.size + 3 < w0.heap.size := by have := HSZ.out; omega
    have hz2 := HSZ.out
    have hz3 := HS3.out
    have hkk : -9223372036854775808 ≤ k ∧ k ≤ 9223372036854775807 := by
      obtain ⟨_, _, -, h, -⟩ := Va.open_ HV.out
      exact h
    have hss : s.size ≤ maxLen := by
      obtain ⟨_, _, -, -, -, h, -⟩ := Va.open_ HV.out
      exact h
    refine SepsIn.weaken (lo := w0.heap.size) (hi := w1.heap.size) ?_ (by omega) (by simp [World.setCell]; omega)
    repeat (with_reducible refine SepsIn.set ?_ (Or.inl hz) _)
    exact SepsIn.cons (SepIn.int hkk) (SepsIn.cons (SepIn.int HE.out.2.1) (SepsIn.cons (SepIn.str hss) (SepsIn.cons ⟨by omega, bl, HE.out.2.2.1, HG.out.2.2.2.2.1, HG.out.2.2.2.2.2⟩ (SepsIn.nil (Nat.le_refl _)))))
  · have := HE.out.2.2.2
    repeat (first | with_reducible exact this | with_reducible refine Below.setCell ?_ (by simp <;> omega) _)

set_option maxHeartbeats 4000000 in
set_option maxRecDepth 20000 in
theorem whRet_s (v : Va) (t : Ty) (ns : List Int) (R : Va × Int) (hR : whV v t ns = R) (AN : Option Addr) (cN : Nat) (cs cs' : List Value) (w : World) (hnd : v.nodes ≤ 2000000) (hp : D.totals t.ds ≤ 1048576) (hnl : ns.length ≤ 2000000) (hcs : D.Ats w anyB v.ds cs) (hcs' : D.Ats w anyB t.ds cs') (hns' : D.At w anyB (rows intD 1 ns) (.slice AN ns.length cN)) :
    Calls Tryz.prog 7 #[.agg cs.toArray, .agg cs'.toArray, .slice AN ns.length cN] w (RetWh R w) := by
  have HV := Lib.hid hcs
  have HT := Lib.hid hcs'
  have HNS := Lib.hid hns'
  have HP := Lib.hid (And.intro hnd (And.intro hp hnl))
  obtain ⟨-, hNn, hNc⟩ := rows_bound hns'
  unfold maxLen at hNc
  obtain ⟨k0, k1, k2, k3, k4, k5, rfl⟩ := Va.form hcs
  obtain ⟨q0, q1, q2, q3, q4, q5, q6, q7, rfl⟩ := Ty.form hcs'
  obtain ⟨w0, hw0⟩ : ∃ w0, w0 = ((w.alloc (.cells #[.int .i64 k0, .int .i64 k1, .string k2, .slice k3 k4 k5] 34)).alloc (.cells #[.int .i64 q0, .string q1, .slice q2 q3 q4, .slice q5 q6 q7] 40)).alloc (.cells #[.int .i64 0, .int .i64 0, .string ⟨#[]⟩, .slice none 0 0] 34) := ⟨_, rfl⟩
  have B0 : Below w.heap.size w w0 := by rw [hw0]; exact (((Below.refl _ _).alloc (Nat.le_refl _) _).alloc (by simp) _).alloc (by simp; omega) _
  have hs0 : w0.heap.size = w.heap.size + 3 := by rw [hw0]; simp
  have bA : Box w0 w.heap.size 34 [.int .i64 k0, .int .i64 k1, .string k2, .slice k3 k4 k5] := by rw [hw0]; exact ((Box.new w _ _).alloc _).alloc _
  have bB : Box w0 (w.heap.size + 1) 40 [.int .i64 q0, .string q1, .slice q2 q3 q4, .slice q5 q6 q7] := by rw [hw0]; have := Box.new (w.alloc (.cells #[.int .i64 k0, .int .i64 k1, .string k2, .slice k3 k4 k5] 34)) 40 [.int .i64 q0, .string q1, .slice q2 q3 q4, .slice q5 q6 q7]; simp only [World.size_alloc] at this; exact this.alloc _
  have bR : Box w0 (w.heap.size + 2) 34 [.int .i64 0, .int .i64 0, .string ⟨#[]⟩, .slice none 0 0] := by rw [hw0]; have := Box.new ((w.alloc (.cells #[.int .i64 k0, .int .i64 k1, .string k2, .slice k3 k4 k5] 34)).alloc (.cells #[.int .i64 q0, .string q1, .slice q2 q3 q4, .slice q5 q6 q7] 40)) 34 [.int .i64 0, .int .i64 0, .string ⟨#[]⟩, .slice none 0 0]; simpa using this
  have HFB := Lib.hid (fun W (hb : Below w.heap.size w W) => fitsB_s v t [.int .i64 k0, .int .i64 k1, .string k2, .slice k3 k4 k5] [.int .i64 q0, .string q1, .slice q2 q3 q4, .slice q5 q6 q7] W hp (HV.out.below hb) (HT.out.below hb))
  have HHA := Lib.hid (fun (h : fitsB v t = true) W (hb : Below w.heap.size w W) => l04Handles_s v t (tyOk_all (fitsB_ok h).1) (fitsB_ok h).2 hnd _ _ W (HV.out.below hb) (HT.out.below hb))
  have HB := Lib.hid (And.intro B0 (And.intro hs0 (And.intro bA (And.intro bB bR))))
  have HR := Lib.hid hR
  have kA := bA.cell
  have kB := bB.cell
  clear hcs hcs' hns' B0 hs0 bA bB bR hR hnd hp hnl
  change Calls Tryz.prog 7 #[.agg #[.int .i64 k0, .int .i64 k1, .string k2, .slice k3 k4 k5], .agg #[.int .i64 q0, .string q1, .slice q2 q3 q4, .slice q5 q6 q7], .slice AN ns.length cN] w _
  cases hk : fitsB v t
  all_goals rw [hk] at HFB
  · have HRR := Lib.hid (show R = (zVa, 1) by rw [← HR.out, whV, if_neg (by rw [hk]; decide)])
    clear hk HHA
    go_enter Tryz.func7, Tryz.ntmps7
    go_upto_region 1 with fail
    rw [← hw0]
    clear hw0
    go_wp2_with fail
    refine (HFB.out _ HB.out.1).mono ?_
    rintro e w1 ⟨rfl, hb1⟩
    have HB1 := Lib.hid (HB.out.1.trans (hb1.mono HB.out.1.size))
    have bR1 := HB.out.2.2.2.2.call hb1
    have kR := bR1.cell
    have fR := bR1.frozen
    have lR := bR1.lt
    have hsz := hb1.size
    have HSZ := Lib.hid (And.intro hsz HB.out.2.1)
    clear hb1 kA kB bR1 hsz
    go_wp2
    refine bodyPost_ret (v := .tuple #[.agg #[.int .i64 0, .int .i64 0, .string ⟨#[]⟩, .slice none 0 0], .int .i64 1]) (by simp [results, Tryz.results7, go_sem, kR]) rfl ⟨[.int .i64 0, .int .i64 0, .string ⟨#[]⟩, .slice none 0 0], by rw [HRR.out], ?_, ?_⟩
    · rw [HRR.out]
      have h9 := HSZ.out
      exact SepsIn.weaken (zVa_seps (lo := w.heap.size)) (Nat.le_refl _) (by simp [World.setCell]; omega)
    · have := HB1.out
      repeat (first | with_reducible exact this | with_reducible refine Below.setCell ?_ (by simp <;> omega) _)
  · have HHB := Lib.hid (HHA.out hk)
    have hfo := fitsB_ok hk
    have HFO := Lib.hid (And.intro (tyOk_all hfo.1) hfo.2)
    have HK := Lib.hid hk
    clear hk HHA hfo
    obtain ⟨H, hH⟩ : ∃ H, hns v t = H := ⟨_, rfl⟩
    rw [hH] at HHB
    have HHE := Lib.hid hH
    have hHl : H.length ≤ 2000000 := by rw [← hH]; exact Nat.le_trans (hns_len v t) HP.out.1
    clear hH
    obtain ⟨Z, hZ⟩ : ∃ Z, ns.all numB = Z := ⟨_, rfl⟩
    have HNB : Hid (∀ W, Below w.heap.size w W → Calls Tryz.prog 26 #[.slice AN ns.length cN] W fun e w' => e = .returned (.bool Z) ∧ W = w') := Lib.hid (fun W h => by rw [← hZ]; exact l04Nums_s ns AN cN W (HNS.out.below h))
    have HZ := Lib.hid hZ
    clear hZ
    by_cases hll : ns.length = H.length
    · have g1 : ((ns.length : Int) != (H.length : Int)) = false := by simp [hll]
      have HLL := Lib.hid hll
      clear hll
      cases Z
      · have HRR := Lib.hid (show R = (zVa, 2) by rw [← HR.out, whV, if_pos HK.out, if_neg (fun h => by rw [HZ.out] at h; exact absurd h.2 (by decide))])
        go_enter Tryz.func7, Tryz.ntmps7
        go_upto_region 1 with fail
        rw [← hw0]
        clear hw0
        go_wp2_with fail
        refine (HFB.out _ HB.out.1).mono ?_
        rintro e w1 ⟨rfl, hb1⟩
        have HB1 := Lib.hid (HB.out.1.trans (hb1.mono HB.out.1.size))
        have bR1 := HB.out.2.2.2.2.call hb1
        have bA1 := HB.out.2.2.1.call hb1
        have bB1 := HB.out.2.2.2.1.call hb1
        have hsz1 : w.heap.size + 3 ≤ w1.heap.size := by have := hb1.size; have := HB.out.2.1; omega
        clear hb1 kA kB
        have kA := bA1.cell
        have kB := bB1.cell
        go_wp2_with fail
        refine (HHB.out _ HB1.out).mono ?_
        rintro e w2 ⟨v2, rfl, hs2, hb2⟩
        obtain ⟨A2, c2, rfl, -, -⟩ := rows_form Hn.len hs2.at_
        have HB2 := Lib.hid (HB1.out.trans (hb2.mono HB1.out.size))
        have hsz2 : w.heap.size + 3 ≤ w2.heap.size := by have := hb2.size; omega
        replace bR1 := bR1.call hb2
        replace bA1 := bA1.call hb2
        replace bB1 := bB1.call hb2
        clear hb2 hs2 kA kB
        have kA := bA1.cell
        have kB := bB1.cell
        go_wp2_with fail
        refine (HNB.out _ HB2.out).mono ?_
        rintro e w3 ⟨rfl, rfl⟩
        have kR := bR1.cell
        have fR := bR1.frozen
        have lR := bR1.lt
        have HSZ := Lib.hid hsz2
        clear kA kB bA1 bB1 bR1
        go_wp2
        refine bodyPost_ret (v := .tuple #[.agg #[.int .i64 0, .int .i64 0, .string ⟨#[]⟩, .slice none 0 0], .int .i64 2]) (by simp [results, Tryz.results7, go_sem, kR]) rfl ⟨[.int .i64 0, .int .i64 0, .string ⟨#[]⟩, .slice none 0 0], by rw [HRR.out], ?_, ?_⟩
        · rw [HRR.out]
          have h9 := HSZ.out
          exact SepsIn.weaken (zVa_seps (lo := w.heap.size)) (Nat.le_refl _) (by simp [World.setCell]; omega)
        · have := HB2.out
          repeat (first | with_reducible exact this | with_reducible refine Below.setCell ?_ (by simp <;> omega) _)
      · have HRR := Lib.hid (show R = (wth v t ns, 0) by rw [← HR.out, whV, if_pos HK.out, if_pos ⟨by rw [HHE.out]; exact HLL.out, HZ.out⟩])
        have HWT := Lib.hid (fun W (hb : Below w.heap.size w W) => l04With_s v t HFO.out.1 HFO.out.2 HP.out.1 ns AN cN [.int .i64 k0, .int .i64 k1, .string k2, .slice k3 k4 k5] [.int .i64 q0, .string q1, .slice q2 q3 q4, .slice q5 q6 q7] W (by rw [HHE.out, HLL.out]; exact Nat.le_refl _) (HV.out.below hb) (HT.out.below hb) (HNS.out.below hb))
        have hhl : (hns v t).length = H.length := by rw [HHE.out]
        go_enter Tryz.func7, Tryz.ntmps7
        go_upto_region 1 with fail
        rw [← hw0]
        clear hw0
        go_wp2_with fail
        refine (HFB.out _ HB.out.1).mono ?_
        rintro e w1 ⟨rfl, hb1⟩
        have HB1 := Lib.hid (HB.out.1.trans (hb1.mono HB.out.1.size))
        have bR1 := HB.out.2.2.2.2.call hb1
        have bA1 := HB.out.2.2.1.call hb1
        have bB1 := HB.out.2.2.2.1.call hb1
        have hsz1 : w.heap.size + 3 ≤ w1.heap.size := by have := hb1.size; have := HB.out.2.1; omega
        clear hb1 kA kB
        have kA := bA1.cell
        have kB := bB1.cell
        go_wp2_with fail
        refine (HHB.out _ HB1.out).mono ?_
        rintro e w2 ⟨v2, rfl, hs2, hb2⟩
        obtain ⟨A2, c2, rfl, -, -⟩ := rows_form Hn.len hs2.at_
        have HB2 := Lib.hid (HB1.out.trans (hb2.mono HB1.out.size))
        have hsz2 : w.heap.size + 3 ≤ w2.heap.size := by have := hb2.size; omega
        replace bR1 := bR1.call hb2
        replace bA1 := bA1.call hb2
        replace bB1 := bB1.call hb2
        clear hb2 hs2 kA kB
        have kA := bA1.cell
        have kB := bB1.cell
        go_wp2_with fail
        refine (HNB.out _ HB2.out).mono ?_
        rintro e w3 ⟨rfl, rfl⟩
        go_wp2_with fail
        refine (HWT.out _ HB2.out).mono ?_
        rintro e w4 ⟨cs4, rfl, hs4, hb4⟩
        obtain ⟨x0, x1, x2, x3, x4, x5, rfl⟩ := Va.form hs4.ats
        have HB4 := Lib.hid ((HB2.out.trans (hb4.mono HB2.out.size)).alloc (o := .cells #[.int .i64 x0, .int .i64 x1, .string x2, .slice x3 x4 x5] 34) (HB2.out.trans (hb4.mono HB2.out.size)).size)
        have bR4 := (bR1.call hb4).alloc (.cells #[.int .i64 x0, .int .i64 x1, .string x2, .slice x3 x4 x5] 34)
        have HS4 := Lib.hid (And.intro (hs4.below ((Below.refl _ _).alloc (Nat.le_refl _) (.cells #[.int .i64 x0, .int .i64 x1, .string x2, .slice x3 x4 x5] 34)) (Nat.le_refl _)) hsz2)
        have kR := bR4.cell
        have fR := bR4.frozen
        have lR := bR4.lt
        clear kA kB bA1 bB1 bR1 bR4 hs4 hb4
        go_wp2
        refine bodyPost_ret (v := .tuple #[.agg #[.int .i64 x0, .int .i64 x1, .string x2, .slice x3 x4 x5], .int .i64 0]) (by simp [results, Tryz.results7, go_sem, kR]) rfl ⟨[.int .i64 x0, .int .i64 x1, .string x2, .slice x3 x4 x5], by rw [HRR.out], ?_, ?_⟩
        · rw [HRR.out]
          have hz : w.heap.size + 2 < w2.heap.size := by have := HS4.out.2; omega
          refine SepsIn.weaken (lo := w2.heap.size) (hi := w4.heap.size) ?_ (by omega) (by simp [World.setCell])
          repeat (with_reducible refine SepsIn.set ?_ (Or.inl hz) _)
          exact HS4.out.1
        · have := HB4.out
          repeat (first | with_reducible exact this | with_reducible refine Below.setCell ?_ (by simp <;> omega) _)
    · have g1 : ((ns.length : Int) != (H.length : Int)) = true := by simp; omega
      have HRR := Lib.hid (show R = (zVa, 2) by rw [← HR.out, whV, if_pos HK.out, if_neg (fun h => hll (by rw [← HHE.out]; exact h.1))])
      clear hll
      go_enter Tryz.func7, Tryz.ntmps7
      go_upto_region 1 with fail
      rw [← hw0]
      clear hw0
      go_wp2_with fail
      refine (HFB.out _ HB.out.1).mono ?_
      rintro e w1 ⟨rfl, hb1⟩
      have HB1 := Lib.hid (HB.out.1.trans (hb1.mono HB.out.1.size))
      have bR1 := HB.out.2.2.2.2.call hb1
      have bA1 := HB.out.2.2.1.call hb1
      have bB1 := HB.out.2.2.2.1.call hb1
      have hsz1 : w.heap.size + 3 ≤ w1.heap.size := by have := hb1.size; have := HB.out.2.1; omega
      clear hb1 kA kB
      have kA := bA1.cell
      have kB := bB1.cell
      go_wp2_with fail
      refine (HHB.out _ HB1.out).mono ?_
      rintro e w2 ⟨v2, rfl, hs2, hb2⟩
      obtain ⟨A2, c2, rfl, -, -⟩ := rows_form Hn.len hs2.at_
      have HB2 := Lib.hid (HB1.out.trans (hb2.mono HB1.out.size))
      have hsz2 : w.heap.size + 3 ≤ w2.heap.size := by have := hb2.size; omega
      replace bR1 := bR1.call hb2
      replace bA1 := bA1.call hb2
      replace bB1 := bB1.call hb2
      clear hb2 hs2 kA kB
      have kA := bA1.cell
      have kB := bB1.cell
      have kR := bR1.cell
      have fR := bR1.frozen
      have lR := bR1.lt
      have HSZ := Lib.hid hsz2
      clear kA kB bA1 bB1 bR1
      go_wp2
      refine bodyPost_ret (v := .tuple #[.agg #[.int .i64 0, .int .i64 0, .string ⟨#[]⟩, .slice none 0 0], .int .i64 2]) (by simp [results, Tryz.results7, go_sem, kR]) rfl ⟨[.int .i64 0, .int .i64 0, .string ⟨#[]⟩, .slice none 0 0], by rw [HRR.out], ?_, ?_⟩
      · rw [HRR.out]
        have h9 := HSZ.out
        exact SepsIn.weaken (zVa_seps (lo := w.heap.size)) (Nat.le_refl _) (by simp [World.setCell]; omega)
      · have := HB2.out
        repeat (first | with_reducible exact this | with_reducible refine Below.setCell ?_ (by simp <;> omega) _)

set_option maxHeartbeats 4000000 in
set_option maxRecDepth 20000 in
theorem whRet_i (v : Va) (t : Ty) (ns : List Int) (R : Va × Int) (hR : whV v t ns = R) (AN : Option Addr) (cN : Nat) (cs cs' : List Value) (w : World) (htb : Tabs w) (hnd : v.nodes ≤ 2000000) (hp : D.totals t.ds ≤ 1048576) (hnl : ns.length ≤ 2000000) (hcs : D.Ats w anyB v.ds cs) (hcs' : D.Ats w anyB t.ds cs') (hns' : D.At w anyB (rows intD 1 ns) (.slice AN ns.length cN)) :
    Calls Tryz.prog 11 #[.agg cs.toArray, .agg cs'.toArray, .slice AN ns.length cN] w (RetWh R w) := by
  have HV := Lib.hid hcs
  have HT := Lib.hid hcs'
  have HNS := Lib.hid hns'
  have HP := Lib.hid (And.intro hnd (And.intro hp hnl))
  obtain ⟨-, hNn, hNc⟩ := rows_bound hns'
  unfold maxLen at hNc
  have HTB := Lib.hid htb
  clear htb
  obtain ⟨k0, k1, k2, k3, k4, k5, rfl⟩ := Va.form hcs
  obtain ⟨q0, q1, q2, q3, q4, q5, q6, q7, rfl⟩ := Ty.form hcs'
  obtain ⟨w0, hw0⟩ : ∃ w0, w0 = ((w.alloc (.cells #[.int .i64 k0, .int .i64 k1, .string k2, .slice k3 k4 k5] 34)).alloc (.cells #[.int .i64 q0, .string q1, .slice q2 q3 q4, .slice q5 q6 q7] 40)).alloc (.cells #[.int .i64 0, .int .i64 0, .string ⟨#[]⟩, .slice none 0 0] 34) := ⟨_, rfl⟩
  have B0 : Below w.heap.size w w0 := by rw [hw0]; exact (((Below.refl _ _).alloc (Nat.le_refl _) _).alloc (by simp) _).alloc (by simp; omega) _
  have hs0 : w0.heap.size = w.heap.size + 3 := by rw [hw0]; simp
  have bA : Box w0 w.heap.size 34 [.int .i64 k0, .int .i64 k1, .string k2, .slice k3 k4 k5] := by rw [hw0]; exact ((Box.new w _ _).alloc _).alloc _
  have bB : Box w0 (w.heap.size + 1) 40 [.int .i64 q0, .string q1, .slice q2 q3 q4, .slice q5 q6 q7] := by rw [hw0]; have := Box.new (w.alloc (.cells #[.int .i64 k0, .int .i64 k1, .string k2, .slice k3 k4 k5] 34)) 40 [.int .i64 q0, .string q1, .slice q2 q3 q4, .slice q5 q6 q7]; simp only [World.size_alloc] at this; exact this.alloc _
  have bR : Box w0 (w.heap.size + 2) 34 [.int .i64 0, .int .i64 0, .string ⟨#[]⟩, .slice none 0 0] := by rw [hw0]; have := Box.new ((w.alloc (.cells #[.int .i64 k0, .int .i64 k1, .string k2, .slice k3 k4 k5] 34)).alloc (.cells #[.int .i64 q0, .string q1, .slice q2 q3 q4, .slice q5 q6 q7] 40)) 34 [.int .i64 0, .int .i64 0, .string ⟨#[]⟩, .slice none 0 0]; simpa using this
  have HFB := Lib.hid (fun W (hb : Below w.heap.size w W) => fitsB_i v t [.int .i64 k0, .int .i64 k1, .string k2, .slice k3 k4 k5] [.int .i64 q0, .string q1, .slice q2 q3 q4, .slice q5 q6 q7] W (tabs_below HTB.out hb) hp (HV.out.below hb) (HT.out.below hb))
  have HHA := Lib.hid (fun (h : fitsB v t = true) W (hb : Below w.heap.size w W) => handlesIn_i v t _ _ W (tyOk_all (fitsB_ok h).1) (fitsB_ok h).2 hnd (HV.out.below hb) (HT.out.below hb))
  have HB := Lib.hid (And.intro B0 (And.intro hs0 (And.intro bA (And.intro bB bR))))
  have HR := Lib.hid hR
  have kA := bA.cell
  have kB := bB.cell
  clear hcs hcs' hns' B0 hs0 bA bB bR hR hnd hp hnl
  change Calls Tryz.prog 11 #[.agg #[.int .i64 k0, .int .i64 k1, .string k2, .slice k3 k4 k5], .agg #[.int .i64 q0, .string q1, .slice q2 q3 q4, .slice q5 q6 q7], .slice AN ns.length cN] w _
  cases hk : fitsB v t
  all_goals rw [hk] at HFB
  · have HRR := Lib.hid (show R = (zVa, 1) by rw [← HR.out, whV, if_neg (by rw [hk]; decide)])
    clear hk HHA
    go_enter Tryz.func11, Tryz.ntmps11
    go_upto_region 1 with fail
    rw [← hw0]
    clear hw0
    go_wp2_with fail
    refine (HFB.out _ HB.out.1).mono ?_
    rintro e w1 ⟨rfl, hb1⟩
    have HB1 := Lib.hid (HB.out.1.trans (hb1.mono HB.out.1.size))
    have bR1 := HB.out.2.2.2.2.call hb1
    have kR := bR1.cell
    have fR := bR1.frozen
    have lR := bR1.lt
    have hsz := hb1.size
    have HSZ := Lib.hid (And.intro hsz HB.out.2.1)
    clear hb1 kA kB bR1 hsz
    go_wp2
    refine bodyPost_ret (v := .tuple #[.agg #[.int .i64 0, .int .i64 0, .string ⟨#[]⟩, .slice none 0 0], .int .i64 1]) (by simp [results, Tryz.results11, go_sem, kR]) rfl ⟨[.int .i64 0, .int .i64 0, .string ⟨#[]⟩, .slice none 0 0], by rw [HRR.out], ?_, ?_⟩
    · rw [HRR.out]
      have h9 := HSZ.out
      exact SepsIn.weaken (zVa_seps (lo := w.heap.size)) (Nat.le_refl _) (by simp [World.setCell]; omega)
    · have := HB1.out
      repeat (first | with_reducible exact this | with_reducible refine Below.setCell ?_ (by simp <;> omega) _)
  · have HHB := Lib.hid (HHA.out hk)
    have hfo := fitsB_ok hk
    have HFO := Lib.hid (And.intro (tyOk_all hfo.1) hfo.2)
    have HK := Lib.hid hk
    clear hk HHA hfo
    obtain ⟨H, hH⟩ : ∃ H, hns v t = H := ⟨_, rfl⟩
    rw [hH] at HHB
    have HHE := Lib.hid hH
    have hHl : H.length ≤ 2000000 := by rw [← hH]; exact Nat.le_trans (hns_len v t) HP.out.1
    clear hH
    obtain ⟨Z, hZ⟩ : ∃ Z, ns.all numB = Z := ⟨_, rfl⟩
    have HNB : Hid (∀ W, Below w.heap.size w W → Calls Tryz.prog 33 #[.slice AN ns.length cN, .func (.func 34) #[] #[]] W fun e w' => e = .returned (.bool (!Z)) ∧ W = w') := Lib.hid (fun W h => by rw [← hZ]; exact numsCon_i ns AN cN W (HNS.out.below h))
    have HZ := Lib.hid hZ
    clear hZ
    by_cases hll : ns.length = H.length
    · have g1 : ((ns.length : Int) != (H.length : Int)) = false := by simp [hll]
      have HLL := Lib.hid hll
      clear hll
      cases Z
      · have HRR := Lib.hid (show R = (zVa, 2) by rw [← HR.out, whV, if_pos HK.out, if_neg (fun h => by rw [HZ.out] at h; exact absurd h.2 (by decide))])
        go_enter Tryz.func11, Tryz.ntmps11
        go_upto_region 1 with fail
        rw [← hw0]
        clear hw0
        go_wp2_with fail
        refine (HFB.out _ HB.out.1).mono ?_
        rintro e w1 ⟨rfl, hb1⟩
        have HB1 := Lib.hid (HB.out.1.trans (hb1.mono HB.out.1.size))
        have bR1 := HB.out.2.2.2.2.call hb1
        have bA1 := HB.out.2.2.1.call hb1
        have bB1 := HB.out.2.2.2.1.call hb1
        have hsz1 : w.heap.size + 3 ≤ w1.heap.size := by have := hb1.size; have := HB.out.2.1; omega
        clear hb1 kA kB
        have kA := bA1.cell
        have kB := bB1.cell
        go_wp2_with fail
        refine (HHB.out _ HB1.out).mono ?_
        rintro e w2 ⟨v2, rfl, hs2, hb2⟩
        obtain ⟨A2, c2, rfl, -, -⟩ := rows_form Hn.len hs2.at_
        have HB2 := Lib.hid (HB1.out.trans (hb2.mono HB1.out.size))
        have hsz2 : w.heap.size + 3 ≤ w2.heap.size := by have := hb2.size; omega
        replace bR1 := bR1.call hb2
        replace bA1 := bA1.call hb2
        replace bB1 := bB1.call hb2
        clear hb2 hs2 kA kB
        have kA := bA1.cell
        have kB := bB1.cell
        go_wp2_with fail
        refine (HNB.out _ HB2.out).mono ?_
        rintro e w3 ⟨rfl, rfl⟩
        have kR := bR1.cell
        have fR := bR1.frozen
        have lR := bR1.lt
        have HSZ := Lib.hid hsz2
        clear kA kB bA1 bB1 bR1
        go_wp2
        refine bodyPost_ret (v := .tuple #[.agg #[.int .i64 0, .int .i64 0, .string ⟨#[]⟩, .slice none 0 0], .int .i64 2]) (by simp [results, Tryz.results11, go_sem, kR]) rfl ⟨[.int .i64 0, .int .i64 0, .string ⟨#[]⟩, .slice none 0 0], by rw [HRR.out], ?_, ?_⟩
        · rw [HRR.out]
          have h9 := HSZ.out
          exact SepsIn.weaken (zVa_seps (lo := w.heap.size)) (Nat.le_refl _) (by simp [World.setCell]; omega)
        · have := HB2.out
          repeat (first | with_reducible exact this | with_reducible refine Below.setCell ?_ (by simp <;> omega) _)
      · have HRR := Lib.hid (show R = (wth v t ns, 0) by rw [← HR.out, whV, if_pos HK.out, if_pos ⟨by rw [HHE.out]; exact HLL.out, HZ.out⟩])
        have HWT := Lib.hid (fun W (hb : Below w.heap.size w W) => withHandles_i v t ns AN cN [.int .i64 k0, .int .i64 k1, .string k2, .slice k3 k4 k5] [.int .i64 q0, .string q1, .slice q2 q3 q4, .slice q5 q6 q7] W HFO.out.1 HFO.out.2 HP.out.1 (by rw [HHE.out]; exact HLL.out) HP.out.2.2 (HV.out.below hb) (HT.out.below hb) (HNS.out.below hb))
        have hhl : (hns v t).length = H.length := by rw [HHE.out]
        go_enter Tryz.func11, Tryz.ntmps11
        go_upto_region 1 with fail
        rw [← hw0]
        clear hw0
        go_wp2_with fail
        refine (HFB.out _ HB.out.1).mono ?_
        rintro e w1 ⟨rfl, hb1⟩
        have HB1 := Lib.hid (HB.out.1.trans (hb1.mono HB.out.1.size))
        have bR1 := HB.out.2.2.2.2.call hb1
        have bA1 := HB.out.2.2.1.call hb1
        have bB1 := HB.out.2.2.2.1.call hb1
        have hsz1 : w.heap.size + 3 ≤ w1.heap.size := by have := hb1.size; have := HB.out.2.1; omega
        clear hb1 kA kB
        have kA := bA1.cell
        have kB := bB1.cell
        go_wp2_with fail
        refine (HHB.out _ HB1.out).mono ?_
        rintro e w2 ⟨v2, rfl, hs2, hb2⟩
        obtain ⟨A2, c2, rfl, -, -⟩ := rows_form Hn.len hs2.at_
        have HB2 := Lib.hid (HB1.out.trans (hb2.mono HB1.out.size))
        have hsz2 : w.heap.size + 3 ≤ w2.heap.size := by have := hb2.size; omega
        replace bR1 := bR1.call hb2
        replace bA1 := bA1.call hb2
        replace bB1 := bB1.call hb2
        clear hb2 hs2 kA kB
        have kA := bA1.cell
        have kB := bB1.cell
        go_wp2_with fail
        refine (HNB.out _ HB2.out).mono ?_
        rintro e w3 ⟨rfl, rfl⟩
        go_wp2_with fail
        refine (HWT.out _ HB2.out).mono ?_
        rintro e w4 ⟨cs4, rfl, hs4, hb4⟩
        obtain ⟨x0, x1, x2, x3, x4, x5, rfl⟩ := Va.form hs4.ats
        have HB4 := Lib.hid (HB2.out.trans (hb4.mono HB2.out.size))
        have bR4 := bR1.call hb4
        have HS4 := Lib.hid (And.intro hs4 hsz2)
        have kR := bR4.cell
        have fR := bR4.frozen
        have lR := bR4.lt
        clear kA kB bA1 bB1 bR1 bR4 hs4 hb4
        go_wp2
        refine bodyPost_ret (v := .tuple #[.agg #[.int .i64 x0, .int .i64 x1, .string x2, .slice x3 x4 x5], .int .i64 0]) (by simp [results, Tryz.results11, go_sem, kR]) rfl ⟨[.int .i64 x0, .int .i64 x1, .string x2, .slice x3 x4 x5], by rw [HRR.out], ?_, ?_⟩
        · rw [HRR.out]
          have hz : w.heap.size + 2 < w2.heap.size := by have := HS4.out.2; omega
          refine SepsIn.weaken (lo := w2.heap.size) (hi := w4.heap.size) ?_ (by omega) (by simp [World.setCell])
          repeat (with_reducible refine SepsIn.set ?_ (Or.inl hz) _)
          exact HS4.out.1
        · have := HB4.out
          repeat (first | with_reducible exact this | with_reducible refine Below.setCell ?_ (by simp <;> omega) _)
    · have g1 : ((ns.length : Int) != (H.length : Int)) = true := by simp; omega
      have HRR := Lib.hid (show R = (zVa, 2) by rw [← HR.out, whV, if_pos HK.out, if_neg (fun h => hll (by rw [← HHE.out]; exact h.1))])
      clear hll
      go_enter Tryz.func11, Tryz.ntmps11
      go_upto_region 1 with fail
      rw [← hw0]
      clear hw0
      go_wp2_with fail
      refine (HFB.out _ HB.out.1).mono ?_
      rintro e w1 ⟨rfl, hb1⟩
      have HB1 := Lib.hid (HB.out.1.trans (hb1.mono HB.out.1.size))
      have bR1 := HB.out.2.2.2.2.call hb1
      have bA1 := HB.out.2.2.1.call hb1
      have bB1 := HB.out.2.2.2.1.call hb1
      have hsz1 : w.heap.size + 3 ≤ w1.heap.size := by have := hb1.size; have := HB.out.2.1; omega
      clear hb1 kA kB
      have kA := bA1.cell
      have kB := bB1.cell
      go_wp2_with fail
      refine (HHB.out _ HB1.out).mono ?_
      rintro e w2 ⟨v2, rfl, hs2, hb2⟩
      obtain ⟨A2, c2, rfl, -, -⟩ := rows_form Hn.len hs2.at_
      have HB2 := Lib.hid (HB1.out.trans (hb2.mono HB1.out.size))
      have hsz2 : w.heap.size + 3 ≤ w2.heap.size := by have := hb2.size; omega
      replace bR1 := bR1.call hb2
      replace bA1 := bA1.call hb2
      replace bB1 := bB1.call hb2
      clear hb2 hs2 kA kB
      have kA := bA1.cell
      have kB := bB1.cell
      have kR := bR1.cell
      have fR := bR1.frozen
      have lR := bR1.lt
      have HSZ := Lib.hid hsz2
      clear kA kB bA1 bB1 bR1
      go_wp2
      refine bodyPost_ret (v := .tuple #[.agg #[.int .i64 0, .int .i64 0, .string ⟨#[]⟩, .slice none 0 0], .int .i64 2]) (by simp [results, Tryz.results11, go_sem, kR]) rfl ⟨[.int .i64 0, .int .i64 0, .string ⟨#[]⟩, .slice none 0 0], by rw [HRR.out], ?_, ?_⟩
      · rw [HRR.out]
        have h9 := HSZ.out
        exact SepsIn.weaken (zVa_seps (lo := w.heap.size)) (Nat.le_refl _) (by simp [World.setCell]; omega)
      · have := HB2.out
        repeat (first | with_reducible exact this | with_reducible refine Below.setCell ?_ (by simp <;> omega) _)

end Go.Proofs.YtcpadaelgdmipaaGreatDoor
