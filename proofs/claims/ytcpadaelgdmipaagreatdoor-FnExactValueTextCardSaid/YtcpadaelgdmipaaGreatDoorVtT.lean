/- The text of a value, by the reference: kind by kind, and the whole. -/
import Derived.Test.YtcpadaelgdmipaaGreatDoorPkVt
import Derived.Deep.RegionLaw
import Derived.Deep.RegionHeld3
namespace Go.Proofs.YtcpadaelgdmipaaGreatDoor
open Go.RowKit

theorem arr_getT {α : Type} {l : List α} {i : Nat} {o : α} (h : l[i]? = some o) : (l.toArray)[i]? = some o := by simpa using h
theorem num_19 {nl : Nat} {m : Int} (hl : nl ≤ 16) (h : numFits 19 nl m = true) : 0 ≤ m ∧ m ≤ 65535 := by
  have hp : (2 ^ nl : Nat) ≤ 65536 := Nat.le_trans (Nat.pow_le_pow_right (by decide) hl) (by decide)
  have e : numFits 19 nl m = inR 0 m ((2 ^ nl : Nat) - 1 : Int) := rfl
  rw [e, inR_iff] at h
  omega
theorem num_20 {k : Int} {nl : Nat} {m : Int} (hk : k = 20 ∨ k = 21 ∨ k = 22 ∨ k = 23) (h : numFits k nl m = true) : 0 ≤ m ∧ m ≤ 2147483647 := by
  have e : numFits k nl m = inR 0 m 2147483647 := by rcases hk with rfl | rfl | rfl | rfl <;> rfl
  rw [e, inR_iff] at h
  omega
theorem ints_ats {w : World} {S : Nat → Prop} {l : List Int} (h : ∀ c ∈ l, 0 ≤ c ∧ c ≤ 1114111) : D.Ats w S (l.flatMap intD) (l.map iv) := by
  induction l with
  | nil => exact .nil
  | cons c r ih =>
    have h1 := h c (by simp)
    exact D.Ats.append (show D.Ats w S (intD c) [iv c] from .cons (.mk_int (by omega)) .nil) (ih (fun x hx => h x (by simp [hx])))
/-- The row of words. -/
theorem wordsL_s (w : World) : Calls Tryz.prog 64 #[] w fun e w' => ∃ g, g < w'.heap.size ∧ e = .returned (.slice (some ⟨g, 0, none⟩) 24 24) ∧ (∀ k, k < 24 → w'.cell? ⟨g, k, none⟩ = some (.string (kword k))) ∧ Below w.heap.size w w' := words_c _ l03Words_s w
theorem vts_len {vs : List Va} {ts : List Ty} (hall : ∀ y ∈ ts, Ty.all shape y = true) (hf : fitVs vs ts = true) (hl : ts.length = vs.length) (h16 : ts.length ≤ 16) (hn : Va.nodess vs ≤ 2000000) : (Lib.join (vtxs vs ts) [44, 32]).length ≤ 1000000100 ∧ ∀ ls : List ByteArray, (∀ a ∈ ls, a.size ≤ 12) → (Lib.join (labC ls (vtxs vs ts)) [44, 32]).length ≤ 1000001000 := by
  have h1 := vtxs_lenS vs ts hall hf
  have h2 := vtxs_len (vs := vs) (ts := ts) (by omega)
  refine ⟨?_, fun ls h => ?_⟩
  · have := join2_len (vtxs vs ts)
    omega
  · have h3 := labC_len ls (vtxs vs ts) h
    have h4 := join2_len (labC ls (vtxs vs ts))
    rw [labC_length] at h4
    omega
theorem nodes_memT {l : List Va} {x : Va} (h : x ∈ l) : x.nodes ≤ Va.nodess l := by
  induction l with
  | nil => cases h
  | cons y r ih =>
    simp only [Va.nodess]
    rcases List.mem_cons.1 h with rfl | h
    · omega
    · have := ih h; omega
/-- What is known of a value's part when its text is written. -/
def IhT (F : FuncId) (C : World → Prop) (vs : List Va) : Prop := ∀ x ∈ vs, ∀ y, Ty.all shape y = true → fitV x y = true → TxAt F C x y
theorem namedT_one {word : ByteArray} {vs : List Va} {t : Ty} {k : Int} {l : List ByteArray} {m : Int} {ts : List Ty} (hw : caseW k l m = word) (hts : ts = [] ∧ vs = [] ∨ ts = [t] ∧ vs.length = 1) :
    (caseW k l m).data.toList ++ (match vtxs vs ts with | [] => [] | e :: _ => 40 :: (e ++ [41])) = namedT word (vs.map fun x => vtx x t) := by
  rcases hts with ⟨rfl, rfl⟩ | ⟨rfl, h⟩
  · rw [vtxs_nil, hw]; rfl
  · match vs, h with
    | [v], _ => rw [vtxs_cons, hw]; rfl

set_option maxHeartbeats 4000000 in
set_option maxRecDepth 20000 in
theorem lt_1 (m : Int) (s : ByteArray) (vs : List Va) (n : ByteArray) (l : List ByteArray) (kids : List Ty) (hsh : shape (.mk 1 n l kids) = true) (hsk : ∀ x ∈ kids, Ty.all shape x = true) (hfit : fitV (.mk 1 m s vs) (.mk 1 n l kids) = true) (hnd : Va.nodess vs ≤ 2000000) (_ih : IhT 44 anyW vs) : TxAt 44 anyW (.mk 1 m s vs) (.mk 1 n l kids) := by
  intro cs cs' w hCw hcs hcs'
  obtain ⟨A, c, rfl, -, hm, hss, hvs⟩ := Va.open_ hcs
  obtain ⟨A1, c1, A2, c2, rfl, -, hnz, hl, hkids⟩ := Ty.open_ hcs'
  obtain ⟨-, hvn, hvc⟩ := rows_bound hvs
  obtain ⟨-, hln, hlc⟩ := rows_bound hl
  obtain ⟨-, hkn, hkc⟩ := rows_bound hkids
  unfold maxLen at hvc hlc hkc
  obtain ⟨-, hnf, htx, ts, hts, hmem, hlen, h16, hfits⟩ := fit_open hsh hfit
  obtain ⟨hlab, hlab2⟩ := shape_labels hsh
  have hallts : ∀ y ∈ ts, Ty.all shape y = true := fun y hy => hsk y (hmem y hy)
  obtain ⟨hjl, hjl2⟩ := vts_len hallts hfits hlen h16 hnd
  have hvt : (vtT (.mk 1 m s vs) (.mk 1 n l kids)).data.toList = vtM 1 l m s (vtxs vs ts) := by rw [vtT_list, vtx_mk hts]
  obtain ⟨R, hR⟩ : ∃ R, vtT (.mk 1 m s vs) (.mk 1 n l kids) = R := ⟨_, rfl⟩
  rw [hR] at hvt ⊢
  clear hR hfit
  obtain ⟨w0, hw0, B0, bA, bB⟩ := blocks2 w 34 40 [.int .i64 1, .int .i64 m, .string s, .slice A vs.length c] [.int .i64 1, .string n, .slice A1 l.length c1, .slice A2 kids.length c2]
  change Calls Tryz.prog 44 #[.agg #[.int .i64 1, .int .i64 m, .string s, .slice A vs.length c], .agg #[.int .i64 1, .string n, .slice A1 l.length c1, .slice A2 kids.length c2]] w _
  have HB0 := Lib.hid B0
  have kA := bA.cell
  have kB := bB.cell
  have HE := Lib.hid (show R.data.toList = [40, 41] by rw [hvt]; unfold vtM; rw [if_pos (by decide)])
  clear hCw hcs hcs' hm hss hvs hnz hl hkids hnf htx hts hmem hlen h16 hfits hlab hlab2 hallts hjl hjl2 hsh hsk _ih B0 bA bB hvt hnd
  go_enter Tryz.func44, Tryz.ntmps44
  go_upto_region 1 with fail
  rw [← hw0]
  clear hw0
  go_wp2
  go_ret
  exact ⟨ret_eq (congrArg Value.string (by rw [ba_of HE.out])), HB0.out⟩
set_option maxHeartbeats 4000000 in
set_option maxRecDepth 20000 in
theorem lt_2 (m : Int) (s : ByteArray) (vs : List Va) (n : ByteArray) (l : List ByteArray) (kids : List Ty) (hsh : shape (.mk 2 n l kids) = true) (hsk : ∀ x ∈ kids, Ty.all shape x = true) (hfit : fitV (.mk 2 m s vs) (.mk 2 n l kids) = true) (hnd : Va.nodess vs ≤ 2000000) (_ih : IhT 44 anyW vs) : TxAt 44 anyW (.mk 2 m s vs) (.mk 2 n l kids) := by
  intro cs cs' w hCw hcs hcs'
  obtain ⟨A, c, rfl, -, hm, hss, hvs⟩ := Va.open_ hcs
  obtain ⟨A1, c1, A2, c2, rfl, -, hnz, hl, hkids⟩ := Ty.open_ hcs'
  obtain ⟨-, hvn, hvc⟩ := rows_bound hvs
  obtain ⟨-, hln, hlc⟩ := rows_bound hl
  obtain ⟨-, hkn, hkc⟩ := rows_bound hkids
  unfold maxLen at hvc hlc hkc
  obtain ⟨-, hnf, htx, ts, hts, hmem, hlen, h16, hfits⟩ := fit_open hsh hfit
  obtain ⟨hlab, hlab2⟩ := shape_labels hsh
  have hallts : ∀ y ∈ ts, Ty.all shape y = true := fun y hy => hsk y (hmem y hy)
  obtain ⟨hjl, hjl2⟩ := vts_len hallts hfits hlen h16 hnd
  have hvt : (vtT (.mk 2 m s vs) (.mk 2 n l kids)).data.toList = vtM 2 l m s (vtxs vs ts) := by rw [vtT_list, vtx_mk hts]
  obtain ⟨R, hR⟩ : ∃ R, vtT (.mk 2 m s vs) (.mk 2 n l kids) = R := ⟨_, rfl⟩
  rw [hR] at hvt ⊢
  clear hR hfit
  obtain ⟨w0, hw0, B0, bA, bB⟩ := blocks2 w 34 40 [.int .i64 2, .int .i64 m, .string s, .slice A vs.length c] [.int .i64 2, .string n, .slice A1 l.length c1, .slice A2 kids.length c2]
  change Calls Tryz.prog 44 #[.agg #[.int .i64 2, .int .i64 m, .string s, .slice A vs.length c], .agg #[.int .i64 2, .string n, .slice A1 l.length c1, .slice A2 kids.length c2]] w _
  have HB0 := Lib.hid B0
  have kA := bA.cell
  have kB := bB.cell
  rcases (show m = 0 ∨ m = 1 by have := num_2 (.inl rfl) hnf; omega) with rfl | rfl
  · have HE := Lib.hid (show R.data.toList = [102, 97, 108, 115, 101] by rw [hvt]; unfold vtM; rw [if_neg (by decide), if_pos (by decide), if_pos rfl])
    clear hCw hcs hcs' hm hss hvs hnz hl hkids hnf htx hts hmem hlen h16 hfits hlab hlab2 hallts hjl hjl2 hsh hsk _ih B0 bA bB hvt hnd
    go_enter Tryz.func44, Tryz.ntmps44
    go_upto_region 1 with fail
    rw [← hw0]
    clear hw0
    go_wp2
    go_ret
    exact ⟨ret_eq (congrArg Value.string (by rw [ba_of HE.out])), HB0.out⟩
  · have HE := Lib.hid (show R.data.toList = [116, 114, 117, 101] by rw [hvt]; unfold vtM; rw [if_neg (by decide), if_pos (by decide), if_neg (by decide)])
    clear hCw hcs hcs' hm hss hvs hnz hl hkids hnf htx hts hmem hlen h16 hfits hlab hlab2 hallts hjl hjl2 hsh hsk _ih B0 bA bB hvt hnd
    go_enter Tryz.func44, Tryz.ntmps44
    go_upto_region 1 with fail
    rw [← hw0]
    clear hw0
    go_wp2
    go_ret
    exact ⟨ret_eq (congrArg Value.string (by rw [ba_of HE.out])), HB0.out⟩
set_option maxHeartbeats 4000000 in
set_option maxRecDepth 20000 in
theorem lt_3 (m : Int) (s : ByteArray) (vs : List Va) (n : ByteArray) (l : List ByteArray) (kids : List Ty) (hsh : shape (.mk 3 n l kids) = true) (hsk : ∀ x ∈ kids, Ty.all shape x = true) (hfit : fitV (.mk 3 m s vs) (.mk 3 n l kids) = true) (hnd : Va.nodess vs ≤ 2000000) (_ih : IhT 44 anyW vs) : TxAt 44 anyW (.mk 3 m s vs) (.mk 3 n l kids) := by
  intro cs cs' w hCw hcs hcs'
  obtain ⟨A, c, rfl, -, hm, hss, hvs⟩ := Va.open_ hcs
  obtain ⟨A1, c1, A2, c2, rfl, -, hnz, hl, hkids⟩ := Ty.open_ hcs'
  obtain ⟨-, hvn, hvc⟩ := rows_bound hvs
  obtain ⟨-, hln, hlc⟩ := rows_bound hl
  obtain ⟨-, hkn, hkc⟩ := rows_bound hkids
  unfold maxLen at hvc hlc hkc
  obtain ⟨-, hnf, htx, ts, hts, hmem, hlen, h16, hfits⟩ := fit_open hsh hfit
  obtain ⟨hlab, hlab2⟩ := shape_labels hsh
  have hallts : ∀ y ∈ ts, Ty.all shape y = true := fun y hy => hsk y (hmem y hy)
  obtain ⟨hjl, hjl2⟩ := vts_len hallts hfits hlen h16 hnd
  have hvt : (vtT (.mk 3 m s vs) (.mk 3 n l kids)).data.toList = vtM 3 l m s (vtxs vs ts) := by rw [vtT_list, vtx_mk hts]
  obtain ⟨R, hR⟩ : ∃ R, vtT (.mk 3 m s vs) (.mk 3 n l kids) = R := ⟨_, rfl⟩
  rw [hR] at hvt ⊢
  clear hR hfit
  obtain ⟨w0, hw0, B0, bA, bB⟩ := blocks2 w 34 40 [.int .i64 3, .int .i64 m, .string s, .slice A vs.length c] [.int .i64 3, .string n, .slice A1 l.length c1, .slice A2 kids.length c2]
  change Calls Tryz.prog 44 #[.agg #[.int .i64 3, .int .i64 m, .string s, .slice A vs.length c], .agg #[.int .i64 3, .string n, .slice A1 l.length c1, .slice A2 kids.length c2]] w _
  have HB0 := Lib.hid B0
  have kA := bA.cell
  have kB := bB.cell
  have HE := Lib.hid (show R = numT m by rw [numT]; exact ba_of (by rw [hvt]; unfold vtM; rw [if_neg (by decide), if_neg (by decide), if_neg (by decide), if_neg (by decide), if_neg (by decide), if_neg (by decide), if_neg (by decide), if_neg (by decide), if_neg (by decide), if_neg (by decide), if_neg (by decide)]))
  have HC := Lib.hid (fun W => l04Dec_s m hm W)
  clear hCw hcs hcs' hm hss hvs hnz hl hkids hnf htx hts hmem hlen h16 hfits hlab hlab2 hallts hjl hjl2 hsh hsk _ih B0 bA bB hvt hnd
  go_enter Tryz.func44, Tryz.ntmps44
  go_upto_region 1 with fail
  rw [← hw0]
  clear hw0
  go_wp2_with fail
  refine (HC.out _).mono ?_
  rintro e w1 ⟨rfl, hb1⟩
  have HB1 := Lib.hid (HB0.out.trans (hb1.mono HB0.out.size))
  clear hb1
  go_wp2
  go_ret
  exact ⟨ret_eq (by rw [HE.out]; rfl), HB1.out⟩
set_option maxHeartbeats 4000000 in
set_option maxRecDepth 20000 in
theorem lt_4 (m : Int) (s : ByteArray) (vs : List Va) (n : ByteArray) (l : List ByteArray) (kids : List Ty) (hsh : shape (.mk 4 n l kids) = true) (hsk : ∀ x ∈ kids, Ty.all shape x = true) (hfit : fitV (.mk 4 m s vs) (.mk 4 n l kids) = true) (hnd : Va.nodess vs ≤ 2000000) (_ih : IhT 44 anyW vs) : TxAt 44 anyW (.mk 4 m s vs) (.mk 4 n l kids) := by
  intro cs cs' w hCw hcs hcs'
  obtain ⟨A, c, rfl, -, hm, hss, hvs⟩ := Va.open_ hcs
  obtain ⟨A1, c1, A2, c2, rfl, -, hnz, hl, hkids⟩ := Ty.open_ hcs'
  obtain ⟨-, hvn, hvc⟩ := rows_bound hvs
  obtain ⟨-, hln, hlc⟩ := rows_bound hl
  obtain ⟨-, hkn, hkc⟩ := rows_bound hkids
  unfold maxLen at hvc hlc hkc
  obtain ⟨-, hnf, htx, ts, hts, hmem, hlen, h16, hfits⟩ := fit_open hsh hfit
  obtain ⟨hlab, hlab2⟩ := shape_labels hsh
  have hallts : ∀ y ∈ ts, Ty.all shape y = true := fun y hy => hsk y (hmem y hy)
  obtain ⟨hjl, hjl2⟩ := vts_len hallts hfits hlen h16 hnd
  have hvt : (vtT (.mk 4 m s vs) (.mk 4 n l kids)).data.toList = vtM 4 l m s (vtxs vs ts) := by rw [vtT_list, vtx_mk hts]
  obtain ⟨R, hR⟩ : ∃ R, vtT (.mk 4 m s vs) (.mk 4 n l kids) = R := ⟨_, rfl⟩
  rw [hR] at hvt ⊢
  clear hR hfit
  obtain ⟨w0, hw0, B0, bA, bB⟩ := blocks2 w 34 40 [.int .i64 4, .int .i64 m, .string s, .slice A vs.length c] [.int .i64 4, .string n, .slice A1 l.length c1, .slice A2 kids.length c2]
  change Calls Tryz.prog 44 #[.agg #[.int .i64 4, .int .i64 m, .string s, .slice A vs.length c], .agg #[.int .i64 4, .string n, .slice A1 l.length c1, .slice A2 kids.length c2]] w _
  have HB0 := Lib.hid B0
  have kA := bA.cell
  have kB := bB.cell
  have HE := Lib.hid (show R = numT m by rw [numT]; exact ba_of (by rw [hvt]; unfold vtM; rw [if_neg (by decide), if_neg (by decide), if_neg (by decide), if_neg (by decide), if_neg (by decide), if_neg (by decide), if_neg (by decide), if_neg (by decide), if_neg (by decide), if_neg (by decide), if_neg (by decide)]))
  have HC := Lib.hid (fun W => l04Dec_s m hm W)
  clear hCw hcs hcs' hm hss hvs hnz hl hkids hnf htx hts hmem hlen h16 hfits hlab hlab2 hallts hjl hjl2 hsh hsk _ih B0 bA bB hvt hnd
  go_enter Tryz.func44, Tryz.ntmps44
  go_upto_region 1 with fail
  rw [← hw0]
  clear hw0
  go_wp2_with fail
  refine (HC.out _).mono ?_
  rintro e w1 ⟨rfl, hb1⟩
  have HB1 := Lib.hid (HB0.out.trans (hb1.mono HB0.out.size))
  clear hb1
  go_wp2
  go_ret
  exact ⟨ret_eq (by rw [HE.out]; rfl), HB1.out⟩
set_option maxHeartbeats 4000000 in
set_option maxRecDepth 20000 in
theorem lt_5 (m : Int) (s : ByteArray) (vs : List Va) (n : ByteArray) (l : List ByteArray) (kids : List Ty) (hsh : shape (.mk 5 n l kids) = true) (hsk : ∀ x ∈ kids, Ty.all shape x = true) (hfit : fitV (.mk 5 m s vs) (.mk 5 n l kids) = true) (hnd : Va.nodess vs ≤ 2000000) (_ih : IhT 44 anyW vs) : TxAt 44 anyW (.mk 5 m s vs) (.mk 5 n l kids) := by
  intro cs cs' w hCw hcs hcs'
  obtain ⟨A, c, rfl, -, hm, hss, hvs⟩ := Va.open_ hcs
  obtain ⟨A1, c1, A2, c2, rfl, -, hnz, hl, hkids⟩ := Ty.open_ hcs'
  obtain ⟨-, hvn, hvc⟩ := rows_bound hvs
  obtain ⟨-, hln, hlc⟩ := rows_bound hl
  obtain ⟨-, hkn, hkc⟩ := rows_bound hkids
  unfold maxLen at hvc hlc hkc
  obtain ⟨-, hnf, htx, ts, hts, hmem, hlen, h16, hfits⟩ := fit_open hsh hfit
  obtain ⟨hlab, hlab2⟩ := shape_labels hsh
  have hallts : ∀ y ∈ ts, Ty.all shape y = true := fun y hy => hsk y (hmem y hy)
  obtain ⟨hjl, hjl2⟩ := vts_len hallts hfits hlen h16 hnd
  have hvt : (vtT (.mk 5 m s vs) (.mk 5 n l kids)).data.toList = vtM 5 l m s (vtxs vs ts) := by rw [vtT_list, vtx_mk hts]
  obtain ⟨R, hR⟩ : ∃ R, vtT (.mk 5 m s vs) (.mk 5 n l kids) = R := ⟨_, rfl⟩
  rw [hR] at hvt ⊢
  clear hR hfit
  obtain ⟨w0, hw0, B0, bA, bB⟩ := blocks2 w 34 40 [.int .i64 5, .int .i64 m, .string s, .slice A vs.length c] [.int .i64 5, .string n, .slice A1 l.length c1, .slice A2 kids.length c2]
  change Calls Tryz.prog 44 #[.agg #[.int .i64 5, .int .i64 m, .string s, .slice A vs.length c], .agg #[.int .i64 5, .string n, .slice A1 l.length c1, .slice A2 kids.length c2]] w _
  have HB0 := Lib.hid B0
  have kA := bA.cell
  have kB := bB.cell
  have HE := Lib.hid (show R = numT m by rw [numT]; exact ba_of (by rw [hvt]; unfold vtM; rw [if_neg (by decide), if_neg (by decide), if_neg (by decide), if_neg (by decide), if_neg (by decide), if_neg (by decide), if_neg (by decide), if_neg (by decide), if_neg (by decide), if_neg (by decide), if_neg (by decide)]))
  have HC := Lib.hid (fun W => l04Dec_s m hm W)
  clear hCw hcs hcs' hm hss hvs hnz hl hkids hnf htx hts hmem hlen h16 hfits hlab hlab2 hallts hjl hjl2 hsh hsk _ih B0 bA bB hvt hnd
  go_enter Tryz.func44, Tryz.ntmps44
  go_upto_region 1 with fail
  rw [← hw0]
  clear hw0
  go_wp2_with fail
  refine (HC.out _).mono ?_
  rintro e w1 ⟨rfl, hb1⟩
  have HB1 := Lib.hid (HB0.out.trans (hb1.mono HB0.out.size))
  clear hb1
  go_wp2
  go_ret
  exact ⟨ret_eq (by rw [HE.out]; rfl), HB1.out⟩
set_option maxHeartbeats 4000000 in
set_option maxRecDepth 20000 in
theorem lt_6 (m : Int) (s : ByteArray) (vs : List Va) (n : ByteArray) (l : List ByteArray) (kids : List Ty) (hsh : shape (.mk 6 n l kids) = true) (hsk : ∀ x ∈ kids, Ty.all shape x = true) (hfit : fitV (.mk 6 m s vs) (.mk 6 n l kids) = true) (hnd : Va.nodess vs ≤ 2000000) (_ih : IhT 44 anyW vs) : TxAt 44 anyW (.mk 6 m s vs) (.mk 6 n l kids) := by
  intro cs cs' w hCw hcs hcs'
  obtain ⟨A, c, rfl, -, hm, hss, hvs⟩ := Va.open_ hcs
  obtain ⟨A1, c1, A2, c2, rfl, -, hnz, hl, hkids⟩ := Ty.open_ hcs'
  obtain ⟨-, hvn, hvc⟩ := rows_bound hvs
  obtain ⟨-, hln, hlc⟩ := rows_bound hl
  obtain ⟨-, hkn, hkc⟩ := rows_bound hkids
  unfold maxLen at hvc hlc hkc
  obtain ⟨-, hnf, htx, ts, hts, hmem, hlen, h16, hfits⟩ := fit_open hsh hfit
  obtain ⟨hlab, hlab2⟩ := shape_labels hsh
  have hallts : ∀ y ∈ ts, Ty.all shape y = true := fun y hy => hsk y (hmem y hy)
  obtain ⟨hjl, hjl2⟩ := vts_len hallts hfits hlen h16 hnd
  have hvt : (vtT (.mk 6 m s vs) (.mk 6 n l kids)).data.toList = vtM 6 l m s (vtxs vs ts) := by rw [vtT_list, vtx_mk hts]
  obtain ⟨R, hR⟩ : ∃ R, vtT (.mk 6 m s vs) (.mk 6 n l kids) = R := ⟨_, rfl⟩
  rw [hR] at hvt ⊢
  clear hR hfit
  obtain ⟨w0, hw0, B0, bA, bB⟩ := blocks2 w 34 40 [.int .i64 6, .int .i64 m, .string s, .slice A vs.length c] [.int .i64 6, .string n, .slice A1 l.length c1, .slice A2 kids.length c2]
  change Calls Tryz.prog 44 #[.agg #[.int .i64 6, .int .i64 m, .string s, .slice A vs.length c], .agg #[.int .i64 6, .string n, .slice A1 l.length c1, .slice A2 kids.length c2]] w _
  have HB0 := Lib.hid B0
  have kA := bA.cell
  have kB := bB.cell
  have HE := Lib.hid (show R = numT m by rw [numT]; exact ba_of (by rw [hvt]; unfold vtM; rw [if_neg (by decide), if_neg (by decide), if_neg (by decide), if_neg (by decide), if_neg (by decide), if_neg (by decide), if_neg (by decide), if_neg (by decide), if_neg (by decide), if_neg (by decide), if_neg (by decide)]))
  have HC := Lib.hid (fun W => l04Dec_s m hm W)
  clear hCw hcs hcs' hm hss hvs hnz hl hkids hnf htx hts hmem hlen h16 hfits hlab hlab2 hallts hjl hjl2 hsh hsk _ih B0 bA bB hvt hnd
  go_enter Tryz.func44, Tryz.ntmps44
  go_upto_region 1 with fail
  rw [← hw0]
  clear hw0
  go_wp2_with fail
  refine (HC.out _).mono ?_
  rintro e w1 ⟨rfl, hb1⟩
  have HB1 := Lib.hid (HB0.out.trans (hb1.mono HB0.out.size))
  clear hb1
  go_wp2
  go_ret
  exact ⟨ret_eq (by rw [HE.out]; rfl), HB1.out⟩
set_option maxHeartbeats 4000000 in
set_option maxRecDepth 20000 in
theorem lt_7 (m : Int) (s : ByteArray) (vs : List Va) (n : ByteArray) (l : List ByteArray) (kids : List Ty) (hsh : shape (.mk 7 n l kids) = true) (hsk : ∀ x ∈ kids, Ty.all shape x = true) (hfit : fitV (.mk 7 m s vs) (.mk 7 n l kids) = true) (hnd : Va.nodess vs ≤ 2000000) (_ih : IhT 44 anyW vs) : TxAt 44 anyW (.mk 7 m s vs) (.mk 7 n l kids) := by
  intro cs cs' w hCw hcs hcs'
  obtain ⟨A, c, rfl, -, hm, hss, hvs⟩ := Va.open_ hcs
  obtain ⟨A1, c1, A2, c2, rfl, -, hnz, hl, hkids⟩ := Ty.open_ hcs'
  obtain ⟨-, hvn, hvc⟩ := rows_bound hvs
  obtain ⟨-, hln, hlc⟩ := rows_bound hl
  obtain ⟨-, hkn, hkc⟩ := rows_bound hkids
  unfold maxLen at hvc hlc hkc
  obtain ⟨-, hnf, htx, ts, hts, hmem, hlen, h16, hfits⟩ := fit_open hsh hfit
  obtain ⟨hlab, hlab2⟩ := shape_labels hsh
  have hallts : ∀ y ∈ ts, Ty.all shape y = true := fun y hy => hsk y (hmem y hy)
  obtain ⟨hjl, hjl2⟩ := vts_len hallts hfits hlen h16 hnd
  have hvt : (vtT (.mk 7 m s vs) (.mk 7 n l kids)).data.toList = vtM 7 l m s (vtxs vs ts) := by rw [vtT_list, vtx_mk hts]
  obtain ⟨R, hR⟩ : ∃ R, vtT (.mk 7 m s vs) (.mk 7 n l kids) = R := ⟨_, rfl⟩
  rw [hR] at hvt ⊢
  clear hR hfit
  obtain ⟨w0, hw0, B0, bA, bB⟩ := blocks2 w 34 40 [.int .i64 7, .int .i64 m, .string s, .slice A vs.length c] [.int .i64 7, .string n, .slice A1 l.length c1, .slice A2 kids.length c2]
  change Calls Tryz.prog 44 #[.agg #[.int .i64 7, .int .i64 m, .string s, .slice A vs.length c], .agg #[.int .i64 7, .string n, .slice A1 l.length c1, .slice A2 kids.length c2]] w _
  have HB0 := Lib.hid B0
  have kA := bA.cell
  have kB := bB.cell
  have HE := Lib.hid (show R = numT m by rw [numT]; exact ba_of (by rw [hvt]; unfold vtM; rw [if_neg (by decide), if_neg (by decide), if_neg (by decide), if_neg (by decide), if_neg (by decide), if_neg (by decide), if_neg (by decide), if_neg (by decide), if_neg (by decide), if_neg (by decide), if_neg (by decide)]))
  have HC := Lib.hid (fun W => l04Dec_s m hm W)
  clear hCw hcs hcs' hm hss hvs hnz hl hkids hnf htx hts hmem hlen h16 hfits hlab hlab2 hallts hjl hjl2 hsh hsk _ih B0 bA bB hvt hnd
  go_enter Tryz.func44, Tryz.ntmps44
  go_upto_region 1 with fail
  rw [← hw0]
  clear hw0
  go_wp2_with fail
  refine (HC.out _).mono ?_
  rintro e w1 ⟨rfl, hb1⟩
  have HB1 := Lib.hid (HB0.out.trans (hb1.mono HB0.out.size))
  clear hb1
  go_wp2
  go_ret
  exact ⟨ret_eq (by rw [HE.out]; rfl), HB1.out⟩
set_option maxHeartbeats 4000000 in
set_option maxRecDepth 20000 in
theorem lt_8 (m : Int) (s : ByteArray) (vs : List Va) (n : ByteArray) (l : List ByteArray) (kids : List Ty) (hsh : shape (.mk 8 n l kids) = true) (hsk : ∀ x ∈ kids, Ty.all shape x = true) (hfit : fitV (.mk 8 m s vs) (.mk 8 n l kids) = true) (hnd : Va.nodess vs ≤ 2000000) (_ih : IhT 44 anyW vs) : TxAt 44 anyW (.mk 8 m s vs) (.mk 8 n l kids) := by
  intro cs cs' w hCw hcs hcs'
  obtain ⟨A, c, rfl, -, hm, hss, hvs⟩ := Va.open_ hcs
  obtain ⟨A1, c1, A2, c2, rfl, -, hnz, hl, hkids⟩ := Ty.open_ hcs'
  obtain ⟨-, hvn, hvc⟩ := rows_bound hvs
  obtain ⟨-, hln, hlc⟩ := rows_bound hl
  obtain ⟨-, hkn, hkc⟩ := rows_bound hkids
  unfold maxLen at hvc hlc hkc
  obtain ⟨-, hnf, htx, ts, hts, hmem, hlen, h16, hfits⟩ := fit_open hsh hfit
  obtain ⟨hlab, hlab2⟩ := shape_labels hsh
  have hallts : ∀ y ∈ ts, Ty.all shape y = true := fun y hy => hsk y (hmem y hy)
  obtain ⟨hjl, hjl2⟩ := vts_len hallts hfits hlen h16 hnd
  have hvt : (vtT (.mk 8 m s vs) (.mk 8 n l kids)).data.toList = vtM 8 l m s (vtxs vs ts) := by rw [vtT_list, vtx_mk hts]
  obtain ⟨R, hR⟩ : ∃ R, vtT (.mk 8 m s vs) (.mk 8 n l kids) = R := ⟨_, rfl⟩
  rw [hR] at hvt ⊢
  clear hR hfit
  obtain ⟨w0, hw0, B0, bA, bB⟩ := blocks2 w 34 40 [.int .i64 8, .int .i64 m, .string s, .slice A vs.length c] [.int .i64 8, .string n, .slice A1 l.length c1, .slice A2 kids.length c2]
  change Calls Tryz.prog 44 #[.agg #[.int .i64 8, .int .i64 m, .string s, .slice A vs.length c], .agg #[.int .i64 8, .string n, .slice A1 l.length c1, .slice A2 kids.length c2]] w _
  have HB0 := Lib.hid B0
  have kA := bA.cell
  have kB := bB.cell
  have HE := Lib.hid (show R = numT m by rw [numT]; exact ba_of (by rw [hvt]; unfold vtM; rw [if_neg (by decide), if_neg (by decide), if_neg (by decide), if_neg (by decide), if_neg (by decide), if_neg (by decide), if_neg (by decide), if_neg (by decide), if_neg (by decide), if_neg (by decide), if_neg (by decide)]))
  have HC := Lib.hid (fun W => l04Dec_s m hm W)
  clear hCw hcs hcs' hm hss hvs hnz hl hkids hnf htx hts hmem hlen h16 hfits hlab hlab2 hallts hjl hjl2 hsh hsk _ih B0 bA bB hvt hnd
  go_enter Tryz.func44, Tryz.ntmps44
  go_upto_region 1 with fail
  rw [← hw0]
  clear hw0
  go_wp2_with fail
  refine (HC.out _).mono ?_
  rintro e w1 ⟨rfl, hb1⟩
  have HB1 := Lib.hid (HB0.out.trans (hb1.mono HB0.out.size))
  clear hb1
  go_wp2
  go_ret
  exact ⟨ret_eq (by rw [HE.out]; rfl), HB1.out⟩
set_option maxHeartbeats 4000000 in
set_option maxRecDepth 20000 in
theorem lt_9 (m : Int) (s : ByteArray) (vs : List Va) (n : ByteArray) (l : List ByteArray) (kids : List Ty) (hsh : shape (.mk 9 n l kids) = true) (hsk : ∀ x ∈ kids, Ty.all shape x = true) (hfit : fitV (.mk 9 m s vs) (.mk 9 n l kids) = true) (hnd : Va.nodess vs ≤ 2000000) (_ih : IhT 44 anyW vs) : TxAt 44 anyW (.mk 9 m s vs) (.mk 9 n l kids) := by
  intro cs cs' w hCw hcs hcs'
  obtain ⟨A, c, rfl, -, hm, hss, hvs⟩ := Va.open_ hcs
  obtain ⟨A1, c1, A2, c2, rfl, -, hnz, hl, hkids⟩ := Ty.open_ hcs'
  obtain ⟨-, hvn, hvc⟩ := rows_bound hvs
  obtain ⟨-, hln, hlc⟩ := rows_bound hl
  obtain ⟨-, hkn, hkc⟩ := rows_bound hkids
  unfold maxLen at hvc hlc hkc
  obtain ⟨-, hnf, htx, ts, hts, hmem, hlen, h16, hfits⟩ := fit_open hsh hfit
  obtain ⟨hlab, hlab2⟩ := shape_labels hsh
  have hallts : ∀ y ∈ ts, Ty.all shape y = true := fun y hy => hsk y (hmem y hy)
  obtain ⟨hjl, hjl2⟩ := vts_len hallts hfits hlen h16 hnd
  have hvt : (vtT (.mk 9 m s vs) (.mk 9 n l kids)).data.toList = vtM 9 l m s (vtxs vs ts) := by rw [vtT_list, vtx_mk hts]
  obtain ⟨R, hR⟩ : ∃ R, vtT (.mk 9 m s vs) (.mk 9 n l kids) = R := ⟨_, rfl⟩
  rw [hR] at hvt ⊢
  clear hR hfit
  obtain ⟨w0, hw0, B0, bA, bB⟩ := blocks2 w 34 40 [.int .i64 9, .int .i64 m, .string s, .slice A vs.length c] [.int .i64 9, .string n, .slice A1 l.length c1, .slice A2 kids.length c2]
  change Calls Tryz.prog 44 #[.agg #[.int .i64 9, .int .i64 m, .string s, .slice A vs.length c], .agg #[.int .i64 9, .string n, .slice A1 l.length c1, .slice A2 kids.length c2]] w _
  have HB0 := Lib.hid B0
  have kA := bA.cell
  have kB := bB.cell
  have HE := Lib.hid (show R = numT m by rw [numT]; exact ba_of (by rw [hvt]; unfold vtM; rw [if_neg (by decide), if_neg (by decide), if_neg (by decide), if_neg (by decide), if_neg (by decide), if_neg (by decide), if_neg (by decide), if_neg (by decide), if_neg (by decide), if_neg (by decide), if_neg (by decide)]))
  have HC := Lib.hid (fun W => l04Dec_s m hm W)
  clear hCw hcs hcs' hm hss hvs hnz hl hkids hnf htx hts hmem hlen h16 hfits hlab hlab2 hallts hjl hjl2 hsh hsk _ih B0 bA bB hvt hnd
  go_enter Tryz.func44, Tryz.ntmps44
  go_upto_region 1 with fail
  rw [← hw0]
  clear hw0
  go_wp2_with fail
  refine (HC.out _).mono ?_
  rintro e w1 ⟨rfl, hb1⟩
  have HB1 := Lib.hid (HB0.out.trans (hb1.mono HB0.out.size))
  clear hb1
  go_wp2
  go_ret
  exact ⟨ret_eq (by rw [HE.out]; rfl), HB1.out⟩
set_option maxHeartbeats 4000000 in
set_option maxRecDepth 20000 in
theorem lt_10 (m : Int) (s : ByteArray) (vs : List Va) (n : ByteArray) (l : List ByteArray) (kids : List Ty) (hsh : shape (.mk 10 n l kids) = true) (hsk : ∀ x ∈ kids, Ty.all shape x = true) (hfit : fitV (.mk 10 m s vs) (.mk 10 n l kids) = true) (hnd : Va.nodess vs ≤ 2000000) (_ih : IhT 44 anyW vs) : TxAt 44 anyW (.mk 10 m s vs) (.mk 10 n l kids) := by
  intro cs cs' w hCw hcs hcs'
  obtain ⟨A, c, rfl, -, hm, hss, hvs⟩ := Va.open_ hcs
  obtain ⟨A1, c1, A2, c2, rfl, -, hnz, hl, hkids⟩ := Ty.open_ hcs'
  obtain ⟨-, hvn, hvc⟩ := rows_bound hvs
  obtain ⟨-, hln, hlc⟩ := rows_bound hl
  obtain ⟨-, hkn, hkc⟩ := rows_bound hkids
  unfold maxLen at hvc hlc hkc
  obtain ⟨-, hnf, htx, ts, hts, hmem, hlen, h16, hfits⟩ := fit_open hsh hfit
  obtain ⟨hlab, hlab2⟩ := shape_labels hsh
  have hallts : ∀ y ∈ ts, Ty.all shape y = true := fun y hy => hsk y (hmem y hy)
  obtain ⟨hjl, hjl2⟩ := vts_len hallts hfits hlen h16 hnd
  have hvt : (vtT (.mk 10 m s vs) (.mk 10 n l kids)).data.toList = vtM 10 l m s (vtxs vs ts) := by rw [vtT_list, vtx_mk hts]
  obtain ⟨R, hR⟩ : ∃ R, vtT (.mk 10 m s vs) (.mk 10 n l kids) = R := ⟨_, rfl⟩
  rw [hR] at hvt ⊢
  clear hR hfit
  obtain ⟨w0, hw0, B0, bA, bB⟩ := blocks2 w 34 40 [.int .i64 10, .int .i64 m, .string s, .slice A vs.length c] [.int .i64 10, .string n, .slice A1 l.length c1, .slice A2 kids.length c2]
  change Calls Tryz.prog 44 #[.agg #[.int .i64 10, .int .i64 m, .string s, .slice A vs.length c], .agg #[.int .i64 10, .string n, .slice A1 l.length c1, .slice A2 kids.length c2]] w _
  have HB0 := Lib.hid B0
  have kA := bA.cell
  have kB := bB.cell
  have hmm := num_10 hnf
  have HE := Lib.hid (show R = ⟨(quoT 39 [m]).toArray⟩ from ba_of (by rw [hvt]; unfold vtM; rw [if_neg (by decide), if_neg (by decide), if_pos (by decide)]))
  have HC : Hid (Calls Tryz.prog 58 #[.slice (some ⟨w0.heap.size, 0, none⟩) 1 1, .int .u8 39] (w0.alloc (.cells #[.int .i64 m] 2)) fun e w' => e = .returned (.string ⟨(quoT 39 [m]).toArray⟩) ∧ Below (w0.alloc (.cells #[.int .i64 m] 2)).heap.size (w0.alloc (.cells #[.int .i64 m] 2)) w') :=
    Lib.hid (l04Quote_s [m] 39 (some ⟨w0.heap.size, 0, none⟩) 1 _ (.inr rfl) (by simp) (fun c hc => by rw [List.mem_singleton.1 hc]; exact hmm) (kinds1 w0 m hm 2))
  obtain ⟨Q, hQ⟩ : ∃ Q : ByteArray, (⟨(quoT 39 [m]).toArray⟩ : ByteArray) = Q := ⟨_, rfl⟩
  rw [hQ] at HE HC
  clear hmm hQ
  clear hCw hcs hcs' hm hss hvs hnz hl hkids hnf htx hts hmem hlen h16 hfits hlab hlab2 hallts hjl hjl2 hsh hsk _ih B0 bA bB hvt hnd
  go_enter Tryz.func44, Tryz.ntmps44
  go_upto_region 1 with fail
  rw [← hw0]
  clear hw0
  go_wp2_with fail
  refine HC.out.mono ?_
  rintro e w1 ⟨rfl, hb1⟩
  have HB1 := Lib.hid ((HB0.out.alloc HB0.out.size _).trans (hb1.mono (HB0.out.alloc HB0.out.size _).size))
  clear hb1
  go_wp2
  go_ret
  exact ⟨ret_eq (by rw [HE.out]; try rfl), HB1.out⟩
set_option maxHeartbeats 4000000 in
set_option maxRecDepth 20000 in
theorem lt_11 (m : Int) (s : ByteArray) (vs : List Va) (n : ByteArray) (l : List ByteArray) (kids : List Ty) (hsh : shape (.mk 11 n l kids) = true) (hsk : ∀ x ∈ kids, Ty.all shape x = true) (hfit : fitV (.mk 11 m s vs) (.mk 11 n l kids) = true) (hnd : Va.nodess vs ≤ 2000000) (_ih : IhT 44 anyW vs) : TxAt 44 anyW (.mk 11 m s vs) (.mk 11 n l kids) := by
  intro cs cs' w hCw hcs hcs'
  obtain ⟨A, c, rfl, -, hm, hss, hvs⟩ := Va.open_ hcs
  obtain ⟨A1, c1, A2, c2, rfl, -, hnz, hl, hkids⟩ := Ty.open_ hcs'
  obtain ⟨-, hvn, hvc⟩ := rows_bound hvs
  obtain ⟨-, hln, hlc⟩ := rows_bound hl
  obtain ⟨-, hkn, hkc⟩ := rows_bound hkids
  unfold maxLen at hvc hlc hkc
  obtain ⟨-, hnf, htx, ts, hts, hmem, hlen, h16, hfits⟩ := fit_open hsh hfit
  obtain ⟨hlab, hlab2⟩ := shape_labels hsh
  have hallts : ∀ y ∈ ts, Ty.all shape y = true := fun y hy => hsk y (hmem y hy)
  obtain ⟨hjl, hjl2⟩ := vts_len hallts hfits hlen h16 hnd
  have hvt : (vtT (.mk 11 m s vs) (.mk 11 n l kids)).data.toList = vtM 11 l m s (vtxs vs ts) := by rw [vtT_list, vtx_mk hts]
  obtain ⟨R, hR⟩ : ∃ R, vtT (.mk 11 m s vs) (.mk 11 n l kids) = R := ⟨_, rfl⟩
  rw [hR] at hvt ⊢
  clear hR hfit
  obtain ⟨w0, hw0, B0, bA, bB⟩ := blocks2 w 34 40 [.int .i64 11, .int .i64 m, .string s, .slice A vs.length c] [.int .i64 11, .string n, .slice A1 l.length c1, .slice A2 kids.length c2]
  change Calls Tryz.prog 44 #[.agg #[.int .i64 11, .int .i64 m, .string s, .slice A vs.length c], .agg #[.int .i64 11, .string n, .slice A1 l.length c1, .slice A2 kids.length c2]] w _
  have HB0 := Lib.hid B0
  have kA := bA.cell
  have kB := bB.cell
  have htk := textOk_size htx
  have hsm := pts_small s
  have HE := Lib.hid (show R = ⟨(quoT 34 (pts s)).toArray⟩ from ba_of (by rw [hvt]; unfold vtM; rw [if_neg (by decide), if_neg (by decide), if_neg (by decide), if_pos (by decide)]))
  have HC := Lib.hid (l04Points_s s htk.1 w0)
  have HV := Lib.hid htk.2
  have HSM := Lib.hid (And.intro hsm.2 (Nat.le_trans hsm.1 htk.1))
  obtain ⟨PS, hPS⟩ : ∃ PS, pts s = PS := ⟨_, rfl⟩
  unfold RetPts at HC
  rw [hPS] at HE HSM
  simp only [hPS] at HC
  clear hPS htk hsm
  clear hCw hcs hcs' hm hss hvs hnz hl hkids hnf htx hts hmem hlen h16 hfits hlab hlab2 hallts hjl hjl2 hsh hsk _ih B0 bA bB hvt hnd
  go_enter Tryz.func44, Tryz.ntmps44
  go_upto_region 1 with fail
  rw [← hw0]
  clear hw0
  go_wp2_with fail
  refine HC.out.mono ?_
  rintro e w1 ⟨v, rfl, hown, hb1⟩
  have ho := hown HV.out
  have HB1 := Lib.hid (HB0.out.trans (hb1.mono HB0.out.size))
  have hat : D.At w1 anyB (rows intD 1 PS) v := D.At.of_own ho (fun _ _ => trivial) (ints_ats HSM.out.1) (by unfold maxLen; have := HSM.out.2; omega)
  obtain ⟨A9, c9, rfl, -, -⟩ := rows_form intD_length hat
  have HQ : Hid (Calls Tryz.prog 58 #[.slice A9 PS.length c9, .int .u8 34] w1 fun e w' => e = .returned (.string ⟨(quoT 34 PS).toArray⟩) ∧ Below w1.heap.size w1 w') := Lib.hid (l04Quote_s PS 34 A9 c9 w1 (.inl rfl) HSM.out.2 HSM.out.1 hat)
  obtain ⟨Q, hQ⟩ : ∃ Q : ByteArray, (⟨(quoT 34 PS).toArray⟩ : ByteArray) = Q := ⟨_, rfl⟩
  rw [hQ] at HE HQ
  clear hown ho hb1 hat hQ kA kB
  go_wp2_with fail
  refine HQ.out.mono ?_
  rintro e w2 ⟨rfl, hb2⟩
  have HB2 := Lib.hid (HB1.out.trans (hb2.mono HB1.out.size))
  clear hb2
  go_wp2
  go_ret
  exact ⟨ret_eq (by rw [HE.out]; try rfl), HB2.out⟩
set_option maxHeartbeats 4000000 in
set_option maxRecDepth 20000 in
theorem lt_12 (m : Int) (s : ByteArray) (vs : List Va) (n : ByteArray) (l : List ByteArray) (kids : List Ty) (hsh : shape (.mk 12 n l kids) = true) (hsk : ∀ x ∈ kids, Ty.all shape x = true) (hfit : fitV (.mk 12 m s vs) (.mk 12 n l kids) = true) (hnd : Va.nodess vs ≤ 2000000) (ih : IhT 44 anyW vs) : TxAt 44 anyW (.mk 12 m s vs) (.mk 12 n l kids) := by
  intro cs cs' w hCw hcs hcs'
  obtain ⟨A, c, rfl, -, hm, hss, hvs⟩ := Va.open_ hcs
  obtain ⟨A1, c1, A2, c2, rfl, -, hnz, hl, hkids⟩ := Ty.open_ hcs'
  obtain ⟨-, hvn, hvc⟩ := rows_bound hvs
  obtain ⟨-, hln, hlc⟩ := rows_bound hl
  obtain ⟨-, hkn, hkc⟩ := rows_bound hkids
  unfold maxLen at hvc hlc hkc
  obtain ⟨-, hnf, htx, ts, hts, hmem, hlen, h16, hfits⟩ := fit_open hsh hfit
  obtain ⟨hlab, hlab2⟩ := shape_labels hsh
  have hallts : ∀ y ∈ ts, Ty.all shape y = true := fun y hy => hsk y (hmem y hy)
  obtain ⟨hjl, hjl2⟩ := vts_len hallts hfits hlen h16 hnd
  have hvt : (vtT (.mk 12 m s vs) (.mk 12 n l kids)).data.toList = vtM 12 l m s (vtxs vs ts) := by rw [vtT_list, vtx_mk hts]
  obtain ⟨R, hR⟩ : ∃ R, vtT (.mk 12 m s vs) (.mk 12 n l kids) = R := ⟨_, rfl⟩
  rw [hR] at hvt ⊢
  clear hR hfit
  obtain ⟨w0, hw0, B0, bA, bB⟩ := blocks2 w 34 40 [.int .i64 12, .int .i64 m, .string s, .slice A vs.length c] [.int .i64 12, .string n, .slice A1 l.length c1, .slice A2 kids.length c2]
  change Calls Tryz.prog 44 #[.agg #[.int .i64 12, .int .i64 m, .string s, .slice A vs.length c], .agg #[.int .i64 12, .string n, .slice A1 l.length c1, .slice A2 kids.length c2]] w _
  have HB0 := Lib.hid B0
  have kA := bA.cell
  have kB := bB.cell
  obtain ⟨x, hkx, -⟩ := fit_one hsh (.inl rfl)
  obtain rfl : ts = List.replicate (min vs.length 8) x := by have := hts; rw [hkx, kts_12] at this; exact (Option.some.inj this).symm
  have hx : kids[0]? = some x := by rw [hkx]; rfl
  have hk0 : (0 : Int) < (kids.length : Int) := by rw [hkx]; simp
  rw [List.length_replicate] at hlen
  rw [hlen] at hvt hjl hfits
  have hl8 : vs.length ≤ 8 := by omega
  obtain ⟨b, off, u0, u1, u2, u3, e, -, hbl, hat, d0, d1, d2, d3⟩ := rows_at4 Ty.len hkids (i := 0) (x := x) hx
  subst e
  obtain ⟨z0, z1, z2, z3, z4, z5, z6, z7, exx⟩ := Ty.form hat
  simp only [List.cons.injEq, and_true] at exx
  obtain ⟨rfl, rfl, rfl, rfl⟩ := exx
  simp only [Nat.zero_mul, Nat.add_zero] at d0 d1 d2 d3
  replace d0 := cell_regrown ((B0.cell (p := ⟨b, off, none⟩) hbl).trans d0)
  replace d1 := cell_regrown ((B0.cell (p := ⟨b, off + 1, none⟩) hbl).trans d1)
  replace d2 := cell_regrown ((B0.cell (p := ⟨b, off + 2, none⟩) hbl).trans d2)
  replace d3 := cell_regrown ((B0.cell (p := ⟨b, off + 3, none⟩) hbl).trans d3)
  have hfv : ∀ v ∈ vs, fitV v x = true := by
    rw [fitVs_rep _ _ _ (Nat.le_refl _)] at hfits
    exact fun v hv => List.all_eq_true.1 hfits v hv
  have HXY : Hid (∀ W, Below w0.heap.size w0 W → Calls Tryz.prog 60 #[.slice A vs.length c, .agg #[.int .i64 z0, .string z1, .slice z2 z3 z4, .slice z5 z6 z7]] W fun e w' => e = .returned (.string ⟨(91 :: (Lib.join (vtxs vs (List.replicate vs.length x)) [44, 32] ++ [93])).toArray⟩) ∧ Below W.heap.size W w') :=
    Lib.hid (fun W h => l04List_s vs x (fun v hv => ih v hv x (hsk x (List.mem_of_getElem? hx)) (hfv v hv)) hl8 (by omega) A c [.int .i64 z0, .string z1, .slice z2 z3 z4, .slice z5 z6 z7] W ((hvs.below B0).below h) ((hat.below B0).below h))
  have HE := Lib.hid (show R = ⟨(91 :: (Lib.join (vtxs vs (List.replicate vs.length x)) [44, 32] ++ [93])).toArray⟩ from ba_of (by rw [hvt]; unfold vtM; rw [if_neg (by decide), if_neg (by decide), if_neg (by decide), if_neg (by decide), if_pos (by decide)]))
  obtain ⟨Q, hQ⟩ : ∃ Q : ByteArray, (⟨(91 :: (Lib.join (vtxs vs (List.replicate vs.length x)) [44, 32] ++ [93])).toArray⟩ : ByteArray) = Q := ⟨_, rfl⟩
  rw [hQ] at HE
  simp only [hQ] at HXY
  clear hQ hfv hat hl8 hx hkx
  have r0 := cell_regrown (show w0.cell? ⟨w.heap.size, 0, none⟩ = some (.int .i64 12) from bA.cell 0)
  have r1 := cell_regrown (show w0.cell? ⟨w.heap.size, 1, none⟩ = some (.int .i64 m) from bA.cell 1)
  have r2 := cell_regrown (show w0.cell? ⟨w.heap.size, 2, none⟩ = some (.string s) from bA.cell 2)
  have r3 := cell_regrown (show w0.cell? ⟨w.heap.size, 3, none⟩ = some (.slice A vs.length c) from bA.cell 3)
  have x0 := cell_regrown (show w0.cell? ⟨w.heap.size + 1, 0, none⟩ = some (.int .i64 12) from bB.cell 0)
  have x1 := cell_regrown (show w0.cell? ⟨w.heap.size + 1, 1, none⟩ = some (.string n) from bB.cell 1)
  have x2 := cell_regrown (show w0.cell? ⟨w.heap.size + 1, 2, none⟩ = some (.slice A1 l.length c1) from bB.cell 2)
  have x3 := cell_regrown (show w0.cell? ⟨w.heap.size + 1, 3, none⟩ = some (.slice (some ⟨b, off, none⟩) kids.length c2) from bB.cell 3)
  clear hCw hcs hcs' hm hss hvs hnz hl hkids hnf htx hts hmem hlen h16 hfits hlab hlab2 hallts hjl hjl2 hsh hsk ih B0 bA bB hvt hnd
  go_enter Tryz.func44, Tryz.ntmps44
  go_upto_region 1 with fail
  rw [← hw0]
  clear hw0
  go_upto_region 14 with fail
  clear kA kB
  refine wp_region_quiet_below (by kernel_rfl) (by kernel_rfl) ?_
  repeat (first | go_big_quiet_step (with_reducible exact Calls.regrown_of (HXY.out _ (below_regrown _ _ _))) | quiet_step (with_reducible exact Calls.regrown_of (HXY.out _ (below_regrown _ _ _))))
  refine wpQuiet_nil ?_
  intro w6 hw6
  have HB6 := Lib.hid (HB0.out.trans ((below_of_regrown hw6).mono HB0.out.size))
  clear hw6
  clear d0 d1 d2 d3 r0 r1 r2 r3 x0 x1 x2 x3
  go_wp2
  go_ret
  exact ⟨ret_eq (by rw [HE.out]; try rfl), HB6.out⟩
set_option maxHeartbeats 4000000 in
set_option maxRecDepth 20000 in
theorem lt_13 (m : Int) (s : ByteArray) (vs : List Va) (n : ByteArray) (l : List ByteArray) (kids : List Ty) (hsh : shape (.mk 13 n l kids) = true) (hsk : ∀ x ∈ kids, Ty.all shape x = true) (hfit : fitV (.mk 13 m s vs) (.mk 13 n l kids) = true) (hnd : Va.nodess vs ≤ 2000000) (ih : IhT 44 anyW vs) : TxAt 44 anyW (.mk 13 m s vs) (.mk 13 n l kids) := by
  intro cs cs' w hCw hcs hcs'
  obtain ⟨A, c, rfl, -, hm, hss, hvs⟩ := Va.open_ hcs
  obtain ⟨A1, c1, A2, c2, rfl, -, hnz, hl, hkids⟩ := Ty.open_ hcs'
  obtain ⟨-, hvn, hvc⟩ := rows_bound hvs
  obtain ⟨-, hln, hlc⟩ := rows_bound hl
  obtain ⟨-, hkn, hkc⟩ := rows_bound hkids
  unfold maxLen at hvc hlc hkc
  obtain ⟨-, hnf, htx, ts, hts, hmem, hlen, h16, hfits⟩ := fit_open hsh hfit
  obtain ⟨hlab, hlab2⟩ := shape_labels hsh
  have hallts : ∀ y ∈ ts, Ty.all shape y = true := fun y hy => hsk y (hmem y hy)
  obtain ⟨hjl, hjl2⟩ := vts_len hallts hfits hlen h16 hnd
  have hvt : (vtT (.mk 13 m s vs) (.mk 13 n l kids)).data.toList = vtM 13 l m s (vtxs vs ts) := by rw [vtT_list, vtx_mk hts]
  obtain ⟨R, hR⟩ : ∃ R, vtT (.mk 13 m s vs) (.mk 13 n l kids) = R := ⟨_, rfl⟩
  rw [hR] at hvt ⊢
  clear hR hfit
  obtain ⟨w0, hw0, B0, bA, bB⟩ := blocks2 w 34 40 [.int .i64 13, .int .i64 m, .string s, .slice A vs.length c] [.int .i64 13, .string n, .slice A1 l.length c1, .slice A2 kids.length c2]
  change Calls Tryz.prog 44 #[.agg #[.int .i64 13, .int .i64 m, .string s, .slice A vs.length c], .agg #[.int .i64 13, .string n, .slice A1 l.length c1, .slice A2 kids.length c2]] w _
  have HB0 := Lib.hid B0
  have kA := bA.cell
  have kB := bB.cell
  obtain ⟨x, hkx, hux⟩ := fit_one hsh (.inr rfl)
  have hx : kids[0]? = some x := by rw [hkx]; rfl
  have hk0 : (0 : Int) < (kids.length : Int) := by rw [hkx]; simp
  rcases (show m = 0 ∨ m = 1 by have := num_2 (.inr (.inl rfl)) hnf; omega) with rfl | rfl
  · obtain rfl : ts = [] := by have := hts; rw [kts_13_0] at this; exact (Option.some.inj this).symm
    have hv0 : vs = [] := List.eq_nil_of_length_eq_zero hlen.symm
    have HE := Lib.hid (show R = ⟨#[110, 111, 110, 101]⟩ from ba_of (by rw [hvt, hv0, vtxs_nil]; unfold vtM; rw [if_neg (by decide), if_neg (by decide), if_neg (by decide), if_neg (by decide), if_neg (by decide), if_neg (by decide), if_neg (by decide), if_neg (by decide), if_pos (by decide)]; rfl))
    clear hCw hcs hcs' hm hss hvs hnz hl hkids hnf htx hts hmem hlen h16 hfits hlab hlab2 hallts hjl hjl2 hsh hsk ih B0 bA bB hvt hnd hux hkx hx hv0 hk0
    go_enter Tryz.func44, Tryz.ntmps44
    go_upto_region 1 with fail
    rw [← hw0]
    clear hw0
    go_wp2
    go_ret
    exact ⟨ret_eq (by rw [HE.out]; try rfl), HB0.out⟩
  · obtain rfl : ts = [x] := by have := hts; rw [hkx, kts_13_1 hux] at this; exact (Option.some.inj this).symm
    obtain ⟨b, off, u0, u1, u2, u3, e, -, hbl, hat, d0, d1, d2, d3⟩ := rows_at4 Ty.len hkids (i := 0) (x := x) hx
    subst e
    obtain ⟨z0, z1, z2, z3, z4, z5, z6, z7, exx⟩ := Ty.form hat
    simp only [List.cons.injEq, and_true] at exx
    obtain ⟨rfl, rfl, rfl, rfl⟩ := exx
    simp only [Nat.zero_mul, Nat.add_zero] at d0 d1 d2 d3
    replace d0 := cell_regrown ((B0.cell (p := ⟨b, off, none⟩) hbl).trans d0)
    replace d1 := cell_regrown ((B0.cell (p := ⟨b, off + 1, none⟩) hbl).trans d1)
    replace d2 := cell_regrown ((B0.cell (p := ⟨b, off + 2, none⟩) hbl).trans d2)
    replace d3 := cell_regrown ((B0.cell (p := ⟨b, off + 3, none⟩) hbl).trans d3)
    have hcase : vs.length = 1 := hlen.symm
    have hfv : ∀ v ∈ vs, fitV v x = true := by
      match vs, hcase with
      | [v0], _ =>
        intro v hv
        rw [List.mem_singleton.1 hv]
        rw [fitVs_cons, Bool.and_eq_true] at hfits
        exact hfits.1
    have HE := Lib.hid (show R = ⟨(namedT ⟨#[115, 111, 109, 101]⟩ (vs.map fun v => vtx v x)).toArray⟩ from ba_of (by rw [hvt]; unfold vtM; rw [if_neg (by decide), if_neg (by decide), if_neg (by decide), if_neg (by decide), if_neg (by decide), if_neg (by decide), if_neg (by decide), if_neg (by decide), if_pos (by decide)]; exact namedT_one rfl (.inr ⟨rfl, hcase⟩)))
    have HXY : Hid (∀ W, Below w0.heap.size w0 W → Calls Tryz.prog 61 #[.string ⟨#[115, 111, 109, 101]⟩, .slice A vs.length c, .agg #[.int .i64 z0, .string z1, .slice z2 z3 z4, .slice z5 z6 z7]] W fun e w' => e = .returned (.string ⟨(namedT ⟨#[115, 111, 109, 101]⟩ (vs.map fun v => vtx v x)).toArray⟩) ∧ Below W.heap.size W w') :=
      Lib.hid (fun W h => l04Named_s ⟨#[115, 111, 109, 101]⟩ vs x (fun v hv => ih v hv x (hsk x (List.mem_of_getElem? hx)) (hfv v hv)) (by decide) (fun v hv => by
        have h1 := vtx_len v x (hsk x (List.mem_of_getElem? hx)) (hfv v hv)
        have h2 := nodes_memT hv
        rw [vtT_size]; omega) A c [.int .i64 z0, .string z1, .slice z2 z3 z4, .slice z5 z6 z7] W ((hvs.below B0).below h) ((hat.below B0).below h))
    obtain ⟨Q, hQ⟩ : ∃ Q : ByteArray, (⟨(namedT ⟨#[115, 111, 109, 101]⟩ (vs.map fun v => vtx v x)).toArray⟩ : ByteArray) = Q := ⟨_, rfl⟩
    rw [hQ] at HE
    simp only [hQ] at HXY
    clear hQ hfv hat hcase
    have r0 := cell_regrown (show w0.cell? ⟨w.heap.size, 0, none⟩ = some (.int .i64 13) from bA.cell 0)
    have r1 := cell_regrown (show w0.cell? ⟨w.heap.size, 1, none⟩ = some (.int .i64 1) from bA.cell 1)
    have r2 := cell_regrown (show w0.cell? ⟨w.heap.size, 2, none⟩ = some (.string s) from bA.cell 2)
    have r3 := cell_regrown (show w0.cell? ⟨w.heap.size, 3, none⟩ = some (.slice A vs.length c) from bA.cell 3)
    have x0 := cell_regrown (show w0.cell? ⟨w.heap.size + 1, 0, none⟩ = some (.int .i64 13) from bB.cell 0)
    have x1 := cell_regrown (show w0.cell? ⟨w.heap.size + 1, 1, none⟩ = some (.string n) from bB.cell 1)
    have x2 := cell_regrown (show w0.cell? ⟨w.heap.size + 1, 2, none⟩ = some (.slice A1 l.length c1) from bB.cell 2)
    have x3 := cell_regrown (show w0.cell? ⟨w.heap.size + 1, 3, none⟩ = some (.slice (some ⟨b, off, none⟩) kids.length c2) from bB.cell 3)
    clear hCw hcs hcs' hm hss hvs hnz hl hkids hnf htx hts hmem hlen h16 hfits hlab hlab2 hallts hjl hjl2 hsh hsk ih B0 bA bB hvt hnd hux hkx hx
    go_enter Tryz.func44, Tryz.ntmps44
    go_upto_region 1 with fail
    rw [← hw0]
    clear hw0
    go_upto_region 18 with fail
    clear kA kB
    refine wp_region_quiet_below (by kernel_rfl) (by kernel_rfl) ?_
    repeat (first | go_big_quiet_step (with_reducible exact Calls.regrown_of (HXY.out _ (below_regrown _ _ _))) | quiet_step (with_reducible exact Calls.regrown_of (HXY.out _ (below_regrown _ _ _))))
    refine wpQuiet_nil ?_
    intro w6 hw6
    have HB6 := Lib.hid (HB0.out.trans ((below_of_regrown hw6).mono HB0.out.size))
    clear hw6
    clear d0 d1 d2 d3 r0 r1 r2 r3 x0 x1 x2 x3
    go_wp2
    go_ret
    exact ⟨ret_eq (by rw [HE.out]; try rfl), HB6.out⟩
set_option maxHeartbeats 4000000 in
set_option maxRecDepth 20000 in
theorem lt_14 (m : Int) (s : ByteArray) (vs : List Va) (n : ByteArray) (l : List ByteArray) (kids : List Ty) (hsh : shape (.mk 14 n l kids) = true) (hsk : ∀ x ∈ kids, Ty.all shape x = true) (hfit : fitV (.mk 14 m s vs) (.mk 14 n l kids) = true) (hnd : Va.nodess vs ≤ 2000000) (ih : IhT 44 anyW vs) : TxAt 44 anyW (.mk 14 m s vs) (.mk 14 n l kids) := by
  intro cs cs' w hCw hcs hcs'
  obtain ⟨A, c, rfl, -, hm, hss, hvs⟩ := Va.open_ hcs
  obtain ⟨A1, c1, A2, c2, rfl, -, hnz, hl, hkids⟩ := Ty.open_ hcs'
  obtain ⟨-, hvn, hvc⟩ := rows_bound hvs
  obtain ⟨-, hln, hlc⟩ := rows_bound hl
  obtain ⟨-, hkn, hkc⟩ := rows_bound hkids
  unfold maxLen at hvc hlc hkc
  obtain ⟨-, hnf, htx, ts, hts, hmem, hlen, h16, hfits⟩ := fit_open hsh hfit
  obtain ⟨hlab, hlab2⟩ := shape_labels hsh
  have hallts : ∀ y ∈ ts, Ty.all shape y = true := fun y hy => hsk y (hmem y hy)
  obtain ⟨hjl, hjl2⟩ := vts_len hallts hfits hlen h16 hnd
  have hvt : (vtT (.mk 14 m s vs) (.mk 14 n l kids)).data.toList = vtM 14 l m s (vtxs vs ts) := by rw [vtT_list, vtx_mk hts]
  obtain ⟨R, hR⟩ : ∃ R, vtT (.mk 14 m s vs) (.mk 14 n l kids) = R := ⟨_, rfl⟩
  rw [hR] at hvt ⊢
  clear hR hfit
  obtain ⟨w0, hw0, B0, bA, bB⟩ := blocks2 w 34 40 [.int .i64 14, .int .i64 m, .string s, .slice A vs.length c] [.int .i64 14, .string n, .slice A1 l.length c1, .slice A2 kids.length c2]
  change Calls Tryz.prog 44 #[.agg #[.int .i64 14, .int .i64 m, .string s, .slice A vs.length c], .agg #[.int .i64 14, .string n, .slice A1 l.length c1, .slice A2 kids.length c2]] w _
  have HB0 := Lib.hid B0
  have kA := bA.cell
  have kB := bB.cell
  obtain ⟨-, hkl, hk3, -⟩ := fit_case_len hsh (.inl rfl)
  have hk2 := hk3 rfl
  clear hk3
  rcases (show m = 0 ∨ m = 1 by have := num_2 (.inr (.inr rfl)) hnf; omega) with rfl | rfl
  · obtain ⟨x, hx⟩ : ∃ x, kids[0]? = some x := ⟨kids[0], List.getElem?_eq_getElem (by omega)⟩
    have hcase : ts = [] ∧ vs = [] ∨ ts = [x] ∧ vs.length = 1 := by
      have h := hts
      rw [kts_case (.inl rfl) (by decide) hx] at h
      have h := Option.some.inj h
      by_cases hu : isU x = true
      · rw [if_pos hu] at h
        subst h
        exact .inl ⟨rfl, List.eq_nil_of_length_eq_zero hlen.symm⟩
      · rw [if_neg hu] at h
        subst h
        exact .inr ⟨rfl, hlen.symm⟩
    have hfv : ∀ v ∈ vs, fitV v x = true := by
      rcases hcase with ⟨-, h⟩ | ⟨h1, h2⟩
      · rw [h]; intro v hv; cases hv
      · rw [h1] at hfits
        match vs, h2 with
        | [v0], _ =>
          intro v hv
          rw [List.mem_singleton.1 hv]
          rw [fitVs_cons, Bool.and_eq_true] at hfits
          exact hfits.1
    have HE := Lib.hid (show R = ⟨(namedT ⟨#[111, 107]⟩ (vs.map fun v => vtx v x)).toArray⟩ from ba_of (by rw [hvt]; unfold vtM; rw [if_neg (by decide), if_neg (by decide), if_neg (by decide), if_neg (by decide), if_neg (by decide), if_neg (by decide), if_neg (by decide), if_neg (by decide), if_pos (by decide)]; exact namedT_one rfl hcase))
    obtain ⟨b, off, u0, u1, u2, u3, e, -, hbl, hat, d0, d1, d2, d3⟩ := rows_at4 Ty.len hkids (i := 0) (x := x) hx
    subst e
    obtain ⟨z0, z1, z2, z3, z4, z5, z6, z7, exx⟩ := Ty.form hat
    simp only [List.cons.injEq, and_true] at exx
    obtain ⟨rfl, rfl, rfl, rfl⟩ := exx
    obtain ⟨w1, hw1⟩ : ∃ w1, w1 = w0.alloc (.cells #[.string ⟨#[111, 107]⟩, .string ⟨#[101, 114, 114]⟩] 9) := ⟨_, rfl⟩
    have B1 : Below w0.heap.size w0 w1 := by rw [hw1]; exact (Below.refl _ _).alloc (Nat.le_refl _) _
    have BB := B0.trans (B1.mono B0.size)
    simp only [Nat.zero_mul, Nat.add_zero] at d0 d1 d2 d3
    replace d0 := cell_regrown ((BB.cell (p := ⟨b, off, none⟩) hbl).trans d0)
    replace d1 := cell_regrown ((BB.cell (p := ⟨b, off + 1, none⟩) hbl).trans d1)
    replace d2 := cell_regrown ((BB.cell (p := ⟨b, off + 2, none⟩) hbl).trans d2)
    replace d3 := cell_regrown ((BB.cell (p := ⟨b, off + 3, none⟩) hbl).trans d3)
    have HXY : Hid (∀ W, Below w1.heap.size w1 W → Calls Tryz.prog 61 #[.string ⟨#[111, 107]⟩, .slice A vs.length c, .agg #[.int .i64 z0, .string z1, .slice z2 z3 z4, .slice z5 z6 z7]] W fun e w' => e = .returned (.string ⟨(namedT ⟨#[111, 107]⟩ (vs.map fun v => vtx v x)).toArray⟩) ∧ Below W.heap.size W w') :=
      Lib.hid (fun W h => l04Named_s ⟨#[111, 107]⟩ vs x (fun v hv => ih v hv x (hsk x (List.mem_of_getElem? hx)) (hfv v hv)) (by decide) (fun v hv => by
        have h1 := vtx_len v x (hsk x (List.mem_of_getElem? hx)) (hfv v hv)
        have h2 := nodes_memT hv
        rw [vtT_size]; omega) A c [.int .i64 z0, .string z1, .slice z2 z3 z4, .slice z5 z6 z7] W ((hvs.below BB).below h) ((hat.below BB).below h))
    obtain ⟨Q, hQ⟩ : ∃ Q : ByteArray, (⟨(namedT ⟨#[111, 107]⟩ (vs.map fun v => vtx v x)).toArray⟩ : ByteArray) = Q := ⟨_, rfl⟩
    rw [hQ] at HE
    simp only [hQ] at HXY
    clear hQ hfv hat hcase
    have i1 : (0 : Int) < (kids.length : Int) := by omega
    have bW : Box w1 w0.heap.size 9 [.string ⟨#[111, 107]⟩, .string ⟨#[101, 114, 114]⟩] := by rw [hw1]; exact Box.new w0 _ _
    have HB1 := Lib.hid BB
    have bA1 := bA.call B1
    have bB1 := bB.call B1
    have r0 := cell_regrown (show w1.cell? ⟨w.heap.size, 0, none⟩ = some (.int .i64 14) from bA1.cell 0)
    have r1 := cell_regrown (show w1.cell? ⟨w.heap.size, 1, none⟩ = some (.int .i64 0) from bA1.cell 1)
    have r2 := cell_regrown (show w1.cell? ⟨w.heap.size, 2, none⟩ = some (.string s) from bA1.cell 2)
    have r3 := cell_regrown (show w1.cell? ⟨w.heap.size, 3, none⟩ = some (.slice A vs.length c) from bA1.cell 3)
    have x0 := cell_regrown (show w1.cell? ⟨w.heap.size + 1, 0, none⟩ = some (.int .i64 14) from bB1.cell 0)
    have x1 := cell_regrown (show w1.cell? ⟨w.heap.size + 1, 1, none⟩ = some (.string n) from bB1.cell 1)
    have x2 := cell_regrown (show w1.cell? ⟨w.heap.size + 1, 2, none⟩ = some (.slice A1 l.length c1) from bB1.cell 2)
    have x3 := cell_regrown (show w1.cell? ⟨w.heap.size + 1, 3, none⟩ = some (.slice (some ⟨b, off, none⟩) kids.length c2) from bB1.cell 3)
    have t0 := cell_regrown (show w1.cell? ⟨w0.heap.size, 0, none⟩ = some (.string ⟨#[111, 107]⟩) from bW.cell 0)
    clear hCw hcs hcs' hm hss hvs hnz hl hkids hnf htx hts hmem hlen h16 hfits hlab hlab2 hallts hjl hjl2 hsh hsk ih B0 bA bB hvt hnd hkl hk2 hx bA1 bB1 bW B1 BB
    go_enter Tryz.func44, Tryz.ntmps44
    go_upto_region 1 with fail
    rw [← hw0]
    clear hw0
    go_upto_region 21 with fail
    rw [← hw1]
    clear hw1 kA kB
    refine wp_region_quiet_below (by kernel_rfl) (by kernel_rfl) ?_
    repeat (first | go_big_quiet_step (with_reducible exact Calls.regrown_of (HXY.out _ (below_regrown _ _ _))) | quiet_step (with_reducible exact Calls.regrown_of (HXY.out _ (below_regrown _ _ _))))
    refine wpQuiet_nil ?_
    intro w6 hw6
    have HB6 := Lib.hid (HB1.out.trans ((below_of_regrown hw6).mono HB1.out.size))
    clear hw6
    clear d0 d1 d2 d3 r0 r1 r2 r3 x0 x1 x2 x3 t0
    go_wp2
    go_ret
    exact ⟨ret_eq (by rw [HE.out]; try rfl), HB6.out⟩
  · obtain ⟨x, hx⟩ : ∃ x, kids[1]? = some x := ⟨kids[1], List.getElem?_eq_getElem (by omega)⟩
    have hcase : ts = [] ∧ vs = [] ∨ ts = [x] ∧ vs.length = 1 := by
      have h := hts
      rw [kts_case (.inl rfl) (by decide) hx] at h
      have h := Option.some.inj h
      by_cases hu : isU x = true
      · rw [if_pos hu] at h
        subst h
        exact .inl ⟨rfl, List.eq_nil_of_length_eq_zero hlen.symm⟩
      · rw [if_neg hu] at h
        subst h
        exact .inr ⟨rfl, hlen.symm⟩
    have hfv : ∀ v ∈ vs, fitV v x = true := by
      rcases hcase with ⟨-, h⟩ | ⟨h1, h2⟩
      · rw [h]; intro v hv; cases hv
      · rw [h1] at hfits
        match vs, h2 with
        | [v0], _ =>
          intro v hv
          rw [List.mem_singleton.1 hv]
          rw [fitVs_cons, Bool.and_eq_true] at hfits
          exact hfits.1
    have HE := Lib.hid (show R = ⟨(namedT ⟨#[101, 114, 114]⟩ (vs.map fun v => vtx v x)).toArray⟩ from ba_of (by rw [hvt]; unfold vtM; rw [if_neg (by decide), if_neg (by decide), if_neg (by decide), if_neg (by decide), if_neg (by decide), if_neg (by decide), if_neg (by decide), if_neg (by decide), if_pos (by decide)]; exact namedT_one rfl hcase))
    obtain ⟨b, off, u0, u1, u2, u3, e, -, hbl, hat, d0, d1, d2, d3⟩ := rows_at4 Ty.len hkids (i := 1) (x := x) hx
    subst e
    obtain ⟨z0, z1, z2, z3, z4, z5, z6, z7, exx⟩ := Ty.form hat
    simp only [List.cons.injEq, and_true] at exx
    obtain ⟨rfl, rfl, rfl, rfl⟩ := exx
    obtain ⟨w1, hw1⟩ : ∃ w1, w1 = w0.alloc (.cells #[.string ⟨#[111, 107]⟩, .string ⟨#[101, 114, 114]⟩] 9) := ⟨_, rfl⟩
    have B1 : Below w0.heap.size w0 w1 := by rw [hw1]; exact (Below.refl _ _).alloc (Nat.le_refl _) _
    have BB := B0.trans (B1.mono B0.size)
    simp only [Nat.one_mul] at d0 d1 d2 d3
    replace d0 := cell_regrown ((BB.cell (p := ⟨b, off + 4, none⟩) hbl).trans d0)
    replace d1 := cell_regrown ((BB.cell (p := ⟨b, off + 4 + 1, none⟩) hbl).trans d1)
    replace d2 := cell_regrown ((BB.cell (p := ⟨b, off + 4 + 2, none⟩) hbl).trans d2)
    replace d3 := cell_regrown ((BB.cell (p := ⟨b, off + 4 + 3, none⟩) hbl).trans d3)
    have HXY : Hid (∀ W, Below w1.heap.size w1 W → Calls Tryz.prog 61 #[.string ⟨#[101, 114, 114]⟩, .slice A vs.length c, .agg #[.int .i64 z0, .string z1, .slice z2 z3 z4, .slice z5 z6 z7]] W fun e w' => e = .returned (.string ⟨(namedT ⟨#[101, 114, 114]⟩ (vs.map fun v => vtx v x)).toArray⟩) ∧ Below W.heap.size W w') :=
      Lib.hid (fun W h => l04Named_s ⟨#[101, 114, 114]⟩ vs x (fun v hv => ih v hv x (hsk x (List.mem_of_getElem? hx)) (hfv v hv)) (by decide) (fun v hv => by
        have h1 := vtx_len v x (hsk x (List.mem_of_getElem? hx)) (hfv v hv)
        have h2 := nodes_memT hv
        rw [vtT_size]; omega) A c [.int .i64 z0, .string z1, .slice z2 z3 z4, .slice z5 z6 z7] W ((hvs.below BB).below h) ((hat.below BB).below h))
    obtain ⟨Q, hQ⟩ : ∃ Q : ByteArray, (⟨(namedT ⟨#[101, 114, 114]⟩ (vs.map fun v => vtx v x)).toArray⟩ : ByteArray) = Q := ⟨_, rfl⟩
    rw [hQ] at HE
    simp only [hQ] at HXY
    clear hQ hfv hat hcase
    have i1 : (1 : Int) < (kids.length : Int) := by omega
    have bW : Box w1 w0.heap.size 9 [.string ⟨#[111, 107]⟩, .string ⟨#[101, 114, 114]⟩] := by rw [hw1]; exact Box.new w0 _ _
    have HB1 := Lib.hid BB
    have bA1 := bA.call B1
    have bB1 := bB.call B1
    have r0 := cell_regrown (show w1.cell? ⟨w.heap.size, 0, none⟩ = some (.int .i64 14) from bA1.cell 0)
    have r1 := cell_regrown (show w1.cell? ⟨w.heap.size, 1, none⟩ = some (.int .i64 1) from bA1.cell 1)
    have r2 := cell_regrown (show w1.cell? ⟨w.heap.size, 2, none⟩ = some (.string s) from bA1.cell 2)
    have r3 := cell_regrown (show w1.cell? ⟨w.heap.size, 3, none⟩ = some (.slice A vs.length c) from bA1.cell 3)
    have x0 := cell_regrown (show w1.cell? ⟨w.heap.size + 1, 0, none⟩ = some (.int .i64 14) from bB1.cell 0)
    have x1 := cell_regrown (show w1.cell? ⟨w.heap.size + 1, 1, none⟩ = some (.string n) from bB1.cell 1)
    have x2 := cell_regrown (show w1.cell? ⟨w.heap.size + 1, 2, none⟩ = some (.slice A1 l.length c1) from bB1.cell 2)
    have x3 := cell_regrown (show w1.cell? ⟨w.heap.size + 1, 3, none⟩ = some (.slice (some ⟨b, off, none⟩) kids.length c2) from bB1.cell 3)
    have t0 := cell_regrown (show w1.cell? ⟨w0.heap.size, 1, none⟩ = some (.string ⟨#[101, 114, 114]⟩) from bW.cell 1)
    clear hCw hcs hcs' hm hss hvs hnz hl hkids hnf htx hts hmem hlen h16 hfits hlab hlab2 hallts hjl hjl2 hsh hsk ih B0 bA bB hvt hnd hkl hk2 hx bA1 bB1 bW B1 BB
    go_enter Tryz.func44, Tryz.ntmps44
    go_upto_region 1 with fail
    rw [← hw0]
    clear hw0
    go_upto_region 21 with fail
    rw [← hw1]
    clear hw1 kA kB
    refine wp_region_quiet_below (by kernel_rfl) (by kernel_rfl) ?_
    repeat (first | go_big_quiet_step (with_reducible exact Calls.regrown_of (HXY.out _ (below_regrown _ _ _))) | quiet_step (with_reducible exact Calls.regrown_of (HXY.out _ (below_regrown _ _ _))))
    refine wpQuiet_nil ?_
    intro w6 hw6
    have HB6 := Lib.hid (HB1.out.trans ((below_of_regrown hw6).mono HB1.out.size))
    clear hw6
    clear d0 d1 d2 d3 r0 r1 r2 r3 x0 x1 x2 x3 t0
    go_wp2
    go_ret
    exact ⟨ret_eq (by rw [HE.out]; try rfl), HB6.out⟩
set_option maxHeartbeats 4000000 in
set_option maxRecDepth 20000 in
theorem lt_17 (m : Int) (s : ByteArray) (vs : List Va) (n : ByteArray) (l : List ByteArray) (kids : List Ty) (hsh : shape (.mk 17 n l kids) = true) (hsk : ∀ x ∈ kids, Ty.all shape x = true) (hfit : fitV (.mk 17 m s vs) (.mk 17 n l kids) = true) (hnd : Va.nodess vs ≤ 2000000) (ih : IhT 44 anyW vs) : TxAt 44 anyW (.mk 17 m s vs) (.mk 17 n l kids) := by
  intro cs cs' w hCw hcs hcs'
  obtain ⟨A, c, rfl, -, hm, hss, hvs⟩ := Va.open_ hcs
  obtain ⟨A1, c1, A2, c2, rfl, -, hnz, hl, hkids⟩ := Ty.open_ hcs'
  obtain ⟨-, hvn, hvc⟩ := rows_bound hvs
  obtain ⟨-, hln, hlc⟩ := rows_bound hl
  obtain ⟨-, hkn, hkc⟩ := rows_bound hkids
  unfold maxLen at hvc hlc hkc
  obtain ⟨-, hnf, htx, ts, hts, hmem, hlen, h16, hfits⟩ := fit_open hsh hfit
  obtain ⟨hlab, hlab2⟩ := shape_labels hsh
  have hallts : ∀ y ∈ ts, Ty.all shape y = true := fun y hy => hsk y (hmem y hy)
  obtain ⟨hjl, hjl2⟩ := vts_len hallts hfits hlen h16 hnd
  have hvt : (vtT (.mk 17 m s vs) (.mk 17 n l kids)).data.toList = vtM 17 l m s (vtxs vs ts) := by rw [vtT_list, vtx_mk hts]
  obtain ⟨R, hR⟩ : ∃ R, vtT (.mk 17 m s vs) (.mk 17 n l kids) = R := ⟨_, rfl⟩
  rw [hR] at hvt ⊢
  clear hR hfit
  obtain ⟨w0, hw0, B0, bA, bB⟩ := blocks2 w 34 40 [.int .i64 17, .int .i64 m, .string s, .slice A vs.length c] [.int .i64 17, .string n, .slice A1 l.length c1, .slice A2 kids.length c2]
  change Calls Tryz.prog 44 #[.agg #[.int .i64 17, .int .i64 m, .string s, .slice A vs.length c], .agg #[.int .i64 17, .string n, .slice A1 l.length c1, .slice A2 kids.length c2]] w _
  have HB0 := Lib.hid B0
  have kA := bA.cell
  have kB := bB.cell
  obtain ⟨hm0, x, hx⟩ := case_at hsh (.inr rfl) hnf
  obtain ⟨j, rfl⟩ : ∃ j : Nat, m = (j : Int) := ⟨m.toNat, by omega⟩
  rw [Int.toNat_natCast] at hx
  have hkl := fit_case_len hsh (.inr rfl)
  have hjk : j < kids.length := (List.getElem?_eq_some_iff.1 hx).1
  obtain ⟨a, ha⟩ : ∃ a, l[j]? = some a := ⟨l[j]'(by have := hkl.2.2.2 rfl; omega), List.getElem?_eq_getElem _⟩
  have hjl3 : j < l.length := (List.getElem?_eq_some_iff.1 ha).1
  have i0 : (0 : Int) ≤ (j : Int) := by omega
  have i1 : (j : Int) < (kids.length : Int) := by omega
  have i2 : (j : Int) < (l.length : Int) := by omega
  obtain ⟨b3, off3, e3, hbl3, l3⟩ := strs_cell hl ha
  subst e3
  have hasz := (hlab a (List.mem_of_getElem? ha)).2
  have hcw : caseW 17 l (j : Int) = a := by unfold caseW; rw [if_neg (by decide), if_neg (by decide), Int.toNat_natCast, ha]; rfl
  have hcase : ts = [] ∧ vs = [] ∨ ts = [x] ∧ vs.length = 1 := by
    have h := hts
    rw [kts_case (.inr rfl) (by omega) (by rw [Int.toNat_natCast]; exact hx)] at h
    have h := Option.some.inj h
    by_cases hu : isU x = true
    · rw [if_pos hu] at h
      subst h
      exact .inl ⟨rfl, List.eq_nil_of_length_eq_zero hlen.symm⟩
    · rw [if_neg hu] at h
      subst h
      exact .inr ⟨rfl, hlen.symm⟩
  have hfv : ∀ v ∈ vs, fitV v x = true := by
    rcases hcase with ⟨-, h⟩ | ⟨h1, h2⟩
    · rw [h]; intro v hv; cases hv
    · rw [h1] at hfits
      match vs, h2 with
      | [v0], _ =>
        intro v hv
        rw [List.mem_singleton.1 hv]
        rw [fitVs_cons, Bool.and_eq_true] at hfits
        exact hfits.1
  have HE := Lib.hid (show R = ⟨(namedT a (vs.map fun v => vtx v x)).toArray⟩ from ba_of (by rw [hvt]; unfold vtM; rw [if_neg (by decide), if_neg (by decide), if_neg (by decide), if_neg (by decide), if_neg (by decide), if_neg (by decide), if_neg (by decide), if_neg (by decide), if_pos (by decide)]; exact namedT_one hcw hcase))
  obtain ⟨b, off, u0, u1, u2, u3, e, -, hbl, hat, d0, d1, d2, d3⟩ := rows_at4 Ty.len hkids (i := j) (x := x) hx
  subst e
  obtain ⟨z0, z1, z2, z3, z4, z5, z6, z7, exx⟩ := Ty.form hat
  simp only [List.cons.injEq, and_true] at exx
  obtain ⟨rfl, rfl, rfl, rfl⟩ := exx
  replace d0 := cell_regrown ((B0.cell (p := ⟨b, off + j * 4, none⟩) hbl).trans d0)
  replace d1 := cell_regrown ((B0.cell (p := ⟨b, off + j * 4 + 1, none⟩) hbl).trans d1)
  replace d2 := cell_regrown ((B0.cell (p := ⟨b, off + j * 4 + 2, none⟩) hbl).trans d2)
  replace d3 := cell_regrown ((B0.cell (p := ⟨b, off + j * 4 + 3, none⟩) hbl).trans d3)
  replace l3 := cell_regrown ((B0.cell (p := ⟨b3, off3 + j, none⟩) hbl3).trans l3)
  have HXY : Hid (∀ W, Below w0.heap.size w0 W → Calls Tryz.prog 61 #[.string a, .slice A vs.length c, .agg #[.int .i64 z0, .string z1, .slice z2 z3 z4, .slice z5 z6 z7]] W fun e w' => e = .returned (.string ⟨(namedT a (vs.map fun v => vtx v x)).toArray⟩) ∧ Below W.heap.size W w') :=
    Lib.hid (fun W h => l04Named_s a vs x (fun v hv => ih v hv x (hsk x (List.mem_of_getElem? hx)) (hfv v hv)) hasz (fun v hv => by
      have h1 := vtx_len v x (hsk x (List.mem_of_getElem? hx)) (hfv v hv)
      have h2 := nodes_memT hv
      rw [vtT_size]; omega) A c [.int .i64 z0, .string z1, .slice z2 z3 z4, .slice z5 z6 z7] W ((hvs.below B0).below h) ((hat.below B0).below h))
  obtain ⟨Q, hQ⟩ : ∃ Q : ByteArray, (⟨(namedT a (vs.map fun v => vtx v x)).toArray⟩ : ByteArray) = Q := ⟨_, rfl⟩
  rw [hQ] at HE
  simp only [hQ] at HXY
  clear hQ hfv hat hcase
  have r0 := cell_regrown (show w0.cell? ⟨w.heap.size, 0, none⟩ = some (.int .i64 17) from bA.cell 0)
  have r1 := cell_regrown (show w0.cell? ⟨w.heap.size, 1, none⟩ = some (.int .i64 (j : Int)) from bA.cell 1)
  have r2 := cell_regrown (show w0.cell? ⟨w.heap.size, 2, none⟩ = some (.string s) from bA.cell 2)
  have r3 := cell_regrown (show w0.cell? ⟨w.heap.size, 3, none⟩ = some (.slice A vs.length c) from bA.cell 3)
  have x0 := cell_regrown (show w0.cell? ⟨w.heap.size + 1, 0, none⟩ = some (.int .i64 17) from bB.cell 0)
  have x1 := cell_regrown (show w0.cell? ⟨w.heap.size + 1, 1, none⟩ = some (.string n) from bB.cell 1)
  have x2 := cell_regrown (show w0.cell? ⟨w.heap.size + 1, 2, none⟩ = some (.slice (some ⟨b3, off3, none⟩) l.length c1) from bB.cell 2)
  have x3 := cell_regrown (show w0.cell? ⟨w.heap.size + 1, 3, none⟩ = some (.slice (some ⟨b, off, none⟩) kids.length c2) from bB.cell 3)
  clear hCw hcs hcs' hm hss hvs hnz hl hkids hnf htx hts hmem hlen h16 hfits hlab hlab2 hallts hjl hjl2 hsh hsk ih B0 bA bB hvt hnd hkl hx ha hcw hasz hm0 hbl3
  go_enter Tryz.func44, Tryz.ntmps44
  go_upto_region 1 with fail
  rw [← hw0]
  clear hw0
  go_upto_region 27 with fail
  clear kA kB
  refine wp_region_quiet_below (by kernel_rfl) (by kernel_rfl) ?_
  repeat (first | go_big_quiet_step (with_reducible exact Calls.regrown_of (HXY.out _ (below_regrown _ _ _))) | quiet_step (with_reducible exact Calls.regrown_of (HXY.out _ (below_regrown _ _ _))))
  refine wpQuiet_nil ?_
  intro w6 hw6
  have HB6 := Lib.hid (HB0.out.trans ((below_of_regrown hw6).mono HB0.out.size))
  clear hw6
  clear d0 d1 d2 d3 r0 r1 r2 r3 x0 x1 x2 x3 l3
  go_wp2
  go_ret
  exact ⟨ret_eq (by rw [HE.out]; try rfl), HB6.out⟩
set_option maxHeartbeats 4000000 in
set_option maxRecDepth 20000 in
theorem lt_15 (m : Int) (s : ByteArray) (vs : List Va) (n : ByteArray) (l : List ByteArray) (kids : List Ty) (hsh : shape (.mk 15 n l kids) = true) (hsk : ∀ x ∈ kids, Ty.all shape x = true) (hfit : fitV (.mk 15 m s vs) (.mk 15 n l kids) = true) (hnd : Va.nodess vs ≤ 2000000) (ih : IhT 44 anyW vs) : TxAt 44 anyW (.mk 15 m s vs) (.mk 15 n l kids) := by
  intro cs cs' w hCw hcs hcs'
  obtain ⟨A, c, rfl, -, hm, hss, hvs⟩ := Va.open_ hcs
  obtain ⟨A1, c1, A2, c2, rfl, -, hnz, hl, hkids⟩ := Ty.open_ hcs'
  obtain ⟨-, hvn, hvc⟩ := rows_bound hvs
  obtain ⟨-, hln, hlc⟩ := rows_bound hl
  obtain ⟨-, hkn, hkc⟩ := rows_bound hkids
  unfold maxLen at hvc hlc hkc
  obtain ⟨-, hnf, htx, ts, hts, hmem, hlen, h16, hfits⟩ := fit_open hsh hfit
  obtain ⟨hlab, hlab2⟩ := shape_labels hsh
  have hallts : ∀ y ∈ ts, Ty.all shape y = true := fun y hy => hsk y (hmem y hy)
  obtain ⟨hjl, hjl2⟩ := vts_len hallts hfits hlen h16 hnd
  have hvt : (vtT (.mk 15 m s vs) (.mk 15 n l kids)).data.toList = vtM 15 l m s (vtxs vs ts) := by rw [vtT_list, vtx_mk hts]
  obtain ⟨R, hR⟩ : ∃ R, vtT (.mk 15 m s vs) (.mk 15 n l kids) = R := ⟨_, rfl⟩
  rw [hR] at hvt ⊢
  clear hR hfit
  obtain ⟨w0, hw0, B0, bA, bB⟩ := blocks2 w 34 40 [.int .i64 15, .int .i64 m, .string s, .slice A vs.length c] [.int .i64 15, .string n, .slice A1 l.length c1, .slice A2 kids.length c2]
  change Calls Tryz.prog 44 #[.agg #[.int .i64 15, .int .i64 m, .string s, .slice A vs.length c], .agg #[.int .i64 15, .string n, .slice A1 l.length c1, .slice A2 kids.length c2]] w _
  have HB0 := Lib.hid B0
  have kA := bA.cell
  have kB := bB.cell
  obtain rfl : ts = kids := by have := hts; rw [kts_all (.inl rfl)] at this; exact (Option.some.inj this).symm
  have HK : Hid (Calls Tryz.prog 62 #[.slice A vs.length c, .slice A2 ts.length c2, .slice none 0 0] w0 fun e w' => e = .returned (.string ⟨(Lib.join (labC [] (vtxs vs ts)) [44, 32]).toArray⟩) ∧ Below w0.heap.size w0 w') :=
    Lib.hid (l04Kids_s vs ts [] hlen (.inl rfl) (by simp) (fun i x y hx hy => ih x (List.mem_of_getElem? hx) y (hsk y (List.mem_of_getElem? hy)) (fitVs_at hfits hx hy)) (by have := hjl2 [] (by simp); omega) A A2 none c c2 0 w0 (hvs.below B0) (hkids.below B0) (show D.At _ _ (strs []) _ from at_nil (Nat.zero_le _)))
  rw [labC_nil] at HK
  have hjs : (Lib.join (vtxs vs ts) [44, 32]).length ≤ 1000001000 := by omega
  obtain ⟨J, hJ⟩ : ∃ J : ByteArray, (⟨(Lib.join (vtxs vs ts) [44, 32]).toArray⟩ : ByteArray) = J := ⟨_, rfl⟩
  have hJs : J.size ≤ 1000001000 := by rw [← hJ]; simpa [ByteArray.size] using hjs
  have HE := Lib.hid (show R.data.toList = 40 :: (J.data.toList ++ [41]) by rw [hvt, ← hJ]; unfold vtM; rw [if_neg (by decide), if_neg (by decide), if_neg (by decide), if_neg (by decide), if_neg (by decide), if_pos (by decide)])
  rw [hJ] at HK
  clear hJ hjs
  clear hCw hcs hcs' hm hss hvs hnz hl hkids hnf htx hts hmem hlen h16 hfits hlab hlab2 hallts hjl hjl2 hsh hsk ih B0 bA bB hvt hnd
  go_enter Tryz.func44, Tryz.ntmps44
  go_upto_region 1 with fail
  rw [← hw0]
  clear hw0
  go_wp2_with fail
  refine HK.out.mono ?_
  rintro e w1 ⟨rfl, hb1⟩
  have HB1 := Lib.hid (HB0.out.trans (hb1.mono HB0.out.size))
  clear hb1 kA kB
  go_wp2
  go_ret
  exact ⟨ret_eq (congrArg Value.string (by rw [ba_of HE.out]; exact ByteArray.ext (Array.toList_inj.1 (by simp)))), HB1.out⟩
set_option maxHeartbeats 4000000 in
set_option maxRecDepth 20000 in
theorem lt_16 (m : Int) (s : ByteArray) (vs : List Va) (n : ByteArray) (l : List ByteArray) (kids : List Ty) (hsh : shape (.mk 16 n l kids) = true) (hsk : ∀ x ∈ kids, Ty.all shape x = true) (hfit : fitV (.mk 16 m s vs) (.mk 16 n l kids) = true) (hnd : Va.nodess vs ≤ 2000000) (ih : IhT 44 anyW vs) : TxAt 44 anyW (.mk 16 m s vs) (.mk 16 n l kids) := by
  intro cs cs' w hCw hcs hcs'
  obtain ⟨A, c, rfl, -, hm, hss, hvs⟩ := Va.open_ hcs
  obtain ⟨A1, c1, A2, c2, rfl, -, hnz, hl, hkids⟩ := Ty.open_ hcs'
  obtain ⟨-, hvn, hvc⟩ := rows_bound hvs
  obtain ⟨-, hln, hlc⟩ := rows_bound hl
  obtain ⟨-, hkn, hkc⟩ := rows_bound hkids
  unfold maxLen at hvc hlc hkc
  obtain ⟨-, hnf, htx, ts, hts, hmem, hlen, h16, hfits⟩ := fit_open hsh hfit
  obtain ⟨hlab, hlab2⟩ := shape_labels hsh
  have hallts : ∀ y ∈ ts, Ty.all shape y = true := fun y hy => hsk y (hmem y hy)
  obtain ⟨hjl, hjl2⟩ := vts_len hallts hfits hlen h16 hnd
  have hvt : (vtT (.mk 16 m s vs) (.mk 16 n l kids)).data.toList = vtM 16 l m s (vtxs vs ts) := by rw [vtT_list, vtx_mk hts]
  obtain ⟨R, hR⟩ : ∃ R, vtT (.mk 16 m s vs) (.mk 16 n l kids) = R := ⟨_, rfl⟩
  rw [hR] at hvt ⊢
  clear hR hfit
  obtain ⟨w0, hw0, B0, bA, bB⟩ := blocks2 w 34 40 [.int .i64 16, .int .i64 m, .string s, .slice A vs.length c] [.int .i64 16, .string n, .slice A1 l.length c1, .slice A2 kids.length c2]
  change Calls Tryz.prog 44 #[.agg #[.int .i64 16, .int .i64 m, .string s, .slice A vs.length c], .agg #[.int .i64 16, .string n, .slice A1 l.length c1, .slice A2 kids.length c2]] w _
  have HB0 := Lib.hid B0
  have kA := bA.cell
  have kB := bB.cell
  obtain rfl : ts = kids := by have := hts; rw [kts_all (.inr rfl)] at this; exact (Option.some.inj this).symm
  have hlab16 : l.length = ts.length := by
    obtain ⟨h1, -⟩ := shape_fit hsh
    rw [kf5 rfl] at h1
    simp only [Bool.and_eq_true, beq_iff_eq] at h1
    omega
  have HK : Hid (Calls Tryz.prog 62 #[.slice A vs.length c, .slice A2 ts.length c2, .slice A1 l.length c1] w0 fun e w' => e = .returned (.string ⟨(Lib.join (labC l (vtxs vs ts)) [44, 32]).toArray⟩) ∧ Below w0.heap.size w0 w') :=
    Lib.hid (l04Kids_s vs ts l hlen (.inr (by omega)) (fun a ha => (hlab a ha).2) (fun i x y hx hy => ih x (List.mem_of_getElem? hx) y (hsk y (List.mem_of_getElem? hy)) (fitVs_at hfits hx hy)) (by have := hjl2 l (fun a ha => (hlab a ha).2); omega) A A2 A1 c c2 c1 w0 (hvs.below B0) (hkids.below B0) (hl.below B0))
  have hjs : (Lib.join (labC l (vtxs vs ts)) [44, 32]).length ≤ 1000001000 := by exact hjl2 l (fun a ha => (hlab a ha).2)
  obtain ⟨J, hJ⟩ : ∃ J : ByteArray, (⟨(Lib.join (labC l (vtxs vs ts)) [44, 32]).toArray⟩ : ByteArray) = J := ⟨_, rfl⟩
  have hJs : J.size ≤ 1000001000 := by rw [← hJ]; simpa [ByteArray.size] using hjs
  have HE := Lib.hid (show R.data.toList = 123 :: (J.data.toList ++ [125]) by rw [hvt, ← hJ]; unfold vtM; rw [if_neg (by decide), if_neg (by decide), if_neg (by decide), if_neg (by decide), if_neg (by decide), if_neg (by decide), if_pos (by decide)])
  rw [hJ] at HK
  clear hJ hjs hlab16
  clear hCw hcs hcs' hm hss hvs hnz hl hkids hnf htx hts hmem hlen h16 hfits hlab hlab2 hallts hjl hjl2 hsh hsk ih B0 bA bB hvt hnd
  go_enter Tryz.func44, Tryz.ntmps44
  go_upto_region 1 with fail
  rw [← hw0]
  clear hw0
  go_wp2_with fail
  refine HK.out.mono ?_
  rintro e w1 ⟨rfl, hb1⟩
  have HB1 := Lib.hid (HB0.out.trans (hb1.mono HB0.out.size))
  clear hb1 kA kB
  go_wp2
  go_ret
  exact ⟨ret_eq (congrArg Value.string (by rw [ba_of HE.out]; exact ByteArray.ext (Array.toList_inj.1 (by simp)))), HB1.out⟩
set_option maxHeartbeats 4000000 in
set_option maxRecDepth 20000 in
theorem lt_18 (m : Int) (s : ByteArray) (vs : List Va) (n : ByteArray) (l : List ByteArray) (kids : List Ty) (hsh : shape (.mk 18 n l kids) = true) (hsk : ∀ x ∈ kids, Ty.all shape x = true) (hfit : fitV (.mk 18 m s vs) (.mk 18 n l kids) = true) (hnd : Va.nodess vs ≤ 2000000) (_ih : IhT 44 anyW vs) : TxAt 44 anyW (.mk 18 m s vs) (.mk 18 n l kids) := by
  intro cs cs' w hCw hcs hcs'
  obtain ⟨A, c, rfl, -, hm, hss, hvs⟩ := Va.open_ hcs
  obtain ⟨A1, c1, A2, c2, rfl, -, hnz, hl, hkids⟩ := Ty.open_ hcs'
  obtain ⟨-, hvn, hvc⟩ := rows_bound hvs
  obtain ⟨-, hln, hlc⟩ := rows_bound hl
  obtain ⟨-, hkn, hkc⟩ := rows_bound hkids
  unfold maxLen at hvc hlc hkc
  obtain ⟨-, hnf, htx, ts, hts, hmem, hlen, h16, hfits⟩ := fit_open hsh hfit
  obtain ⟨hlab, hlab2⟩ := shape_labels hsh
  have hallts : ∀ y ∈ ts, Ty.all shape y = true := fun y hy => hsk y (hmem y hy)
  obtain ⟨hjl, hjl2⟩ := vts_len hallts hfits hlen h16 hnd
  have hvt : (vtT (.mk 18 m s vs) (.mk 18 n l kids)).data.toList = vtM 18 l m s (vtxs vs ts) := by rw [vtT_list, vtx_mk hts]
  obtain ⟨R, hR⟩ : ∃ R, vtT (.mk 18 m s vs) (.mk 18 n l kids) = R := ⟨_, rfl⟩
  rw [hR] at hvt ⊢
  clear hR hfit
  obtain ⟨w0, hw0, B0, bA, bB⟩ := blocks2 w 34 40 [.int .i64 18, .int .i64 m, .string s, .slice A vs.length c] [.int .i64 18, .string n, .slice A1 l.length c1, .slice A2 kids.length c2]
  change Calls Tryz.prog 44 #[.agg #[.int .i64 18, .int .i64 m, .string s, .slice A vs.length c], .agg #[.int .i64 18, .string n, .slice A1 l.length c1, .slice A2 kids.length c2]] w _
  have HB0 := Lib.hid B0
  have kA := bA.cell
  have kB := bB.cell
  have hmm := num_17 (.inr rfl) hnf
  obtain ⟨j, rfl⟩ : ∃ j : Nat, m = (j : Int) := ⟨m.toNat, by omega⟩
  have hjl3 : j < l.length := by omega
  obtain ⟨a, ha⟩ : ∃ a, l[j]? = some a := ⟨l[j], List.getElem?_eq_getElem hjl3⟩
  have i0 : (0 : Int) ≤ (j : Int) := by omega
  have i2 : (j : Int) < (l.length : Int) := by omega
  obtain ⟨b3, off3, e3, hbl3, l3⟩ := strs_cell hl ha
  subst e3
  replace l3 := (B0.cell (p := ⟨b3, off3 + j, none⟩) hbl3).trans l3
  have HE := Lib.hid (show R = a from ByteArray.ext (Array.toList_inj.1 (by rw [hvt]; unfold vtM; rw [if_neg (by decide), if_neg (by decide), if_neg (by decide), if_neg (by decide), if_neg (by decide), if_neg (by decide), if_neg (by decide), if_neg (by decide), if_neg (by decide), if_pos (by decide), Int.toNat_natCast, ha]; rfl)))
  clear hmm ha hbl3
  clear hCw hcs hcs' hm hss hvs hnz hl hkids hnf htx hts hmem hlen h16 hfits hlab hlab2 hallts hjl hjl2 hsh hsk _ih B0 bA bB hvt hnd
  go_enter Tryz.func44, Tryz.ntmps44
  go_upto_region 1 with fail
  rw [← hw0]
  clear hw0
  go_wp2
  go_ret
  exact ⟨ret_eq (by rw [HE.out]; try rfl), HB0.out⟩
set_option maxHeartbeats 4000000 in
set_option maxRecDepth 20000 in
theorem lt_19 (m : Int) (s : ByteArray) (vs : List Va) (n : ByteArray) (l : List ByteArray) (kids : List Ty) (hsh : shape (.mk 19 n l kids) = true) (hsk : ∀ x ∈ kids, Ty.all shape x = true) (hfit : fitV (.mk 19 m s vs) (.mk 19 n l kids) = true) (hnd : Va.nodess vs ≤ 2000000) (_ih : IhT 44 anyW vs) : TxAt 44 anyW (.mk 19 m s vs) (.mk 19 n l kids) := by
  intro cs cs' w hCw hcs hcs'
  obtain ⟨A, c, rfl, -, hm, hss, hvs⟩ := Va.open_ hcs
  obtain ⟨A1, c1, A2, c2, rfl, -, hnz, hl, hkids⟩ := Ty.open_ hcs'
  obtain ⟨-, hvn, hvc⟩ := rows_bound hvs
  obtain ⟨-, hln, hlc⟩ := rows_bound hl
  obtain ⟨-, hkn, hkc⟩ := rows_bound hkids
  unfold maxLen at hvc hlc hkc
  obtain ⟨-, hnf, htx, ts, hts, hmem, hlen, h16, hfits⟩ := fit_open hsh hfit
  obtain ⟨hlab, hlab2⟩ := shape_labels hsh
  have hallts : ∀ y ∈ ts, Ty.all shape y = true := fun y hy => hsk y (hmem y hy)
  obtain ⟨hjl, hjl2⟩ := vts_len hallts hfits hlen h16 hnd
  have hvt : (vtT (.mk 19 m s vs) (.mk 19 n l kids)).data.toList = vtM 19 l m s (vtxs vs ts) := by rw [vtT_list, vtx_mk hts]
  obtain ⟨R, hR⟩ : ∃ R, vtT (.mk 19 m s vs) (.mk 19 n l kids) = R := ⟨_, rfl⟩
  rw [hR] at hvt ⊢
  clear hR hfit
  obtain ⟨w0, hw0, B0, bA, bB⟩ := blocks2 w 34 40 [.int .i64 19, .int .i64 m, .string s, .slice A vs.length c] [.int .i64 19, .string n, .slice A1 l.length c1, .slice A2 kids.length c2]
  change Calls Tryz.prog 44 #[.agg #[.int .i64 19, .int .i64 m, .string s, .slice A vs.length c], .agg #[.int .i64 19, .string n, .slice A1 l.length c1, .slice A2 kids.length c2]] w _
  have HB0 := Lib.hid B0
  have kA := bA.cell
  have kB := bB.cell
  have hmm := num_19 hlab2 hnf
  obtain ⟨M, rfl⟩ : ∃ M : Nat, m = (M : Int) := ⟨m.toNat, by omega⟩
  have HK := Lib.hid (l04Flags_s M l (by omega) hlab2 hlab A1 c1 w0 (hl.below B0))
  have HE := Lib.hid (show R = ⟨(123 :: (Lib.join (flg (M : Int) 0 l) [44, 32] ++ [125])).toArray⟩ from ba_of (by rw [hvt]; unfold vtM; rw [if_neg (by decide), if_neg (by decide), if_neg (by decide), if_neg (by decide), if_neg (by decide), if_neg (by decide), if_neg (by decide), if_pos (by decide)]))
  obtain ⟨Q, hQ⟩ : ∃ Q : ByteArray, (⟨(123 :: (Lib.join (flg (M : Int) 0 l) [44, 32] ++ [125])).toArray⟩ : ByteArray) = Q := ⟨_, rfl⟩
  rw [hQ] at HE HK
  clear hmm hQ
  clear hCw hcs hcs' hm hss hvs hnz hl hkids hnf htx hts hmem hlen h16 hfits hlab hlab2 hallts hjl hjl2 hsh hsk _ih B0 bA bB hvt hnd
  go_enter Tryz.func44, Tryz.ntmps44
  go_upto_region 1 with fail
  rw [← hw0]
  clear hw0
  go_wp2_with fail
  refine HK.out.mono ?_
  rintro e w1 ⟨rfl, hb1⟩
  have HB1 := Lib.hid (HB0.out.trans (hb1.mono HB0.out.size))
  clear hb1 kA kB
  go_wp2
  go_ret
  exact ⟨ret_eq (by rw [HE.out]; try rfl), HB1.out⟩
set_option maxHeartbeats 4000000 in
set_option maxRecDepth 20000 in
theorem lt_20 (m : Int) (s : ByteArray) (vs : List Va) (n : ByteArray) (l : List ByteArray) (kids : List Ty) (hsh : shape (.mk 20 n l kids) = true) (hsk : ∀ x ∈ kids, Ty.all shape x = true) (hfit : fitV (.mk 20 m s vs) (.mk 20 n l kids) = true) (hnd : Va.nodess vs ≤ 2000000) (_ih : IhT 44 anyW vs) : TxAt 44 anyW (.mk 20 m s vs) (.mk 20 n l kids) := by
  intro cs cs' w hCw hcs hcs'
  obtain ⟨A, c, rfl, -, hm, hss, hvs⟩ := Va.open_ hcs
  obtain ⟨A1, c1, A2, c2, rfl, -, hnz, hl, hkids⟩ := Ty.open_ hcs'
  obtain ⟨-, hvn, hvc⟩ := rows_bound hvs
  obtain ⟨-, hln, hlc⟩ := rows_bound hl
  obtain ⟨-, hkn, hkc⟩ := rows_bound hkids
  unfold maxLen at hvc hlc hkc
  obtain ⟨-, hnf, htx, ts, hts, hmem, hlen, h16, hfits⟩ := fit_open hsh hfit
  obtain ⟨hlab, hlab2⟩ := shape_labels hsh
  have hallts : ∀ y ∈ ts, Ty.all shape y = true := fun y hy => hsk y (hmem y hy)
  obtain ⟨hjl, hjl2⟩ := vts_len hallts hfits hlen h16 hnd
  have hvt : (vtT (.mk 20 m s vs) (.mk 20 n l kids)).data.toList = vtM 20 l m s (vtxs vs ts) := by rw [vtT_list, vtx_mk hts]
  obtain ⟨R, hR⟩ : ∃ R, vtT (.mk 20 m s vs) (.mk 20 n l kids) = R := ⟨_, rfl⟩
  rw [hR] at hvt ⊢
  clear hR hfit
  obtain ⟨w0, hw0, B0, bA, bB⟩ := blocks2 w 34 40 [.int .i64 20, .int .i64 m, .string s, .slice A vs.length c] [.int .i64 20, .string n, .slice A1 l.length c1, .slice A2 kids.length c2]
  change Calls Tryz.prog 44 #[.agg #[.int .i64 20, .int .i64 m, .string s, .slice A vs.length c], .agg #[.int .i64 20, .string n, .slice A1 l.length c1, .slice A2 kids.length c2]] w _
  have HB0 := Lib.hid B0
  have kA := bA.cell
  have kB := bB.cell
  have hmm := num_20 (k := 20) (by decide) hnf
  obtain ⟨M, rfl⟩ : ∃ M : Nat, m = (M : Int) := ⟨m.toNat, by omega⟩
  have hkz := kword_small (20 : Int)
  have hdz := decT_size M (by omega)
  have HE : Hid (R.data.toList = (kword 20).data.toList ++ 35 :: (decT M).data.toList) := Lib.hid (by rw [hvt]; unfold vtM; rw [if_neg (by decide), if_neg (by decide), if_neg (by decide), if_neg (by decide), if_neg (by decide), if_neg (by decide), if_neg (by decide), if_neg (by decide), if_neg (by decide), if_neg (by decide), if_pos (by decide), Lib.itoa_nonneg, decT_list])
  have HD := Lib.hid (fun W => l02Dec_s M (by omega) W)
  obtain ⟨KW, hKW⟩ : ∃ KW, kword (20 : Int) = KW := ⟨_, rfl⟩
  obtain ⟨DW, hDW⟩ : ∃ DW, decT M = DW := ⟨_, rfl⟩
  have HKW := Lib.hid hKW
  rw [hKW] at HE hkz
  rw [hDW] at HE hdz
  simp only [hDW] at HD
  have bA9 := bA
  have bB9 := bB
  have hq1 : ¬ 9223372036854775807 < KW.size + 1 := by omega
  have hq2 : ¬ 9223372036854775807 < KW.size + 1 + DW.size := by omega
  have hq3 : ¬ 9223372036854775807 < (KW ++ ⟨#[35]⟩).size + DW.size := by rw [ByteArray.size_append]; exact hq2
  clear hmm hKW hDW
  clear hCw hcs hcs' hm hss hvs hnz hl hkids hnf htx hts hmem hlen h16 hfits hlab hlab2 hallts hjl hjl2 hsh hsk _ih B0 bA bB hvt hnd
  go_enter Tryz.func44, Tryz.ntmps44
  go_upto_region 1 with fail
  rw [← hw0]
  clear hw0
  go_upto_region 36 with fail
  have lA9 := bA9.lt
  have lB9 := bB9.lt
  have HK2 : ∀ W : World, Below w0.heap.size w0 W → W.cell? ⟨w.heap.size, 1, none⟩ = some (.int .i64 (M : Int)) ∧ W.cell? ⟨w.heap.size + 1, 0, none⟩ = some (.int .i64 20) := fun W h => ⟨(h.cell (p := ⟨w.heap.size, 1, none⟩) lA9).trans (bA9.cell 1), (h.cell (p := ⟨w.heap.size + 1, 0, none⟩) lB9).trans (bB9.cell 0)⟩
  have eD : Below w0.heap.size w0 w0.drew := (Below.refl _ w0).drew
  refine wp_region_held_drew (S := (fun W => W.cell? ⟨w.heap.size, 1, none⟩ = some (.int .i64 (M : Int)) ∧ W.cell? ⟨w.heap.size + 1, 0, none⟩ = some (.int .i64 20))) (by kernel_rfl) ?_ (fun hHeld => ?_)
  · (try dsimp only); (first | with_reducible assumption | (with_reducible exact HK2 _ e6) | (with_reducible exact HK2 _ e5) | (with_reducible exact HK2 _ eD))
  refine wpAnyH_take (i := 1) (v := ?_) (arr_getT rfl) (by kernel_rfl) (by kernel_rfl) (by kernel_rfl) (fun _ _ _ h => h) (Or.inl ⟨by rfl, ?_⟩) (by assumption) ?_
  rotate_left 1
  · (intro W hSw; (try dsimp only at hSw); go_simp; try with_reducible rfl)
  (try simp only [Act.put, List.setIfInBounds_toArray, List.set_cons_zero, List.set_cons_succ])
  refine wpAnyH_take (i := 2) (v := ?_) (arr_getT rfl) (by kernel_rfl) (by kernel_rfl) (by kernel_rfl) (fun _ _ _ h => h) (Or.inl ⟨by rfl, ?_⟩) (by assumption) ?_
  rotate_left 1
  · (intro W hSw; (try dsimp only at hSw); go_simp; try with_reducible rfl)
  (try simp only [Act.put, List.setIfInBounds_toArray, List.set_cons_zero, List.set_cons_succ])
  refine wpAnyH_take (i := 6) (v := ?_) (arr_getT rfl) (by kernel_rfl) (by kernel_rfl) (by kernel_rfl) (fun _ _ _ h => h) (Or.inl ⟨by rfl, ?_⟩) (by assumption) ?_
  rotate_left 1
  · (intro W hSw; (try dsimp only at hSw); go_simp; try with_reducible rfl)
  (try simp only [Act.put, List.setIfInBounds_toArray, List.set_cons_zero, List.set_cons_succ])
  refine wpAnyH_take (i := 7) (v := ?_) (arr_getT rfl) (by kernel_rfl) (by kernel_rfl) (by kernel_rfl) (fun _ _ _ h => h) (Or.inl ⟨by rfl, ?_⟩) (by assumption) ?_
  rotate_left 1
  · (intro W hSw; (try dsimp only at hSw); go_simp; try with_reducible rfl)
  (try simp only [Act.put, List.setIfInBounds_toArray, List.set_cons_zero, List.set_cons_succ])
  refine wpAnyH_ready (rs := [0]) (by kernel_rfl) (by simp) ?_
  refine AllReadyH.cons (arr_getT rfl) (fun K hK => ?_) ?_
  · (go_simp; go_at_call 64; ((with_reducible refine (wordsL_s _).mono ?_); rintro e w5 ⟨g, hg5, rfl, hc5, hb5⟩; have c5 := hc5 20 (by decide); rw [show kword ((20 : Nat) : Int) = KW from HKW.out] at c5; have e5 : Below w0.heap.size w0 w5 := eD.trans (hb5.mono eD.size); clear hc5 hb5))
    (first | refine hK.out _ _ ?_ (fun hHeld => ?_) | (go_wp2_with fail; refine hK.out _ _ ?_ (fun hHeld => ?_)))
    · (try dsimp only); (first | with_reducible assumption | (with_reducible exact HK2 _ e6) | (with_reducible exact HK2 _ e5) | (with_reducible exact HK2 _ eD))
    clear hK K
    (try simp only [Act.put, List.setIfInBounds_toArray, List.set_cons_zero, List.set_cons_succ])
    refine wpAnyH_take (i := 3) (v := ?_) (arr_getT rfl) (by kernel_rfl) (by kernel_rfl) (by kernel_rfl) (fun _ _ _ h => h) (Or.inl ⟨by rfl, ?_⟩) (by assumption) ?_
    rotate_left 1
    · (intro W hSw; (try dsimp only at hSw); go_simp; try with_reducible rfl)
    (try simp only [Act.put, List.setIfInBounds_toArray, List.set_cons_zero, List.set_cons_succ])
    refine wpAnyH_ready (rs := [4, 8]) (by kernel_rfl) (by simp) ?_
    refine AllReadyH.cons (arr_getT rfl) (fun K hK => ?_) ?_
    · go_simp
      (first | refine hK.out _ _ ?_ (fun hHeld => ?_) | (go_wp2_with fail; refine hK.out _ _ ?_ (fun hHeld => ?_)))
      · (try dsimp only); (first | with_reducible assumption | (with_reducible exact HK2 _ e6) | (with_reducible exact HK2 _ e5) | (with_reducible exact HK2 _ eD))
      clear hK K
      (try simp only [Act.put, List.setIfInBounds_toArray, List.set_cons_zero, List.set_cons_succ])
      refine wpAnyH_take (i := 5) (v := ?_) (arr_getT rfl) (by kernel_rfl) (by kernel_rfl) (by kernel_rfl) (fun _ _ _ h => h) (Or.inl ⟨by rfl, ?_⟩) (by assumption) ?_
      rotate_left 1
      · (intro W hSw; (try dsimp only at hSw); go_simp; try with_reducible rfl)
      (try simp only [Act.put, List.setIfInBounds_toArray, List.set_cons_zero, List.set_cons_succ])
      refine wpAnyH_ready (rs := [8]) (by kernel_rfl) (by simp) ?_
      refine AllReadyH.cons (arr_getT rfl) (fun K hK => ?_) ?_
      · (go_simp; go_at_call 65; ((with_reducible refine (HD.out _).mono ?_); rintro e w6 ⟨rfl, hb6⟩; have c6 := (hb6.cell (p := ⟨g, 20, none⟩) hg5).trans c5; have e6 : Below w0.heap.size w0 w6 := e5.trans (hb6.mono e5.size); clear hb6))
        (first | refine hK.out _ _ ?_ (fun hHeld => ?_) | (go_wp2_with fail; refine hK.out _ _ ?_ (fun hHeld => ?_)))
        · (try dsimp only); (first | with_reducible assumption | (with_reducible exact HK2 _ e6) | (with_reducible exact HK2 _ e5) | (with_reducible exact HK2 _ eD))
        clear hK K
        (try simp only [Act.put, List.setIfInBounds_toArray, List.set_cons_zero, List.set_cons_succ])
        refine wpAnyH_take (i := 9) (v := ?_) (arr_getT rfl) (by kernel_rfl) (by kernel_rfl) (by kernel_rfl) (fun _ _ _ h => h) (Or.inl ⟨by rfl, ?_⟩) (by assumption) ?_
        rotate_left 1
        · (intro W hSw; (try dsimp only at hSw); go_simp; try with_reducible rfl)
        (try simp only [Act.put, List.setIfInBounds_toArray, List.set_cons_zero, List.set_cons_succ])
        refine wpAnyH_take (i := 10) (v := ?_) (arr_getT rfl) (by kernel_rfl) (by kernel_rfl) (by kernel_rfl) (fun _ _ _ h => h) (Or.inl ⟨by rfl, ?_⟩) (by assumption) ?_
        rotate_left 1
        · (intro W hSw; (try dsimp only at hSw); go_simp; try with_reducible rfl)
        (try simp only [Act.put, List.setIfInBounds_toArray, List.set_cons_zero, List.set_cons_succ])
        refine wpAnyH_done (by kernel_rfl) ?_ _
        clear hHeld
        have HB6 := Lib.hid (HB0.out.trans (e6.mono HB0.out.size))
        clear e6 e5 c5 c6 HK2
        go_wp2
        go_ret
        refine ⟨ret_eq (congrArg Value.string (ByteArray.ext (Array.toList_inj.1 ?_))), HB6.out⟩
        rw [HE.out]
        simp
      exact AllReadyH.nil
    refine AllReadyH.cons (arr_getT rfl) (fun K hK => ?_) ?_
    · (go_simp; go_at_call 65; ((with_reducible refine (HD.out _).mono ?_); rintro e w6 ⟨rfl, hb6⟩; have c6 := (hb6.cell (p := ⟨g, 20, none⟩) hg5).trans c5; have e6 : Below w0.heap.size w0 w6 := e5.trans (hb6.mono e5.size); clear hb6))
      (first | refine hK.out _ _ ?_ (fun hHeld => ?_) | (go_wp2_with fail; refine hK.out _ _ ?_ (fun hHeld => ?_)))
      · (try dsimp only); (first | with_reducible assumption | (with_reducible exact HK2 _ e6) | (with_reducible exact HK2 _ e5) | (with_reducible exact HK2 _ eD))
      clear hK K
      (try simp only [Act.put, List.setIfInBounds_toArray, List.set_cons_zero, List.set_cons_succ])
      refine wpAnyH_ready (rs := [4]) (by kernel_rfl) (by simp) ?_
      refine AllReadyH.cons (arr_getT rfl) (fun K hK => ?_) ?_
      · go_simp
        (first | refine hK.out _ _ ?_ (fun hHeld => ?_) | (go_wp2_with fail; refine hK.out _ _ ?_ (fun hHeld => ?_)))
        · (try dsimp only); (first | with_reducible assumption | (with_reducible exact HK2 _ e6) | (with_reducible exact HK2 _ e5) | (with_reducible exact HK2 _ eD))
        clear hK K
        (try simp only [Act.put, List.setIfInBounds_toArray, List.set_cons_zero, List.set_cons_succ])
        refine wpAnyH_take (i := 5) (v := ?_) (arr_getT rfl) (by kernel_rfl) (by kernel_rfl) (by kernel_rfl) (fun _ _ _ h => h) (Or.inl ⟨by rfl, ?_⟩) (by assumption) ?_
        rotate_left 1
        · (intro W hSw; (try dsimp only at hSw); go_simp; try with_reducible rfl)
        (try simp only [Act.put, List.setIfInBounds_toArray, List.set_cons_zero, List.set_cons_succ])
        refine wpAnyH_take (i := 9) (v := ?_) (arr_getT rfl) (by kernel_rfl) (by kernel_rfl) (by kernel_rfl) (fun _ _ _ h => h) (Or.inl ⟨by rfl, ?_⟩) (by assumption) ?_
        rotate_left 1
        · (intro W hSw; (try dsimp only at hSw); go_simp; try with_reducible rfl)
        (try simp only [Act.put, List.setIfInBounds_toArray, List.set_cons_zero, List.set_cons_succ])
        refine wpAnyH_take (i := 10) (v := ?_) (arr_getT rfl) (by kernel_rfl) (by kernel_rfl) (by kernel_rfl) (fun _ _ _ h => h) (Or.inl ⟨by rfl, ?_⟩) (by assumption) ?_
        rotate_left 1
        · (intro W hSw; (try dsimp only at hSw); go_simp; try with_reducible rfl)
        (try simp only [Act.put, List.setIfInBounds_toArray, List.set_cons_zero, List.set_cons_succ])
        refine wpAnyH_done (by kernel_rfl) ?_ _
        clear hHeld
        have HB6 := Lib.hid (HB0.out.trans (e6.mono HB0.out.size))
        clear e6 e5 c5 c6 HK2
        go_wp2
        go_ret
        refine ⟨ret_eq (congrArg Value.string (ByteArray.ext (Array.toList_inj.1 ?_))), HB6.out⟩
        rw [HE.out]
        simp
      exact AllReadyH.nil
    exact AllReadyH.nil
  exact AllReadyH.nil
set_option maxHeartbeats 4000000 in
set_option maxRecDepth 20000 in
theorem lt_21 (m : Int) (s : ByteArray) (vs : List Va) (n : ByteArray) (l : List ByteArray) (kids : List Ty) (hsh : shape (.mk 21 n l kids) = true) (hsk : ∀ x ∈ kids, Ty.all shape x = true) (hfit : fitV (.mk 21 m s vs) (.mk 21 n l kids) = true) (hnd : Va.nodess vs ≤ 2000000) (_ih : IhT 44 anyW vs) : TxAt 44 anyW (.mk 21 m s vs) (.mk 21 n l kids) := by
  intro cs cs' w hCw hcs hcs'
  obtain ⟨A, c, rfl, -, hm, hss, hvs⟩ := Va.open_ hcs
  obtain ⟨A1, c1, A2, c2, rfl, -, hnz, hl, hkids⟩ := Ty.open_ hcs'
  obtain ⟨-, hvn, hvc⟩ := rows_bound hvs
  obtain ⟨-, hln, hlc⟩ := rows_bound hl
  obtain ⟨-, hkn, hkc⟩ := rows_bound hkids
  unfold maxLen at hvc hlc hkc
  obtain ⟨-, hnf, htx, ts, hts, hmem, hlen, h16, hfits⟩ := fit_open hsh hfit
  obtain ⟨hlab, hlab2⟩ := shape_labels hsh
  have hallts : ∀ y ∈ ts, Ty.all shape y = true := fun y hy => hsk y (hmem y hy)
  obtain ⟨hjl, hjl2⟩ := vts_len hallts hfits hlen h16 hnd
  have hvt : (vtT (.mk 21 m s vs) (.mk 21 n l kids)).data.toList = vtM 21 l m s (vtxs vs ts) := by rw [vtT_list, vtx_mk hts]
  obtain ⟨R, hR⟩ : ∃ R, vtT (.mk 21 m s vs) (.mk 21 n l kids) = R := ⟨_, rfl⟩
  rw [hR] at hvt ⊢
  clear hR hfit
  obtain ⟨w0, hw0, B0, bA, bB⟩ := blocks2 w 34 40 [.int .i64 21, .int .i64 m, .string s, .slice A vs.length c] [.int .i64 21, .string n, .slice A1 l.length c1, .slice A2 kids.length c2]
  change Calls Tryz.prog 44 #[.agg #[.int .i64 21, .int .i64 m, .string s, .slice A vs.length c], .agg #[.int .i64 21, .string n, .slice A1 l.length c1, .slice A2 kids.length c2]] w _
  have HB0 := Lib.hid B0
  have kA := bA.cell
  have kB := bB.cell
  have hmm := num_20 (k := 21) (by decide) hnf
  obtain ⟨M, rfl⟩ : ∃ M : Nat, m = (M : Int) := ⟨m.toNat, by omega⟩
  have hkz := kword_small (21 : Int)
  have hdz := decT_size M (by omega)
  have HE : Hid (R.data.toList = (kword 21).data.toList ++ 35 :: (decT M).data.toList) := Lib.hid (by rw [hvt]; unfold vtM; rw [if_neg (by decide), if_neg (by decide), if_neg (by decide), if_neg (by decide), if_neg (by decide), if_neg (by decide), if_neg (by decide), if_neg (by decide), if_neg (by decide), if_neg (by decide), if_pos (by decide), Lib.itoa_nonneg, decT_list])
  have HD := Lib.hid (fun W => l02Dec_s M (by omega) W)
  obtain ⟨KW, hKW⟩ : ∃ KW, kword (21 : Int) = KW := ⟨_, rfl⟩
  obtain ⟨DW, hDW⟩ : ∃ DW, decT M = DW := ⟨_, rfl⟩
  have HKW := Lib.hid hKW
  rw [hKW] at HE hkz
  rw [hDW] at HE hdz
  simp only [hDW] at HD
  have bA9 := bA
  have bB9 := bB
  have hq1 : ¬ 9223372036854775807 < KW.size + 1 := by omega
  have hq2 : ¬ 9223372036854775807 < KW.size + 1 + DW.size := by omega
  have hq3 : ¬ 9223372036854775807 < (KW ++ ⟨#[35]⟩).size + DW.size := by rw [ByteArray.size_append]; exact hq2
  clear hmm hKW hDW
  clear hCw hcs hcs' hm hss hvs hnz hl hkids hnf htx hts hmem hlen h16 hfits hlab hlab2 hallts hjl hjl2 hsh hsk _ih B0 bA bB hvt hnd
  go_enter Tryz.func44, Tryz.ntmps44
  go_upto_region 1 with fail
  rw [← hw0]
  clear hw0
  go_upto_region 36 with fail
  have lA9 := bA9.lt
  have lB9 := bB9.lt
  have HK2 : ∀ W : World, Below w0.heap.size w0 W → W.cell? ⟨w.heap.size, 1, none⟩ = some (.int .i64 (M : Int)) ∧ W.cell? ⟨w.heap.size + 1, 0, none⟩ = some (.int .i64 21) := fun W h => ⟨(h.cell (p := ⟨w.heap.size, 1, none⟩) lA9).trans (bA9.cell 1), (h.cell (p := ⟨w.heap.size + 1, 0, none⟩) lB9).trans (bB9.cell 0)⟩
  have eD : Below w0.heap.size w0 w0.drew := (Below.refl _ w0).drew
  refine wp_region_held_drew (S := (fun W => W.cell? ⟨w.heap.size, 1, none⟩ = some (.int .i64 (M : Int)) ∧ W.cell? ⟨w.heap.size + 1, 0, none⟩ = some (.int .i64 21))) (by kernel_rfl) ?_ (fun hHeld => ?_)
  · (try dsimp only); (first | with_reducible assumption | (with_reducible exact HK2 _ e6) | (with_reducible exact HK2 _ e5) | (with_reducible exact HK2 _ eD))
  refine wpAnyH_take (i := 1) (v := ?_) (arr_getT rfl) (by kernel_rfl) (by kernel_rfl) (by kernel_rfl) (fun _ _ _ h => h) (Or.inl ⟨by rfl, ?_⟩) (by assumption) ?_
  rotate_left 1
  · (intro W hSw; (try dsimp only at hSw); go_simp; try with_reducible rfl)
  (try simp only [Act.put, List.setIfInBounds_toArray, List.set_cons_zero, List.set_cons_succ])
  refine wpAnyH_take (i := 2) (v := ?_) (arr_getT rfl) (by kernel_rfl) (by kernel_rfl) (by kernel_rfl) (fun _ _ _ h => h) (Or.inl ⟨by rfl, ?_⟩) (by assumption) ?_
  rotate_left 1
  · (intro W hSw; (try dsimp only at hSw); go_simp; try with_reducible rfl)
  (try simp only [Act.put, List.setIfInBounds_toArray, List.set_cons_zero, List.set_cons_succ])
  refine wpAnyH_take (i := 6) (v := ?_) (arr_getT rfl) (by kernel_rfl) (by kernel_rfl) (by kernel_rfl) (fun _ _ _ h => h) (Or.inl ⟨by rfl, ?_⟩) (by assumption) ?_
  rotate_left 1
  · (intro W hSw; (try dsimp only at hSw); go_simp; try with_reducible rfl)
  (try simp only [Act.put, List.setIfInBounds_toArray, List.set_cons_zero, List.set_cons_succ])
  refine wpAnyH_take (i := 7) (v := ?_) (arr_getT rfl) (by kernel_rfl) (by kernel_rfl) (by kernel_rfl) (fun _ _ _ h => h) (Or.inl ⟨by rfl, ?_⟩) (by assumption) ?_
  rotate_left 1
  · (intro W hSw; (try dsimp only at hSw); go_simp; try with_reducible rfl)
  (try simp only [Act.put, List.setIfInBounds_toArray, List.set_cons_zero, List.set_cons_succ])
  refine wpAnyH_ready (rs := [0]) (by kernel_rfl) (by simp) ?_
  refine AllReadyH.cons (arr_getT rfl) (fun K hK => ?_) ?_
  · (go_simp; go_at_call 64; ((with_reducible refine (wordsL_s _).mono ?_); rintro e w5 ⟨g, hg5, rfl, hc5, hb5⟩; have c5 := hc5 21 (by decide); rw [show kword ((21 : Nat) : Int) = KW from HKW.out] at c5; have e5 : Below w0.heap.size w0 w5 := eD.trans (hb5.mono eD.size); clear hc5 hb5))
    (first | refine hK.out _ _ ?_ (fun hHeld => ?_) | (go_wp2_with fail; refine hK.out _ _ ?_ (fun hHeld => ?_)))
    · (try dsimp only); (first | with_reducible assumption | (with_reducible exact HK2 _ e6) | (with_reducible exact HK2 _ e5) | (with_reducible exact HK2 _ eD))
    clear hK K
    (try simp only [Act.put, List.setIfInBounds_toArray, List.set_cons_zero, List.set_cons_succ])
    refine wpAnyH_take (i := 3) (v := ?_) (arr_getT rfl) (by kernel_rfl) (by kernel_rfl) (by kernel_rfl) (fun _ _ _ h => h) (Or.inl ⟨by rfl, ?_⟩) (by assumption) ?_
    rotate_left 1
    · (intro W hSw; (try dsimp only at hSw); go_simp; try with_reducible rfl)
    (try simp only [Act.put, List.setIfInBounds_toArray, List.set_cons_zero, List.set_cons_succ])
    refine wpAnyH_ready (rs := [4, 8]) (by kernel_rfl) (by simp) ?_
    refine AllReadyH.cons (arr_getT rfl) (fun K hK => ?_) ?_
    · go_simp
      (first | refine hK.out _ _ ?_ (fun hHeld => ?_) | (go_wp2_with fail; refine hK.out _ _ ?_ (fun hHeld => ?_)))
      · (try dsimp only); (first | with_reducible assumption | (with_reducible exact HK2 _ e6) | (with_reducible exact HK2 _ e5) | (with_reducible exact HK2 _ eD))
      clear hK K
      (try simp only [Act.put, List.setIfInBounds_toArray, List.set_cons_zero, List.set_cons_succ])
      refine wpAnyH_take (i := 5) (v := ?_) (arr_getT rfl) (by kernel_rfl) (by kernel_rfl) (by kernel_rfl) (fun _ _ _ h => h) (Or.inl ⟨by rfl, ?_⟩) (by assumption) ?_
      rotate_left 1
      · (intro W hSw; (try dsimp only at hSw); go_simp; try with_reducible rfl)
      (try simp only [Act.put, List.setIfInBounds_toArray, List.set_cons_zero, List.set_cons_succ])
      refine wpAnyH_ready (rs := [8]) (by kernel_rfl) (by simp) ?_
      refine AllReadyH.cons (arr_getT rfl) (fun K hK => ?_) ?_
      · (go_simp; go_at_call 65; ((with_reducible refine (HD.out _).mono ?_); rintro e w6 ⟨rfl, hb6⟩; have c6 := (hb6.cell (p := ⟨g, 21, none⟩) hg5).trans c5; have e6 : Below w0.heap.size w0 w6 := e5.trans (hb6.mono e5.size); clear hb6))
        (first | refine hK.out _ _ ?_ (fun hHeld => ?_) | (go_wp2_with fail; refine hK.out _ _ ?_ (fun hHeld => ?_)))
        · (try dsimp only); (first | with_reducible assumption | (with_reducible exact HK2 _ e6) | (with_reducible exact HK2 _ e5) | (with_reducible exact HK2 _ eD))
        clear hK K
        (try simp only [Act.put, List.setIfInBounds_toArray, List.set_cons_zero, List.set_cons_succ])
        refine wpAnyH_take (i := 9) (v := ?_) (arr_getT rfl) (by kernel_rfl) (by kernel_rfl) (by kernel_rfl) (fun _ _ _ h => h) (Or.inl ⟨by rfl, ?_⟩) (by assumption) ?_
        rotate_left 1
        · (intro W hSw; (try dsimp only at hSw); go_simp; try with_reducible rfl)
        (try simp only [Act.put, List.setIfInBounds_toArray, List.set_cons_zero, List.set_cons_succ])
        refine wpAnyH_take (i := 10) (v := ?_) (arr_getT rfl) (by kernel_rfl) (by kernel_rfl) (by kernel_rfl) (fun _ _ _ h => h) (Or.inl ⟨by rfl, ?_⟩) (by assumption) ?_
        rotate_left 1
        · (intro W hSw; (try dsimp only at hSw); go_simp; try with_reducible rfl)
        (try simp only [Act.put, List.setIfInBounds_toArray, List.set_cons_zero, List.set_cons_succ])
        refine wpAnyH_done (by kernel_rfl) ?_ _
        clear hHeld
        have HB6 := Lib.hid (HB0.out.trans (e6.mono HB0.out.size))
        clear e6 e5 c5 c6 HK2
        go_wp2
        go_ret
        refine ⟨ret_eq (congrArg Value.string (ByteArray.ext (Array.toList_inj.1 ?_))), HB6.out⟩
        rw [HE.out]
        simp
      exact AllReadyH.nil
    refine AllReadyH.cons (arr_getT rfl) (fun K hK => ?_) ?_
    · (go_simp; go_at_call 65; ((with_reducible refine (HD.out _).mono ?_); rintro e w6 ⟨rfl, hb6⟩; have c6 := (hb6.cell (p := ⟨g, 21, none⟩) hg5).trans c5; have e6 : Below w0.heap.size w0 w6 := e5.trans (hb6.mono e5.size); clear hb6))
      (first | refine hK.out _ _ ?_ (fun hHeld => ?_) | (go_wp2_with fail; refine hK.out _ _ ?_ (fun hHeld => ?_)))
      · (try dsimp only); (first | with_reducible assumption | (with_reducible exact HK2 _ e6) | (with_reducible exact HK2 _ e5) | (with_reducible exact HK2 _ eD))
      clear hK K
      (try simp only [Act.put, List.setIfInBounds_toArray, List.set_cons_zero, List.set_cons_succ])
      refine wpAnyH_ready (rs := [4]) (by kernel_rfl) (by simp) ?_
      refine AllReadyH.cons (arr_getT rfl) (fun K hK => ?_) ?_
      · go_simp
        (first | refine hK.out _ _ ?_ (fun hHeld => ?_) | (go_wp2_with fail; refine hK.out _ _ ?_ (fun hHeld => ?_)))
        · (try dsimp only); (first | with_reducible assumption | (with_reducible exact HK2 _ e6) | (with_reducible exact HK2 _ e5) | (with_reducible exact HK2 _ eD))
        clear hK K
        (try simp only [Act.put, List.setIfInBounds_toArray, List.set_cons_zero, List.set_cons_succ])
        refine wpAnyH_take (i := 5) (v := ?_) (arr_getT rfl) (by kernel_rfl) (by kernel_rfl) (by kernel_rfl) (fun _ _ _ h => h) (Or.inl ⟨by rfl, ?_⟩) (by assumption) ?_
        rotate_left 1
        · (intro W hSw; (try dsimp only at hSw); go_simp; try with_reducible rfl)
        (try simp only [Act.put, List.setIfInBounds_toArray, List.set_cons_zero, List.set_cons_succ])
        refine wpAnyH_take (i := 9) (v := ?_) (arr_getT rfl) (by kernel_rfl) (by kernel_rfl) (by kernel_rfl) (fun _ _ _ h => h) (Or.inl ⟨by rfl, ?_⟩) (by assumption) ?_
        rotate_left 1
        · (intro W hSw; (try dsimp only at hSw); go_simp; try with_reducible rfl)
        (try simp only [Act.put, List.setIfInBounds_toArray, List.set_cons_zero, List.set_cons_succ])
        refine wpAnyH_take (i := 10) (v := ?_) (arr_getT rfl) (by kernel_rfl) (by kernel_rfl) (by kernel_rfl) (fun _ _ _ h => h) (Or.inl ⟨by rfl, ?_⟩) (by assumption) ?_
        rotate_left 1
        · (intro W hSw; (try dsimp only at hSw); go_simp; try with_reducible rfl)
        (try simp only [Act.put, List.setIfInBounds_toArray, List.set_cons_zero, List.set_cons_succ])
        refine wpAnyH_done (by kernel_rfl) ?_ _
        clear hHeld
        have HB6 := Lib.hid (HB0.out.trans (e6.mono HB0.out.size))
        clear e6 e5 c5 c6 HK2
        go_wp2
        go_ret
        refine ⟨ret_eq (congrArg Value.string (ByteArray.ext (Array.toList_inj.1 ?_))), HB6.out⟩
        rw [HE.out]
        simp
      exact AllReadyH.nil
    exact AllReadyH.nil
  exact AllReadyH.nil
set_option maxHeartbeats 4000000 in
set_option maxRecDepth 20000 in
theorem lt_22 (m : Int) (s : ByteArray) (vs : List Va) (n : ByteArray) (l : List ByteArray) (kids : List Ty) (hsh : shape (.mk 22 n l kids) = true) (hsk : ∀ x ∈ kids, Ty.all shape x = true) (hfit : fitV (.mk 22 m s vs) (.mk 22 n l kids) = true) (hnd : Va.nodess vs ≤ 2000000) (_ih : IhT 44 anyW vs) : TxAt 44 anyW (.mk 22 m s vs) (.mk 22 n l kids) := by
  intro cs cs' w hCw hcs hcs'
  obtain ⟨A, c, rfl, -, hm, hss, hvs⟩ := Va.open_ hcs
  obtain ⟨A1, c1, A2, c2, rfl, -, hnz, hl, hkids⟩ := Ty.open_ hcs'
  obtain ⟨-, hvn, hvc⟩ := rows_bound hvs
  obtain ⟨-, hln, hlc⟩ := rows_bound hl
  obtain ⟨-, hkn, hkc⟩ := rows_bound hkids
  unfold maxLen at hvc hlc hkc
  obtain ⟨-, hnf, htx, ts, hts, hmem, hlen, h16, hfits⟩ := fit_open hsh hfit
  obtain ⟨hlab, hlab2⟩ := shape_labels hsh
  have hallts : ∀ y ∈ ts, Ty.all shape y = true := fun y hy => hsk y (hmem y hy)
  obtain ⟨hjl, hjl2⟩ := vts_len hallts hfits hlen h16 hnd
  have hvt : (vtT (.mk 22 m s vs) (.mk 22 n l kids)).data.toList = vtM 22 l m s (vtxs vs ts) := by rw [vtT_list, vtx_mk hts]
  obtain ⟨R, hR⟩ : ∃ R, vtT (.mk 22 m s vs) (.mk 22 n l kids) = R := ⟨_, rfl⟩
  rw [hR] at hvt ⊢
  clear hR hfit
  obtain ⟨w0, hw0, B0, bA, bB⟩ := blocks2 w 34 40 [.int .i64 22, .int .i64 m, .string s, .slice A vs.length c] [.int .i64 22, .string n, .slice A1 l.length c1, .slice A2 kids.length c2]
  change Calls Tryz.prog 44 #[.agg #[.int .i64 22, .int .i64 m, .string s, .slice A vs.length c], .agg #[.int .i64 22, .string n, .slice A1 l.length c1, .slice A2 kids.length c2]] w _
  have HB0 := Lib.hid B0
  have kA := bA.cell
  have kB := bB.cell
  have hmm := num_20 (k := 22) (by decide) hnf
  obtain ⟨M, rfl⟩ : ∃ M : Nat, m = (M : Int) := ⟨m.toNat, by omega⟩
  have hkz := kword_small (22 : Int)
  have hdz := decT_size M (by omega)
  have HE : Hid (R.data.toList = (kword 22).data.toList ++ 35 :: (decT M).data.toList) := Lib.hid (by rw [hvt]; unfold vtM; rw [if_neg (by decide), if_neg (by decide), if_neg (by decide), if_neg (by decide), if_neg (by decide), if_neg (by decide), if_neg (by decide), if_neg (by decide), if_neg (by decide), if_neg (by decide), if_pos (by decide), Lib.itoa_nonneg, decT_list])
  have HD := Lib.hid (fun W => l02Dec_s M (by omega) W)
  obtain ⟨KW, hKW⟩ : ∃ KW, kword (22 : Int) = KW := ⟨_, rfl⟩
  obtain ⟨DW, hDW⟩ : ∃ DW, decT M = DW := ⟨_, rfl⟩
  have HKW := Lib.hid hKW
  rw [hKW] at HE hkz
  rw [hDW] at HE hdz
  simp only [hDW] at HD
  have bA9 := bA
  have bB9 := bB
  have hq1 : ¬ 9223372036854775807 < KW.size + 1 := by omega
  have hq2 : ¬ 9223372036854775807 < KW.size + 1 + DW.size := by omega
  have hq3 : ¬ 9223372036854775807 < (KW ++ ⟨#[35]⟩).size + DW.size := by rw [ByteArray.size_append]; exact hq2
  clear hmm hKW hDW
  clear hCw hcs hcs' hm hss hvs hnz hl hkids hnf htx hts hmem hlen h16 hfits hlab hlab2 hallts hjl hjl2 hsh hsk _ih B0 bA bB hvt hnd
  go_enter Tryz.func44, Tryz.ntmps44
  go_upto_region 1 with fail
  rw [← hw0]
  clear hw0
  go_upto_region 36 with fail
  have lA9 := bA9.lt
  have lB9 := bB9.lt
  have HK2 : ∀ W : World, Below w0.heap.size w0 W → W.cell? ⟨w.heap.size, 1, none⟩ = some (.int .i64 (M : Int)) ∧ W.cell? ⟨w.heap.size + 1, 0, none⟩ = some (.int .i64 22) := fun W h => ⟨(h.cell (p := ⟨w.heap.size, 1, none⟩) lA9).trans (bA9.cell 1), (h.cell (p := ⟨w.heap.size + 1, 0, none⟩) lB9).trans (bB9.cell 0)⟩
  have eD : Below w0.heap.size w0 w0.drew := (Below.refl _ w0).drew
  refine wp_region_held_drew (S := (fun W => W.cell? ⟨w.heap.size, 1, none⟩ = some (.int .i64 (M : Int)) ∧ W.cell? ⟨w.heap.size + 1, 0, none⟩ = some (.int .i64 22))) (by kernel_rfl) ?_ (fun hHeld => ?_)
  · (try dsimp only); (first | with_reducible assumption | (with_reducible exact HK2 _ e6) | (with_reducible exact HK2 _ e5) | (with_reducible exact HK2 _ eD))
  refine wpAnyH_take (i := 1) (v := ?_) (arr_getT rfl) (by kernel_rfl) (by kernel_rfl) (by kernel_rfl) (fun _ _ _ h => h) (Or.inl ⟨by rfl, ?_⟩) (by assumption) ?_
  rotate_left 1
  · (intro W hSw; (try dsimp only at hSw); go_simp; try with_reducible rfl)
  (try simp only [Act.put, List.setIfInBounds_toArray, List.set_cons_zero, List.set_cons_succ])
  refine wpAnyH_take (i := 2) (v := ?_) (arr_getT rfl) (by kernel_rfl) (by kernel_rfl) (by kernel_rfl) (fun _ _ _ h => h) (Or.inl ⟨by rfl, ?_⟩) (by assumption) ?_
  rotate_left 1
  · (intro W hSw; (try dsimp only at hSw); go_simp; try with_reducible rfl)
  (try simp only [Act.put, List.setIfInBounds_toArray, List.set_cons_zero, List.set_cons_succ])
  refine wpAnyH_take (i := 6) (v := ?_) (arr_getT rfl) (by kernel_rfl) (by kernel_rfl) (by kernel_rfl) (fun _ _ _ h => h) (Or.inl ⟨by rfl, ?_⟩) (by assumption) ?_
  rotate_left 1
  · (intro W hSw; (try dsimp only at hSw); go_simp; try with_reducible rfl)
  (try simp only [Act.put, List.setIfInBounds_toArray, List.set_cons_zero, List.set_cons_succ])
  refine wpAnyH_take (i := 7) (v := ?_) (arr_getT rfl) (by kernel_rfl) (by kernel_rfl) (by kernel_rfl) (fun _ _ _ h => h) (Or.inl ⟨by rfl, ?_⟩) (by assumption) ?_
  rotate_left 1
  · (intro W hSw; (try dsimp only at hSw); go_simp; try with_reducible rfl)
  (try simp only [Act.put, List.setIfInBounds_toArray, List.set_cons_zero, List.set_cons_succ])
  refine wpAnyH_ready (rs := [0]) (by kernel_rfl) (by simp) ?_
  refine AllReadyH.cons (arr_getT rfl) (fun K hK => ?_) ?_
  · (go_simp; go_at_call 64; ((with_reducible refine (wordsL_s _).mono ?_); rintro e w5 ⟨g, hg5, rfl, hc5, hb5⟩; have c5 := hc5 22 (by decide); rw [show kword ((22 : Nat) : Int) = KW from HKW.out] at c5; have e5 : Below w0.heap.size w0 w5 := eD.trans (hb5.mono eD.size); clear hc5 hb5))
    (first | refine hK.out _ _ ?_ (fun hHeld => ?_) | (go_wp2_with fail; refine hK.out _ _ ?_ (fun hHeld => ?_)))
    · (try dsimp only); (first | with_reducible assumption | (with_reducible exact HK2 _ e6) | (with_reducible exact HK2 _ e5) | (with_reducible exact HK2 _ eD))
    clear hK K
    (try simp only [Act.put, List.setIfInBounds_toArray, List.set_cons_zero, List.set_cons_succ])
    refine wpAnyH_take (i := 3) (v := ?_) (arr_getT rfl) (by kernel_rfl) (by kernel_rfl) (by kernel_rfl) (fun _ _ _ h => h) (Or.inl ⟨by rfl, ?_⟩) (by assumption) ?_
    rotate_left 1
    · (intro W hSw; (try dsimp only at hSw); go_simp; try with_reducible rfl)
    (try simp only [Act.put, List.setIfInBounds_toArray, List.set_cons_zero, List.set_cons_succ])
    refine wpAnyH_ready (rs := [4, 8]) (by kernel_rfl) (by simp) ?_
    refine AllReadyH.cons (arr_getT rfl) (fun K hK => ?_) ?_
    · go_simp
      (first | refine hK.out _ _ ?_ (fun hHeld => ?_) | (go_wp2_with fail; refine hK.out _ _ ?_ (fun hHeld => ?_)))
      · (try dsimp only); (first | with_reducible assumption | (with_reducible exact HK2 _ e6) | (with_reducible exact HK2 _ e5) | (with_reducible exact HK2 _ eD))
      clear hK K
      (try simp only [Act.put, List.setIfInBounds_toArray, List.set_cons_zero, List.set_cons_succ])
      refine wpAnyH_take (i := 5) (v := ?_) (arr_getT rfl) (by kernel_rfl) (by kernel_rfl) (by kernel_rfl) (fun _ _ _ h => h) (Or.inl ⟨by rfl, ?_⟩) (by assumption) ?_
      rotate_left 1
      · (intro W hSw; (try dsimp only at hSw); go_simp; try with_reducible rfl)
      (try simp only [Act.put, List.setIfInBounds_toArray, List.set_cons_zero, List.set_cons_succ])
      refine wpAnyH_ready (rs := [8]) (by kernel_rfl) (by simp) ?_
      refine AllReadyH.cons (arr_getT rfl) (fun K hK => ?_) ?_
      · (go_simp; go_at_call 65; ((with_reducible refine (HD.out _).mono ?_); rintro e w6 ⟨rfl, hb6⟩; have c6 := (hb6.cell (p := ⟨g, 22, none⟩) hg5).trans c5; have e6 : Below w0.heap.size w0 w6 := e5.trans (hb6.mono e5.size); clear hb6))
        (first | refine hK.out _ _ ?_ (fun hHeld => ?_) | (go_wp2_with fail; refine hK.out _ _ ?_ (fun hHeld => ?_)))
        · (try dsimp only); (first | with_reducible assumption | (with_reducible exact HK2 _ e6) | (with_reducible exact HK2 _ e5) | (with_reducible exact HK2 _ eD))
        clear hK K
        (try simp only [Act.put, List.setIfInBounds_toArray, List.set_cons_zero, List.set_cons_succ])
        refine wpAnyH_take (i := 9) (v := ?_) (arr_getT rfl) (by kernel_rfl) (by kernel_rfl) (by kernel_rfl) (fun _ _ _ h => h) (Or.inl ⟨by rfl, ?_⟩) (by assumption) ?_
        rotate_left 1
        · (intro W hSw; (try dsimp only at hSw); go_simp; try with_reducible rfl)
        (try simp only [Act.put, List.setIfInBounds_toArray, List.set_cons_zero, List.set_cons_succ])
        refine wpAnyH_take (i := 10) (v := ?_) (arr_getT rfl) (by kernel_rfl) (by kernel_rfl) (by kernel_rfl) (fun _ _ _ h => h) (Or.inl ⟨by rfl, ?_⟩) (by assumption) ?_
        rotate_left 1
        · (intro W hSw; (try dsimp only at hSw); go_simp; try with_reducible rfl)
        (try simp only [Act.put, List.setIfInBounds_toArray, List.set_cons_zero, List.set_cons_succ])
        refine wpAnyH_done (by kernel_rfl) ?_ _
        clear hHeld
        have HB6 := Lib.hid (HB0.out.trans (e6.mono HB0.out.size))
        clear e6 e5 c5 c6 HK2
        go_wp2
        go_ret
        refine ⟨ret_eq (congrArg Value.string (ByteArray.ext (Array.toList_inj.1 ?_))), HB6.out⟩
        rw [HE.out]
        simp
      exact AllReadyH.nil
    refine AllReadyH.cons (arr_getT rfl) (fun K hK => ?_) ?_
    · (go_simp; go_at_call 65; ((with_reducible refine (HD.out _).mono ?_); rintro e w6 ⟨rfl, hb6⟩; have c6 := (hb6.cell (p := ⟨g, 22, none⟩) hg5).trans c5; have e6 : Below w0.heap.size w0 w6 := e5.trans (hb6.mono e5.size); clear hb6))
      (first | refine hK.out _ _ ?_ (fun hHeld => ?_) | (go_wp2_with fail; refine hK.out _ _ ?_ (fun hHeld => ?_)))
      · (try dsimp only); (first | with_reducible assumption | (with_reducible exact HK2 _ e6) | (with_reducible exact HK2 _ e5) | (with_reducible exact HK2 _ eD))
      clear hK K
      (try simp only [Act.put, List.setIfInBounds_toArray, List.set_cons_zero, List.set_cons_succ])
      refine wpAnyH_ready (rs := [4]) (by kernel_rfl) (by simp) ?_
      refine AllReadyH.cons (arr_getT rfl) (fun K hK => ?_) ?_
      · go_simp
        (first | refine hK.out _ _ ?_ (fun hHeld => ?_) | (go_wp2_with fail; refine hK.out _ _ ?_ (fun hHeld => ?_)))
        · (try dsimp only); (first | with_reducible assumption | (with_reducible exact HK2 _ e6) | (with_reducible exact HK2 _ e5) | (with_reducible exact HK2 _ eD))
        clear hK K
        (try simp only [Act.put, List.setIfInBounds_toArray, List.set_cons_zero, List.set_cons_succ])
        refine wpAnyH_take (i := 5) (v := ?_) (arr_getT rfl) (by kernel_rfl) (by kernel_rfl) (by kernel_rfl) (fun _ _ _ h => h) (Or.inl ⟨by rfl, ?_⟩) (by assumption) ?_
        rotate_left 1
        · (intro W hSw; (try dsimp only at hSw); go_simp; try with_reducible rfl)
        (try simp only [Act.put, List.setIfInBounds_toArray, List.set_cons_zero, List.set_cons_succ])
        refine wpAnyH_take (i := 9) (v := ?_) (arr_getT rfl) (by kernel_rfl) (by kernel_rfl) (by kernel_rfl) (fun _ _ _ h => h) (Or.inl ⟨by rfl, ?_⟩) (by assumption) ?_
        rotate_left 1
        · (intro W hSw; (try dsimp only at hSw); go_simp; try with_reducible rfl)
        (try simp only [Act.put, List.setIfInBounds_toArray, List.set_cons_zero, List.set_cons_succ])
        refine wpAnyH_take (i := 10) (v := ?_) (arr_getT rfl) (by kernel_rfl) (by kernel_rfl) (by kernel_rfl) (fun _ _ _ h => h) (Or.inl ⟨by rfl, ?_⟩) (by assumption) ?_
        rotate_left 1
        · (intro W hSw; (try dsimp only at hSw); go_simp; try with_reducible rfl)
        (try simp only [Act.put, List.setIfInBounds_toArray, List.set_cons_zero, List.set_cons_succ])
        refine wpAnyH_done (by kernel_rfl) ?_ _
        clear hHeld
        have HB6 := Lib.hid (HB0.out.trans (e6.mono HB0.out.size))
        clear e6 e5 c5 c6 HK2
        go_wp2
        go_ret
        refine ⟨ret_eq (congrArg Value.string (ByteArray.ext (Array.toList_inj.1 ?_))), HB6.out⟩
        rw [HE.out]
        simp
      exact AllReadyH.nil
    exact AllReadyH.nil
  exact AllReadyH.nil
set_option maxHeartbeats 4000000 in
set_option maxRecDepth 20000 in
theorem lt_23 (m : Int) (s : ByteArray) (vs : List Va) (n : ByteArray) (l : List ByteArray) (kids : List Ty) (hsh : shape (.mk 23 n l kids) = true) (hsk : ∀ x ∈ kids, Ty.all shape x = true) (hfit : fitV (.mk 23 m s vs) (.mk 23 n l kids) = true) (hnd : Va.nodess vs ≤ 2000000) (_ih : IhT 44 anyW vs) : TxAt 44 anyW (.mk 23 m s vs) (.mk 23 n l kids) := by
  intro cs cs' w hCw hcs hcs'
  obtain ⟨A, c, rfl, -, hm, hss, hvs⟩ := Va.open_ hcs
  obtain ⟨A1, c1, A2, c2, rfl, -, hnz, hl, hkids⟩ := Ty.open_ hcs'
  obtain ⟨-, hvn, hvc⟩ := rows_bound hvs
  obtain ⟨-, hln, hlc⟩ := rows_bound hl
  obtain ⟨-, hkn, hkc⟩ := rows_bound hkids
  unfold maxLen at hvc hlc hkc
  obtain ⟨-, hnf, htx, ts, hts, hmem, hlen, h16, hfits⟩ := fit_open hsh hfit
  obtain ⟨hlab, hlab2⟩ := shape_labels hsh
  have hallts : ∀ y ∈ ts, Ty.all shape y = true := fun y hy => hsk y (hmem y hy)
  obtain ⟨hjl, hjl2⟩ := vts_len hallts hfits hlen h16 hnd
  have hvt : (vtT (.mk 23 m s vs) (.mk 23 n l kids)).data.toList = vtM 23 l m s (vtxs vs ts) := by rw [vtT_list, vtx_mk hts]
  obtain ⟨R, hR⟩ : ∃ R, vtT (.mk 23 m s vs) (.mk 23 n l kids) = R := ⟨_, rfl⟩
  rw [hR] at hvt ⊢
  clear hR hfit
  obtain ⟨w0, hw0, B0, bA, bB⟩ := blocks2 w 34 40 [.int .i64 23, .int .i64 m, .string s, .slice A vs.length c] [.int .i64 23, .string n, .slice A1 l.length c1, .slice A2 kids.length c2]
  change Calls Tryz.prog 44 #[.agg #[.int .i64 23, .int .i64 m, .string s, .slice A vs.length c], .agg #[.int .i64 23, .string n, .slice A1 l.length c1, .slice A2 kids.length c2]] w _
  have HB0 := Lib.hid B0
  have kA := bA.cell
  have kB := bB.cell
  have hmm := num_20 (k := 23) (by decide) hnf
  obtain ⟨M, rfl⟩ : ∃ M : Nat, m = (M : Int) := ⟨m.toNat, by omega⟩
  have hkz := kword_small (23 : Int)
  have hdz := decT_size M (by omega)
  have HE : Hid (R.data.toList = (kword 23).data.toList ++ 35 :: (decT M).data.toList) := Lib.hid (by rw [hvt]; unfold vtM; rw [if_neg (by decide), if_neg (by decide), if_neg (by decide), if_neg (by decide), if_neg (by decide), if_neg (by decide), if_neg (by decide), if_neg (by decide), if_neg (by decide), if_neg (by decide), if_pos (by decide), Lib.itoa_nonneg, decT_list])
  have HD := Lib.hid (fun W => l02Dec_s M (by omega) W)
  obtain ⟨KW, hKW⟩ : ∃ KW, kword (23 : Int) = KW := ⟨_, rfl⟩
  obtain ⟨DW, hDW⟩ : ∃ DW, decT M = DW := ⟨_, rfl⟩
  have HKW := Lib.hid hKW
  rw [hKW] at HE hkz
  rw [hDW] at HE hdz
  simp only [hDW] at HD
  have bA9 := bA
  have bB9 := bB
  have hq1 : ¬ 9223372036854775807 < KW.size + 1 := by omega
  have hq2 : ¬ 9223372036854775807 < KW.size + 1 + DW.size := by omega
  have hq3 : ¬ 9223372036854775807 < (KW ++ ⟨#[35]⟩).size + DW.size := by rw [ByteArray.size_append]; exact hq2
  clear hmm hKW hDW
  clear hCw hcs hcs' hm hss hvs hnz hl hkids hnf htx hts hmem hlen h16 hfits hlab hlab2 hallts hjl hjl2 hsh hsk _ih B0 bA bB hvt hnd
  go_enter Tryz.func44, Tryz.ntmps44
  go_upto_region 1 with fail
  rw [← hw0]
  clear hw0
  go_upto_region 36 with fail
  have lA9 := bA9.lt
  have lB9 := bB9.lt
  have HK2 : ∀ W : World, Below w0.heap.size w0 W → W.cell? ⟨w.heap.size, 1, none⟩ = some (.int .i64 (M : Int)) ∧ W.cell? ⟨w.heap.size + 1, 0, none⟩ = some (.int .i64 23) := fun W h => ⟨(h.cell (p := ⟨w.heap.size, 1, none⟩) lA9).trans (bA9.cell 1), (h.cell (p := ⟨w.heap.size + 1, 0, none⟩) lB9).trans (bB9.cell 0)⟩
  have eD : Below w0.heap.size w0 w0.drew := (Below.refl _ w0).drew
  refine wp_region_held_drew (S := (fun W => W.cell? ⟨w.heap.size, 1, none⟩ = some (.int .i64 (M : Int)) ∧ W.cell? ⟨w.heap.size + 1, 0, none⟩ = some (.int .i64 23))) (by kernel_rfl) ?_ (fun hHeld => ?_)
  · (try dsimp only); (first | with_reducible assumption | (with_reducible exact HK2 _ e6) | (with_reducible exact HK2 _ e5) | (with_reducible exact HK2 _ eD))
  refine wpAnyH_take (i := 1) (v := ?_) (arr_getT rfl) (by kernel_rfl) (by kernel_rfl) (by kernel_rfl) (fun _ _ _ h => h) (Or.inl ⟨by rfl, ?_⟩) (by assumption) ?_
  rotate_left 1
  · (intro W hSw; (try dsimp only at hSw); go_simp; try with_reducible rfl)
  (try simp only [Act.put, List.setIfInBounds_toArray, List.set_cons_zero, List.set_cons_succ])
  refine wpAnyH_take (i := 2) (v := ?_) (arr_getT rfl) (by kernel_rfl) (by kernel_rfl) (by kernel_rfl) (fun _ _ _ h => h) (Or.inl ⟨by rfl, ?_⟩) (by assumption) ?_
  rotate_left 1
  · (intro W hSw; (try dsimp only at hSw); go_simp; try with_reducible rfl)
  (try simp only [Act.put, List.setIfInBounds_toArray, List.set_cons_zero, List.set_cons_succ])
  refine wpAnyH_take (i := 6) (v := ?_) (arr_getT rfl) (by kernel_rfl) (by kernel_rfl) (by kernel_rfl) (fun _ _ _ h => h) (Or.inl ⟨by rfl, ?_⟩) (by assumption) ?_
  rotate_left 1
  · (intro W hSw; (try dsimp only at hSw); go_simp; try with_reducible rfl)
  (try simp only [Act.put, List.setIfInBounds_toArray, List.set_cons_zero, List.set_cons_succ])
  refine wpAnyH_take (i := 7) (v := ?_) (arr_getT rfl) (by kernel_rfl) (by kernel_rfl) (by kernel_rfl) (fun _ _ _ h => h) (Or.inl ⟨by rfl, ?_⟩) (by assumption) ?_
  rotate_left 1
  · (intro W hSw; (try dsimp only at hSw); go_simp; try with_reducible rfl)
  (try simp only [Act.put, List.setIfInBounds_toArray, List.set_cons_zero, List.set_cons_succ])
  refine wpAnyH_ready (rs := [0]) (by kernel_rfl) (by simp) ?_
  refine AllReadyH.cons (arr_getT rfl) (fun K hK => ?_) ?_
  · (go_simp; go_at_call 64; ((with_reducible refine (wordsL_s _).mono ?_); rintro e w5 ⟨g, hg5, rfl, hc5, hb5⟩; have c5 := hc5 23 (by decide); rw [show kword ((23 : Nat) : Int) = KW from HKW.out] at c5; have e5 : Below w0.heap.size w0 w5 := eD.trans (hb5.mono eD.size); clear hc5 hb5))
    (first | refine hK.out _ _ ?_ (fun hHeld => ?_) | (go_wp2_with fail; refine hK.out _ _ ?_ (fun hHeld => ?_)))
    · (try dsimp only); (first | with_reducible assumption | (with_reducible exact HK2 _ e6) | (with_reducible exact HK2 _ e5) | (with_reducible exact HK2 _ eD))
    clear hK K
    (try simp only [Act.put, List.setIfInBounds_toArray, List.set_cons_zero, List.set_cons_succ])
    refine wpAnyH_take (i := 3) (v := ?_) (arr_getT rfl) (by kernel_rfl) (by kernel_rfl) (by kernel_rfl) (fun _ _ _ h => h) (Or.inl ⟨by rfl, ?_⟩) (by assumption) ?_
    rotate_left 1
    · (intro W hSw; (try dsimp only at hSw); go_simp; try with_reducible rfl)
    (try simp only [Act.put, List.setIfInBounds_toArray, List.set_cons_zero, List.set_cons_succ])
    refine wpAnyH_ready (rs := [4, 8]) (by kernel_rfl) (by simp) ?_
    refine AllReadyH.cons (arr_getT rfl) (fun K hK => ?_) ?_
    · go_simp
      (first | refine hK.out _ _ ?_ (fun hHeld => ?_) | (go_wp2_with fail; refine hK.out _ _ ?_ (fun hHeld => ?_)))
      · (try dsimp only); (first | with_reducible assumption | (with_reducible exact HK2 _ e6) | (with_reducible exact HK2 _ e5) | (with_reducible exact HK2 _ eD))
      clear hK K
      (try simp only [Act.put, List.setIfInBounds_toArray, List.set_cons_zero, List.set_cons_succ])
      refine wpAnyH_take (i := 5) (v := ?_) (arr_getT rfl) (by kernel_rfl) (by kernel_rfl) (by kernel_rfl) (fun _ _ _ h => h) (Or.inl ⟨by rfl, ?_⟩) (by assumption) ?_
      rotate_left 1
      · (intro W hSw; (try dsimp only at hSw); go_simp; try with_reducible rfl)
      (try simp only [Act.put, List.setIfInBounds_toArray, List.set_cons_zero, List.set_cons_succ])
      refine wpAnyH_ready (rs := [8]) (by kernel_rfl) (by simp) ?_
      refine AllReadyH.cons (arr_getT rfl) (fun K hK => ?_) ?_
      · (go_simp; go_at_call 65; ((with_reducible refine (HD.out _).mono ?_); rintro e w6 ⟨rfl, hb6⟩; have c6 := (hb6.cell (p := ⟨g, 23, none⟩) hg5).trans c5; have e6 : Below w0.heap.size w0 w6 := e5.trans (hb6.mono e5.size); clear hb6))
        (first | refine hK.out _ _ ?_ (fun hHeld => ?_) | (go_wp2_with fail; refine hK.out _ _ ?_ (fun hHeld => ?_)))
        · (try dsimp only); (first | with_reducible assumption | (with_reducible exact HK2 _ e6) | (with_reducible exact HK2 _ e5) | (with_reducible exact HK2 _ eD))
        clear hK K
        (try simp only [Act.put, List.setIfInBounds_toArray, List.set_cons_zero, List.set_cons_succ])
        refine wpAnyH_take (i := 9) (v := ?_) (arr_getT rfl) (by kernel_rfl) (by kernel_rfl) (by kernel_rfl) (fun _ _ _ h => h) (Or.inl ⟨by rfl, ?_⟩) (by assumption) ?_
        rotate_left 1
        · (intro W hSw; (try dsimp only at hSw); go_simp; try with_reducible rfl)
        (try simp only [Act.put, List.setIfInBounds_toArray, List.set_cons_zero, List.set_cons_succ])
        refine wpAnyH_take (i := 10) (v := ?_) (arr_getT rfl) (by kernel_rfl) (by kernel_rfl) (by kernel_rfl) (fun _ _ _ h => h) (Or.inl ⟨by rfl, ?_⟩) (by assumption) ?_
        rotate_left 1
        · (intro W hSw; (try dsimp only at hSw); go_simp; try with_reducible rfl)
        (try simp only [Act.put, List.setIfInBounds_toArray, List.set_cons_zero, List.set_cons_succ])
        refine wpAnyH_done (by kernel_rfl) ?_ _
        clear hHeld
        have HB6 := Lib.hid (HB0.out.trans (e6.mono HB0.out.size))
        clear e6 e5 c5 c6 HK2
        go_wp2
        go_ret
        refine ⟨ret_eq (congrArg Value.string (ByteArray.ext (Array.toList_inj.1 ?_))), HB6.out⟩
        rw [HE.out]
        simp
      exact AllReadyH.nil
    refine AllReadyH.cons (arr_getT rfl) (fun K hK => ?_) ?_
    · (go_simp; go_at_call 65; ((with_reducible refine (HD.out _).mono ?_); rintro e w6 ⟨rfl, hb6⟩; have c6 := (hb6.cell (p := ⟨g, 23, none⟩) hg5).trans c5; have e6 : Below w0.heap.size w0 w6 := e5.trans (hb6.mono e5.size); clear hb6))
      (first | refine hK.out _ _ ?_ (fun hHeld => ?_) | (go_wp2_with fail; refine hK.out _ _ ?_ (fun hHeld => ?_)))
      · (try dsimp only); (first | with_reducible assumption | (with_reducible exact HK2 _ e6) | (with_reducible exact HK2 _ e5) | (with_reducible exact HK2 _ eD))
      clear hK K
      (try simp only [Act.put, List.setIfInBounds_toArray, List.set_cons_zero, List.set_cons_succ])
      refine wpAnyH_ready (rs := [4]) (by kernel_rfl) (by simp) ?_
      refine AllReadyH.cons (arr_getT rfl) (fun K hK => ?_) ?_
      · go_simp
        (first | refine hK.out _ _ ?_ (fun hHeld => ?_) | (go_wp2_with fail; refine hK.out _ _ ?_ (fun hHeld => ?_)))
        · (try dsimp only); (first | with_reducible assumption | (with_reducible exact HK2 _ e6) | (with_reducible exact HK2 _ e5) | (with_reducible exact HK2 _ eD))
        clear hK K
        (try simp only [Act.put, List.setIfInBounds_toArray, List.set_cons_zero, List.set_cons_succ])
        refine wpAnyH_take (i := 5) (v := ?_) (arr_getT rfl) (by kernel_rfl) (by kernel_rfl) (by kernel_rfl) (fun _ _ _ h => h) (Or.inl ⟨by rfl, ?_⟩) (by assumption) ?_
        rotate_left 1
        · (intro W hSw; (try dsimp only at hSw); go_simp; try with_reducible rfl)
        (try simp only [Act.put, List.setIfInBounds_toArray, List.set_cons_zero, List.set_cons_succ])
        refine wpAnyH_take (i := 9) (v := ?_) (arr_getT rfl) (by kernel_rfl) (by kernel_rfl) (by kernel_rfl) (fun _ _ _ h => h) (Or.inl ⟨by rfl, ?_⟩) (by assumption) ?_
        rotate_left 1
        · (intro W hSw; (try dsimp only at hSw); go_simp; try with_reducible rfl)
        (try simp only [Act.put, List.setIfInBounds_toArray, List.set_cons_zero, List.set_cons_succ])
        refine wpAnyH_take (i := 10) (v := ?_) (arr_getT rfl) (by kernel_rfl) (by kernel_rfl) (by kernel_rfl) (fun _ _ _ h => h) (Or.inl ⟨by rfl, ?_⟩) (by assumption) ?_
        rotate_left 1
        · (intro W hSw; (try dsimp only at hSw); go_simp; try with_reducible rfl)
        (try simp only [Act.put, List.setIfInBounds_toArray, List.set_cons_zero, List.set_cons_succ])
        refine wpAnyH_done (by kernel_rfl) ?_ _
        clear hHeld
        have HB6 := Lib.hid (HB0.out.trans (e6.mono HB0.out.size))
        clear e6 e5 c5 c6 HK2
        go_wp2
        go_ret
        refine ⟨ret_eq (congrArg Value.string (ByteArray.ext (Array.toList_inj.1 ?_))), HB6.out⟩
        rw [HE.out]
        simp
      exact AllReadyH.nil
    exact AllReadyH.nil
  exact AllReadyH.nil
set_option maxRecDepth 20000 in
theorem l04Text_s (v : Va) : ∀ t, Ty.all shape t = true → fitV v t = true → v.nodes ≤ 2000000 → TxAt 44 anyW v t := by
  refine Va.ind (P := fun v => ∀ t, Ty.all shape t = true → fitV v t = true → v.nodes ≤ 2000000 → TxAt 44 anyW v t) (fun k m s vs ih => ?_) v
  intro t hall hfit hnd
  obtain ⟨k', n, l, kids⟩ := t
  have hsh := all_shape hall
  obtain ⟨rfl, -⟩ := fit_open hsh.1 hfit
  have hn2 : Va.nodess vs ≤ 2000000 := by simp only [Va.nodes] at hnd; omega
  have hih : IhT 44 anyW vs := fun x hx y hy hf => ih x hx y hy hf (by have := nodes_memT hx; omega)
  rcases kind_ways (shape_kind hsh.1) with rfl | rfl | rfl | rfl | rfl | rfl | rfl | rfl | rfl | rfl | rfl | rfl | rfl | rfl | rfl | rfl | rfl | rfl | rfl | rfl | rfl | rfl | rfl
  · exact lt_1 m s vs n l kids hsh.1 hsh.2 hfit hn2 hih
  · exact lt_2 m s vs n l kids hsh.1 hsh.2 hfit hn2 hih
  · exact lt_3 m s vs n l kids hsh.1 hsh.2 hfit hn2 hih
  · exact lt_4 m s vs n l kids hsh.1 hsh.2 hfit hn2 hih
  · exact lt_5 m s vs n l kids hsh.1 hsh.2 hfit hn2 hih
  · exact lt_6 m s vs n l kids hsh.1 hsh.2 hfit hn2 hih
  · exact lt_7 m s vs n l kids hsh.1 hsh.2 hfit hn2 hih
  · exact lt_8 m s vs n l kids hsh.1 hsh.2 hfit hn2 hih
  · exact lt_9 m s vs n l kids hsh.1 hsh.2 hfit hn2 hih
  · exact lt_10 m s vs n l kids hsh.1 hsh.2 hfit hn2 hih
  · exact lt_11 m s vs n l kids hsh.1 hsh.2 hfit hn2 hih
  · exact lt_12 m s vs n l kids hsh.1 hsh.2 hfit hn2 hih
  · exact lt_13 m s vs n l kids hsh.1 hsh.2 hfit hn2 hih
  · exact lt_14 m s vs n l kids hsh.1 hsh.2 hfit hn2 hih
  · exact lt_15 m s vs n l kids hsh.1 hsh.2 hfit hn2 hih
  · exact lt_16 m s vs n l kids hsh.1 hsh.2 hfit hn2 hih
  · exact lt_17 m s vs n l kids hsh.1 hsh.2 hfit hn2 hih
  · exact lt_18 m s vs n l kids hsh.1 hsh.2 hfit hn2 hih
  · exact lt_19 m s vs n l kids hsh.1 hsh.2 hfit hn2 hih
  · exact lt_20 m s vs n l kids hsh.1 hsh.2 hfit hn2 hih
  · exact lt_21 m s vs n l kids hsh.1 hsh.2 hfit hn2 hih
  · exact lt_22 m s vs n l kids hsh.1 hsh.2 hfit hn2 hih
  · exact lt_23 m s vs n l kids hsh.1 hsh.2 hfit hn2 hih
end Go.Proofs.YtcpadaelgdmipaaGreatDoor
