/- The text of a value, in plain words; how long it is. No program in sight. Decimal digits and the text of a version's number: by the reference and by the program. Digits of sixteen and code points between two quotes: by the reference. The text of a value, by the reference: numbers, kids, cases, lists, flags. Digits of sixteen: by Go's library (FormatInt at base 16). FormatInt at base 16: by Go's library. An append of one text to a row of texts that the call owns; distinct over such a row. strings.Builder: what a written text adds, by this program's own body of WriteString. strings.Builder beside an iterator: what a written text adds, by this program's own body of WriteString, and what it leaves alone. The text of a value, by the program: code points within quotes, words, numbers. The text of a value, by the reference: kids with their labels, lists. The text of a value, by the reference: lists, flags. -/
import Derived.Test.YtcpadaelgdmipaaGreatDoorPkFj
import Derived.Test.YtcpadaelgdmipaaGreatDoorPkTx
import Derived.Test.YtcpadaelgdmipaaGreatDoorPkHa
import Derived.Lib.ItoaMem
import Derived.Lib.ItoaLen
import Derived.Test.YtcpadaelgdmipaaGreatDoorNums
import Derived.Test.YtcpadaelgdmipaaGreatDoorShelf
import Derived.WalkSmall
import Derived.Test.YtcpadaelgdmipaaGreatDoorPkFi
import Derived.Deep.DeepCutAuto
import Derived.Deep.QuietTactic
import Derived.BigQuiet
import Derived.Test.YtcpadaelgdmipaaGreatDoorCore
import Derived.Lib.LaidTab
import Derived.Lib.SmallJoins
import Derived.Laws.IdiomStrings
import Derived.Laws.Bits64b
import Derived.Test.YtcpadaelgdmipaaGreatDoorDistinct
import Derived.Test.YtcpadaelgdmipaaGreatDoorStrs
import Derived.Lib.Builder
import Derived.Lib.AppendStr
import Derived.Lib.UnsafeStr
import Derived.Lib.OthersKept
import Derived.Lib.FrozenHead
namespace Go.Proofs.YtcpadaelgdmipaaGreatDoor
open Go.RowKit

/-- A digit of sixteen. -/
def hexc (n : Nat) : UInt8 := if n < 10 then UInt8.ofNat (48 + n) else UInt8.ofNat (87 + n)
/-- A number in digits of sixteen. -/
def hexT (n : Nat) : List UInt8 := if _h : n < 16 then [hexc n] else hexT (n / 16) ++ [hexc (n % 16)]
termination_by n
theorem hexT_small {n : Nat} (h : n < 16) : hexT n = [hexc n] := by rw [hexT, dif_pos h]
theorem hexT_big {n : Nat} (h : ¬ n < 16) : hexT n = hexT (n / 16) ++ [hexc (n % 16)] := by rw [hexT, dif_neg h]
theorem hexT_len (d : Nat) : ∀ n : Nat, n < 16 ^ (d + 1) → (hexT n).length ≤ d + 1 := by
  induction d with
  | zero => intro n h; rw [hexT_small (by simpa using h)]; simp
  | succ d ih =>
    intro n h
    by_cases hn : n < 16
    · rw [hexT_small hn]; simp
    · rw [hexT_big hn, List.length_append]
      have := ih (n / 16) (by rw [Nat.pow_succ] at h; omega)
      simp; omega
/-- A code point within quotes. -/
def escT (q : Nat) (c : Int) : List UInt8 := if 32 ≤ c ∧ c ≤ 126 ∧ c ≠ (q : Int) ∧ c ≠ 92 then [UInt8.ofNat c.toNat] else 92 :: 117 :: 123 :: (hexT c.toNat ++ [125])
def escs (q : Nat) (ps : List Int) : List UInt8 := ps.flatMap (escT q)
def quoT (q : Nat) (ps : List Int) : List UInt8 := UInt8.ofNat q :: (escs q ps ++ [UInt8.ofNat q])
theorem escT_len (q : Nat) {c : Int} (h : c ≤ 1114111) : (escT q c).length ≤ 10 := by
  unfold escT
  split
  · simp
  · have := hexT_len 5 c.toNat (by omega)
    simp; omega
theorem escs_len (q : Nat) (ps : List Int) (h : ∀ c ∈ ps, c ≤ 1114111) : (escs q ps).length ≤ 10 * ps.length := by
  induction ps with
  | nil => simp [escs]
  | cons c r ih =>
    have h1 := escT_len q (h c (by simp))
    have h2 := ih (fun x hx => h x (by simp [hx]))
    unfold escs at h2 ⊢
    rw [List.flatMap_cons, List.length_append, List.length_cons]
    omega
theorem escs_snoc (q : Nat) (ps : List Int) (c : Int) : escs q (ps ++ [c]) = escs q ps ++ escT q c := by simp [escs]
/-- The labels of the bits that are set. -/
def bitOn (m : Int) (i : Nat) : Bool := m.toNat / 2 ^ i % 2 == 1
def flg (m : Int) : Nat → List ByteArray → List (List UInt8)
  | _, [] => []
  | i, a :: r => (if bitOn m i = true then [a.data.toList] else []) ++ flg m (i + 1) r
theorem flg_snoc (m : Int) (l : List ByteArray) (a : ByteArray) (i : Nat) : flg m i (l ++ [a]) = flg m i l ++ (if bitOn m (i + l.length) = true then [a.data.toList] else []) := by
  induction l generalizing i with
  | nil => simp [flg]
  | cons b r ih => rw [List.cons_append, flg, flg, ih, List.append_assoc, List.length_cons, show i + (r.length + 1) = i + 1 + r.length by omega]
theorem flg_next {m : Int} {l : List ByteArray} {k : Nat} {a : ByteArray} (h : l[k]? = some a) : flg m 0 (l.take (k + 1)) = flg m 0 (l.take k) ++ (if bitOn m k = true then [a.data.toList] else []) := by
  have hk : k < l.length := (List.getElem?_eq_some_iff.1 h).1
  rw [List.take_add_one, h, Option.toList_some, flg_snoc, List.length_take, Nat.min_eq_left (by omega), Nat.zero_add]
theorem flg_mem {m : Int} {l : List ByteArray} {i : Nat} {x : List UInt8} (h : x ∈ flg m i l) : ∃ a ∈ l, x = a.data.toList := by
  induction l generalizing i with
  | nil => cases h
  | cons b r ih =>
    rw [flg, List.mem_append] at h
    rcases h with h | h
    · split at h
      · exact ⟨b, by simp, by simpa using h⟩
      · cases h
    · obtain ⟨a, h1, h2⟩ := ih h
      exact ⟨a, by simp [h1], h2⟩
theorem flg_len (m : Int) (l : List ByteArray) (i : Nat) : (flg m i l).length ≤ l.length := by
  induction l generalizing i with
  | nil => simp [flg]
  | cons b r ih =>
    rw [flg, List.length_append, List.length_cons]
    have := ih (i + 1)
    split <;> simp <;> omega
/-- Elements with their labels, if there are any. -/
def labC : List ByteArray → List (List UInt8) → List (List UInt8)
  | _, [] => []
  | [], e :: es => e :: labC [] es
  | a :: r, e :: es => (a.data.toList ++ 58 :: 32 :: e) :: labC r es
theorem labC_nil (es : List (List UInt8)) : labC [] es = es := by
  induction es with
  | nil => rfl
  | cons e r ih => rw [labC, ih]
theorem labC_length (l : List ByteArray) (es : List (List UInt8)) : (labC l es).length = es.length := by
  induction es generalizing l with
  | nil => cases l <;> rfl
  | cons e r ih => cases l <;> simp [labC, ih]
theorem labC_at {l : List ByteArray} {es : List (List UInt8)} {i : Nat} {a : ByteArray} {e : List UInt8} (h : l[i]? = some a) (he : es[i]? = some e) : (labC l es)[i]? = some (a.data.toList ++ 58 :: 32 :: e) := by
  induction l generalizing es i with
  | nil => simp at h
  | cons b r ih =>
    cases es with
    | nil => simp at he
    | cons f s =>
      cases i with
      | zero => simp at h he; subst h he; simp [labC]
      | succ i => simpa [labC] using ih (by simpa using h) (by simpa using he)
theorem labC_len (l : List ByteArray) (es : List (List UInt8)) (h : ∀ a ∈ l, a.size ≤ 12) : lenS (labC l es) ≤ lenS es + 14 * es.length := by
  induction es generalizing l with
  | nil => cases l <;> simp [labC, lenS]
  | cons e r ih =>
    cases l with
    | nil =>
      have := ih [] (by simp)
      simp only [labC, lenS, List.foldr_cons, List.length_cons] at this ⊢
      omega
    | cons a s =>
      have h1 := ih s (fun x hx => h x (by simp [hx]))
      have h2 := h a (by simp)
      have e4 : a.data.toList.length = a.size := by simp
      simp only [labC, lenS, List.foldr_cons, List.length_cons, List.length_append] at h1 ⊢
      omega
/-- The word of a case. -/
def caseW (k : Int) (l : List ByteArray) (m : Int) : ByteArray :=
  if k = 13 then (if m = 0 then ⟨#[110, 111, 110, 101]⟩ else ⟨#[115, 111, 109, 101]⟩) else if k = 14 then (if m = 0 then ⟨#[111, 107]⟩ else ⟨#[101, 114, 114]⟩) else l[m.toNat]?.getD ⟨#[]⟩
/-- The text, out of the texts of the parts. -/
def vtM (k : Int) (l : List ByteArray) (m : Int) (s : ByteArray) (es : List (List UInt8)) : List UInt8 :=
  if k = 1 then [40, 41]
  else if k = 2 then (if m = 0 then [102, 97, 108, 115, 101] else [116, 114, 117, 101])
  else if k = 10 then quoT 39 [m]
  else if k = 11 then quoT 34 (pts s)
  else if k = 12 then 91 :: (Lib.join es [44, 32] ++ [93])
  else if k = 15 then 40 :: (Lib.join es [44, 32] ++ [41])
  else if k = 16 then 123 :: (Lib.join (labC l es) [44, 32] ++ [125])
  else if k = 19 then 123 :: (Lib.join (flg m 0 l) [44, 32] ++ [125])
  else if k = 13 ∨ k = 14 ∨ k = 17 then (caseW k l m).data.toList ++ (match es with | [] => [] | e :: _ => 40 :: (e ++ [41]))
  else if k = 18 then (l[m.toNat]?.getD ⟨#[]⟩).data.toList
  else if 20 ≤ k then (kword k).data.toList ++ 35 :: Lib.itoa m
  else Lib.itoa m
mutual
def vtx : Va → Ty → List UInt8
  | .mk k m s vs, t => vtM k t.labels m s (match kts k m vs.length t.kids with | none => [] | some ts => vtxs vs ts)
def vtxs : List Va → List Ty → List (List UInt8)
  | [], _ => []
  | v :: r, ts => (match ts with | [] => [] | t :: q => vtx v t :: vtxs r q)
end
theorem vtx_mk {k m : Int} {s : ByteArray} {vs : List Va} {k' : Int} {n : ByteArray} {l : List ByteArray} {kids ts : List Ty} (h : kts k m vs.length kids = some ts) : vtx (.mk k m s vs) (.mk k' n l kids) = vtM k l m s (vtxs vs ts) := by
  rw [vtx]
  show vtM k l m s (match kts k m vs.length kids with | none => [] | some ts => vtxs vs ts) = _
  rw [h]
theorem vtxs_nil (ts : List Ty) : vtxs [] ts = [] := by rw [vtxs]
theorem vtxs_cons (v : Va) (r : List Va) (t : Ty) (q : List Ty) : vtxs (v :: r) (t :: q) = vtx v t :: vtxs r q := by rw [vtxs]
theorem vtxs_len {vs : List Va} {ts : List Ty} (h : vs.length ≤ ts.length) : (vtxs vs ts).length = vs.length := by
  induction vs generalizing ts with
  | nil => rw [vtxs_nil]; rfl
  | cons x r ih =>
    cases ts with
    | nil => simp at h
    | cons y q => rw [vtxs_cons, List.length_cons, List.length_cons, ih (by simpa using h)]
theorem vtxs_at {vs : List Va} {ts : List Ty} {i : Nat} {v : Va} {t : Ty} (hv : vs[i]? = some v) (ht : ts[i]? = some t) : (vtxs vs ts)[i]? = some (vtx v t) := by
  induction vs generalizing ts i with
  | nil => simp at hv
  | cons x r ih =>
    cases ts with
    | nil => simp at ht
    | cons y q =>
      rw [vtxs_cons]
      cases i with
      | zero => simp at hv ht; subst hv ht; rfl
      | succ i => simpa using ih (by simpa using hv) (by simpa using ht)
/-- A join with ', '. -/
theorem join2_next {ls : List (List UInt8)} {k : Nat} {y : List UInt8} (h : ls[k]? = some y) : Lib.join (ls.take (k + 1)) [44, 32] = if k = 0 then y else Lib.join (ls.take k) [44, 32] ++ (44 :: 32 :: y) := by
  cases ls with
  | nil => simp at h
  | cons x r =>
    cases k with
    | zero => simp at h; subst h; simp [Lib.join_one]
    | succ k =>
      rw [if_neg (by omega), List.take_succ_cons, List.take_succ_cons, Lib.join_cons, Lib.join_cons, Lib.joinTail_take_succ _ _ _ y (by simpa using h)]
      simp
theorem join2_snoc (ls : List (List UInt8)) (y : List UInt8) : Lib.join (ls ++ [y]) [44, 32] = if ls = [] then y else Lib.join ls [44, 32] ++ (44 :: 32 :: y) := by
  have h : (ls ++ [y])[ls.length]? = some y := by simp
  have := join2_next h
  rw [List.take_of_length_le (by simp), List.take_left] at this
  rw [this]
  cases ls <;> simp
theorem join2_len (ls : List (List UInt8)) : (Lib.join ls [44, 32]).length ≤ lenS ls + 2 * ls.length := by
  cases ls with
  | nil => simp [Lib.join_nil]
  | cons x r =>
    rw [Lib.join_cons, List.length_append]
    have : (Lib.joinTail [44, 32] r).length = lenS r + 2 * r.length := by
      induction r with
      | nil => rfl
      | cons y s ih =>
        simp only [Lib.joinTail, List.map_cons, List.flatten_cons, List.length_append, List.length_cons, lenS, List.foldr_cons, List.length_nil] at ih ⊢
        omega
    rw [this]
    simp only [lenS, List.foldr_cons, List.length_cons]
    omega
theorem join2_take_len (ls : List (List UInt8)) (k : Nat) : (Lib.join (ls.take k) [44, 32]).length ≤ (Lib.join ls [44, 32]).length := by
  cases ls with
  | nil => simp
  | cons x r =>
    cases k with
    | zero => simp [Lib.join_nil]
    | succ k =>
      rw [List.take_succ_cons, Lib.join_cons, Lib.join_cons, List.length_append, List.length_append]
      have := Lib.joinTail_take_le [44, 32] r k
      omega
theorem lenS_le (ls : List (List UInt8)) (c : Nat) (h : ∀ x ∈ ls, x.length ≤ c) : lenS ls ≤ c * ls.length := by
  induction ls with
  | nil => simp [lenS]
  | cons x r ih =>
    have h1 := h x (by simp)
    have h2 := ih (fun y hy => h y (by simp [hy]))
    have e : c * (r.length + 1) = c * r.length + c := Nat.mul_succ _ _
    simp only [lenS, List.foldr_cons, List.length_cons] at h2 ⊢
    omega
theorem nameOk_size {s : ByteArray} (h : nameOk s = true) : 1 ≤ s.size ∧ s.size ≤ 12 := by
  unfold nameOk at h
  simp only [Bool.and_eq_true, decide_eq_true_eq] at h
  exact ⟨h.1.1, h.1.2.1⟩
theorem labels_small {l : List ByteArray} (h : labelsOk l = true) : ∀ a ∈ l, 1 ≤ a.size ∧ a.size ≤ 12 := by
  unfold labelsOk at h
  simp only [Bool.and_eq_true] at h
  exact fun a ha => nameOk_size (List.all_eq_true.1 h.2.1 a ha)
/-- A valid type's labels are short; only labelled kinds have some. -/
theorem shape_labels {k : Int} {n : ByteArray} {l : List ByteArray} {kids : List Ty} (h : shape (.mk k n l kids) = true) : (∀ a ∈ l, 1 ≤ a.size ∧ a.size ≤ 12) ∧ l.length ≤ 16 := by
  rcases shape_open h with ⟨-, -, -, -, rfl, -⟩ | ⟨-, e, -, -, e2, -⟩ | ⟨-, -, -, rfl, -⟩ | ⟨-, -, -, rfl, -⟩
  · exact ⟨fun a ha => (by cases ha), by simp⟩
  · exact ⟨labels_small ((shape_fit h).2 e), e2⟩
  · exact ⟨fun a ha => (by cases ha), by simp⟩
  · exact ⟨fun a ha => (by cases ha), by simp⟩
theorem textOk_size {s : ByteArray} (h : textOk s = true) : s.size ≤ 24 ∧ validT s = true := by
  unfold textOk at h
  simpa using h
theorem ptsGo_small (n : Nat) (s : ByteArray) : (ptsGo n s).length ≤ n ∧ ∀ c ∈ ptsGo n s, 0 ≤ c ∧ c ≤ 1114111 := by
  induction n generalizing s with
  | zero => exact ⟨by simp [ptsGo], fun c hc => by cases hc⟩
  | succ n ih =>
    rw [ptsGo]
    split
    · have h := ih (s.extract (ptW s) s.size)
      refine ⟨by simp; exact h.1, fun c hc => ?_⟩
      rcases List.mem_cons.1 hc with rfl | hc
      · have := Lib.decodeL_rune s.data.toList
        omega
      · exact h.2 c hc
    · exact ⟨by simp, fun c hc => by cases hc⟩
theorem pts_small (s : ByteArray) : (pts s).length ≤ s.size ∧ ∀ c ∈ pts s, 0 ≤ c ∧ c ≤ 1114111 := ptsGo_small _ _
theorem getD_small {l : List ByteArray} (h : ∀ a ∈ l, 1 ≤ a.size ∧ a.size ≤ 12) (i : Nat) : (l[i]?.getD ⟨#[]⟩).size ≤ 12 := by
  cases hi : l[i]? with
  | none => simp [ByteArray.size]
  | some a => exact (h a (List.mem_of_getElem? hi)).2
theorem caseW_size {k : Int} {l : List ByteArray} {m : Int} (h : ∀ a ∈ l, 1 ≤ a.size ∧ a.size ≤ 12) : (caseW k l m).size ≤ 12 := by
  unfold caseW
  split
  · split <;> simp [ByteArray.size]
  · split
    · split <;> simp [ByteArray.size]
    · exact getD_small h _
set_option maxHeartbeats 1000000 in
theorem vtM_len {k : Int} {l : List ByteArray} {m : Int} {s : ByteArray} {es : List (List UInt8)} (hl : ∀ a ∈ l, 1 ≤ a.size ∧ a.size ≤ 12) (hl2 : l.length ≤ 16) (hs : s.size ≤ 24) (hes : es.length ≤ 16) (hm : -9223372036854775808 ≤ m ∧ m ≤ 9223372036854775807) (hchr : k = 10 → m ≤ 1114111) :
    (vtM k l m s es).length ≤ 500 + lenS es := by
  have hI : (Lib.itoa m).length ≤ 21 := by have := Lib.itoa_length_le m hm.1 hm.2; omega
  have h1 := join2_len es
  have h2 := join2_len (labC l es)
  rw [labC_length] at h2
  have h3 := labC_len l es (fun a ha => (hl a ha).2)
  have h4 := join2_len (flg m 0 l)
  have h5 := flg_len m l 0
  have h6 := lenS_le (flg m 0 l) 12 (fun x hx => by
    obtain ⟨a, ha, rfl⟩ := flg_mem hx
    have := (hl a ha).2
    simpa using this)
  have h7 : (caseW k l m).data.toList.length ≤ 12 := by have := caseW_size (k := k) (m := m) hl; simpa using this
  have h8 : (l[m.toNat]?.getD ⟨#[]⟩).data.toList.length ≤ 12 := by have := getD_small hl m.toNat; simpa using this
  have h9 : (kword k).data.toList.length ≤ 7 := by have := kword_small k; simpa using this
  have h10 : (quoT 34 (pts s)).length ≤ 242 := by
    have := escs_len 34 (pts s) (fun c hc => ((pts_small s).2 c hc).2)
    have := (pts_small s).1
    unfold quoT; simp; omega
  have h11 : k = 10 → (quoT 39 [m]).length ≤ 12 := fun h => by
    have := escs_len 39 [m] (fun c hc => by rw [List.mem_singleton.1 hc]; exact hchr h)
    unfold quoT; simp at this ⊢; omega
  have h12 : ∀ e r, es = e :: r → e.length ≤ lenS es := fun e r h => by rw [h]; simp [lenS]
  have e : ∀ (x : UInt8) (L : List UInt8) (y : UInt8), (x :: (L ++ [y])).length = L.length + 2 := fun x L y => by simp
  have e35 : ∀ L : List UInt8, ((kword k).data.toList ++ 35 :: L).length = (kword k).data.toList.length + (L.length + 1) := fun L => by simp
  unfold vtM
  generalize hG : lenS es = G at *
  clear hG hl
  split
  · simp only [List.length_cons, List.length_nil]; omega
  split
  · split <;> simp only [List.length_cons, List.length_nil] <;> omega
  split
  · rename_i h; have := h11 h; omega
  split
  · omega
  split
  · rw [e]; omega
  split
  · rw [e]; omega
  split
  · rw [e]; omega
  split
  · rw [e]; omega
  split
  · rw [List.length_append]
    cases es with
    | nil => simp only [List.length_nil]; omega
    | cons f r =>
      have := h12 f r rfl
      show (caseW k l m).data.toList.length + (40 :: (f ++ [41])).length ≤ _
      rw [e]; omega
  split
  · omega
  split
  · rw [e35]; omega
  · omega
/-- A value in memory: its numbers are within their bounds. -/
def Va.inB : Va → Prop
  | .mk _ m _ _ => -9223372036854775808 ≤ m ∧ m ≤ 9223372036854775807
theorem num_10 {nl : Nat} {m : Int} (h : numFits 10 nl m = true) : 0 ≤ m ∧ m ≤ 1114111 := by
  have : numFits 10 nl m = charOk m := rfl
  rw [this] at h
  simp only [charOk, Bool.or_eq_true, inR_iff] at h
  omega
theorem num_bound {k : Int} {nl : Nat} {m : Int} (hn : nl ≤ 16) (h : numFits k nl m = true) : -9223372036854775808 ≤ m ∧ m ≤ 9223372036854775807 := by
  have hp : (2 ^ nl : Nat) ≤ 65536 := Nat.le_trans (Nat.pow_le_pow_right (by decide) hn) (by decide)
  unfold numFits at h
  split at h
  · rw [inR_iff] at h; omega
  split at h
  · simp only [charOk, Bool.or_eq_true, inR_iff] at h; omega
  split at h
  · rw [inR_iff] at h; omega
  split at h
  · rw [inR_iff] at h; omega
  split at h
  · rw [inR_iff] at h; omega
  · rw [inR_iff] at h
    unfold numRange at h
    repeat' split at h
    all_goals (simp at h; omega)
mutual
theorem vtx_len : ∀ (v : Va) (t : Ty), Ty.all shape t = true → fitV v t = true → (vtx v t).length ≤ 500 * v.nodes
  | .mk k m s vs, .mk k' n l kids, hall, hf => by
    have hsh := all_shape hall
    obtain ⟨rfl, hn, ht, ts, hts, hmem, hlen, h16, hfs⟩ := fit_open hsh.1 hf
    obtain ⟨hl1, hl2⟩ := shape_labels hsh.1
    rw [vtx_mk hts]
    have h1 := vtM_len (k := k) (s := s) (es := vtxs vs ts) hl1 hl2 (textOk_size ht).1 (by rw [vtxs_len (by omega)]; omega) (num_bound hl2 hn) (fun h => by subst h; exact (num_10 hn).2)
    have h2 := vtxs_lenS vs ts (fun y hy => hsh.2 y (hmem y hy)) hfs
    simp only [Va.nodes]
    omega
theorem vtxs_lenS : ∀ (vs : List Va) (ts : List Ty), (∀ y ∈ ts, Ty.all shape y = true) → fitVs vs ts = true → lenS (vtxs vs ts) ≤ 500 * Va.nodess vs
  | [], ts, _, _ => by rw [vtxs_nil]; simp [lenS]
  | v :: r, [], _, _ => by rw [vtxs]; simp [lenS]
  | v :: r, t :: q, hall, hf => by
    rw [fitVs_cons, Bool.and_eq_true] at hf
    have h1 := vtx_len v t (hall t (by simp)) hf.1
    have h2 := vtxs_lenS r q (fun y hy => hall y (by simp [hy])) hf.2
    rw [vtxs_cons]
    simp only [lenS, List.foldr_cons, Va.nodess] at h2 ⊢
    omega
end
def vtT (v : Va) (t : Ty) : ByteArray := ⟨(vtx v t).toArray⟩
theorem vtT_list (v : Va) (t : Ty) : (vtT v t).data.toList = vtx v t := by simp [vtT]
theorem vtT_size (v : Va) (t : Ty) : (vtT v t).size = (vtx v t).length := by simp [vtT, ByteArray.size]
end Go.Proofs.YtcpadaelgdmipaaGreatDoor
namespace Go.Proofs.YtcpadaelgdmipaaGreatDoor
open Go.RowKit Go.Shelf

def decT (n : Nat) : ByteArray := ⟨(Lib.decDigits n).toArray⟩
theorem decT_list (n : Nat) : (decT n).data.toList = Lib.decDigits n := by simp [decT]
theorem decT_size (n : Nat) (h : n ≤ 9223372036854775807) : (decT n).size ≤ 21 := by
  have := Lib.itoa_length_le (n : Int) (by omega) (by omega)
  rw [Lib.itoa_nonneg] at this
  simpa [decT, ByteArray.size] using this
theorem decT_small {n : Nat} (h : n < 10) : decT n = ⟨#[UInt8.ofNat (48 + n)]⟩ := by
  unfold decT
  rw [Lib.decDigits, dif_pos h]
theorem decT_big {n : Nat} (h : ¬ n < 10) : decT n = decT (n / 10) ++ ⟨#[UInt8.ofNat (48 + n % 10)]⟩ := by
  refine ByteArray.ext ?_
  unfold decT
  rw [Lib.decDigits, dif_neg h]
  simp
theorem byte_string (w : World) (g : Nat) (c : UInt8) (y : Int) (hy : (c.toNat : Int) = y) (h : w.heap[g]? = some (.cells #[.int .u8 y] 5 (0, 0))) :
    (convert 113 9 (.slice (some ⟨g, 0, none⟩) 1 1)).run Tryz.prog w = .ok (.string ⟨#[c]⟩) w := by
  subst hy
  exact own_string (w := w) (base := 0) (v := .slice (some ⟨g, 0, none⟩) 1 1) (n := 1) (l := [c]) ⟨by simp, .inr ⟨g, 1, #[.int .u8 (c.toNat : Int)], rfl, Nat.zero_le _, h, Nat.le_refl _, by decide, rfl, rfl⟩⟩
set_option maxHeartbeats 1000000 in
set_option maxRecDepth 20000 in
theorem l02Dec_s (n : Nat) (hn : n ≤ 9223372036854775807) (w : World) : Calls Tryz.prog 65 #[.int .i64 n] w fun e w' => e = .returned (.string (decT n)) ∧ Below w.heap.size w w' := by
  induction n using Nat.strongRecOn generalizing w with
  | ind n ih =>
    by_cases h : n < 10
    · have hi : (n : Int) < 10 := by omega
      have hcv := byte_string (w.alloc (.cells #[.int .u8 (48 + (n : Int))] 5)) w.heap.size (UInt8.ofNat (48 + n)) (48 + (n : Int)) (by simp; omega) (heap_alloc_new w _)
      have HD := Lib.hid (decT_small h)
      clear ih
      go_enter Tryz.func65, Tryz.ntmps65
      go_wp2
      go_ret
      exact ⟨ret_eq (by rw [HD.out]; simp), (Below.refl _ _).alloc (Nat.le_refl _) _⟩
    · have hi : ¬ (n : Int) < 10 := by omega
      have HD := Lib.hid (decT_big h)
      have hs := decT_size (n / 10) (by omega)
      have HI := Lib.hid (fun w => ih (n / 10) (by omega) (by omega) w)
      clear ih
      obtain ⟨D, hDd⟩ : ∃ D, decT (n / 10) = D := ⟨_, rfl⟩
      rw [hDd] at hs HD HI
      obtain ⟨a, ha⟩ : ∃ a : Nat, n / 10 = a := ⟨_, rfl⟩
      obtain ⟨b, hb⟩ : ∃ b : Nat, n % 10 = b := ⟨_, rfl⟩
      obtain ⟨c, hc⟩ : ∃ c : Nat, 48 + b = c := ⟨_, rfl⟩
      have hq1 : ¬ 9223372036854775807 < D.size + 1 := by omega
      have hw1 : IntKind.i64.wrap ((n : Int) / 10) = (a : Int) := by rw [IntKind.wrap_i64]; omega
      have hw2 : (n : Int).tmod 10 = (b : Int) := by rw [Int.tmod_eq_emod_of_nonneg (by omega)]; omega
      have hw3 : IntKind.i64.wrap (48 + (b : Int)) = (c : Int) := by rw [IntKind.wrap_i64]; omega
      have hw4 : IntKind.u8.wrap (c : Int) = (c : Int) := by rw [IntKind.wrap_u8]; omega
      have hy : ((UInt8.ofNat c).toNat : Int) = (c : Int) := by
        have : c < 256 := by omega
        simp; omega
      rw [ha] at HI
      rw [hb, hc] at HD
      have HY := Lib.hid hy
      have hcv0 := byte_string (w.alloc (.cells #[.int .u8 (c : Int)] 5)).drew w.heap.size (UInt8.ofNat c) (c : Int) hy (heap_alloc_new w _)
      clear hDd ha hb hc hy h
      go_enter Tryz.func65, Tryz.ntmps65
      go_wp2_with fail
      go_region_with (go_at_call 65; ((refine (HI.out _).mono ?_); rintro e w1 ⟨rfl, hb1⟩; have hcv1 := byte_string (w1.alloc (.cells #[.int .u8 (c : Int)] 5)) w1.heap.size (UInt8.ofNat c) (c : Int) HY.out (heap_alloc_new w1 _); (first | have hcv2 := byte_string w1 w.heap.size (UInt8.ofNat c) (c : Int) HY.out ((hb1.block _ (by simp)).trans (heap_alloc_new w _)) | skip)))
      all_goals
        have B : Below w.heap.size w w1 := (by first | exact (Below.refl _ w).drew.trans hb1 | exact (((Below.refl _ w).alloc (Nat.le_refl _) _).drew).trans (hb1.mono (by simp)))
        have HB := Lib.hid B
        clear hcv1 hcv0 hb1 B
        go_wp2
        go_ret
        first | exact ⟨ret_eq (congrArg Value.string HD.out.symm), HB.out⟩ | exact ⟨ret_eq (congrArg Value.string HD.out.symm), HB.out.alloc HB.out.size _⟩
end Go.Proofs.YtcpadaelgdmipaaGreatDoor
namespace Go.Proofs.YtcpadaelgdmipaaGreatDoor
open Go.RowKit

theorem hexc_nat {n : Nat} (h : n < 16) : (hexc n).toNat = if n < 10 then 48 + n else 87 + n := by
  unfold hexc
  split <;> simp <;> omega
theorem l01Dig_s (n : Nat) (h : n < 16) (w : World) :
    Calls Tryz.prog 112 #[.int .u8 (n : Int)] w fun e w' => e = .returned (.int .u8 ((hexc n).toNat : Int)) ∧ w = w' := by
  have HX := Lib.hid (hexc_nat h)
  by_cases h1 : (n : Int) < 10
  all_goals
    go_enter Tryz.func112, Tryz.ntmps112
    go_wp2
    go_ret
    refine ⟨ret_eq ?_, rfl⟩
    show Value.int _ _ = _
    congr 1
    rw [HX.out]
    split <;> omega
def hexB (n : Nat) : ByteArray := ⟨(hexT n).toArray⟩
theorem hexB_size {n : Nat} (h : n ≤ 1114111) : (hexB n).size ≤ 6 := by
  have := hexT_len 5 n (by omega)
  simpa [hexB, ByteArray.size] using this
theorem hexB_small {n : Nat} (h : n < 16) : hexB n = ⟨#[hexc n]⟩ := by unfold hexB; rw [hexT_small h]
theorem hexB_big {n : Nat} (h : ¬ n < 16) : hexB n = hexB (n / 16) ++ ⟨#[hexc (n % 16)]⟩ := by
  refine ByteArray.ext ?_
  unfold hexB
  rw [hexT_big h]
  simp
set_option maxHeartbeats 1000000 in
set_option maxRecDepth 20000 in
theorem l04Hex_s (n : Nat) (hn : n ≤ 1114111) (w : World) : Calls Tryz.prog 90 #[.int .i64 n] w fun e w' => e = .returned (.string (hexB n)) ∧ Below w.heap.size w w' := by
  induction n using Nat.strongRecOn generalizing w with
  | ind n ih =>
    by_cases h : n < 16
    · have hi : (n : Int) < 16 := by omega
      have hcv := byte_string (w.alloc (.cells #[.int .u8 ((hexc n).toNat : Int)] 5)) w.heap.size (hexc n) _ rfl (heap_alloc_new w _)
      have HD := Lib.hid (hexB_small h)
      have HC := Lib.hid (l01Dig_s n h w)
      have hw4 : IntKind.u8.wrap (n : Int) = (n : Int) := by rw [IntKind.wrap_u8]; omega
      obtain ⟨C, hC⟩ : ∃ C, hexc n = C := ⟨_, rfl⟩
      rw [hC] at hcv HD HC
      clear ih hC
      go_enter Tryz.func90, Tryz.ntmps90
      go_wp2_with fail
      refine HC.out.mono ?_
      rintro e w1 ⟨rfl, rfl⟩
      go_wp2
      go_ret
      exact ⟨ret_eq (by rw [HD.out]; rfl), (Below.refl _ _).alloc (Nat.le_refl _) _⟩
    · have hi : ¬ (n : Int) < 16 := by omega
      have HD := Lib.hid (hexB_big h)
      have hs := hexB_size (n := n / 16) (by omega)
      have HI := Lib.hid (fun w => ih (n / 16) (by omega) (by omega) w)
      clear ih
      obtain ⟨D, hDd⟩ : ∃ D, hexB (n / 16) = D := ⟨_, rfl⟩
      rw [hDd] at hs HD HI
      obtain ⟨a, ha⟩ : ∃ a : Nat, n / 16 = a := ⟨_, rfl⟩
      obtain ⟨b, hb⟩ : ∃ b : Nat, n % 16 = b := ⟨_, rfl⟩
      have hb16 : b < 16 := by omega
      have HC := Lib.hid (fun w => l01Dig_s b hb16 w)
      obtain ⟨C, hC⟩ : ∃ C, hexc b = C := ⟨_, rfl⟩
      have hq1 : ¬ 9223372036854775807 < D.size + 1 := by omega
      have hw1 : IntKind.i64.wrap ((n : Int) / 16) = (a : Int) := by rw [IntKind.wrap_i64]; omega
      have hw2 : (n : Int).tmod 16 = (b : Int) := by rw [Int.tmod_eq_emod_of_nonneg (by omega)]; omega
      have hw4 : IntKind.u8.wrap (b : Int) = (b : Int) := by rw [IntKind.wrap_u8]; omega
      rw [ha] at HI
      rw [hb, hC] at HD
      rw [hC] at HC
      clear hDd ha hb hC h
      go_enter Tryz.func90, Tryz.ntmps90
      go_wp2_with fail
      refine (HI.out _).mono ?_
      rintro e w1 ⟨rfl, hb1⟩
      go_wp2_with fail
      refine (HC.out _).mono ?_
      rintro e w2 ⟨rfl, rfl⟩
      have hcv := byte_string (w1.alloc (.cells #[.int .u8 (C.toNat : Int)] 5)) w1.heap.size C _ rfl (heap_alloc_new w1 _)
      have HB := Lib.hid hb1
      clear hb1
      go_wp2
      go_ret
      exact ⟨ret_eq (by rw [HD.out]; rfl), HB.out.alloc HB.out.size _⟩
def escB (q : Nat) (c : Int) : ByteArray := ⟨(escT q c).toArray⟩
theorem ints_cell {w : World} {S : Nat → Prop} {ns : List Int} {A : Option Addr} {c : Nat} (h : D.At w S (rows intD 1 ns) (.slice A ns.length c)) (q : Nat) (x : Int) (hx : ns[q]? = some x) :
    ∃ b off, A = some ⟨b, off, none⟩ ∧ b < w.heap.size ∧ w.cell? ⟨b, off + q, none⟩ = some (.int .i64 x) := by
  obtain ⟨b, off, e, -, hbl, -, c0⟩ := int_row h hx
  exact ⟨b, off, e, hbl, c0⟩
set_option maxHeartbeats 2000000 in
set_option maxRecDepth 20000 in
theorem l04Quote_s (ps : List Int) (q : Nat) (A : Option Addr) (cap : Nat) (w : World) (hq : q = 34 ∨ q = 39) (hl : ps.length ≤ 24) (hp : ∀ c ∈ ps, 0 ≤ c ∧ c ≤ 1114111) (hv : D.At w anyB (rows intD 1 ps) (.slice A ps.length cap)) :
    Calls Tryz.prog 58 #[.slice A ps.length cap, .int .u8 (q : Int)] w fun e w' => e = .returned (.string ⟨(quoT q ps).toArray⟩) ∧ Below w.heap.size w w' := by
  have HV := Lib.hid hv
  have HP := Lib.hid hp
  obtain ⟨-, hnn, hcc⟩ := rows_bound hv
  unfold maxLen at hcc
  clear hv hp
  have hy : ((UInt8.ofNat q).toNat : Int) = (q : Int) := by rcases hq with rfl | rfl <;> rfl
  have HY := Lib.hid hy
  have hcv := byte_string (w.alloc (.cells #[.int .u8 (q : Int)] 5)) w.heap.size (UInt8.ofNat q) (q : Int) hy (heap_alloc_new w _)
  have HQ := Lib.hid hq
  have hw0 : IntKind.i64.wrap (q : Int) = (q : Int) := by rcases hq with rfl | rfl <;> rfl
  clear hq hy
  obtain ⟨Q, hQ⟩ : ∃ Q, UInt8.ofNat q = Q := ⟨_, rfl⟩
  rw [hQ] at hcv HY
  have HQQ := Lib.hid hQ
  clear hQ
  go_enter Tryz.func58, Tryz.ntmps58
  go_wp2
  clear hcv
  go_loopw [5, 6] (fun s i wr => ∃ (k : Nat) (T : ByteArray), k ≤ ps.length ∧ i = .int .i64 k ∧ s = .string T ∧ T.data.toList = Q :: escs q (ps.take k) ∧ Below w.heap.size w wr) (fun _ i _ => ps.length - (intOf i).toNat)
  case atStart => exact ⟨0, _, Nat.zero_le _, rfl, rfl, by simp [escs], (Below.refl _ _).alloc (Nat.le_refl _) _⟩
  case round =>
    obtain ⟨k, T, hk, rfl, rfl, hT, hb⟩ := hrel
    have hTs : T.size ≤ 241 := by
      have h1 := escs_len q (ps.take k) (fun c hc => (HP.out c (List.mem_of_mem_take hc)).2)
      rw [ba_size, hT, List.length_cons]
      rw [List.length_take] at h1
      omega
    have HT := Lib.hid hT
    clear hT
    by_cases hlt : k < ps.length
    · obtain ⟨x, hx⟩ : ∃ x, ps[k]? = some x := ⟨ps[k], List.getElem?_eq_getElem hlt⟩
      have hk0 : (0 : Int) ≤ (k : Int) := by omega
      have hk1 : (k : Int) < (ps.length : Int) := by omega
      obtain ⟨hx0, hx1⟩ := HP.out x (List.mem_of_getElem? hx)
      obtain ⟨b, off, rfl, hbl, c0⟩ := ints_cell (HV.out.below hb) k x hx
      obtain ⟨X, rfl⟩ : ∃ X : Nat, x = (X : Int) := ⟨x.toNat, by omega⟩
      have HN := Lib.hid (show ∀ T' : ByteArray, T'.data.toList = T.data.toList ++ escT q (X : Int) → T'.data.toList = Q :: escs q (ps.take (k + 1)) from fun T' h => by
        rw [h, HT.out, List.take_add_one, hx, Option.toList_some, escs_snoc]; rfl)
      have hXX : X ≤ 1114111 := by omega
      clear hx hx0 hx1
      by_cases g1 : (32 : Int) ≤ (X : Int)
      · by_cases g2 : (X : Int) ≤ 126
        · by_cases g3 : (X : Int) = (q : Int)
          · have h3 : ((X : Int) != (q : Int)) = false := by simp [g3]
            have HE := Lib.hid (show escT q (X : Int) = 92 :: 117 :: 123 :: (hexT X ++ [125]) by unfold escT; rw [if_neg (by omega)]; rfl)
            have HX := Lib.hid (l04Hex_s X hXX)
            have hs6 := hexB_size hXX
            obtain ⟨H, hH⟩ : ∃ H, hexB X = H := ⟨_, rfl⟩
            rw [hH] at HX hs6
            have HH := Lib.hid (show H.data.toList = hexT X by rw [← hH, hexB])
            clear hH g3
            go_wp2_with fail
            refine (HX.out _).mono ?_
            rintro e w1 ⟨rfl, hb1⟩
            have HB := Lib.hid (hb.trans (hb1.mono hb.size))
            clear hb1 c0
            go_wp2
            go_roundw
            case rel => exact ⟨k + 1, _, by omega, by go_num, rfl, HN.out _ (by rw [HE.out]; simp [HH.out]), HB.out⟩
            case measure => simp [intOf]; omega
          · have h3 : ((X : Int) != (q : Int)) = true := by simpa using g3
            by_cases g4 : (X : Int) = 92
            · have h4 : ((X : Int) != 92) = false := by simp [g4]
              have HE := Lib.hid (show escT q (X : Int) = 92 :: 117 :: 123 :: (hexT X ++ [125]) by unfold escT; rw [if_neg (by omega)]; rfl)
              have HX := Lib.hid (l04Hex_s X hXX)
              have hs6 := hexB_size hXX
              obtain ⟨H, hH⟩ : ∃ H, hexB X = H := ⟨_, rfl⟩
              rw [hH] at HX hs6
              have HH := Lib.hid (show H.data.toList = hexT X by rw [← hH, hexB])
              clear hH g3 g4
              go_wp2_with fail
              refine (HX.out _).mono ?_
              rintro e w1 ⟨rfl, hb1⟩
              have HB := Lib.hid (hb.trans (hb1.mono hb.size))
              clear hb1 c0
              go_wp2
              go_roundw
              case rel => exact ⟨k + 1, _, by omega, by go_num, rfl, HN.out _ (by rw [HE.out]; simp [HH.out]), HB.out⟩
              case measure => simp [intOf]; omega
            · have h4 : ((X : Int) != 92) = true := by simpa using g4
              have HE := Lib.hid (show escT q (X : Int) = [UInt8.ofNat X] by unfold escT; rw [if_pos ⟨g1, g2, g3, g4⟩]; rfl)
              have hw4 : IntKind.u8.wrap (X : Int) = (X : Int) := by rw [IntKind.wrap_u8]; omega
              have hcx := byte_string (wr.alloc (.cells #[.int .u8 (X : Int)] 5)) wr.heap.size (UInt8.ofNat X) (X : Int) (by simp; omega) (heap_alloc_new wr _)
              obtain ⟨C, hC⟩ : ∃ C, UInt8.ofNat X = C := ⟨_, rfl⟩
              rw [hC] at HE hcx
              have HB := Lib.hid hb
              clear g3 g4 hC hb
              go_wp2
              go_roundw
              case rel => exact ⟨k + 1, _, by omega, by go_num, rfl, HN.out _ (by rw [HE.out]; simp), HB.out.alloc HB.out.size _⟩
              case measure => simp [intOf]; omega
        · have HE := Lib.hid (show escT q (X : Int) = 92 :: 117 :: 123 :: (hexT X ++ [125]) by unfold escT; rw [if_neg (by omega)]; rfl)
          have HX := Lib.hid (l04Hex_s X hXX)
          have hs6 := hexB_size hXX
          obtain ⟨H, hH⟩ : ∃ H, hexB X = H := ⟨_, rfl⟩
          rw [hH] at HX hs6
          have HH := Lib.hid (show H.data.toList = hexT X by rw [← hH, hexB])
          clear hH
          go_wp2_with fail
          refine (HX.out _).mono ?_
          rintro e w1 ⟨rfl, hb1⟩
          have HB := Lib.hid (hb.trans (hb1.mono hb.size))
          clear hb1 c0
          go_wp2
          go_roundw
          case rel => exact ⟨k + 1, _, by omega, by go_num, rfl, HN.out _ (by rw [HE.out]; simp [HH.out]), HB.out⟩
          case measure => simp [intOf]; omega
      · have HE := Lib.hid (show escT q (X : Int) = 92 :: 117 :: 123 :: (hexT X ++ [125]) by unfold escT; rw [if_neg (by omega)]; rfl)
        have HX := Lib.hid (l04Hex_s X hXX)
        have hs6 := hexB_size hXX
        obtain ⟨H, hH⟩ : ∃ H, hexB X = H := ⟨_, rfl⟩
        rw [hH] at HX hs6
        have HH := Lib.hid (show H.data.toList = hexT X by rw [← hH, hexB])
        clear hH
        go_wp2_with fail
        refine (HX.out _).mono ?_
        rintro e w1 ⟨rfl, hb1⟩
        have HB := Lib.hid (hb.trans (hb1.mono hb.size))
        clear hb1 c0
        go_wp2
        go_roundw
        case rel => exact ⟨k + 1, _, by omega, by go_num, rfl, HN.out _ (by rw [HE.out]; simp [HH.out]), HB.out⟩
        case measure => simp [intOf]; omega
    · obtain rfl : k = ps.length := by omega
      have hcx := byte_string (wr.alloc (.cells #[.int .u8 (q : Int)] 5)) wr.heap.size Q (q : Int) HY.out (heap_alloc_new wr _)
      have HB := Lib.hid hb
      clear hb
      go_wp2
      go_ret
      refine ⟨ret_eq (congrArg Value.string (ba_of ?_)), HB.out.alloc HB.out.size _⟩
      rw [quoT, HQQ.out]
      have h := HT.out
      rw [List.take_length] at h
      simp [h]
end Go.Proofs.YtcpadaelgdmipaaGreatDoor
namespace Go.Proofs.YtcpadaelgdmipaaGreatDoor
open Go.RowKit

def numT (n : Int) : ByteArray := ⟨(Lib.itoa n).toArray⟩
theorem numT_nat (n : Nat) : numT (n : Int) = decT n := by unfold numT decT; rw [Lib.itoa_nonneg]
theorem numT_neg1 {u : Nat} (h1 : 1 ≤ u) : numT (-(u : Int)) = ⟨#[45]⟩ ++ decT u := by
  refine ByteArray.ext ?_
  unfold numT decT
  rw [Lib.itoa_neg u h1]
  simp
theorem numT_neg2 {u : Nat} (h : ¬ u < 10) : numT (-(u : Int)) = ⟨#[45]⟩ ++ decT (u / 10) ++ decT (u % 10) := by
  refine ByteArray.ext ?_
  have e1 : Lib.decDigits u = Lib.decDigits (u / 10) ++ [UInt8.ofNat (48 + u % 10)] := by rw [Lib.decDigits, dif_neg h]
  have e2 : Lib.decDigits (u % 10) = [UInt8.ofNat (48 + u % 10)] := by rw [Lib.decDigits, dif_pos (by omega)]
  unfold numT decT
  rw [Lib.itoa_neg u (by omega), e1, e2]
  simp
theorem numT_size {n : Int} (h : -9223372036854775808 ≤ n ∧ n ≤ 9223372036854775807) : (numT n).size ≤ 21 := by
  have := Lib.itoa_length_le n h.1 h.2
  simpa [numT, ByteArray.size] using this
set_option maxHeartbeats 1000000 in
set_option maxRecDepth 20000 in
theorem l04Dec_s (n : Int) (hn : -9223372036854775808 ≤ n ∧ n ≤ 9223372036854775807) (w : World) : Calls Tryz.prog 66 #[.int .i64 n] w fun e w' => e = .returned (.string (numT n)) ∧ Below w.heap.size w w' := by
  by_cases h0 : 0 ≤ n
  · obtain ⟨u, rfl⟩ : ∃ u : Nat, n = (u : Int) := ⟨n.toNat, by omega⟩
    have HC := Lib.hid (l02Dec_s u (by omega) w)
    have HN := Lib.hid (numT_nat u)
    obtain ⟨R, hR⟩ : ∃ R, decT u = R := ⟨_, rfl⟩
    rw [hR] at HC HN
    clear hR
    go_enter Tryz.func66, Tryz.ntmps66
    go_wp2_with fail
    refine HC.out.mono ?_
    rintro e w1 ⟨rfl, hb1⟩
    go_wp2
    go_ret
    exact ⟨ret_eq (by rw [HN.out]; rfl), hb1⟩
  · obtain ⟨u, rfl⟩ : ∃ u : Nat, n = -(u : Int) := ⟨n.natAbs, by omega⟩
    have hu1 : 1 ≤ u := by omega
    by_cases h9 : u < 10
    · have HC := Lib.hid (fun w => l02Dec_s u (by omega) w)
      have HN := Lib.hid (numT_neg1 hu1)
      obtain ⟨R, hR⟩ : ∃ R, decT u = R := ⟨_, rfl⟩
      have hs : R.size ≤ 21 := by rw [← hR]; exact decT_size u (by omega)
      rw [hR] at HN
      simp only [hR] at HC
      clear hR
      have g1 : ¬ (0 : Int) ≤ -(u : Int) := by omega
      have g2 : ¬ -(u : Int) < -9 := by omega
      have hw1 : (-(u : Int)).tmod 10 = -(u : Int) := by rw [Int.neg_tmod, Int.tmod_eq_emod_of_nonneg (by omega)]; omega
      have hw2 : IntKind.i64.wrap (u : Int) = (u : Int) := by rw [IntKind.wrap_i64]; omega
      clear h0
      go_enter Tryz.func66, Tryz.ntmps66
      go_wp2_with fail
      refine (HC.out _).mono ?_
      rintro e w1 ⟨rfl, hb1⟩
      go_wp2
      go_ret
      exact ⟨ret_eq (by rw [HN.out]; rfl), hb1⟩
    · have HC := Lib.hid (fun (k : Nat) (h : k ≤ 922337203685477580) w => l02Dec_s k (by omega) w)
      have HN := Lib.hid (numT_neg2 h9)
      obtain ⟨a, ha⟩ : ∃ a : Nat, u / 10 = a := ⟨_, rfl⟩
      obtain ⟨b, hb⟩ : ∃ b : Nat, u % 10 = b := ⟨_, rfl⟩
      rw [ha, hb] at HN
      have HA := Lib.hid (fun w => HC.out a (by omega) w)
      have HB := Lib.hid (fun w => HC.out b (by omega) w)
      obtain ⟨R, hR⟩ : ∃ R, decT a = R := ⟨_, rfl⟩
      obtain ⟨T, hT⟩ : ∃ T, decT b = T := ⟨_, rfl⟩
      have hs : R.size ≤ 21 := by rw [← hR]; exact decT_size a (by omega)
      have hs2 : T.size ≤ 21 := by rw [← hT]; exact decT_size b (by omega)
      rw [hR, hT] at HN
      simp only [hR] at HA
      simp only [hT] at HB
      clear hR hT HC
      have g1 : ¬ (0 : Int) ≤ -(u : Int) := by omega
      have g2 : -(u : Int) < -9 := by omega
      have hw0 : (-(u : Int)).tdiv 10 = -(a : Int) := by rw [Int.neg_tdiv, Int.tdiv_eq_ediv_of_nonneg (by omega)]; omega
      have hw1 : (-(u : Int)).tmod 10 = -(b : Int) := by rw [Int.neg_tmod, Int.tmod_eq_emod_of_nonneg (by omega)]; omega
      have hw2 : IntKind.i64.wrap (a : Int) = (a : Int) := by rw [IntKind.wrap_i64]; omega
      have hw3 : IntKind.i64.wrap (b : Int) = (b : Int) := by rw [IntKind.wrap_i64]; omega
      have hw4 : IntKind.i64.wrap (-(a : Int)) = -(a : Int) := by rw [IntKind.wrap_i64]; omega
      have hw5 : IntKind.i64.wrap (-(b : Int)) = -(b : Int) := by rw [IntKind.wrap_i64]; omega
      clear h0 ha hb h9
      go_enter Tryz.func66, Tryz.ntmps66
      go_wp2_with fail
      refine (HA.out _).mono ?_
      rintro e w1 ⟨rfl, hb1⟩
      go_wp2_with fail
      refine (HB.out _).mono ?_
      rintro e w2 ⟨rfl, hb2⟩
      have HBB := Lib.hid (hb1.trans (hb2.mono hb1.size))
      clear hb1 hb2
      go_wp2
      go_ret
      exact ⟨ret_eq (by rw [HN.out]; try rfl), HBB.out⟩
def wordsRow : List Value := kwords.map Value.string
theorem l03Words_s (w : World) : Calls Tryz.prog 64 #[] w fun e w' => e = .returned (.slice (some ⟨w.heap.size, 0, none⟩) 24 24) ∧ w' = w.alloc (.cells wordsRow.toArray 9) := by
  go_enter Tryz.func64, Tryz.ntmps64
  go_wp2
  go_ret
  exact ⟨rfl, rfl⟩
theorem words_cell {w : World} {k : Nat} (h : k < 24) : (w.alloc (.cells wordsRow.toArray 9)).cell? ⟨w.heap.size, k, none⟩ = some (.string (kword k)) := by
  rw [cell_of_row _ _ _ _ _ _ (heap_alloc_new w _)]
  have := kword_at (k := (k : Int)) (by omega)
  rw [Int.toNat_natCast] at this
  simp [wordsRow, this]
theorem words_c (F : FuncId) (hF : ∀ w, Calls Tryz.prog F #[] w fun e w' => e = .returned (.slice (some ⟨w.heap.size, 0, none⟩) 24 24) ∧ w' = w.alloc (.cells wordsRow.toArray 9)) (w : World) :
    Calls Tryz.prog F #[] w fun e w' => ∃ g, g < w'.heap.size ∧ e = .returned (.slice (some ⟨g, 0, none⟩) 24 24) ∧ (∀ k, k < 24 → w'.cell? ⟨g, k, none⟩ = some (.string (kword k))) ∧ Below w.heap.size w w' := by
  refine (hF w).mono ?_
  rintro e w' ⟨rfl, rfl⟩
  exact ⟨w.heap.size, by simp, rfl, fun k hk => words_cell hk, (Below.refl _ _).alloc (Nat.le_refl _) _⟩
/-- A function writes the text of a value that fits. -/
def TxAt (F : FuncId) (C : World → Prop) (v : Va) (t : Ty) : Prop := ∀ (cs cs' : List Value) (w : World), C w → D.Ats w anyB v.ds cs → D.Ats w anyB t.ds cs' →
  Calls Tryz.prog F #[.agg cs.toArray, .agg cs'.toArray] w fun e w' => e = .returned (.string (vtT v t)) ∧ Below w.heap.size w w'
def namedT (word : ByteArray) (es : List (List UInt8)) : List UInt8 := word.data.toList ++ (match es with | [] => [] | e :: _ => 40 :: (e ++ [41]))
set_option maxHeartbeats 2000000 in
set_option maxRecDepth 20000 in
theorem l04Named_s (word : ByteArray) (vs : List Va) (t : Ty) (ih : ∀ x ∈ vs, TxAt 44 anyW x t) (hw : word.size ≤ 12) (hs : ∀ x ∈ vs, (vtT x t).size ≤ 1000000000) (A : Option Addr) (c : Nat) (cs' : List Value) (w : World)
    (hvs : D.At w anyB (rows Va.ds 4 vs) (.slice A vs.length c)) (hcs' : D.Ats w anyB t.ds cs') :
    Calls Tryz.prog 61 #[.string word, .slice A vs.length c, .agg cs'.toArray] w fun e w' => e = .returned (.string ⟨(namedT word (vs.map fun x => vtx x t)).toArray⟩) ∧ Below w.heap.size w w' := by
  obtain ⟨g0, g1, g2, g3, g4, g5, g6, g7, rfl⟩ := Ty.form hcs'
  obtain ⟨-, hvn, hvc⟩ := rows_bound hvs
  unfold maxLen at hvc
  obtain ⟨w0, hw0⟩ : ∃ w0, w0 = w.alloc (.cells #[.int .i64 g0, .string g1, .slice g2 g3 g4, .slice g5 g6 g7] 40) := ⟨_, rfl⟩
  have B0 : Below w.heap.size w w0 := by rw [hw0]; exact (Below.refl _ _).alloc (Nat.le_refl _) _
  have bT : Box w0 w.heap.size 40 [.int .i64 g0, .string g1, .slice g2 g3 g4, .slice g5 g6 g7] := by rw [hw0]; exact Box.new w _ _
  change Calls Tryz.prog 61 #[.string word, .slice A vs.length c, .agg #[.int .i64 g0, .string g1, .slice g2 g3 g4, .slice g5 g6 g7]] w _
  cases vs with
  | nil =>
    have HB0 := Lib.hid B0
    clear ih hvs hcs' bT B0 hs
    go_enter Tryz.func61, Tryz.ntmps61
    go_upto_region 1 with fail
    rw [← hw0]
    clear hw0
    go_wp2
    go_ret
    exact ⟨ret_eq (by simp [namedT]), HB0.out⟩
  | cons x r =>
    have g1' : (((x :: r).length : Int) == 0) = false := beq_eq_false_iff_ne.2 (by first | (simp; done) | (simp; omega))
    have i1 : (0 : Int) < ((x :: r).length : Int) := by first | (simp; done) | (simp; omega)
    obtain ⟨b, off, u0, u1, u2, u3, e, -, hbl, hat, d0, d1, d2, d3⟩ := rows_at4 Va.len hvs (i := 0) (x := x) rfl
    subst e
    obtain ⟨f0, f1, f2, f3, f4, f5, exx⟩ := Va.form hat
    simp only [List.cons.injEq, and_true] at exx
    obtain ⟨rfl, rfl, rfl, rfl⟩ := exx
    have HXY := Lib.hid (fun W (h : Below w0.heap.size w0 W) => ih x (by simp) _ _ W trivial ((hat.below B0).below h) ((hcs'.below B0).below h))
    have hsx := hs x (by simp)
    obtain ⟨Y, hY⟩ : ∃ Y, vtT x t = Y := ⟨_, rfl⟩
    rw [hY] at hsx
    simp only [hY] at HXY
    have HY := Lib.hid (show Y.data.toList = vtx x t by rw [← hY, vtT_list])
    have HB0 := Lib.hid B0
    simp only [Nat.zero_mul, Nat.add_zero] at d0 d1 d2 d3
    replace d0 := cell_regrown ((B0.cell (p := ⟨b, off, none⟩) hbl).trans d0)
    replace d1 := cell_regrown ((B0.cell (p := ⟨b, off + 1, none⟩) hbl).trans d1)
    replace d2 := cell_regrown ((B0.cell (p := ⟨b, off + 2, none⟩) hbl).trans d2)
    replace d3 := cell_regrown ((B0.cell (p := ⟨b, off + 3, none⟩) hbl).trans d3)
    have kT := bT.cell
    have x0 := cell_regrown (show w0.cell? ⟨w.heap.size, 0, none⟩ = some (.int .i64 g0) from bT.cell 0)
    have x1 := cell_regrown (show w0.cell? ⟨w.heap.size, 1, none⟩ = some (.string g1) from bT.cell 1)
    have x2 := cell_regrown (show w0.cell? ⟨w.heap.size, 2, none⟩ = some (.slice g2 g3 g4) from bT.cell 2)
    have x3 := cell_regrown (show w0.cell? ⟨w.heap.size, 3, none⟩ = some (.slice g5 g6 g7) from bT.cell 3)
    obtain ⟨L, hL⟩ : ∃ L, (x :: r).length = L := ⟨_, rfl⟩
    rw [hL] at g1' i1 hvn ⊢
    have hc1 : ¬ 9223372036854775807 < word.size + 1 := by omega
    have hc2 : ¬ 9223372036854775807 < word.size + 1 + Y.size := by omega
    have hc3 : ¬ 9223372036854775807 < word.size + 1 + Y.size + 1 := by omega
    clear ih hvs hcs' B0 hat bT hY hs hL
    go_enter Tryz.func61, Tryz.ntmps61
    go_upto_region 1 with fail
    rw [← hw0]
    clear hw0
    go_upto_region 3 with fail
    refine wp_region_quiet_below (by kernel_rfl) (by kernel_rfl) ?_
    repeat (first | go_big_quiet_step (with_reducible exact Calls.regrown_of (HXY.out _ (below_regrown _ _ _))) | quiet_step (with_reducible exact Calls.regrown_of (HXY.out _ (below_regrown _ _ _))))
    refine wpQuiet_nil ?_
    intro w6 hw6
    have HB6 := Lib.hid (HB0.out.trans ((below_of_regrown hw6).mono HB0.out.size))
    clear hw6 d0 d1 d2 d3 x0 x1 x2 x3 kT
    go_wp2
    go_ret
    refine ⟨ret_eq (congrArg Value.string (ba_of ?_)), HB6.out⟩
    simp [namedT, HY.out]
end Go.Proofs.YtcpadaelgdmipaaGreatDoor
namespace Go.Proofs.YtcpadaelgdmipaaGreatDoor
open Go.RowKit

/-- The table of the lowest bits. -/
def tzTab : List Int := [0, 1, 56, 2, 57, 49, 28, 3, 61, 58, 42, 50, 38, 29, 17, 4, 62, 47, 59, 36, 45, 43, 51, 22, 53, 39, 33, 30, 24, 18, 12, 5, 63, 55, 48, 27, 60, 41, 37, 16, 46, 35, 44, 21, 52, 32, 23, 11, 54, 26, 40, 15, 34, 20, 31, 10, 25, 14, 19, 9, 13, 8, 7, 6]
def TzW (w : World) : Prop := Lib.TabIs Tryz.prog w "math/bits.deBruijn64tab" .u8 tzTab
theorem TzW.cell {w : World} (h : TzW w) : w.cell? ⟨5, 15, none⟩ = some (.int .u8 4) := Lib.TabIs.cell (g := 5) h (by kernel_rfl) 15 (by decide)
set_option maxRecDepth 100000 in
theorem tz64_16 (w : World) (h : TzW w) : Calls Tryz.prog 153 #[.int .u64 16] w fun e w' => e = .returned (.int .i64 4) ∧ w = w' := by
  have hc := h.cell
  have h1 : IntKind.u64.wrap (-16) = 18446744073709551600 := by decide
  have h2 : bits .and .u64 16 18446744073709551600 = 16 := by decide
  clear h
  go_enter Tryz.func153, Tryz.ntmps153
  go_wp2
  go_ret
  exact ⟨rfl, rfl⟩
theorem tz_16 (w : World) (h : TzW w) : Calls Tryz.prog 148 #[.int .u64 16] w fun e w' => e = .returned (.int .i64 4) ∧ w = w' := by
  have HC := Lib.hid (tz64_16 w h)
  clear h
  go_enter Tryz.func148, Tryz.ntmps148
  go_wp2_with fail
  refine HC.out.mono ?_
  rintro e w1 ⟨rfl, rfl⟩
  go_wp2
  go_ret
  exact ⟨rfl, rfl⟩
theorem pow2_16 (w : World) : Calls Tryz.prog 147 #[.int .i64 16] w fun e w' => e = .returned (.bool true) ∧ w = w' := by
  have h2 : bits .and .i64 16 15 = 0 := by decide
  go_enter Tryz.func147, Tryz.ntmps147
  go_wp2
  go_ret
  exact ⟨rfl, rfl⟩
end Go.Proofs.YtcpadaelgdmipaaGreatDoor
namespace Go.Proofs.YtcpadaelgdmipaaGreatDoor
open Go.RowKit

theorem dig36_at : ∀ (n : Nat) (h : n < (ByteArray.mk #[48, 49, 50, 51, 52, 53, 54, 55, 56, 57, 97, 98, 99, 100, 101, 102, 103, 104, 105, 106, 107, 108, 109, 110, 111, 112, 113, 114, 115, 116, 117, 118, 119, 120, 121, 122]).size), n < 16 → (((ByteArray.mk #[48, 49, 50, 51, 52, 53, 54, 55, 56, 57, 97, 98, 99, 100, 101, 102, 103, 104, 105, 106, 107, 108, 109, 110, 111, 112, 113, 114, 115, 116, 117, 118, 119, 120, 121, 122])[n]'h).toNat : Int) = ((hexc n).toNat : Int) := by
  intro n h h16
  have key : ∀ m : Fin 16, (((#[48, 49, 50, 51, 52, 53, 54, 55, 56, 57, 97, 98, 99, 100, 101, 102, 103, 104, 105, 106, 107, 108, 109, 110, 111, 112, 113, 114, 115, 116, 117, 118, 119, 120, 121, 122] : Array UInt8)[m.val]'(Nat.lt_of_lt_of_le m.isLt (by decide))).toNat : Int) = ((hexc m.val).toNat : Int) := by decide
  exact key ⟨n, h16⟩
theorem u64_and15 (u : Nat) (h : u ≤ 1114111) : bits .and .u64 (u : Int) 15 = ((u % 16 : Nat) : Int) := by
  have h := bits_and_u64_nat u 15 (by omega) (by omega)
  rw [show u &&& 15 = u % 16 from Nat.and_two_pow_sub_one_eq_mod u 4] at h
  exact h
theorem set_drop (cs : List Value) (r : Nat) (v : Value) (h : r < cs.length) : (cs.set r v).drop r = v :: cs.drop (r + 1) := by
  rw [List.drop_eq_getElem_cons (by simpa using h), List.getElem_set_self, List.drop_set_of_lt (by omega)]
theorem zero65 : (Tryz.zeroCells172).toList.length = 65 := by decide +kernel
theorem arr65 : Tryz.prog.arrayLen 172 = 65 := by kernel_rfl
set_option maxHeartbeats 4000000 in
set_option maxRecDepth 100000 in
theorem fmtBits_i (c : Nat) (hc : c ≤ 1114111) (w : World) (ht : TzW w) : Calls Tryz.prog 130 #[.slice none 0 0, .int .u64 (c : Int), .int .i64 16, .bool false, .bool false] w fun e w' => e = .returned (.tuple #[.slice none 0 0, .string ⟨(hexT c).toArray⟩]) ∧ Below w.heap.size w w' := by
  obtain ⟨g, hg⟩ : ∃ g, g = w.heap.size := ⟨_, rfl⟩
  obtain ⟨w0, hw0⟩ : ∃ w0, w0 = w.alloc (.cells Tryz.zeroCells172 172) := ⟨_, rfl⟩
  have bG : Box w0 g 172 (Tryz.zeroCells172).toList := by rw [hw0, hg]; exact Box.new w _ _
  have B0 : Below w.heap.size w w0 := by rw [hw0]; exact (Below.refl _ _).alloc (Nat.le_refl _) _
  have HTZ := Lib.hid (tz_16 w0 (Go.Joins.tab_stays (g := 5) (by kernel_rfl) ht B0 (Nat.le_refl _)))
  have HP2 := Lib.hid (pow2_16 w0)
  have HG := Lib.hid (And.intro bG (And.intro B0 hg))
  clear ht bG B0
  go_enter Tryz.func130, Tryz.ntmps130
  go_upto_region 4 with fail
  rw [← hw0, ← hg]
  clear hw0 hg
  go_wp2_with (first
    | (go_at_call 147; refine HP2.out.mono ?_; rintro e w1 ⟨rfl, rfl⟩)
    | (go_at_call 148; refine HTZ.out.mono ?_; rintro e w1 ⟨rfl, rfl⟩))
  clear HTZ HP2
  go_loopw [1, 13] (fun u i wr => ∃ (U p : Nat) (acc : List UInt8) (cs : List Value), u = .int .u64 (U : Int) ∧ i = .int .i64 (p : Int) ∧ p + acc.length = 65 ∧ U ≤ 1114111 ∧ hexT c = hexT U ++ acc ∧ cs.length = 65 ∧ cs.drop p = acc.map bv ∧ Box wr g 172 cs ∧ Below w.heap.size w wr) (fun u _ _ => (intOf u).toNat)
  case atStart => exact ⟨c, 65, [], _, rfl, rfl, rfl, hc, by simp, zero65, by rw [List.drop_of_length_le (by rw [zero65]; omega)]; rfl, HG.out.1, HG.out.2.1⟩
  case round =>
    obtain ⟨U, p, acc, cs, rfl, rfl, hp, hU, hT, hcs, hdr, bG, hb⟩ := hrel
    have hlen : (hexT U ++ acc).length ≤ 6 := by rw [← hT]; exact hexT_len 5 c (by omega)
    rw [List.length_append] at hlen
    have hgw : w.heap.size ≤ g := by rw [HG.out.2.2]; omega
    obtain ⟨r, rfl⟩ : ∃ r, p = r + 1 := ⟨p - 1, by omega⟩
    have hr : r < 65 := by omega
    have hr0 : (0 : Int) ≤ (r : Int) := by omega
    have hr1 : (r : Int) < 65 := by omega
    obtain ⟨x, hx⟩ : ∃ x, cs[r]? = some x := ⟨cs[r], List.getElem?_eq_getElem (by omega)⟩
    have c0 : wr.cell? ⟨g, r, none⟩ = some x := by rw [bG.cell]; simpa using hx
    have f0 := bG.frozen
    have l0 := bG.lt
    by_cases hlt : U < 16
    · have i0 : ¬ (16 : Int) ≤ (U : Int) := by omega
      have hT2 : hexT c = hexc U :: acc := by rw [hT, hexT_small hlt]; rfl
      obtain ⟨W, hW⟩ : ∃ W, W = wr.setCell ⟨g, r, none⟩ (.int .u8 ((hexc U).toNat : Int)) := ⟨_, rfl⟩
      have bW : Box W g 172 (cs.set r (.int .u8 ((hexc U).toNat : Int))) := by rw [hW]; exact bG.set r _
      have hdW : (cs.set r (.int .u8 ((hexc U).toNat : Int))).drop r = (hexT c).map bv := by rw [set_drop _ _ _ (by omega), hdr, hT2]; rfl
      have hlT : (hexT c).length = 65 - r := by rw [hT2, List.length_cons]; omega
      have hsl : ∀ W, (Instr.sliceAt 172 (.pointer (some ⟨g, 0, none⟩)) (some (.int .i64 (r : Int))) none none).run Tryz.prog W = .ok (.slice (some ⟨g, r, none⟩) (65 - r) (65 - r)) W := fun W => by
        rw [run_sliceAt_array_l W 172 ⟨g, 0, none⟩ (by simp [Program.arrayLen, Program.elem, Tryz.underlying172]) .i64 (r : Int) (by omega) (by rw [arr65]; omega), arr65]
        have hne : ¬ 65 = r := by omega
        go_simp
      have hcv : (convert 113 9 (.slice (some ⟨g, r, none⟩) (65 - r) (65 - r))).run Tryz.prog W = .ok (.string ⟨(hexT c).toArray⟩) W := by
        have h := run_convert_bytes_back (P := Tryz.prog) W 113 9 5 ⟨g, r, none⟩ (65 - r) (hexT c) Tryz.underlying113 Tryz.underlying5 Tryz.underlying9 (fun j hj => by
          rw [Addr.add_lit, bW.cell]
          have h1 : ((cs.set r (.int .u8 ((hexc U).toNat : Int))).drop r)[j]? = some (bv (hexT c)[j]) := by rw [hdW, List.getElem?_map, List.getElem?_eq_getElem hj]; rfl
          rw [List.getElem?_drop] at h1
          simpa [bv] using h1)
        rw [hlT] at h
        exact h
      have hdg := dig36_at U (by simp [ByteArray.size]; omega) hlt
      have i2 : (U : Int) < 36 := by omega
      have HC := Lib.hid (show Below w.heap.size w W by rw [hW]; exact hb.setCell hgw _)
      obtain ⟨R, hR⟩ : ∃ R, hexT c = R := ⟨_, rfl⟩
      rw [hR] at hcv
      have HR := Lib.hid hR
      clear hp hT hcs hdr bG hb hx hlen hT2 bW hdW hlT hR
      go_upto_region 25 with fail
      rw [← hW]
      clear hW c0 f0 l0
      go_wp2
      exact bodyPost_ret (v := .tuple #[.slice none 0 0, .string ⟨R.toArray⟩]) (by simp [results, Tryz.results130, go_sem]) rfl ⟨by rw [HR.out], HC.out⟩
    · have i0 : (16 : Int) ≤ (U : Int) := by omega
      have hand := u64_and15 U hU
      have HC := Lib.hid (And.intro hp (And.intro hT (And.intro hcs (And.intro hdr (And.intro bG hb)))))
      clear hp hT hcs hdr bG hb hx hlen
      obtain ⟨d, hd⟩ : ∃ d : Nat, U % 16 = d := ⟨_, rfl⟩
      have hd16 : d < 16 := by omega
      rw [hd] at hand
      have hdg := dig36_at d (by simp [ByteArray.size]; omega) hd16
      have HD := Lib.hid hd
      clear hd
      go_wp2
      go_roundw
      case rel =>
        refine ⟨U / 16, r, hexc d :: acc, cs.set r (.int .u8 ((hexc d).toNat : Int)), congrArg (Value.int .u64) (by omega), rfl, ?_, by omega, ?_, by simpa using HC.out.2.2.1, ?_, HC.out.2.2.2.2.1.set r _, HC.out.2.2.2.2.2.setCell hgw _⟩
        · have := HC.out.1; simp; omega
        · rw [HC.out.2.1, hexT_big hlt, HD.out, List.append_assoc]; rfl
        · rw [set_drop _ _ _ (by rw [HC.out.2.2.1]; omega), HC.out.2.2.2.1]; rfl
      case measure => simp [intOf]; omega
set_option maxRecDepth 100000 in
theorem fmtInt16_i (c : Nat) (hc : c ≤ 1114111) (w : World) (ht : TzW w) : Calls Tryz.prog 114 #[.int .i64 (c : Int), .int .i64 16] w fun e w' => e = .returned (.string ⟨(hexT c).toArray⟩) ∧ Below w.heap.size w w' := by
  have HC := Lib.hid (fmtBits_i c hc w ht)
  have i0 : ¬ (c : Int) < 0 := by omega
  have hw : IntKind.u64.wrap (c : Int) = (c : Int) := by rw [IntKind.wrap_u64]; omega
  clear ht
  go_enter Tryz.func114, Tryz.ntmps114
  go_wp2_with fail
  refine HC.out.mono ?_
  rintro e w1 ⟨rfl, hb1⟩
  go_wp2
  go_ret
  exact ⟨rfl, hb1⟩
theorem fmt16_i (c : Nat) (hc : c ≤ 1114111) (w : World) (ht : TzW w) : Calls Tryz.prog 92 #[.int .i64 (c : Int), .int .i64 16] w fun e w' => e = .returned (.string ⟨(hexT c).toArray⟩) ∧ Below w.heap.size w w' := by
  have HC := Lib.hid (fmtInt16_i c hc w ht)
  clear ht
  go_enter Tryz.func92, Tryz.ntmps92
  go_wp2_with fail
  refine HC.out.mono ?_
  rintro e w1 ⟨rfl, hb1⟩
  go_wp2
  go_ret
  exact ⟨rfl, hb1⟩
end Go.Proofs.YtcpadaelgdmipaaGreatDoor
namespace Go.Proofs.YtcpadaelgdmipaaGreatDoor
open Go.RowKit Go.Shelf

theorem info_str'' : (Tryz.prog.info? 9).map (fun i => (i.zero, i.size, i.bytes)) = some (some (.string ⟨#[]⟩), 1, 16) := by kernel_rfl
/-- Append of one text, just laid in a block of its own, to a row of texts that the call owns. -/
theorem wpList_str {w1 : World} {ops : Array Oper} {rest : List Oper} {o : Oper} {a : Act} {Q : Exit → Act → World → Prop} {base : Nat} {v : Value} {n : Nat} {l : List ByteArray} {fz : Nat × Nat}
    (hown : w1.ownsRow base 9 1 v n (l.map Value.string)) (c : ByteArray) (s x : Operand)
    (hn : n + 1 ≤ 8796093022208) (hbase : base ≤ w1.heap.size) (g : Nat) (hg : w1.heap.size = g)
    (h : ∀ v' w', w'.ownsRow base 9 1 v' (n + 1) ((l ++ [c]).map Value.string) → Below base w1 w' → wpList Tryz.prog ops Q rest (a.put o.dst v') w')
    (hgd : o.guard = none := by exact rfl) (ho : o.op = .call { callee := .builtin .append, args := #[s, x], argTypes := #[25, 25] } := by exact rfl)
    (hs : a.eval s = v := by exact rfl) (hx : a.eval x = .slice (some ⟨g, 0, none⟩) 1 1 := by exact rfl) :
    wpList Tryz.prog ops Q (o :: rest) a (w1.alloc (.cells #[.string c] 9 fz)) := by
  subst hg
  obtain ⟨i0, hi, hz0, hz1, hz2⟩ := info_parts info_str''
  refine wpList_append_own _ hgd s x 25 ho base 9 i0 (.string ⟨#[]⟩) 1 16 Tryz.underlying25 hi hz0 hz1 hz2 rfl (by decide) v n (l.map Value.string) hs (hown.alloc _)
    ⟨w1.heap.size, 0, none⟩ 1 1 [.string c] hx rfl ?_ ?_ (by simp only [maxLen]; omega) (by omega) (by simp; omega) ?_
  · intro j u hj
    match j, hj with
    | 0, hj =>
      simp at hj
      subst hj
      rw [Addr.add_lit, cell_of_row _ _ _ _ _ _ (heap_alloc_new w1 _)]
      rfl
  · intro u hu
    simp at hu
    subst hu
    rfl
  · intro v' w' h1 h2 _
    refine h v' w' (by simpa using h1) ?_
    have hb : Below base w1 (w1.alloc (.cells #[.string c] 9 fz)) := (Below.refl _ _).alloc hbase _
    exact hb.grown h2 (by simp; omega) (fun k hk => (hown.lt k hk).1)
theorem own_form {w : World} {base : Nat} {e : TypeId} {v : Value} {n : Nat} {xs : List Value} (ho : w.ownsRow base e 1 v n xs) (hn : 0 < n) : ∃ g cap, v = .slice (some ⟨g, 0, none⟩) n cap ∧ n ≤ cap ∧ cap ≤ maxLen ∧ g < w.heap.size := by
  rcases ho.2 with ⟨_, h⟩ | ⟨g, cap, cur, h, _, hg, h1, h2, _⟩
  · omega
  · exact ⟨g, cap, h, h1, h2, (Array.getElem?_eq_some_iff.1 hg).1⟩

set_option maxHeartbeats 1000000 in
set_option maxRecDepth 20000 in
theorem distinct_zero (b off cap : Nat) (w : World) (hb : b < w.heap.size) :
    Calls Tryz.prog 120 #[.slice (some ⟨b, off, none⟩) 0 cap] w fun e w' => e = .returned (.bool true) ∧ Below w.heap.size w w' := by
  go_enter Tryz.func120, Tryz.ntmps120
  go_wp2_with fail
  refine (sqvalues_any _ _ _ _).mono ?_
  rintro e w1 ⟨rfl, rfl⟩
  go_wp2_with fail
  refine (sqsortedValues w.heap.size b off 0 cap [] rfl (by omega) _ (by simp) (by simp; omega) (Box.cell (cs := [_]) (Box.new w _ [.slice (some ⟨b, off, none⟩) 0 cap]) 0)
    (fun j hj => absurd hj (by omega))).mono ?_
  rintro e w2 ⟨v, rfl, hown, hbel⟩
  have Bw : Below w.heap.size w w2 := ((Below.refl _ w).alloc (Nat.le_refl _) _).trans (hbel.mono (by simp))
  clear hbel
  rcases hown.2 with ⟨rfl, hz⟩ | ⟨g, cap', cur, rfl, hbase, hgb, r1, r2, r3, r4⟩
  · clear hown
    go_wp2_with fail
    refine (Tryz.slices_Compact_string_empty none 0 w2).mono ?_
    rintro e w3 ⟨rfl, rfl⟩
    go_wp2
    go_ret
    exact ⟨rfl, Bw⟩
  · clear hown hgb r1 r2 r3 r4
    go_wp2_with fail
    refine (Tryz.slices_Compact_string_empty (some ⟨g, 0, none⟩) cap' w2).mono ?_
    rintro e w3 ⟨rfl, rfl⟩
    go_wp2
    go_ret
    exact ⟨rfl, Bw⟩
theorem distinct_own (l : List ByteArray) (g cap base : Nat) (w : World) (ho : w.ownsRow base 9 1 (.slice (some ⟨g, 0, none⟩) l.length cap) l.length (l.map Value.string)) (h16 : l.length ≤ 1000) :
    Calls Tryz.prog 120 #[.slice (some ⟨g, 0, none⟩) l.length cap] w fun e w' => e = .returned (.bool (nodupS l)) ∧ Below w.heap.size w w' := by
  have hg : g < w.heap.size := by
    rcases ho.2 with ⟨h, _⟩ | ⟨g', cap', cur, h, _, hg, _⟩
    · cases h
    · cases h; exact (Array.getElem?_eq_some_iff.1 hg).1
  by_cases h0 : l.length = 0
  · have e : l = [] := List.eq_nil_of_length_eq_zero h0
    subst e
    exact distinct_zero g 0 cap w hg
  · have hc : ∀ j, j < l.length → w.cell? ⟨g, 0 + j, none⟩ = some (encStr ((l.map (·.data.toList))[j]?.getD [])) := by
      intro j hj
      have := ho.cells (g := g) rfl j (.string l[j]) (by rw [List.getElem?_map, List.getElem?_eq_getElem hj]; rfl)
      rw [Addr.add_lit] at this
      rw [this]
      simp [hj]
    have := distinct_core g 0 l.length cap _ _ (l.map (·.data.toList)) _ rfl rfl rfl (by simp) (by omega) h16 w hg hc
    have e : (((Lib.compact ((l.map (·.data.toList)).mergeSort fun x y => decide (x ≤ y))).length : Int) == (l.length : Int)) = nodupS l := by
      rw [Bool.eq_iff_iff, beq_iff_eq, distinct_law]
    rw [e] at this
    exact this
end Go.Proofs.YtcpadaelgdmipaaGreatDoor
namespace Go.Proofs.YtcpadaelgdmipaaGreatDoor
open Go.RowKit

theorem bld_size : (Tryz.prog.info? 119).map (·.size) = some 2 := by kernel_rfl
theorem bld_lies : liesAt Tryz.prog Tryz.prog.depth 119 (2 / Tryz.prog.cellsOf 119) 0 119 1 = true := by kernel_rfl
theorem byte_info : (Tryz.prog.info? 5).map (fun i => (i.zero, i.size, i.bytes)) = some (some (.int .u8 0), 1, 1) := by kernel_rfl
set_option maxRecDepth 100000 in
/-- A builder that has been written to: the check turns nothing. -/
theorem bld_used (b : Nat) (w : World) (h : w.cell? ⟨b, 0, none⟩ = some (.pointer (some ⟨b, 0, none⟩))) :
    Calls Tryz.prog 115 #[.pointer (some ⟨b, 0, none⟩)] w fun e w' => e = .returned (.tuple #[]) ∧ w' = w := by
  obtain ⟨j, hj, -⟩ := Option.map_eq_some_iff.1 bld_size
  go_enter Tryz.func115, Tryz.ntmps115
  go_wp2
  rw [Lib.run_neq_ptr_same w _ Tryz.underlying117 hj]
  go_wp2
  go_end0
  exact ⟨rfl, rfl⟩
set_option maxRecDepth 100000 in
/-- A new builder: the check lays down where it lies. -/
theorem bld_new (b : Nat) (w : World) (h : w.cell? ⟨b, 0, none⟩ = some (.pointer none)) (hs : w.shape? b = some (119, 2)) (hf : w.frozen? ⟨b, 0, none⟩ = false) :
    Calls Tryz.prog 115 #[.pointer (some ⟨b, 0, none⟩)] w fun e w' => e = .returned (.tuple #[]) ∧ w' = w.setCell ⟨b, 0, none⟩ (.pointer (some ⟨b, 0, none⟩)) := by
  obtain ⟨j, hj, hjs⟩ := Option.map_eq_some_iff.1 bld_size
  go_enter Tryz.func115, Tryz.ntmps115
  go_wp2
  rw [Lib.run_to_unsafe w ⟨b, 0, none⟩ Tryz.underlying117 Tryz.underlying154 hj (by rw [hjs]; decide) hs (Nat.zero_lt_succ 1)]
  simp only [Result.andThen]
  rw [Oper.upon_value]
  go_wp2
  rw [run_callFunc_extern Tryz.func131 (by kernel_rfl) (by kernel_rfl) (by kernel_rfl) (e := Extern.AbiNoEscape.same) (by kernel_rfl)]
  rw [Lib.run_noEscape]
  simp only [Result.andThen]
  rw [Oper.upon_value]
  go_wp2
  rw [Lib.run_from_unsafe w ⟨b, 0, none⟩ Tryz.underlying154 Tryz.underlying117 hj hs bld_lies]
  simp only [Result.andThen]
  rw [Oper.upon_value]
  go_wp2
  go_end0
  exact ⟨rfl, rfl⟩
theorem bld_check (B b : Nat) (l : List Value) (w : World) (h : Lib.IsBuilder 119 5 B b l w) :
    Calls Tryz.prog 115 #[.pointer (some ⟨b, 0, none⟩)] w fun e w' => e = .returned (.tuple #[]) ∧ Lib.BuilderAt 119 5 B b (.pointer (some ⟨b, 0, none⟩)) l w' ∧ Below B w w' := by
  rcases h with h | h
  · refine (bld_new b w h.cell0 h.shape h.frozen0).mono ?_
    rintro e w' ⟨rfl, rfl⟩
    exact ⟨rfl, h.used _, (Below.refl B w).setCell (p := ⟨b, 0, none⟩) h.1 _⟩
  · refine (bld_used b w h.cell0).mono ?_
    rintro e w' ⟨rfl, rfl⟩
    exact ⟨rfl, h, Below.refl B _⟩
set_option maxHeartbeats 2000000 in
set_option maxRecDepth 100000 in
theorem bld_write (B b : Nat) (l : List Value) (s : ByteArray) (w : World) (h : Lib.IsBuilder 119 5 B b l w) (hl : l.length + s.size ≤ 140737488355328) (hB : B ≤ w.heap.size) :
    Calls Tryz.prog 93 #[.pointer (some ⟨b, 0, none⟩), .string s] w fun e w' => e = .returned (.tuple #[.int .i64 s.size, .nilIface]) ∧ Lib.BuilderAt 119 5 B b (.pointer (some ⟨b, 0, none⟩)) (l ++ Lib.strCells s) w' ∧ Below B w w' := by
  obtain ⟨i0, hi, z0, z1, z2⟩ := info_parts byte_info
  go_enter Tryz.func93, Tryz.ntmps93
  go_wp2_with (go_at_call 115; refine (bld_check B b l _ h).mono ?_)
  rintro e w1 ⟨rfl, h1, b1⟩
  obtain ⟨hb, v, hk, ho, hne⟩ := h1
  have c0 : w1.cell? ⟨b, 0, none⟩ = some (.pointer (some ⟨b, 0, none⟩)) := by rw [Lib.cell_of_heap hk]; rfl
  have c1 : w1.cell? ⟨b, 1, none⟩ = some v := by rw [Lib.cell_of_heap hk]; rfl
  go_wp2_with (at_builtin; refine Lib.wpList_append_own_string _ rfl _ _ 113 9 rfl B 5 i0 Tryz.underlying113 Tryz.underlying9 hi z0 z1 z2 _ _ _ rfl ho s rfl ?d1 ?d2 ?d3 ?_)
  case d1 => unfold maxLen; omega
  case d2 => omega
  case d3 => have := b1.size; omega
  intro v' w2 ho2 hg _
  have hlt : b < w1.heap.size := by
    rcases Nat.lt_or_ge b w1.heap.size with h' | h'
    · exact h'
    · simp [Array.getElem?_eq_none h'] at hk
  have hk2 : w2.heap[b]? = some (.cells #[.pointer (some ⟨b, 0, none⟩), v] 119 (0, 0)) := by
    rw [hg.block b hlt (fun e => hne e.symm)]
    exact hk
  have e0 : w2.cell? ⟨b, 0, none⟩ = some (.pointer (some ⟨b, 0, none⟩)) := by rw [Lib.cell_of_heap hk2]; rfl
  have e1 : w2.cell? ⟨b, 1, none⟩ = some v := by rw [Lib.cell_of_heap hk2]; rfl
  have f1 : w2.frozen? ⟨b, 1, none⟩ = false := Lib.frozen_of_heap hk2 1
  obtain ⟨ao, n', cap, rfl⟩ : ∃ ao n' cap, v' = .slice ao n' cap := by
    rcases ho2.2 with ⟨hv, -⟩ | ⟨g, cap, cur, hv, -⟩
    · exact ⟨_, _, _, hv⟩
    · exact ⟨_, _, _, hv⟩
  go_wp2
  go_ret2
  exact ⟨rfl, Lib.BuilderAt.put (T := 119) (e := 5) hb hk2 (bs' := l ++ Lib.strCells s) (by simpa [Lib.strCells_length] using ho2) (by decide),
    (b1.grown hg (by have := b1.size; omega) (fun k hk => (ho.lt k hk).1)).setCell (p := ⟨b, 1, none⟩) hb _⟩
theorem strCells_bytes (s : ByteArray) : Lib.strCells s = Lib.byteCells s.data.toList := rfl
/-- A builder that holds a text's bytes. -/
def BldIs (B b : Nat) (s : ByteArray) (w : World) : Prop := Lib.IsBuilder 119 5 B b (Lib.byteCells s.data.toList) w
theorem BldIs.new (w : World) : BldIs w.heap.size w.heap.size ⟨#[]⟩ (w.alloc (.cells #[.pointer none, .slice none 0 0] 119)) := Lib.fresh_isBuilder _ _ w
theorem bldWrite (B b : Nat) (t s : ByteArray) (w : World) (h : BldIs B b t w) (hl : t.size + s.size ≤ 140737488355328) (hB : B ≤ w.heap.size) :
    Calls Tryz.prog 93 #[.pointer (some ⟨b, 0, none⟩), .string s] w fun e w' => e = .returned (.tuple #[.int .i64 s.size, .nilIface]) ∧ BldIs B b (t ++ s) w' ∧ Below B w w' := by
  refine (bld_write B b _ s w h (by rw [Lib.byteCells_length]; simpa using hl) hB).mono ?_
  rintro e w' ⟨rfl, h1, h2⟩
  refine ⟨rfl, .inr ?_, h2⟩
  rw [strCells_bytes] at h1
  rw [show (t ++ s).data.toList = t.data.toList ++ s.data.toList by simp, Lib.byteCells, List.map_append]
  exact h1
theorem bldString (B b : Nat) (t : ByteArray) (w : World) (h : BldIs B b t w) (hB : B ≤ w.heap.size) :
    Calls Tryz.prog 94 #[.pointer (some ⟨b, 0, none⟩)] w fun e w' => e = .returned (.string t) ∧ Below B w w' := by
  refine (Tryz.Builder_String_any B b t.data.toList w h hB).mono ?_
  rintro e w' ⟨rfl, h2⟩
  exact ⟨by simp, h2⟩
end Go.Proofs.YtcpadaelgdmipaaGreatDoor
namespace Go.Proofs.YtcpadaelgdmipaaGreatDoor
open Go.RowKit

theorem bldK_check (B b : Nat) (l : List Value) (w : World) (h : Lib.IsBuilderF 119 5 B b l w) :
    Calls Tryz.prog 115 #[.pointer (some ⟨b, 0, none⟩)] w fun e w' => e = .returned (.tuple #[]) ∧ Lib.BuilderAtF 119 5 B b (.pointer (some ⟨b, 0, none⟩)) l w' ∧ Below B w w' ∧ Lib.OthersKept 5 (some b) w w' := by
  rcases h with h | h
  · refine (bld_new b w h.cell0 h.shape h.frozen0).mono ?_
    rintro e w' ⟨rfl, rfl⟩
    exact ⟨rfl, h.used _, (Below.refl B w).setCell (p := ⟨b, 0, none⟩) h.1 _, (Lib.OthersKept.refl _ _ w).setCell ⟨b, 0, none⟩ rfl _⟩
  · refine (bld_used b w h.cell0).mono ?_
    rintro e w' ⟨rfl, rfl⟩
    exact ⟨rfl, h, Below.refl B _, Lib.OthersKept.refl _ _ _⟩
set_option maxHeartbeats 2000000 in
set_option maxRecDepth 100000 in
theorem bldK_write (B b : Nat) (l : List Value) (s : ByteArray) (w : World) (h : Lib.IsBuilderF 119 5 B b l w) (hl : l.length + s.size ≤ 140737488355328) (hB : B ≤ w.heap.size) :
    Calls Tryz.prog 93 #[.pointer (some ⟨b, 0, none⟩), .string s] w fun e w' => e = .returned (.tuple #[.int .i64 s.size, .nilIface]) ∧ Lib.BuilderAtF 119 5 B b (.pointer (some ⟨b, 0, none⟩)) (l ++ Lib.strCells s) w' ∧ Below B w w' ∧ Lib.OthersKept 5 (some b) w w' := by
  obtain ⟨i0, hi, z0, z1, z2⟩ := info_parts byte_info
  go_enter Tryz.func93, Tryz.ntmps93
  go_wp2_with (go_at_call 115; refine (bldK_check B b l _ h).mono ?_)
  rintro e w1 ⟨rfl, h1, b1, k1⟩
  obtain ⟨hb, v, hk, ho, hne⟩ := h1
  have c0 : w1.cell? ⟨b, 0, none⟩ = some (.pointer (some ⟨b, 0, none⟩)) := by rw [Lib.cell_of_heap hk]; rfl
  have c1 : w1.cell? ⟨b, 1, none⟩ = some v := by rw [Lib.cell_of_heap hk]; rfl
  go_wp2_with (at_builtin; refine Lib.wpList_append_own_stringF _ rfl _ _ 113 9 rfl B 5 i0 Tryz.underlying113 Tryz.underlying9 hi z0 z1 z2 _ _ _ rfl ho s rfl ?d1 ?d2 ?d3 ?_)
  case d1 => unfold maxLen; omega
  case d2 => omega
  case d3 => have := b1.size; omega
  intro v' w2 ho2 hg _
  have hlt : b < w1.heap.size := by
    rcases Nat.lt_or_ge b w1.heap.size with h' | h'
    · exact h'
    · simp [Array.getElem?_eq_none h'] at hk
  have hk2 : w2.heap[b]? = some (.cells #[.pointer (some ⟨b, 0, none⟩), v] 119 (0, 0)) := by
    rw [hg.block b hlt (fun e => hne e.symm)]
    exact hk
  have e0 : w2.cell? ⟨b, 0, none⟩ = some (.pointer (some ⟨b, 0, none⟩)) := by rw [Lib.cell_of_heap hk2]; rfl
  have e1 : w2.cell? ⟨b, 1, none⟩ = some v := by rw [Lib.cell_of_heap hk2]; rfl
  have f1 : w2.frozen? ⟨b, 1, none⟩ = false := Lib.frozen_of_heap hk2 1
  obtain ⟨ao, n', cap, rfl⟩ : ∃ ao n' cap, v' = .slice ao n' cap := by
    rcases ho2.2 with ⟨hv, -⟩ | ⟨g, cap, cur, fz, hv, -⟩
    · exact ⟨_, _, _, hv⟩
    · exact ⟨_, _, _, hv⟩
  go_wp2
  go_ret2
  refine ⟨rfl, Lib.BuilderAtF.put (T := 119) (e := 5) hb hk2 (bs' := l ++ Lib.strCells s) (by simpa [Lib.strCells_length] using ho2) (by decide), ?_, (k1.grown hg (Lib.ownsRowF_kind ho)).setCell ⟨b, 1, none⟩ rfl _⟩
  exact (b1.grown hg (by have := b1.size; omega) (fun k hk => (ho.lt k hk).1)).setCell (p := ⟨b, 1, none⟩) hb _
end Go.Proofs.YtcpadaelgdmipaaGreatDoor
namespace Go.Proofs.YtcpadaelgdmipaaGreatDoor
open Go.RowKit Go.Shelf

def Tab10 (w : World) : Prop := Lib.TabIs Tryz.prog w "internal/strconv.uint64pow10" .u64 Lib.pow10Tab
theorem var_keep {P : Program} {w w' : World} {n : String} {cs : Array Value} (h : w.var? P n = some cs) (hb : Below w.heap.size w w') : w'.var? P n = some cs := by
  unfold World.var? at h ⊢
  cases hg : P.globalNamed n with
  | none => rw [hg] at h; simp at h
  | some g =>
    rw [hg] at h
    simp only [Option.bind_some] at h ⊢
    have hlt : g < w.heap.size := by
      rcases Nat.lt_or_ge g w.heap.size with h1 | h1
      · exact h1
      · rw [Array.getElem?_eq_none h1] at h; cases h
    rw [hb.block g hlt]
    exact h
/-- What the program's texts lean on. -/
def TxW (w : World) : Prop := Tab10 w ∧ TzW w
theorem TxW.below {w w' : World} (h : TxW w) (hb : Below w.heap.size w w') : TxW w' := ⟨var_keep h.1 hb, var_keep h.2 hb⟩
theorem below_growT (w : World) (k : Nat) (os : Array Obj) : Below w.heap.size w (Sort.grow (w.drewN k) os) :=
  ⟨rfl, rfl, rfl, by simp [Sort.grow, World.drewN], fun b hb => by simp [Sort.grow, World.drewN, Array.getElem?_append, hb]⟩
theorem dec_i (n : Int) (h0 : -9223372036854775808 ≤ n ∧ n ≤ 9223372036854775807) (w : World) (ht : TxW w) : Calls Tryz.prog 75 #[.int .i64 n] w fun e w' => e = .returned (.string (numT n)) ∧ Below w.heap.size w w' := by
  have HC := Lib.hid (Tryz.strconv_FormatInt_10 n h0.1 h0.2 w ht.1)
  clear ht
  go_enter Tryz.func75, Tryz.ntmps75
  go_wp2_with fail
  refine HC.out.mono ?_
  rintro e w1 ⟨rfl, k, os, rfl⟩
  have B := Lib.hid (below_growT w k os)
  obtain ⟨w1, hw1⟩ : ∃ w1, Sort.grow (w.drewN k) os = w1 := ⟨_, rfl⟩
  rw [hw1] at B ⊢
  obtain ⟨R, hR⟩ : ∃ R, numT n = R := ⟨_, rfl⟩
  rw [show (⟨(Lib.itoa n).toArray⟩ : ByteArray) = R from hR]
  have HR := Lib.hid hR
  clear hR
  go_wp2
  go_ret
  exact ⟨ret_eq (by rw [HR.out]; rfl), B.out⟩
theorem enc_ascii {c : Nat} (h : c < 128) : Utf8.encode (c : Int) = ⟨#[UInt8.ofNat c]⟩ := by
  have key : ∀ m : Fin 128, Utf8.encode (m.val : Int) = ⟨#[UInt8.ofNat m.val]⟩ := by decide +kernel
  exact key ⟨c, h⟩
theorem escB_size {q : Nat} {c : Int} (h : c ≤ 1114111) : (escB q c).size ≤ 10 := by
  have := escT_len q h
  simpa [escB, ByteArray.size] using this
set_option maxHeartbeats 1000000 in
set_option maxRecDepth 20000 in
theorem escaped_i (q c : Nat) (_hq : q = 34 ∨ q = 39) (hc : c ≤ 1114111) (w : World) (ht : TxW w) : Calls Tryz.prog 67 #[.int .i32 (c : Int), .int .i32 (q : Int)] w fun e w' => e = .returned (.string (escB q c)) ∧ Below w.heap.size w w' := by
  have HC := Lib.hid (fmt16_i c hc w ht.2)
  have hw4 : IntKind.i64.wrap (c : Int) = (c : Int) := by rw [IntKind.wrap_i64]; omega
  have hs6 := hexB_size hc
  unfold hexB at hs6
  obtain ⟨H, hH⟩ : ∃ H : ByteArray, (⟨(hexT c).toArray⟩ : ByteArray) = H := ⟨_, rfl⟩
  rw [hH] at HC hs6
  have HH := Lib.hid (show H.data.toList = hexT c by rw [← hH])
  have hex : (32 ≤ (c : Int) ∧ (c : Int) ≤ 126 ∧ (c : Int) ≠ (q : Int) ∧ (c : Int) ≠ 92) ∨ ¬ (32 ≤ (c : Int) ∧ (c : Int) ≤ 126 ∧ (c : Int) ≠ (q : Int) ∧ (c : Int) ≠ 92) := Decidable.em _
  clear ht hH
  rcases hex with ⟨g1, g2, g3, g4⟩ | hex
  · have h3 : ((c : Int) != (q : Int)) = true := by simpa using g3
    have h4 : ((c : Int) != 92) = true := by simpa using g4
    have HE := Lib.hid (show escB q c = ⟨#[UInt8.ofNat c]⟩ by unfold escB escT; rw [if_pos ⟨g1, g2, g3, g4⟩]; rfl)
    have HU := Lib.hid (enc_ascii (c := c) (by omega))
    clear g3 g4
    go_enter Tryz.func67, Tryz.ntmps67
    go_wp2
    go_ret
    exact ⟨ret_eq (by rw [HE.out, HU.out]; rfl), Below.refl _ _⟩
  · have HE := Lib.hid (show (escB q c).data.toList = 92 :: 117 :: 123 :: (hexT c ++ [125]) by unfold escB escT; rw [if_neg hex]; simp)
    have ways : ¬ (32 : Int) ≤ (c : Int) ∨ ((32 : Int) ≤ (c : Int) ∧ ¬ (c : Int) ≤ 126) ∨ ((32 : Int) ≤ (c : Int) ∧ (c : Int) ≤ 126 ∧ ((c : Int) != (q : Int)) = false) ∨ ((32 : Int) ≤ (c : Int) ∧ (c : Int) ≤ 126 ∧ ((c : Int) != (q : Int)) = true ∧ ((c : Int) != 92) = false) := by
      simp only [bne_eq_false_iff_eq, bne_iff_ne]
      omega
    clear hex
    rcases ways with g1 | ⟨g1, g2⟩ | ⟨g1, g2, g3⟩ | ⟨g1, g2, g3, g4⟩
    all_goals
      go_enter Tryz.func67, Tryz.ntmps67
      go_wp2_with fail
      refine HC.out.mono ?_
      rintro e w1 ⟨rfl, hb1⟩
      go_wp2
      go_ret
      refine ⟨ret_eq (congrArg Value.string (ByteArray.ext (Array.toList_inj.1 ?_))), hb1⟩
      rw [HE.out]
      simp [HH.out]
theorem ext_extract (s : ByteArray) (p k : Nat) (h : p + k ≤ s.size) : (s.extract p s.size).extract k (s.extract p s.size).size = s.extract (p + k) s.size := by
  refine ByteArray.ext (Array.toList_inj.1 ?_)
  simp only [ByteArray.data_extract, Array.toList_extract, List.extract_eq_take_drop, ByteArray.size_extract]
  have e : ∀ m, s.data.toList.length ≤ m → s.data.toList.take m = s.data.toList := fun m h => List.take_of_length_le h
  have e0 : s.data.toList.length = s.size := by simp
  rw [List.take_of_length_le (l := s.data.toList.drop p) (by rw [List.length_drop]; omega), List.take_of_length_le (l := s.data.toList.drop (p + k)) (by rw [List.length_drop]; omega), List.take_of_length_le (by rw [List.length_drop, List.length_drop]; omega), List.drop_drop]
/-- A step of a range over a valid text. -/
theorem pts_at {s : ByteArray} {p : Nat} (hp : p < s.size) (hv : validT (s.extract p s.size) = true) :
    pts (s.extract p s.size) = ((Utf8.decode s p).1 : Int) :: pts (s.extract (p + (Utf8.decode s p).2) s.size) ∧ validT (s.extract (p + (Utf8.decode s p).2) s.size) = true ∧ 1 ≤ (Utf8.decode s p).2 ∧ p + (Utf8.decode s p).2 ≤ s.size ∧ (Utf8.decode s p).1 ≤ 1114111 := by
  have hx : 0 < (s.extract p s.size).size := by simp; omega
  have hd : Lib.decodeL (s.extract p s.size).data.toList = Utf8.decode s p := by
    rw [← Lib.decodeL_drop]
    congr 1
    simp only [ByteArray.data_extract, Array.toList_extract, List.extract_eq_take_drop]
    exact List.take_of_length_le (by rw [List.length_drop]; simp)
  have hs := valid_step _ hx
  rw [hv] at hs
  have hz : ptW (s.extract p s.size) ≠ 0 := by
    intro h
    rw [if_pos h] at hs
    cases hs
  rw [if_neg hz] at hs
  have hw : ptW (s.extract p s.size) = (Utf8.decode s p).2 := by
    unfold ptW at hz ⊢
    split
    · rename_i h; rw [if_pos h] at hz; exact absurd rfl hz
    · rw [hd]
  have hle := ptW_le _ hx
  rw [hw] at hle hs hz
  have hle2 : p + (Utf8.decode s p).2 ≤ s.size := by simp at hle; omega
  have hps := pts_step hx (by rw [hw]; exact hz) hv
  rw [hw, hd, ext_extract s p _ hle2] at hps
  rw [ext_extract s p _ hle2] at hs
  refine ⟨hps, hs.symm, by omega, hle2, ?_⟩
  have := Lib.decodeL_rune (s.extract p s.size).data.toList
  rw [hd] at this
  exact this
theorem bldF_below {T e : TypeId} {B b : Nat} {l : List Value} {w w' : World} (h : Lib.IsBuilderF T e B b l w) (hb : Below w.heap.size w w') : Lib.IsBuilderF T e B b l w' := by
  have key : ∀ p, Lib.BuilderAtF T e B b p l w → Lib.BuilderAtF T e B b p l w' := by
    rintro p ⟨h1, v, h2, h3, h4⟩
    refine ⟨h1, v, (hb.block b (Array.getElem?_eq_some_iff.1 h2).1).trans h2, ⟨h3.1, ?_⟩, h4⟩
    rcases h3.2 with h | ⟨g, cap, cur, fz, e1, e2, e3, e4⟩
    · exact .inl h
    · exact .inr ⟨g, cap, cur, fz, e1, e2, (hb.block g (Array.getElem?_eq_some_iff.1 e3).1).trans e3, e4⟩
  exact h.elim (fun x => .inl (key _ x)) (fun x => .inr (key _ x))
set_option maxHeartbeats 4000000 in
set_option maxRecDepth 100000 in
theorem quotedText_i (s : ByteArray) (hs : s.size ≤ 24) (hv : validT s = true) (w : World) (ht : TxW w) : Calls Tryz.prog 68 #[.string s] w fun e w' => e = .returned (.string ⟨(quoT 34 (pts s)).toArray⟩) ∧ Below w.heap.size w w' := by
  have HT := Lib.hid ht
  have HV := Lib.hid hv
  obtain ⟨PS, hPS⟩ : ∃ PS, pts s = PS := ⟨_, rfl⟩
  have HPS := Lib.hid hPS
  rw [hPS]
  clear ht hv hPS
  have hsz0 : s.extract 0 s.size = s := by simp
  have HS0 := Lib.hid hsz0
  clear hsz0
  go_enter Tryz.func68, Tryz.ntmps68
  go_wp2
  go_loopw [5] (fun _ wr => ∃ (pos : Nat) (acc : List Int), acc.length ≤ pos ∧ pos ≤ s.size ∧ (∀ c ∈ acc, c ≤ 1114111) ∧ acc ++ pts (s.extract pos s.size) = PS ∧ validT (s.extract pos s.size) = true ∧ Lib.IsBuilderF 119 5 w.heap.size w.heap.size (Lib.byteCells (escs 34 acc)) wr ∧ wr.heap[w.heap.size + 1]? = some (.stringIter s pos) ∧ Below w.heap.size w wr) (fun _ wr => s.size - wr.iterPos (w.heap.size + 1))
  case atStart =>
    refine ⟨0, [], by simp, Nat.zero_le _, by simp, ?_, ?_, (Lib.IsBuilderF.of (Lib.fresh_isBuilder _ _ w)).alloc _, ?_, ((Below.refl _ w).alloc (Nat.le_refl _) _).alloc (by simp) _⟩
    · rw [HS0.out, List.nil_append]; exact HPS.out
    · rw [HS0.out]; exact HV.out
    · have := World.iter_heap (w.alloc (.cells #[.pointer none, .slice none 0 0] 119)) s 0
      simpa using this
  case round =>
    obtain ⟨pos, acc, hal, hps, hcm, hacc, hval, hI, hit, hbw⟩ := hrel
    have hsz : w.heap.size + 1 < wr.heap.size := (Array.getElem?_eq_some_iff.1 hit).1
    have hel := escs_len 34 acc hcm
    by_cases hp : pos < s.size
    · obtain ⟨st1, st2, st3, st4, st5⟩ := pts_at hp hval
      have hnx : ∀ ty, (Instr.next (.pointer (some ⟨w.heap.size + 1, 0, none⟩)) true ty).run Tryz.prog wr = .ok (.tuple #[.bool true, .int .i64 pos, .int .i32 (Utf8.decode s pos).1]) (wr.iterAt (w.heap.size + 1) s (pos + (Utf8.decode s pos).2)) := fun ty => Lib.run_next_any_at wr (w.heap.size + 1) s pos ty hit hp
      have hI2 := hI.iterAt hit (pos + (Utf8.decode s pos).2)
      have hit2 := Lib.iterAt_heap wr (w.heap.size + 1) s pos (pos + (Utf8.decode s pos).2) hit
      have hbw2 := Lib.below_iterAt hbw (k := w.heap.size + 1) (by omega) s (pos + (Utf8.decode s pos).2)
      obtain ⟨C, hC⟩ : ∃ C : Nat, (Utf8.decode s pos).1 = C := ⟨_, rfl⟩
      obtain ⟨D, hD⟩ : ∃ D : Nat, (Utf8.decode s pos).2 = D := ⟨_, rfl⟩
      rw [hC, hD] at hnx
      rw [hD] at hI2 hit2 hbw2 st2 st3 st4
      rw [hC, hD] at st1
      rw [hC] at st5
      clear hC hD
      obtain ⟨W, hW⟩ : ∃ W, W = wr.iterAt (w.heap.size + 1) s (pos + D) := ⟨_, rfl⟩
      rw [← hW] at hnx hI2 hit2 hbw2
      clear hW
      have hszW : w.heap.size + 1 < W.heap.size := (Array.getElem?_eq_some_iff.1 hit2).1
      have HE := Lib.hid (escaped_i 34 C (.inl rfl) st5 W (HT.out.below hbw2))
      have HX := Lib.hid (And.intro hI2 (And.intro hit2 hbw2))
      have hes := escB_size (q := 34) (c := (C : Int)) (by omega)
      obtain ⟨E, hE⟩ : ∃ E, escB 34 (C : Int) = E := ⟨_, rfl⟩
      rw [hE] at HE hes
      have HEE := Lib.hid (show E.data.toList = escT 34 (C : Int) by rw [← hE]; simp [escB])
      have HST := Lib.hid (And.intro st1 (And.intro st2 (And.intro hacc hcm)))
      have HM := Lib.hid hit
      clear hE hI2 hit2 hbw2 hI hbw st1 st2 hacc hcm hval hit
      go_wp2_with fail
      refine HE.out.mono ?_
      rintro e w1 ⟨rfl, hb1⟩
      have hI3 := bldF_below HX.out.1 hb1
      have hit3 : w1.heap[w.heap.size + 1]? = some (.stringIter s (pos + D)) := (hb1.block _ hszW).trans HX.out.2.1
      have hbw3 := HX.out.2.2.trans (hb1.mono (by omega))
      have hs1 := hb1.size
      clear hnx
      go_wp2_with fail
      refine (bldK_write w.heap.size w.heap.size _ E _ hI3 (by rw [Lib.byteCells_length]; omega) (by omega)).mono ?_
      rintro e w2 ⟨rfl, h2, b2, k2⟩
      have hit4 := k2.iter hit3 (by omega)
      have HY := Lib.hid (And.intro h2 (And.intro hit4 (hbw3.trans b2)))
      clear h2 b2 k2 hI3 hbw3 hb1 hit3
      go_wp2
      go_roundw
      case rel =>
        refine ⟨pos + D, acc ++ [(C : Int)], by simp; omega, st4, ?_, ?_, HST.out.2.1, ?_, HY.out.2.1, HY.out.2.2⟩
        · intro c hc
          rcases List.mem_append.1 hc with h | h
          · exact HST.out.2.2.2 c h
          · rw [List.mem_singleton.1 h]; omega
        · have h := HST.out.2.2.1
          rw [HST.out.1] at h
          rw [List.append_assoc]; exact h
        · have h := HY.out.1
          rw [strCells_bytes, HEE.out] at h
          rw [escs_snoc, Lib.byteCells_append]
          exact Or.inr h
      case measure =>
        have h := HM.out
        simp only [World.iterPos, hit4, h]
        omega
    · obtain rfl : pos = s.size := by omega
      have hnx : ∀ ty, (Instr.next (.pointer (some ⟨w.heap.size + 1, 0, none⟩)) true ty).run Tryz.prog wr = _ := fun ty => Lib.run_next_end_at wr (w.heap.size + 1) s s.size ty hit hp
      rw [pts_nil (by simp), List.append_nil] at hacc
      subst hacc
      have HB := Lib.hid hbw
      have HS := Lib.hid (Tryz.Builder_String_any_k w.heap.size w.heap.size (escs 34 acc) wr hI (by omega))
      obtain ⟨E, hE⟩ : ∃ E : ByteArray, (⟨(escs 34 acc).toArray⟩ : ByteArray) = E := ⟨_, rfl⟩
      rw [hE] at HS
      have hes : E.size ≤ 240 := by
        rw [← hE]
        simp only [ByteArray.size, List.size_toArray]
        omega
      have HEE := Lib.hid (show E.data.toList = escs 34 acc by rw [← hE])
      clear hE hI hbw hcm hval
      go_wp2_with fail
      refine HS.out.mono ?_
      rintro e w1 ⟨rfl, -, b1, -⟩
      have HB1 := Lib.hid (HB.out.trans b1)
      clear b1 hnx hit
      go_wp2
      go_ret
      refine ⟨ret_eq (congrArg Value.string (ba_of ?_)), HB1.out⟩
      simp [quoT, HEE.out]
end Go.Proofs.YtcpadaelgdmipaaGreatDoor
namespace Go.Proofs.YtcpadaelgdmipaaGreatDoor
open Go.RowKit

theorem strs_cell {w : World} {S : Nat → Prop} {ls : List ByteArray} {A : Option Addr} {c q : Nat} {x : ByteArray} (h : D.At w S (strs ls) (.slice A ls.length c)) (hx : ls[q]? = some x) :
    ∃ b off, A = some ⟨b, off, none⟩ ∧ b < w.heap.size ∧ w.cell? ⟨b, off + q, none⟩ = some (.string x) := by
  obtain ⟨b, off, u0, e, -, hbl, hat, c0⟩ := rows_at1 strD_length h hx
  obtain ⟨rfl, -⟩ := str_open hat
  exact ⟨b, off, e, hbl, c0⟩
set_option maxHeartbeats 4000000 in
set_option maxRecDepth 20000 in
theorem l04Kids_s (vs : List Va) (ts : List Ty) (ls : List ByteArray) (hlen : ts.length = vs.length) (hls : ls = [] ∨ ls.length = vs.length) (hsm : ∀ a ∈ ls, a.size ≤ 12) (ih : ∀ (i : Nat) x y, vs[i]? = some x → ts[i]? = some y → TxAt 44 anyW x y)
    (hJ : (Lib.join (labC ls (vtxs vs ts)) [44, 32]).length ≤ 2000000000) (A A' A'' : Option Addr) (c c' c'' : Nat) (w : World)
    (hvs : D.At w anyB (rows Va.ds 4 vs) (.slice A vs.length c)) (hts : D.At w anyB (rows Ty.ds 4 ts) (.slice A' ts.length c')) (hl : D.At w anyB (strs ls) (.slice A'' ls.length c'')) :
    Calls Tryz.prog 62 #[.slice A vs.length c, .slice A' ts.length c', .slice A'' ls.length c''] w fun e w' => e = .returned (.string ⟨(Lib.join (labC ls (vtxs vs ts)) [44, 32]).toArray⟩) ∧ Below w.heap.size w w' := by
  obtain ⟨-, hvn, hvc⟩ := rows_bound hvs
  obtain ⟨-, htn, htc⟩ := rows_bound hts
  obtain ⟨-, hln, hlc⟩ := rows_bound hl
  unfold maxLen at hvc htc hlc
  obtain ⟨J, hJe⟩ : ∃ J, labC ls (vtxs vs ts) = J := ⟨_, rfl⟩
  have hJl : J.length = vs.length := by rw [← hJe, labC_length, vtxs_len (by omega)]
  rw [hJe] at hJ ⊢
  have HJ := Lib.hid (And.intro hJe (And.intro hJl hJ))
  have HVS := Lib.hid hvs
  have HTS := Lib.hid hts
  have HLS := Lib.hid hl
  have HIH := Lib.hid ih
  have HSM := Lib.hid hsm
  have HLEN := Lib.hid (And.intro hlen hls)
  clear hvs hts hl ih hsm hlen hls hJe hJl hJ
  go_enter Tryz.func62, Tryz.ntmps62
  go_wp2
  go_loopw [7, 8] (fun s i wr => ∃ (k : Nat) (T : ByteArray), k ≤ vs.length ∧ i = .int .i64 k ∧ s = .string T ∧ T.data.toList = Lib.join (J.take k) [44, 32] ∧ Below w.heap.size w wr) (fun _ i _ => vs.length - (intOf i).toNat)
  case atStart => exact ⟨0, _, Nat.zero_le _, rfl, rfl, by simp [Lib.join_nil], Below.refl _ _⟩
  case round =>
    obtain ⟨k, T, hk, rfl, rfl, hT, hb⟩ := hrel
    have hTs : T.size ≤ 2000000000 := by
      have h1 := join2_take_len J k
      have h2 := HJ.out.2.2
      rw [ba_size, hT]; omega
    have HT := Lib.hid hT
    clear hT
    by_cases hlt : k < vs.length
    · obtain ⟨x, hx⟩ : ∃ x, vs[k]? = some x := ⟨vs[k], List.getElem?_eq_getElem hlt⟩
      obtain ⟨y, hy⟩ : ∃ y, ts[k]? = some y := ⟨ts[k]'(by rw [HLEN.out.1]; exact hlt), List.getElem?_eq_getElem _⟩
      have k0 : (0 : Int) ≤ (k : Int) := by omega
      have k1 : (k : Int) < (vs.length : Int) := by omega
      have k2 : (k : Int) < (ts.length : Int) := by rw [HLEN.out.1]; omega
      obtain ⟨b, off, u0, u1, u2, u3, e, -, hbl, hat, d0, d1, d2, d3⟩ := rows_at4 Va.len (HVS.out.below hb) hx
      subst e
      obtain ⟨f0, f1, f2, f3, f4, f5, exx⟩ := Va.form hat
      simp only [List.cons.injEq, and_true] at exx
      obtain ⟨rfl, rfl, rfl, rfl⟩ := exx
      obtain ⟨b', off', v0, v1, v2, v3, e, -, hbl', hat', e0, e1, e2, e3⟩ := rows_at4 Ty.len (HTS.out.below hb) hy
      subst e
      obtain ⟨z0, z1, z2, z3, z4, z5, z6, z7, eyy⟩ := Ty.form hat'
      simp only [List.cons.injEq, and_true] at eyy
      obtain ⟨rfl, rfl, rfl, rfl⟩ := eyy
      have HXY := Lib.hid (fun W (h : Below wr.heap.size wr W) => HIH.out k x y hx hy _ _ W trivial (hat.below h) (hat'.below h))
      have hyx : (vtxs vs ts)[k]? = some (vtx x y) := vtxs_at hx hy
      obtain ⟨Y, hY⟩ : ∃ Y, vtT x y = Y := ⟨_, rfl⟩
      simp only [hY] at HXY
      have HY : Y.data.toList = vtx x y := by rw [← hY, vtT_list]
      have HBW := Lib.hid hb
      replace d0 := cell_regrown d0
      replace d1 := cell_regrown d1
      replace d2 := cell_regrown d2
      replace d3 := cell_regrown d3
      replace e0 := cell_regrown e0
      replace e1 := cell_regrown e1
      replace e2 := cell_regrown e2
      replace e3 := cell_regrown e3
      have hYs : Y.size ≤ 2000000000 ∧ ∀ P : List UInt8, J[k]? = some (P ++ vtx x y) → ∀ T' : ByteArray, T'.data.toList = T.data.toList ++ (if k = 0 then [] else [44, 32]) ++ P ++ Y.data.toList → T'.data.toList = Lib.join (J.take (k + 1)) [44, 32] := by
        have hP : ∃ P, J[k]? = some (P ++ vtx x y) := by
          rw [← HJ.out.1]
          rcases HLEN.out.2 with h | h
          · rw [h, labC_nil]; exact ⟨[], by simpa using hyx⟩
          · exact ⟨_, by rw [labC_at (List.getElem?_eq_getElem (show k < ls.length by omega)) hyx, show ∀ a : List UInt8, a ++ 58 :: 32 :: vtx x y = (a ++ [58, 32]) ++ vtx x y from fun a => by simp]⟩
        have key : ∀ P : List UInt8, J[k]? = some (P ++ vtx x y) → ∀ T' : ByteArray, T'.data.toList = T.data.toList ++ (if k = 0 then [] else [44, 32]) ++ P ++ Y.data.toList → T'.data.toList = Lib.join (J.take (k + 1)) [44, 32] := by
          intro P hP T' h
          rw [h, join2_next hP, HT.out, HY]
          by_cases h0 : k = 0
          · subst h0; simp [Lib.join_nil]
          · simp [h0]
        refine ⟨?_, key⟩
        obtain ⟨P, hP⟩ := hP
        have h1 := join2_next hP
        have h2 := join2_take_len J (k + 1)
        have h3 := HJ.out.2.2
        have h4 : Y.size ≤ (Lib.join (J.take (k + 1)) [44, 32]).length := by
          rw [h1, ba_size, HY]
          split <;> simp <;> omega
        omega
      have HYS := Lib.hid hYs.2
      have hY2 := hYs.1
      clear hYs hY HY
      rcases HLEN.out.2 with hl0 | hl0
      · have hl1 : ls.length = 0 := by rw [hl0]; rfl
        have l1 : ¬ (0 : Int) < (ls.length : Int) := by omega
        have HFN := Lib.hid (HYS.out [] (by rw [← HJ.out.1, hl0, labC_nil]; simpa using hyx))
        clear hl0 hl1 hx hy hyx hat hat' hb
        rcases Nat.eq_zero_or_pos k with hk0 | hk0
        · have i5 : ¬ (0 : Int) < (k : Int) := by omega
          have hc0 : ¬ 9223372036854775807 < T.size + Y.size := by omega
          have HK0 := Lib.hid hk0
          clear hk0
          go_upto_region 9 with fail
          refine wp_region_quiet_below (by kernel_rfl) (by kernel_rfl) ?_
          repeat (first | go_big_quiet_step (with_reducible exact Calls.regrown_of (HXY.out _ (below_regrown _ _ _))) | quiet_step (with_reducible exact Calls.regrown_of (HXY.out _ (below_regrown _ _ _))))
          refine wpQuiet_nil ?_
          intro w6 hw6
          have HB6 := Lib.hid (HBW.out.trans ((below_of_regrown hw6).mono HBW.out.size))
          clear hw6 d0 d1 d2 d3 e0 e1 e2 e3
          go_wp2
          go_roundw
          case rel => exact ⟨k + 1, _, by omega, by go_num, rfl, HFN.out _ (by simp [HK0.out]), HB6.out⟩
          case measure => simp [intOf]; omega
        · have i5 :  (0 : Int) < (k : Int) := by omega
          have hc0 : ¬ 9223372036854775807 < T.size + 2 := by omega
          have hc1 : ¬ 9223372036854775807 < T.size + 2 + Y.size := by omega
          have HK0 := Lib.hid hk0
          clear hk0
          go_upto_region 9 with fail
          refine wp_region_quiet_below (by kernel_rfl) (by kernel_rfl) ?_
          repeat (first | go_big_quiet_step (with_reducible exact Calls.regrown_of (HXY.out _ (below_regrown _ _ _))) | quiet_step (with_reducible exact Calls.regrown_of (HXY.out _ (below_regrown _ _ _))))
          refine wpQuiet_nil ?_
          intro w6 hw6
          have HB6 := Lib.hid (HBW.out.trans ((below_of_regrown hw6).mono HBW.out.size))
          clear hw6 d0 d1 d2 d3 e0 e1 e2 e3
          go_wp2
          go_roundw
          case rel => exact ⟨k + 1, _, by omega, by go_num, rfl, HFN.out _ (by simp [Nat.ne_of_gt HK0.out]), HB6.out⟩
          case measure => simp [intOf]; omega
      · obtain ⟨a, ha⟩ : ∃ a, ls[k]? = some a := ⟨ls[k]'(by omega), List.getElem?_eq_getElem _⟩
        have l1 : (0 : Int) < (ls.length : Int) := by omega
        have l2 : (k : Int) < (ls.length : Int) := by omega
        have hla := HSM.out a (List.mem_of_getElem? ha)
        obtain ⟨b3, off3, e, hbl3, l3⟩ := strs_cell (HLS.out.below hb) ha
        subst e
        have HFN := Lib.hid (HYS.out (a.data.toList ++ [58, 32]) (by rw [← HJ.out.1, labC_at ha hyx]; simp))
        clear hl0 hx hy hyx hat hat' hb ha
        rcases Nat.eq_zero_or_pos k with hk0 | hk0
        · have i5 : ¬ (0 : Int) < (k : Int) := by omega
          have hc0 : ¬ 9223372036854775807 < T.size + a.size := by omega
          have hc1 : ¬ 9223372036854775807 < T.size + a.size + 2 := by omega
          have hc2 : ¬ 9223372036854775807 < T.size + a.size + 2 + Y.size := by omega
          have HK0 := Lib.hid hk0
          clear hk0
          go_upto_region 9 with fail
          refine wp_region_quiet_below (by kernel_rfl) (by kernel_rfl) ?_
          repeat (first | go_big_quiet_step (with_reducible exact Calls.regrown_of (HXY.out _ (below_regrown _ _ _))) | quiet_step (with_reducible exact Calls.regrown_of (HXY.out _ (below_regrown _ _ _))))
          refine wpQuiet_nil ?_
          intro w6 hw6
          have HB6 := Lib.hid (HBW.out.trans ((below_of_regrown hw6).mono HBW.out.size))
          clear hw6 d0 d1 d2 d3 e0 e1 e2 e3
          go_wp2
          go_roundw
          case rel => exact ⟨k + 1, _, by omega, by go_num, rfl, HFN.out _ (by simp [HK0.out]), HB6.out⟩
          case measure => simp [intOf]; omega
        · have i5 :  (0 : Int) < (k : Int) := by omega
          have hc0 : ¬ 9223372036854775807 < T.size + 2 := by omega
          have hc1 : ¬ 9223372036854775807 < T.size + 2 + a.size := by omega
          have hc2 : ¬ 9223372036854775807 < T.size + 2 + a.size + 2 := by omega
          have hc3 : ¬ 9223372036854775807 < T.size + 2 + a.size + 2 + Y.size := by omega
          have HK0 := Lib.hid hk0
          clear hk0
          go_upto_region 9 with fail
          refine wp_region_quiet_below (by kernel_rfl) (by kernel_rfl) ?_
          repeat (first | go_big_quiet_step (with_reducible exact Calls.regrown_of (HXY.out _ (below_regrown _ _ _))) | quiet_step (with_reducible exact Calls.regrown_of (HXY.out _ (below_regrown _ _ _))))
          refine wpQuiet_nil ?_
          intro w6 hw6
          have HB6 := Lib.hid (HBW.out.trans ((below_of_regrown hw6).mono HBW.out.size))
          clear hw6 d0 d1 d2 d3 e0 e1 e2 e3
          go_wp2
          go_roundw
          case rel => exact ⟨k + 1, _, by omega, by go_num, rfl, HFN.out _ (by simp [Nat.ne_of_gt HK0.out]), HB6.out⟩
          case measure => simp [intOf]; omega
    · obtain rfl : k = vs.length := by omega
      have HB6 := Lib.hid hb
      clear hb
      go_wp2
      go_ret
      refine ⟨ret_eq (congrArg Value.string (ba_of ?_)), HB6.out⟩
      have h := HT.out
      rw [← HJ.out.2.1, List.take_length] at h
      exact h
theorem info_tT : (Tryz.prog.info? 40).map (fun i => (i.zero, i.size, i.bytes)) = some (some (.agg #[.int .i64 0, .string ⟨#[]⟩, .slice none 0 0, .slice none 0 0]), 4, 72) := by kernel_rfl
/-- Append of one type, just laid in a block of its own, to a row of types that the call owns. -/
theorem wpList_ty {w1 : World} {ops : Array Oper} {rest : List Oper} {o : Oper} {a : Act} {Q : Exit → Act → World → Prop} {base : Nat} {v : Value} {n : Nat} {l : List Value} {fz : Nat × Nat}
    (hown : w1.ownsRow base 40 4 v n l) (z0 : Int) (z1 : ByteArray) (z2 : Option Addr) (z3 z4 : Nat) (z5 : Option Addr) (z6 z7 : Nat) (s x : Operand)
    (hn : n + 1 ≤ 1000000) (hbase : base ≤ w1.heap.size) (g : Nat) (hg : w1.heap.size = g)
    (h : ∀ v' w', w'.ownsRow base 40 4 v' (n + 1) (l ++ [.int .i64 z0, .string z1, .slice z2 z3 z4, .slice z5 z6 z7]) → Below base w1 w' → wpList Tryz.prog ops Q rest (a.put o.dst v') w')
    (hgd : o.guard = none := by exact rfl) (ho : o.op = .call { callee := .builtin .append, args := #[s, x], argTypes := #[38, 38] } := by exact rfl)
    (hs : a.eval s = v := by exact rfl) (hx : a.eval x = .slice (some ⟨g, 0, none⟩) 1 1 := by exact rfl) :
    wpList Tryz.prog ops Q (o :: rest) a (w1.alloc (.cells #[.int .i64 z0, .string z1, .slice z2 z3 z4, .slice z5 z6 z7] 40 fz)) := by
  subst hg
  obtain ⟨i0, hi, hz0, hz1, hz2⟩ := info_parts info_tT
  refine wpList_append_own _ hgd s x 38 ho base 40 i0 (.agg #[.int .i64 0, .string ⟨#[]⟩, .slice none 0 0, .slice none 0 0]) 4 72 Tryz.underlying38 hi hz0 hz1 hz2 rfl (by decide) v n l hs (hown.alloc _)
    ⟨w1.heap.size, 0, none⟩ 1 1 [.int .i64 z0, .string z1, .slice z2 z3 z4, .slice z5 z6 z7] hx rfl ?_ ?_ (by simp only [maxLen]; omega) (by omega) (by simp; omega) ?_
  · intro j u hj
    rw [Addr.add_lit, cell_of_row _ _ _ _ _ _ (heap_alloc_new w1 _)]
    simpa using hj
  · intro u hu
    simp at hu
    rcases hu with rfl | rfl | rfl | rfl <;> rfl
  · intro v' w' h1 h2 _
    refine h v' w' h1 ?_
    have hb : Below base w1 (w1.alloc (.cells #[.int .i64 z0, .string z1, .slice z2 z3 z4, .slice z5 z6 z7] 40 fz)) := (Below.refl _ _).alloc hbase _
    exact hb.grown h2 (by simp; omega) (fun k hk => (hown.lt k hk).1)
end Go.Proofs.YtcpadaelgdmipaaGreatDoor
namespace Go.Proofs.YtcpadaelgdmipaaGreatDoor
open Go.RowKit

set_option maxHeartbeats 4000000 in
set_option maxRecDepth 20000 in
theorem l04List_s (vs : List Va) (t : Ty) (ih : ∀ x ∈ vs, TxAt 44 anyW x t) (hn : vs.length ≤ 8) (hJ : (Lib.join (vtxs vs (List.replicate vs.length t)) [44, 32]).length ≤ 2000000000) (A : Option Addr) (c : Nat) (cs' : List Value) (w : World)
    (hvs : D.At w anyB (rows Va.ds 4 vs) (.slice A vs.length c)) (hcs' : D.Ats w anyB t.ds cs') :
    Calls Tryz.prog 60 #[.slice A vs.length c, .agg cs'.toArray] w fun e w' => e = .returned (.string ⟨(91 :: (Lib.join (vtxs vs (List.replicate vs.length t)) [44, 32] ++ [93])).toArray⟩) ∧ Below w.heap.size w w' := by
  obtain ⟨g0, g1, g2, g3, g4, g5, g6, g7, rfl⟩ := Ty.form hcs'
  obtain ⟨-, hvn, hvc⟩ := rows_bound hvs
  unfold maxLen at hvc
  obtain ⟨w0, hw0⟩ : ∃ w0, w0 = w.alloc (.cells #[.int .i64 g0, .string g1, .slice g2 g3 g4, .slice g5 g6 g7] 40) := ⟨_, rfl⟩
  have B0 : Below w.heap.size w w0 := by rw [hw0]; exact (Below.refl _ _).alloc (Nat.le_refl _) _
  have hs0 : w0.heap.size = w.heap.size + 1 := by rw [hw0]; simp
  have bT : Box w0 w.heap.size 40 [.int .i64 g0, .string g1, .slice g2 g3 g4, .slice g5 g6 g7] := by rw [hw0]; exact Box.new w _ _
  obtain ⟨J, hJe⟩ : ∃ J, Lib.join (vtxs vs (List.replicate vs.length t)) [44, 32] = J := ⟨_, rfl⟩
  have HK := Lib.hid (fun (A' : Option Addr) (c' : Nat) (W : World) (hb : Below w.heap.size w W) (h : D.At W anyB (rows Ty.ds 4 (List.replicate vs.length t)) (.slice A' vs.length c')) =>
    l04Kids_s vs (List.replicate vs.length t) [] (by simp) (.inl rfl) (by simp) (fun i x y hx hy => by
      have := List.getElem?_replicate (a := t) (n := vs.length) (i := i)
      rw [hy] at this
      split at this
      · rw [Option.some.inj this]; exact ih x (List.mem_of_getElem? hx)
      · cases this) (by rw [labC_nil]; exact hJ) A A' none c c' 0 W (hvs.below hb) (by rw [List.length_replicate]; exact h) (show D.At _ _ (strs []) _ from at_nil (Nat.zero_le _)))
  simp only [labC_nil, List.length_replicate, List.length_nil] at HK
  rw [hJe] at hJ ⊢
  simp only [hJe] at HK
  have HVS := Lib.hid hvs
  have HTT := Lib.hid hcs'
  have HB0 := Lib.hid (And.intro B0 (And.intro hs0 bT))
  clear hvs hcs' ih hJe B0 bT hs0
  change Calls Tryz.prog 60 #[.slice A vs.length c, .agg #[.int .i64 g0, .string g1, .slice g2 g3 g4, .slice g5 g6 g7]] w _
  go_enter Tryz.func60, Tryz.ntmps60
  go_upto_region 1 with fail
  rw [← hw0]
  clear hw0
  go_wp2
  go_loopw [5, 6] (fun v i wr => ∃ k : Nat, k ≤ vs.length ∧ i = .int .i64 k ∧ wr.ownsRow (w.heap.size + 1) 40 4 v k (timesL [.int .i64 g0, .string g1, .slice g2 g3 g4, .slice g5 g6 g7] k) ∧ Below (w.heap.size + 1) w0 wr) (fun _ i _ => vs.length - (intOf i).toNat)
  case atStart => exact ⟨0, Nat.zero_le _, rfl, World.ownsRow_lit _ _ _ (by rw [HB0.out.2.1]; exact Nat.le_refl _) (by simp) (by simp), (Below.refl _ _).alloc (by rw [HB0.out.2.1]; exact Nat.le_refl _) _⟩
  case round =>
    obtain ⟨k, hk, rfl, hO, hb⟩ := hrel
    have hsw : w.heap.size + 1 ≤ wr.heap.size := by have := hb.size; have := HB0.out.2.1; omega
    have bT : Box wr w.heap.size 40 [.int .i64 g0, .string g1, .slice g2 g3 g4, .slice g5 g6 g7] := (hb.block _ (by omega)).trans HB0.out.2.2
    by_cases hlt : k < vs.length
    · have k0 : (0 : Int) ≤ (k : Int) := by omega
      have k1 : (k : Int) < (vs.length : Int) := by omega
      have kT := bT.cell
      have HBB := Lib.hid hb
      clear hb bT
      go_wp2_with (at_builtin; refine wpList_ty hO g0 g1 g2 g3 g4 g5 g6 g7 (.tmp 14) (.tmp 16) (by omega) hsw wr.heap.size rfl ?_; intro v' w' ho' hb')
      have HON := Lib.hid (show w'.ownsRow (w.heap.size + 1) 40 4 v' (k + 1) (timesL [.int .i64 g0, .string g1, .slice g2 g3 g4, .slice g5 g6 g7] (k + 1)) by
        have e : timesL [.int .i64 g0, .string g1, .slice g2 g3 g4, .slice g5 g6 g7] (k + 1) = timesL [.int .i64 g0, .string g1, .slice g2 g3 g4, .slice g5 g6 g7] k ++ [.int .i64 g0, .string g1, .slice g2 g3 g4, .slice g5 g6 g7] := by
          unfold timesL
          rw [← List.replicate_append_replicate (n := k) (m := 1), List.flatten_append]
          simp
        rw [e]; exact ho')
      have HBN := Lib.hid (HBB.out.trans hb')
      clear ho' hb' hO kT
      go_wp2
      go_roundw
      case rel => exact ⟨k + 1, by omega, by go_num, HON.out, HBN.out⟩
      case measure => simp [intOf]; omega
    · obtain rfl : k = vs.length := by omega
      have hbw : Below w.heap.size w wr := HB0.out.1.trans (hb.mono (by omega))
      have hat : D.At wr anyB (.sl vs.length 4 ((List.replicate vs.length t).flatMap Ty.ds)) _ := D.At.of_own hO (fun _ _ => trivial) (ats_times (HTT.out.below hbw) vs.length) (by unfold maxLen; omega)
      obtain ⟨A9, c9, rfl, -, -⟩ : ∃ A c, _ = Value.slice A vs.length c ∧ vs.length ≤ c ∧ c ≤ maxLen := by
        simp only [D.At] at hat
        obtain ⟨A, c, xs, e, h1, h2, -⟩ := hat
        exact ⟨A, c, e, h1, h2⟩
      have HKK := Lib.hid (HK.out A9 c9 wr hbw (by unfold rows; rw [List.length_replicate]; exact hat))
      have HBW := Lib.hid hbw
      have hjs : (⟨J.toArray⟩ : ByteArray).size ≤ 2000000000 := by simpa [ByteArray.size] using hJ
      obtain ⟨JB, hJB⟩ : ∃ JB : ByteArray, (⟨J.toArray⟩ : ByteArray) = JB := ⟨_, rfl⟩
      rw [hJB] at HKK hjs
      have HJB := Lib.hid (show JB.data.toList = J by rw [← hJB])
      clear hO hb hbw hat hJB hJ bT
      go_wp2_with fail
      refine HKK.out.mono ?_
      rintro e w2 ⟨rfl, hb2⟩
      have HB2 := Lib.hid (HBW.out.trans (hb2.mono HBW.out.size))
      clear hb2
      go_wp2
      go_ret
      refine ⟨ret_eq (congrArg Value.string (ba_of ?_)), HB2.out⟩
      simp [HJB.out]
theorem i64_and1 (n : Int) : bits .and .i64 n 1 = n % 2 := by
  have h63 : (BitVec.ofInt 64 1).toNat = 2 ^ 1 - 1 := by decide
  have key : (BitVec.ofInt 64 n &&& BitVec.ofInt 64 1).toNat = (n % ((2 ^ 64 : Nat) : Int)).toNat % 2 ^ 1 := by
    rw [BitVec.toNat_and, BitVec.toNat_ofInt, h63, Nat.and_two_pow_sub_one_eq_mod]
  show IntKind.i64.wrap ((BitVec.ofInt 64 n &&& BitVec.ofInt 64 1).toNat : Nat) = n % 2
  rw [key, IntKind.wrap_i64]
  omega
theorem bit_at (m k : Nat) : bits .and .i64 ((m : Int) / 2 ^ k) 1 = ((m / 2 ^ k % 2 : Nat) : Int) := by
  have e : (m : Int) / 2 ^ k = ((m / 2 ^ k : Nat) : Int) := by push_cast; rfl
  rw [e, i64_and1]
  omega
theorem join2_ne {L : List (List UInt8)} (h : ∀ x ∈ L, x ≠ []) (hL : L ≠ []) : Lib.join L [44, 32] ≠ [] := by
  cases L with
  | nil => exact absurd rfl hL
  | cons x r =>
    rw [Lib.join_cons]
    intro e
    exact h x (by simp) (List.append_eq_nil_iff.1 e).1
set_option maxHeartbeats 4000000 in
set_option maxRecDepth 20000 in
theorem l04Flags_s (m : Nat) (ls : List ByteArray) (_hm : m ≤ 65535) (hl : ls.length ≤ 16) (hsm : ∀ a ∈ ls, 1 ≤ a.size ∧ a.size ≤ 12) (A : Option Addr) (c : Nat) (w : World) (hls : D.At w anyB (strs ls) (.slice A ls.length c)) :
    Calls Tryz.prog 63 #[.int .i64 (m : Int), .slice A ls.length c] w fun e w' => e = .returned (.string ⟨(123 :: (Lib.join (flg (m : Int) 0 ls) [44, 32] ++ [125])).toArray⟩) ∧ Below w.heap.size w w' := by
  obtain ⟨-, hvn, hvc⟩ := rows_bound hls
  unfold maxLen at hvc
  have HLS := Lib.hid hls
  have HSM := Lib.hid hsm
  clear hls hsm
  go_enter Tryz.func63, Tryz.ntmps63
  go_wp2
  go_loopw [5, 6] (fun s i wr => ∃ (k : Nat) (T : ByteArray), k ≤ ls.length ∧ i = .int .i64 k ∧ s = .string T ∧ T.data.toList = Lib.join (flg (m : Int) 0 (ls.take k)) [44, 32] ∧ Below w.heap.size w wr) (fun _ i _ => ls.length - (intOf i).toNat)
  case atStart => exact ⟨0, _, Nat.zero_le _, rfl, rfl, by simp [flg, Lib.join_nil], Below.refl _ _⟩
  case round =>
    obtain ⟨k, T, hk, rfl, rfl, hT, hb⟩ := hrel
    have HT := Lib.hid hT
    clear hT
    by_cases hlt : k < ls.length
    · obtain ⟨x, hx⟩ : ∃ x, ls[k]? = some x := ⟨ls[k], List.getElem?_eq_getElem hlt⟩
      have k0 : (0 : Int) ≤ (k : Int) := by omega
      have k1 : (k : Int) < (ls.length : Int) := by omega
      obtain ⟨b, off, rfl, hbl, c0⟩ := strs_cell (HLS.out.below hb) hx
      have hxs := HSM.out x (List.mem_of_getElem? hx)
      have HN := Lib.hid (flg_next (m := (m : Int)) hx)
      have HBW := Lib.hid hb
      have hTs : T.size ≤ 100000 := by
        have h1 := join2_len (flg (m : Int) 0 (ls.take k))
        have h2 := flg_len (m : Int) (ls.take k) 0
        have h3 := lenS_le (flg (m : Int) 0 (ls.take k)) 12 (fun y hy => by
          obtain ⟨a, ha, rfl⟩ := flg_mem hy
          have := (HSM.out a (List.mem_of_mem_take ha)).2
          simpa using this)
        rw [List.length_take] at h2
        rw [ba_size, HT.out]
        omega
      have hbit := bit_at m k
      have HBO := Lib.hid (show bitOn (m : Int) k = (m / 2 ^ k % 2 == 1) from rfl)
      have hway : m / 2 ^ k % 2 = 0 ∨ m / 2 ^ k % 2 = 1 := by omega
      clear hx hb
      rcases hway with hw | hw
      · rw [hw] at hbit
        have HBF := Lib.hid (show flg (m : Int) 0 (ls.take (k + 1)) = flg (m : Int) 0 (ls.take k) by rw [HN.out, HBO.out, hw]; simp)
        clear hw
        go_wp2
        go_roundw
        case rel => exact ⟨k + 1, T, by omega, by go_num, rfl, by rw [HBF.out]; exact HT.out, HBW.out⟩
        case measure => simp [intOf]; omega
      · rw [hw] at hbit
        have HBF := Lib.hid (show flg (m : Int) 0 (ls.take (k + 1)) = flg (m : Int) 0 (ls.take k) ++ [x.data.toList] by rw [HN.out, HBO.out, hw]; simp)
        clear hw
        by_cases hL : flg (m : Int) 0 (ls.take k) = []
        · have hte : T.toList.isEmpty = true := by
            have h := HT.out
            rw [hL] at h
            rw [Lib.toList_data, h]; rfl
          have HJ := Lib.hid (show x.data.toList = Lib.join (flg (m : Int) 0 (ls.take (k + 1))) [44, 32] by rw [HBF.out, hL, join2_snoc, if_pos rfl])
          have HTE := Lib.hid (show T.data.toList = [] by have h := HT.out; rw [hL] at h; exact h)
          clear hL
          go_wp2
          go_roundw
          case rel => exact ⟨k + 1, _, by omega, by go_num, rfl, by rw [← HJ.out]; simp [HTE.out], HBW.out⟩
          case measure => simp [intOf]; omega
        · have hne := join2_ne (L := flg (m : Int) 0 (ls.take k)) (fun y hy => by
            obtain ⟨a, ha, rfl⟩ := flg_mem hy
            have h1 := (HSM.out a (List.mem_of_mem_take ha)).1
            intro e
            have h2 : a.data.toList.length = a.size := by simp
            rw [e, List.length_nil] at h2
            omega) hL
          have hte : T.toList.isEmpty = false := by
            rw [Lib.toList_data, HT.out]
            cases h : Lib.join (flg (m : Int) 0 (ls.take k)) [44, 32] with
            | nil => exact absurd h hne
            | cons a b => rfl
          have HJ := Lib.hid (show T.data.toList ++ (44 :: 32 :: x.data.toList) = Lib.join (flg (m : Int) 0 (ls.take (k + 1))) [44, 32] by rw [HBF.out, join2_snoc, if_neg hL, HT.out])
          clear hL hne
          go_wp2
          go_roundw
          case rel => exact ⟨k + 1, _, by omega, by go_num, rfl, by rw [← HJ.out]; simp, HBW.out⟩
          case measure => simp [intOf]; omega
    · obtain rfl : k = ls.length := by omega
      have hTs : T.size ≤ 100000 := by
        have h1 := join2_len (flg (m : Int) 0 (ls.take ls.length))
        have h2 := flg_len (m : Int) (ls.take ls.length) 0
        have h3 := lenS_le (flg (m : Int) 0 (ls.take ls.length)) 12 (fun y hy => by
          obtain ⟨a, ha, rfl⟩ := flg_mem hy
          have := (HSM.out a (List.mem_of_mem_take ha)).2
          simpa using this)
        rw [List.length_take] at h2
        rw [ba_size, HT.out]
        omega
      have HBW := Lib.hid hb
      clear hb
      go_wp2
      go_ret
      refine ⟨ret_eq (congrArg Value.string (ba_of ?_)), HBW.out⟩
      have h := HT.out
      rw [List.take_length] at h
      simp [h]
end Go.Proofs.YtcpadaelgdmipaaGreatDoor
