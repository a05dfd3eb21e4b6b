/- GetHex: what the program's and the reference's function compute, and the law. -/
import Derived.Test.YtokppmhihghapaaPutHex
import Derived.Test.YtokppmhihghapaaShelf
import Derived.Test.YtokppmhihghapaaTree
namespace Go.Proofs.Ytokppmhihghapaa
open Go.RowKit Go.PlainAid

/-- The value of a hexadecimal digit; 16: it is none. -/
def hexVal (c : Nat) : Nat := if 48 ≤ c ∧ c ≤ 57 then c - 48 else if 97 ≤ c ∧ c ≤ 102 then c - 87 else 16
theorem hexVal_le (c : Nat) : hexVal c ≤ 16 := by unfold hexVal; split <;> (try split) <;> omega
theorem hexd_val (c : UInt8) (h : hexVal c.toNat < 16) : hexd (hexVal c.toNat) = c := by
  have key : ∀ n : Fin 256, hexVal n.1 < 16 → hexd (hexVal n.1) = UInt8.ofNat n.1 := by decide +kernel
  have := key ⟨c.toNat, c.toNat_lt⟩ h
  simpa using this
theorem val_hexd (n : Nat) (h : n < 16) : hexVal (hexd n).toNat = n := by
  have key : ∀ m : Fin 16, hexVal (hexd m.1).toNat = m.1 := by decide +kernel
  exact key ⟨n, h⟩
/-- The bytes whose digits these are. -/
def unhex : List UInt8 → Option (List UInt8)
  | [] => some []
  | [_] => none
  | a :: b :: r => if hexVal a.toNat < 16 ∧ hexVal b.toNat < 16 then (unhex r).map (UInt8.ofNat (hexVal a.toNat * 16 + hexVal b.toNat) :: ·) else none
/-- The same, whatever the digits are: the program's. -/
def byteOf (a b : UInt8) : UInt8 := UInt8.ofNat ((Lib.indexByte [48, 49, 50, 51, 52, 53, 54, 55, 56, 57, 97, 98, 99, 100, 101, 102] a * 16 + Lib.indexByte [48, 49, 50, 51, 52, 53, 54, 55, 56, 57, 97, 98, 99, 100, 101, 102] b) % 256).toNat
def un : List UInt8 → List UInt8
  | [] => []
  | [_] => []
  | a :: b :: r => byteOf a b :: un r
theorem index_val (c : UInt8) : Lib.indexByte [48, 49, 50, 51, 52, 53, 54, 55, 56, 57, 97, 98, 99, 100, 101, 102] c = if hexVal c.toNat < 16 then (hexVal c.toNat : Int) else -1 := by
  have key : ∀ n : Fin 256, Lib.indexByte [48, 49, 50, 51, 52, 53, 54, 55, 56, 57, 97, 98, 99, 100, 101, 102] (UInt8.ofNat n.1) = if hexVal n.1 < 16 then (hexVal n.1 : Int) else -1 := by decide +kernel
  have := key ⟨c.toNat, c.toNat_lt⟩
  simpa using this
theorem byteOf_val {a b : UInt8} (ha : hexVal a.toNat < 16) (hb : hexVal b.toNat < 16) : byteOf a b = UInt8.ofNat (hexVal a.toNat * 16 + hexVal b.toNat) := by
  unfold byteOf
  rw [index_val, index_val, if_pos ha, if_pos hb]
  congr 1
  omega
theorem unhex_some (l : List UInt8) : ∀ b, unhex l = some b → un l = b ∧ hexs b = l := by
  induction l using unhex.induct with
  | case1 => intro b h; simp [unhex] at h; subst h; exact ⟨rfl, rfl⟩
  | case2 a => intro b h; simp [unhex] at h
  | case3 a c r hac ih =>
    intro b h
    rw [unhex, if_pos hac] at h
    obtain ⟨b', h1, rfl⟩ := Option.map_eq_some_iff.1 h
    obtain ⟨h2, h3⟩ := ih b' h1
    obtain ⟨ha, hc⟩ := hac
    refine ⟨by rw [un, h2, byteOf_val ha hc], ?_⟩
    have e : (UInt8.ofNat (hexVal a.toNat * 16 + hexVal c.toNat)).toNat = hexVal a.toNat * 16 + hexVal c.toNat := by simp; omega
    rw [hexs, e, h3]
    have e1 : (hexVal a.toNat * 16 + hexVal c.toNat) / 16 = hexVal a.toNat := by omega
    have e2 : (hexVal a.toNat * 16 + hexVal c.toNat) % 16 = hexVal c.toNat := by omega
    rw [e1, e2, hexd_val a ha, hexd_val c hc]
  | case4 a c r hac => intro b h; rw [unhex, if_neg hac] at h; cases h
theorem unhex_none (l : List UInt8) : unhex l = none → hexs (un l) ≠ l := by
  induction l using unhex.induct with
  | case1 => intro h; simp [unhex] at h
  | case2 a => intro _; simp [un, hexs]
  | case3 a c r hac ih =>
    intro h
    rw [unhex, if_pos hac] at h
    have h1 : unhex r = none := by simpa using h
    intro he
    rw [un, hexs] at he
    injection he with _ he
    injection he with _ he
    exact ih h1 he
  | case4 a c r hac =>
    intro _ he
    rw [un, hexs] at he
    injection he with e1 he
    injection he with e2 _
    apply hac
    generalize byteOf a c = z at *
    have hz := z.toNat_lt
    rw [← e1, ← e2, val_hexd _ (by omega), val_hexd _ (by omega)]
    omega
theorem unhex_app (p q : List UInt8) : ∀ b, unhex p = some b → unhex (p ++ q) = (unhex q).map (b ++ ·) := by
  induction p using unhex.induct with
  | case1 => intro b h; simp [unhex] at h; subst h; simp
  | case2 a => intro b h; simp [unhex] at h
  | case3 a c r hac ih =>
    intro b h
    rw [unhex, if_pos hac] at h
    obtain ⟨b', h1, rfl⟩ := Option.map_eq_some_iff.1 h
    simp only [List.cons_append]
    rw [unhex, if_pos hac, ih b' h1, Option.map_map]
    rfl
  | case4 a c r hac => intro b h; rw [unhex, if_neg hac] at h; cases h
theorem un_app (k : Nat) : ∀ (p q : List UInt8), p.length = 2 * k → un (p ++ q) = un p ++ un q := by
  induction k with
  | zero => intro p q h; obtain rfl : p = [] := List.eq_nil_of_length_eq_zero (by omega); rfl
  | succ k ih =>
    intro p q h
    match p, h with
    | a :: b :: r, h => simp only [List.cons_append, un]; rw [ih r q (by simp at h; omega)]
theorem un_len (l : List UInt8) : (un l).length = l.length / 2 := by
  induction l using un.induct with
  | case1 => rfl
  | case2 => simp [un]
  | case3 a b r ih => simp only [un, List.length_cons, ih]; omega
theorem unhex_odd (l : List UInt8) (h : l.length % 2 = 1) : unhex l = none := by
  induction l using unhex.induct with
  | case1 => simp at h
  | case2 => rfl
  | case3 a c r hac ih => rw [unhex, if_pos hac, ih (by simp at h; omega)]; rfl
  | case4 a c r hac => rw [unhex, if_neg hac]
theorem drop_two (s : ByteArray) (k : Nat) (h : k + 1 < s.size) : s.data.toList.drop k = s[k] :: s[k + 1] :: s.data.toList.drop (k + 2) := by
  have h1 : k < s.data.toList.length := by simp; omega
  have h2 : k + 1 < s.data.toList.length := by simp; omega
  rw [List.drop_eq_getElem_cons h1, List.drop_eq_getElem_cons h2]
  rfl
theorem take_two (s : ByteArray) (k : Nat) (h : k + 1 < s.size) : s.data.toList.take (k + 2) = s.data.toList.take k ++ [s[k], s[k + 1]] := by
  rw [take_snoc s (k + 1) h, take_snoc s k (by omega)]
  simp
/-- What GetHex returns. -/
def RetHex (s : ByteArray) (w : World) (e : Ending) (w' : World) : Prop :=
  e = .returned (.tuple #[.string ⟨((unhex s.data.toList).getD []).toArray⟩, .bool (unhex s.data.toList).isSome]) ∧ Below w.heap.size w w'
theorem ret_hex_no {s : ByteArray} {w w' : World} (h : unhex s.data.toList = none) (hb : Below w.heap.size w w') : RetHex s w (.returned (.tuple #[.string ⟨#[]⟩, .bool false])) w' := by
  refine ⟨?_, hb⟩; rw [h]; rfl
theorem ret_hex_yes {s : ByteArray} {w w' : World} {b : List UInt8} (h : unhex s.data.toList = some b) (hb : Below w.heap.size w w') : RetHex s w (.returned (.tuple #[.string ⟨b.toArray⟩, .bool true])) w' := by
  refine ⟨?_, hb⟩; rw [h]; rfl

set_option maxRecDepth 20000 in
theorem l01Hex_s (x : Int) (h0 : 0 ≤ x) (h1 : x < 256) (w : World) :
    Calls Try.prog 62 #[.int .u8 x] w fun e w' => e = .returned (.int .u8 (hexVal x.toNat)) ∧ w = w' := by
  obtain ⟨c, rfl⟩ := Int.eq_ofNat_of_zero_le h0
  rw [Int.toNat_natCast]
  go_enter Try.func62, Try.ntmps62
  by_cases h1 : 48 ≤ c ∧ c ≤ 57
  · obtain ⟨h1, h2⟩ := h1
    go_wp2
    go_ret
    exact ⟨ret_eq (by simp [hexVal, h1, h2]; omega), rfl⟩
  · by_cases h3 : 97 ≤ c ∧ c ≤ 102
    · obtain ⟨h3, h4⟩ := h3
      have h5 : ¬ c ≤ 57 := by omega
      go_wp2
      go_ret
      exact ⟨ret_eq (by simp [hexVal, h5, h3, h4]; omega), rfl⟩
    · have hv : hexVal c = 16 := by simp [hexVal, h1, h3]
      rw [hv]
      have h6 : c < 48 ∨ (57 < c ∧ c < 97) ∨ 102 < c := by omega
      rcases h6 with h6 | ⟨h6, h7⟩ | h6
      all_goals
        go_wp2
        go_ret
        exact ⟨rfl, rfl⟩

set_option maxHeartbeats 1000000 in
set_option maxRecDepth 20000 in
theorem getHex_s (s : ByteArray) (hs : s.size ≤ 1048576) (w : World) : Calls Try.prog 20 #[.string s] w (RetHex s w) := by
  by_cases hodd : s.size % 2 = 1
  · have hu : unhex s.data.toList = none := unhex_odd _ (by simpa using hodd)
    have HU := Lib.hid hu
    have ho : 0 < (s.size : Int) % 2 := by omega
    clear hodd hu
    go_enter Try.func20, Try.ntmps20
    go_wp2
    go_ret2
    exact ret_hex_no HU.out (Below.refl _ _)
  · obtain ⟨n, hn⟩ : ∃ n, s.size = 2 * n := ⟨s.size / 2, by omega⟩
    have ho : ¬ 0 < (s.size : Int) % 2 := by omega
    have HN := Lib.hid hn
    clear hodd hn
    have hbt := get_bt s
    go_enter Try.func20, Try.ntmps20
    go_wp2
    go_loopw [4, 5, 6, 7] (fun b i _ _ wr => ∃ (k : Nat) (bs : List UInt8), k ≤ s.size ∧ i = .int .i64 k ∧ k % 2 = 0 ∧ unhex (s.data.toList.take k) = some bs ∧ bs.length ≤ k ∧ wr.ownsRow w.heap.size 5 1 b bs.length (bs.map bv) ∧ Below w.heap.size w wr) (fun _ i _ _ _ => s.size - (intOf i).toNat)
    case atStart => exact ⟨0, [], Nat.zero_le _, rfl, rfl, by simp [unhex], Nat.le_refl _, World.ownsRow_lit _ _ _ (Nat.le_refl _) (by simp) (by simp), (Below.refl _ _).alloc (Nat.le_refl _) _⟩
    case round =>
      obtain ⟨k, bs, hk, rfl, hev, hun, hbl, hown, hb⟩ := hrel
      have hev2 : k < s.size → k + 1 < s.size := by have := HN.out; omega
      have HU := Lib.hid (And.intro hev hun)
      clear hev hun
      by_cases hlt : k < s.size
      · have hlt2 := hev2 hlt
        have c0 := bt_nonneg s k
        have c1 := bt_le s k
        have d0 := bt_nonneg s (k + 1)
        have d1 := bt_le s (k + 1)
        have hk0 : (0 : Int) ≤ (k : Int) := by omega
        have hk1 : (k : Int) < (s.size : Int) := by omega
        have hk2 : (0 : Int) ≤ (k : Int) + 1 := by omega
        have hk3 : (k : Int) + 1 < (s.size : Int) := by omega
        have hk4 : IntKind.i64.wrap ((k : Int) + 1) = (k : Int) + 1 := by rw [IntKind.wrap_i64]; omega
        have hk5 : ((k : Int) + 1).toNat = k + 1 := by omega
        clear hev2
        go_wp2_with fail
        refine wp_region_quiet_below (by kernel_rfl) (by kernel_rfl) ?_
        repeat (first | go_big_quiet_step (exact regrown_same (l01Hex_s _ (by omega) (by omega) _)) | quiet_step (exact regrown_same (l01Hex_s _ (by omega) (by omega) _)))
        refine wpQuiet_nil ?_
        intro w2 hw2
        have hr2 := below_of_regrown hw2
        have hb2 := hb.trans (hr2.mono hb.size)
        clear hw2 hk4 hk5
        replace hown := own_call hown hr2
        generalize hu : hexVal (bt s k).toNat = u at *
        generalize hv : hexVal (bt s (k + 1)).toNat = v at *
        have hu1 : u ≤ 16 := by rw [← hu]; exact hexVal_le _
        have hv1 : v ≤ 16 := by rw [← hv]; exact hexVal_le _
        have HD := Lib.hid (drop_two s k hlt2)
        have eu : hexVal s[k].toNat = u := by rw [← hu]; congr 1; have := hbt k hlt; omega
        have ev : hexVal (s[k + 1]'hlt2).toNat = v := by rw [← hv]; congr 1; have := hbt (k + 1) hlt2; omega
        have HV := Lib.hid (And.intro eu ev)
        have htd : s.data.toList = s.data.toList.take k ++ s.data.toList.drop k := (List.take_append_drop _ _).symm
        have HT := Lib.hid htd
        clear hu hv eu ev htd hr2
        by_cases hbad : u < 16 ∧ v < 16
        · obtain ⟨hu2, hv2⟩ := hbad
          have hnext : unhex (s.data.toList.take (k + 2)) = some (bs ++ [UInt8.ofNat (u * 16 + v)]) := by
            rw [take_two s k hlt2, unhex_app _ _ _ HU.out.2]
            simp [unhex, HV.out.1, HV.out.2, hu2, hv2]
          have hor : bits .or .u8 ((u : Int) * 16) (v : Int) = (u * 16 + v : Nat) := by
            have key : ∀ a b : Fin 16, bits .or .u8 ((a.1 : Int) * 16) (b.1 : Int) = (a.1 * 16 + b.1 : Nat) := by decide +kernel
            exact key ⟨u, hu2⟩ ⟨v, hv2⟩
          have HX := Lib.hid hnext
          have hev3 : (k + 2) % 2 = 0 := by have := HU.out.1; omega
          have HE := Lib.hid hev3
          have hu3 : ¬ (15 : Int) < u := by omega
          have hv3 : ¬ (15 : Int) < v := by omega
          have hl2 : bs.length + 1 ≤ 140737488355328 := by omega
          clear hnext hev3 hbt
          have hy : ((UInt8.ofNat (u * 16 + v)).toNat : Int) = (u : Int) * 16 + v := by simp; omega
          have HY := Lib.hid hy
          clear hy
          go_wp2_with (refine wpList_byte hown (UInt8.ofNat (u * 16 + v)) HY.out (.tmp 34) (.tmp 39) hl2 hb2.size ?_; intro v' w' ho' hb')
          have hb3 := hb2.trans hb'
          clear hown hb' hb2
          go_wp2
          go_roundw
          case rel => exact ⟨k + 2, _, by omega, by go_num, HE.out, HX.out, by simp; omega, by simpa using ho', hb3⟩
          case measure => simp [intOf]; omega
        · have hno : unhex s.data.toList = none := by
            rw [HT.out, unhex_app _ _ _ HU.out.2, HD.out, unhex, HV.out.1, HV.out.2, if_neg hbad]; rfl
          have HX := Lib.hid hno
          clear hno
          by_cases hu2 : u < 16
          · have hu3 : ¬ (15 : Int) < u := by omega
            have hv3 : (15 : Int) < v := by omega
            go_wp2
            go_ret2
            exact ret_hex_no HX.out hb2
          · have hu3 : (15 : Int) < u := by omega
            go_wp2
            go_ret2
            exact ret_hex_no HX.out hb2
      · have hcv := own_string hown
        have hal : s.data.toList.take k = s.data.toList := take_all s k (by omega)
        have hfin : unhex s.data.toList = some bs := by rw [← hal]; exact HU.out.2
        have HX := Lib.hid hfin
        clear hal hfin
        go_wp2
        go_ret2
        exact ret_hex_yes HX.out hb

/-- The same as one step of a region that draws its order. -/
theorem step_byte1 {w1 : World} {ops : Array Oper} {o : Oper} {a : Act} {K : Act → World → Prop} {Q : Exit → Act → World → Prop} {E : Prop} {base : Nat} {v : Value} {n : Nat} {l : List UInt8} {fz : Nat × Nat}
    (hown : w1.ownsRow base 5 1 v n (l.map bv)) (c : UInt8) {y : Int} (hy : (c.toNat : Int) = y) (s x : Operand)
    (hn : n + 1 ≤ 140737488355328) (hbase : base ≤ w1.heap.size)
    (h : ∀ v' w', w'.ownsRow base 5 1 v' (n + 1) ((l ++ [c]).map bv) → Below base w1 w' → K (a.put o.dst v') w')
    (hgd : o.guard = none := by exact rfl) (ho : o.op = .call { callee := .builtin .append, args := #[s, x], argTypes := #[96, 96] } := by exact rfl)
    (hs : a.eval s = v := by simp [Act.eval, Act.put]) (hx : a.eval x = .slice (some ⟨w1.heap.size, 0, none⟩) 1 1 := by simp [Act.eval, Act.put]) :
    if Region.wanted o (yielded ops a.tmps) = true then Oper.wp Try.prog o a (w1.alloc (.cells #[.int .u8 y] 5 fz)) K Q else E := by
  subst hy
  have hw : Region.wanted o (yielded ops a.tmps) = true := by simp [Region.wanted, hgd]
  rw [if_pos hw]
  obtain ⟨i0, hi, hz0, hz1, hz2⟩ := info_parts info_u8
  refine wp_append_own _ s x 96 ho base 5 i0 (.int .u8 0) 1 1 Try.underlying96 hi hz0 hz1 hz2 rfl (by decide) v n (l.map bv) hs (hown.alloc _)
    ⟨w1.heap.size, 0, none⟩ 1 1 [bv c] hx rfl ?_ ?_ (by simp only [maxLen]; omega) (by omega) (by simp; omega) ?_
  · intro j u hj
    match j, hj with
    | 0, hj =>
      simp at hj
      subst hj
      rw [Addr.add_lit, cell_of_row _ _ _ _ _ _ (heap_alloc_new w1 _)]
      rfl
  · intro u hu
    simp at hu
    subst hu
    rfl
  · intro v' w' h1 h2 _
    refine h v' w' (by simpa using h1) ?_
    have hb : Below base w1 (w1.alloc (.cells #[.int .u8 c.toNat] 5 fz)) := (Below.refl _ _).alloc hbase _
    exact hb.grown h2 (by simp; omega) (fun k hk => (hown.lt k hk).1)


def idxV (n : Nat) : Int := if hexVal n < 16 then (hexVal n : Int) else -1
theorem idxV_range (n : Nat) : -1 ≤ idxV n ∧ idxV n ≤ 15 := by unfold idxV; split <;> omega
theorem idx_i (x p : Int) (_h0 : 0 ≤ x) (h1 : x < 256) (hp : idxV x.toNat = p) (w : World) :
    Calls Try.prog 63 #[.string ⟨#[48, 49, 50, 51, 52, 53, 54, 55, 56, 57, 97, 98, 99, 100, 101, 102]⟩, .int .u8 x] w fun e w' => e = .returned (.int .i64 p) ∧ w' = w := by
  refine (Try.strings_IndexByte _ x w).mono ?_
  rintro e w' ⟨rfl, rfl⟩
  refine ⟨?_, rfl⟩
  subst hp
  have e := index_val x.toNat.toUInt8
  have ex : x.toNat.toUInt8.toNat = x.toNat := by simp; omega
  rw [ex] at e
  simp only [e, idxV]
set_option maxHeartbeats 1000000 in
set_option maxRecDepth 20000 in
theorem getHex_i (s : ByteArray) (hs : s.size ≤ 1048576) (w : World) : Calls Try.prog 21 #[.string s] w (RetHex s w) := by
  have hbt := get_bt s
  go_enter Try.func21, Try.ntmps21
  go_wp2
  go_loopw [4, 5] (fun b i wr => ∃ k : Nat, k ≤ s.size ∧ i = .int .i64 k ∧ k % 2 = 0 ∧ wr.ownsRow w.heap.size 5 1 b (un (s.data.toList.take k)).length ((un (s.data.toList.take k)).map bv) ∧ Below w.heap.size w wr) (fun _ i _ => s.size - (intOf i).toNat)
  case atStart => exact ⟨0, Nat.zero_le _, rfl, rfl, World.ownsRow_lit _ _ _ (Nat.le_refl _) (by simp) (by simp), (Below.refl _ _).alloc (Nat.le_refl _) _⟩
  case round =>
    obtain ⟨k, hk, rfl, hev, hown, hb⟩ := hrel
    have HU := Lib.hid hev
    clear hev
    by_cases hlt2 : k + 1 < s.size
    · have c0 := bt_nonneg s k
      have c1 := bt_le s k
      have d0 := bt_nonneg s (k + 1)
      have d1 := bt_le s (k + 1)
      have hk0 : (0 : Int) ≤ (k : Int) := by omega
      have hk1 : (k : Int) < (s.size : Int) := by omega
      have hk2 : (0 : Int) ≤ (k : Int) + 1 := by omega
      have hk3 : (k : Int) + 1 < (s.size : Int) := by omega
      have hk4 : IntKind.i64.wrap ((k : Int) + 1) = (k : Int) + 1 := by rw [IntKind.wrap_i64]; omega
      have hk5 : ((k : Int) + 1).toNat = k + 1 := by omega
      obtain ⟨p, hp⟩ : ∃ p, idxV (bt s k).toNat = p := ⟨_, rfl⟩
      obtain ⟨q, hq⟩ : ∃ q, idxV (bt s (k + 1)).toNat = q := ⟨_, rfl⟩
      have hpr := idxV_range (bt s k).toNat
      have hqr := idxV_range (bt s (k + 1)).toNat
      rw [hp] at hpr
      rw [hq] at hqr
      obtain ⟨p0, p1⟩ := hpr
      obtain ⟨q0, q1⟩ := hqr
      have e1 : s[k].toNat = (bt s k).toNat := by have := hbt k (by omega); omega
      have e2 : (s[k + 1]'hlt2).toNat = (bt s (k + 1)).toNat := by have := hbt (k + 1) hlt2; omega
      have hbv : byteOf s[k] (s[k + 1]'hlt2) = UInt8.ofNat ((p * 16 + q) % 256).toNat := by
        unfold byteOf
        rw [index_val, index_val, e1, e2, ← hp, ← hq]
        rfl
      have hnx : un (s.data.toList.take (k + 2)) = un (s.data.toList.take k) ++ [UInt8.ofNat ((p * 16 + q) % 256).toNat] := by
        rw [take_two s k hlt2, un_app (k / 2) _ _ (by rw [take_len s k (by omega)]; have := HU.out; omega), ← hbv]
        rfl
      have hy : ((UInt8.ofNat ((p * 16 + q) % 256).toNat).toNat : Int) = (p * 16 + q) % 256 := by simp; omega
      have hl2 : (un (s.data.toList.take k)).length + 1 ≤ 140737488355328 := by rw [un_len, take_len s k (by omega)]; omega
      have m1 : IntKind.i64.wrap (p * 16) = p * 16 := by rw [IntKind.wrap_i64]; omega
      have m2 : IntKind.i64.wrap (p * 16 + q) = p * 16 + q := by rw [IntKind.wrap_i64]; omega
      have m3 : IntKind.u8.wrap (p * 16 + q) = (p * 16 + q) % 256 := by rw [IntKind.wrap_u8]
      have HP := Lib.hid hp
      have HQ := Lib.hid hq
      have HY := Lib.hid hy
      have HX := Lib.hid hnx
      have hev3 : (k + 2) % 2 = 0 := by have := HU.out; omega
      have HE := Lib.hid hev3
      have hd : wr.drew.heap.size = wr.heap.size := rfl
      clear hp hq e1 e2 hbv hnx hy hev3
      go_wp2_with fail
      go_region_law (first
        | (refine step_byte1 (w1 := wr.drew) hown (UInt8.ofNat ((p * 16 + q) % 256).toNat) HY.out (.tmp 14) (.tmp 27) hl2 hb.size ?_; intro v' w' ho' hb')
        | (go_simp; go_at_call 63; ((with_reducible refine (idx_i (bt s k) p (by omega) (by omega) HP.out _).mono ?_); rintro e w1 ⟨rfl, rfl⟩))
        | (go_simp; go_at_call 63; ((with_reducible refine (idx_i (bt s (k + 1)) q (by omega) (by omega) HQ.out _).mono ?_); rintro e w1 ⟨rfl, rfl⟩)))
      all_goals
        clear m1 m2 m3
        go_wp2
        go_roundw
        case rel =>
          refine ⟨k + 2, by omega, by go_num, HE.out, ?_, hb.trans ⟨hb'.os, hb'.tape, hb'.output, hb'.size, hb'.block⟩⟩
          rw [HX.out]
          simpa using ho'
        case measure => simp [intOf]; omega
    · have hcv := own_string hown
      have hun : un (s.data.toList.take k) = un s.data.toList := by
        by_cases he : k = s.size
        · rw [take_all s k he]
        · have hs1 : s.data.toList = s.data.toList.take k ++ s.data.toList.drop k := (List.take_append_drop _ _).symm
          have hl1 : (s.data.toList.drop k).length = 1 := by rw [List.length_drop]; simp; omega
          match hd : s.data.toList.drop k, hl1 with
          | [x], _ =>
            rw [hd] at hs1
            conv => rhs; rw [hs1, un_app (k / 2) _ _ (by rw [take_len s k (by omega)]; have := HU.out; omega)]
            simp [un]
      rw [hun] at hcv
      have hul : (un s.data.toList).length ≤ 1048576 := by rw [un_len]; simp; omega
      have hss : (ByteArray.mk (un s.data.toList).toArray).size ≤ 70368744177663 := by simp [ByteArray.size]; omega
      have HO := Lib.hid (And.intro hown hun)
      clear hown hbt hun
      obtain ⟨R, hR⟩ : ∃ R : ByteArray, R = ⟨(hexs (un s.data.toList)).toArray⟩ := ⟨_, rfl⟩
      have hput : ∀ w', Calls Try.prog 64 #[.string ⟨(un s.data.toList).toArray⟩] w' fun e w'' => e = .returned (.string R) ∧ Below w'.heap.size w' w'' := by
        intro w'
        have := putHex_i ⟨(un s.data.toList).toArray⟩ hss w'
        rw [hR]
        simpa using this
      have hRl : R.toList = hexs (un s.data.toList) := by rw [Lib.toList_data, hR]
      have hsl : s.toList = s.data.toList := Lib.toList_data s
      have HP := Lib.hid hput
      clear hput hR hss
      cases hu : unhex s.data.toList with
      | none =>
        have hne := unhex_none _ hu
        have hn2 : (R.toList != s.toList) = true := by rw [bne_iff_ne, hRl, hsl]; exact hne
        have hn3 : (R.toList == s.toList) = false := by rw [beq_eq_false_iff_ne, hRl, hsl]; exact hne
        have HU2 := Lib.hid hu
        clear hu hne hRl hsl
        go_wp2_with fail
        refine (HP.out _).mono ?_
        rintro e w2 ⟨rfl, hb2⟩
        have hb3 := hb.trans (hb2.mono hb.size)
        go_wp2
        go_ret2
        exact ret_hex_no HU2.out hb3
      | some b =>
        obtain ⟨h1, h2⟩ := unhex_some _ _ hu
        have hn2 : (R.toList != s.toList) = false := by rw [bne_eq_false_iff_eq, hRl, hsl, h1]; exact h2
        have hn3 : (R.toList == s.toList) = true := by rw [beq_iff_eq, hRl, hsl, h1]; exact h2
        have HU2 := Lib.hid (hu.trans (congrArg some h1.symm))
        clear hu h1 h2 hRl hsl
        go_wp2_with fail
        refine (HP.out _).mono ?_
        rintro e w2 ⟨rfl, hb2⟩
        have hb3 := hb.trans (hb2.mono hb.size)
        have hcv2 := own_string (own_call HO.out.1 hb2)
        rw [HO.out.2] at hcv2
        clear hcv
        go_wp2
        go_ret2
        exact ret_hex_yes HU2.out hb3
end Go.Proofs.Ytokppmhihghapaa
