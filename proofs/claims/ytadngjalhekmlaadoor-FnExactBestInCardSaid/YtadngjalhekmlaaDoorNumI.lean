/- VersionNumber: the program's walk. -/
import Derived.Test.YtadngjalhekmlaaDoorSplP
import Derived.Test.YtadngjalhekmlaaDoorDecI
namespace Go.Proofs.YtadngjalhekmlaaDoor
open Go.RowKit Go.Shelf

/-- The pieces that strings.Split gives. -/
def piecesD (s : ByteArray) : List ByteArray := Lib.splitB ⟨#[46]⟩ 0 (Lib.countB s ⟨#[46]⟩) s
theorem pieces_cut (s : ByteArray) : (piecesD s).map (·.data.toList) = cutD s.data.toList := by
  have hc : Lib.countB s ⟨#[46]⟩ = s.data.toList.count 46 := Lib.count_one 46 s.data.toList
  rw [piecesD, Lib.splitB_data, hc]
  exact split_cut _ _ (Nat.le_refl _)
theorem pieces_len (s : ByteArray) : (piecesD s).length = Lib.countB s ⟨#[46]⟩ + 1 := Lib.splitB_all _ (by decide) 0 _ s rfl
theorem pieces_ver (m : Nat) (hm : m ≤ 999999999) : piecesD (verT m) = [decT (m / 1000000), decT (m / 1000 % 1000), decT (m % 1000)] := by
  have h := pieces_cut (verT m)
  rw [cut_ver m hm] at h
  have inj : ∀ {a b : List ByteArray}, a.map (·.data.toList) = b.map (·.data.toList) → a = b := by
    intro a
    induction a with
    | nil => intro b h; cases b with
      | nil => rfl
      | cons _ _ => cases h
    | cons x a ih => intro b h; cases b with
      | nil => cases h
      | cons y b =>
        simp only [List.map_cons, List.cons.injEq] at h
        rw [ByteArray.ext (Array.toList_inj.1 h.1), ih h.2]
  exact inj (by rw [h]; simp [decT])
theorem ver_pieces (s : ByteArray) (a b c : Nat) (hb : b ≤ 999) (hc : c ≤ 999) (h : piecesD s = [decT a, decT b, decT c]) : s = verT (a * 1000000 + b * 1000 + c) := by
  refine ver_cut s a b c hb hc ?_
  rw [← pieces_cut, h]
  simp [decT]
theorem join_mem : ∀ (l : List (List UInt8)) (x : List UInt8), x ∈ l → x.length ≤ (joinD l).length
  | [], _, h => by cases h
  | [y], x, h => by
    simp only [List.mem_cons, List.not_mem_nil, or_false] at h
    subst h
    exact Nat.le_refl _
  | y :: z :: r, x, h => by
    have ih := join_mem (z :: r) x
    simp only [joinD, List.length_append, List.length_cons]
    rcases List.mem_cons.1 h with rfl | h
    · omega
    · have := ih h
      omega
theorem pieces_size (s p : ByteArray) (h : p ∈ piecesD s) : p.size ≤ s.size := by
  have h1 := join_mem (cutD s.data.toList) p.data.toList (by rw [← pieces_cut]; exact List.mem_map.2 ⟨p, h, rfl⟩)
  rw [join_cut, ← Lib.size_eq, ← Lib.size_eq] at h1
  exact h1
/-- What the first pieces say. -/
def Good (L : List ByteArray) (j N : Nat) : Prop := ∃ ns : List Nat, ns.length = j ∧ (∀ a ∈ ns, a ≤ 999) ∧ L.take j = ns.map decT ∧ N = ns.foldl (fun x a => x * 1000 + a) 0 ∧ N < 1000 ^ j
theorem Good.next {L : List ByteArray} {j N a : Nat} {p : ByteArray} (h : Good L j N) (hp : L[j]? = some p) (ha : a ≤ 999) (hpa : p = decT a) : Good L (j + 1) (N * 1000 + a) := by
  obtain ⟨ns, h1, h2, h3, h4, h5⟩ := h
  refine ⟨ns ++ [a], by simp [h1], fun x hx => ?_, by rw [List.take_add_one, hp, h3, hpa]; simp, by rw [List.foldl_append, ← h4]; rfl, by rw [Nat.pow_succ]; omega⟩
  rcases List.mem_append.1 hx with hx | hx
  · exact h2 x hx
  · simp only [List.mem_cons, List.not_mem_nil, or_false] at hx
    omega
theorem Good.end_ {s : ByteArray} {N : Nat} (hl : (piecesD s).length = 3) (h : Good (piecesD s) 3 N) : IsNum s (N : Int) := by
  obtain ⟨ns, h1, h2, h3, h4, _⟩ := h
  rw [List.take_of_length_le (by omega)] at h3
  match ns, h1 with
  | [a, b, c], _ =>
    have ha := h2 a (by simp)
    have hb := h2 b (by simp)
    have hc := h2 c (by simp)
    have e := ver_pieces s a b c hb hc (by rw [h3]; rfl)
    simp only [List.foldl_cons, List.foldl_nil] at h4
    exact .inr ⟨a * 1000000 + b * 1000 + c, by omega, by omega, e⟩
theorem no_three {s : ByteArray} (h : (piecesD s).length ≠ 3) : IsNum s (-1) := .inl ⟨rfl, fun m hm e => h (by rw [e, pieces_ver m hm]; rfl)⟩
theorem no_piece {s p : ByteArray} {j : Nat} (hp : (piecesD s)[j]? = some p) (h : ∀ k : Nat, k ≤ 999 → p ≠ decT k) : IsNum s (-1) := .inl ⟨rfl, fun m hm e => by
  rw [e, pieces_ver m hm] at hp
  match j, hp with
  | 0, hp => exact h (m / 1000000) (by omega) (by simpa using hp.symm)
  | 1, hp => exact h (m / 1000 % 1000) (by omega) (by simpa using hp.symm)
  | 2, hp => exact h (m % 1000) (by omega) (by simpa using hp.symm)
  | j + 3, hp => simp at hp⟩
end Go.Proofs.YtadngjalhekmlaaDoor
