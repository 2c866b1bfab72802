/- Plain: rows of trees: pushed, without neighbours that are halves of one; such a row is the only one of its stretch. No program here. -/
import Derived.Lib.BitFns
namespace Go.EL.Cpt
/-- a tree: its level, its index, its hash -/
structure Nd (α : Type) where
  lv : Nat
  ix : Nat
  h : α
section
variable {α : Type}
def Nd.b (n : Nd α) : Nat := n.ix * 2 ^ n.lv
def Nd.e (n : Nd α) : Nat := (n.ix + 1) * 2 ^ n.lv
theorem Nd.e_eq (n : Nd α) : n.e = n.b + 2 ^ n.lv := by simp [Nd.e, Nd.b, Nat.add_mul]
theorem pos2 (k : Nat) : 0 < 2 ^ k := Nat.pow_pos (by decide)
def Nd.may (n : Nd α) : Prop := n.lv ≤ 63 ∧ n.ix < 2 ^ (63 - n.lv)
theorem Nd.may_of {n : Nd α} (h : n.e ≤ 2 ^ 63) : n.may := by
  have h1 : 2 ^ n.lv ≤ 2 ^ 63 := by
    have := Nat.le_mul_of_pos_left (2 ^ n.lv) (show 0 < n.ix + 1 by omega)
    simp only [Nd.e] at h
    omega
  have h2 : n.lv ≤ 63 := (Nat.pow_le_pow_iff_right (by decide)).1 h1
  refine ⟨h2, ?_⟩
  have h3 : (2 : Nat) ^ 63 = 2 ^ (63 - n.lv) * 2 ^ n.lv := by rw [← Nat.pow_add]; congr 1; omega
  simp only [Nd.e] at h
  rw [h3] at h
  have := Nat.le_of_mul_le_mul_right h (pos2 _)
  omega
/-- both are halves of one -/
def sib (x y : Nd α) : Bool := decide (x.lv < 63) && x.lv == y.lv && x.ix / 2 == y.ix / 2
/-- the list's last comes first -/
def pushR (node : α → α → α) : List (Nd α) → Nd α → List (Nd α)
  | [], n => [n]
  | x :: r, n => if sib x n = true then pushR node r ⟨x.lv + 1, x.ix / 2, node x.h n.h⟩ else n :: x :: r
def RowR (b : Nat) : List (Nd α) → Nat → Prop
  | [], e => b = e
  | n :: r, e => n.e = e ∧ RowR b r n.b
def FreeR : List (Nd α) → Prop
  | [] => True
  | [_] => True
  | y :: x :: r => sib x y = false ∧ FreeR (x :: r)
theorem FreeR.tail {y : Nd α} {r : List (Nd α)} (h : FreeR (y :: r)) : FreeR r := by
  cases r with
  | nil => trivial
  | cons x r => exact h.2
theorem RowR.le {b : Nat} : ∀ {r : List (Nd α)} {e : Nat}, RowR b r e → b ≤ e
  | [], _, h => Nat.le_of_eq h
  | n :: r, e, h => by
    have h1 := RowR.le h.2
    have h2 := n.e_eq
    have h3 := h.1
    have := pos2 n.lv
    omega
theorem RowR.may {b e : Nat} (he : e ≤ 2 ^ 63) : ∀ {r : List (Nd α)} {m : Nat}, RowR b r m → m ≤ e → ∀ n, n ∈ r → n.may
  | [], _, _, _, n, hn => by cases hn
  | x :: r, m, h, hm, n, hn => by
    have h1 := h.1
    rcases List.mem_cons.1 hn with rfl | hn
    · exact Nd.may_of (by omega)
    · have := x.e_eq
      have := pos2 x.lv
      exact RowR.may he h.2 (by omega) n hn
theorem sib_parts {x n : Nd α} (h : sib x n = true) : x.lv < 63 ∧ x.lv = n.lv ∧ x.ix / 2 = n.ix / 2 := by
  simpa [sib, and_assoc] using h
/-- neighbours of one level: the indices follow -/
theorem next_ix {x n : Nd α} (hl : x.lv = n.lv) (h : x.e = n.b) : n.ix = x.ix + 1 := by
  simp only [Nd.e, Nd.b, hl] at h
  exact (Nat.eq_of_mul_eq_mul_right (pos2 _) h).symm
theorem up_b {x n : Nd α} (hs : sib x n = true) (h : x.e = n.b) (a : α) : (⟨x.lv + 1, x.ix / 2, a⟩ : Nd α).b = x.b ∧ (⟨x.lv + 1, x.ix / 2, a⟩ : Nd α).e = n.e := by
  obtain ⟨_, hl, hi⟩ := sib_parts hs
  have hn := next_ix hl h
  rw [hn] at hi
  have h2 : x.ix = 2 * (x.ix / 2) := by omega
  constructor
  · simp only [Nd.b]
    rw [Nat.pow_succ]
    conv => rhs; rw [h2]
    rw [Nat.mul_comm (2 ^ x.lv) 2, ← Nat.mul_assoc, Nat.mul_comm (x.ix / 2) 2]
  · simp only [Nd.e]
    rw [Nat.pow_succ, hn, ← hl, Nat.mul_comm (2 ^ x.lv) 2, ← Nat.mul_assoc]
    congr 1
    omega
theorem push_row (node : α → α → α) {b : Nat} : ∀ {r : List (Nd α)} {n : Nd α}, RowR b r n.b → RowR b (pushR node r n) n.e
  | [], n, h => ⟨rfl, h⟩
  | x :: r, n, h => by
    simp only [pushR]
    by_cases hs : sib x n = true
    · rw [if_pos hs]
      obtain ⟨h1, h2⟩ := up_b hs h.1 (node x.h n.h)
      have := push_row node (r := r) (n := ⟨x.lv + 1, x.ix / 2, node x.h n.h⟩) (by rw [h1]; exact h.2)
      rw [h2] at this
      exact this
    · rw [if_neg hs]
      exact ⟨rfl, h.1, h.2⟩
theorem push_free (node : α → α → α) : ∀ {r : List (Nd α)} {n : Nd α}, FreeR r → FreeR (pushR node r n)
  | [], n, _ => trivial
  | x :: r, n, h => by
    simp only [pushR]
    by_cases hs : sib x n = true
    · rw [if_pos hs]
      exact push_free node h.tail
    · rw [if_neg hs]
      exact ⟨by simpa using hs, h⟩
/-! ### there is one such row -/
theorem not_sib {x y : Nd α} (h : x.e = y.b) (hy : y.e ≤ 2 ^ 63) (hs : sib x y = false) (hl : x.lv = y.lv) : x.ix % 2 = 1 := by
  have hn := next_ix hl h
  by_cases h63 : x.lv < 63
  · have : ¬ x.ix / 2 = y.ix / 2 := by
      intro e
      simp [sib, h63, hl.symm, e] at hs
    omega
  · exfalso
    have h1 : 2 ^ 63 ≤ 2 ^ y.lv := Nat.pow_le_pow_right (by decide) (by omega)
    have h2 : 2 * 2 ^ y.lv ≤ y.e := Nat.mul_le_mul_right _ (by omega)
    omega
/-- an odd tree does not begin where a greater one, or an even one of its level, ends -/
theorem mul_up {a c i j : Nat} (h : (i + 1) * 2 ^ a = j * 2 ^ c) (hlt : c < a) : j % 2 = 0 := by
  have h1 : (2 : Nat) ^ a = 2 ^ (a - c - 1) * 2 * 2 ^ c := by
    rw [← Nat.pow_succ, ← Nat.pow_add]; congr 1; omega
  rw [h1, ← Nat.mul_assoc] at h
  have := Nat.eq_of_mul_eq_mul_right (pos2 _) h
  rw [← this, ← Nat.mul_assoc]
  omega
theorem odd_short {b : Nat} : ∀ {r : List (Nd α)} {y : Nd α} {e : Nat}, RowR b (y :: r) e → FreeR (y :: r) → e ≤ 2 ^ 63 → y.ix % 2 = 1 → e - b < 2 * 2 ^ y.lv
  | [], y, e, h, _, _, _ => by
    have h1 : b = y.b := h.2
    have h2 := h.1
    have h3 := y.e_eq
    have := pos2 y.lv
    omega
  | x :: r, y, e, h, hf, he, hy => by
    obtain ⟨h1, h2, h3⟩ := h
    have h4 := y.e_eq
    have hpy := pos2 y.lv
    have hlt : x.lv < y.lv := by
      rcases Nat.lt_trichotomy x.lv y.lv with hlt | heq | hgt
      · exact hlt
      · have := not_sib h2 (by omega) hf.1 heq
        have := next_ix heq h2
        omega
      · have := mul_up (j := y.ix) (c := y.lv) h2 hgt
        omega
    have hx : x.ix % 2 = 1 := by
      have h5 : y.ix * 2 ^ y.lv = (x.ix + 1) * 2 ^ x.lv := h2.symm
      have h6 : (2 : Nat) ^ y.lv = 2 ^ (y.lv - x.lv - 1) * 2 * 2 ^ x.lv := by
        rw [← Nat.pow_succ, ← Nat.pow_add]; congr 1; omega
      rw [h6, ← Nat.mul_assoc] at h5
      have h7 := Nat.eq_of_mul_eq_mul_right (pos2 _) h5
      have h8 : (x.ix + 1) % 2 = 0 := by rw [← h7, ← Nat.mul_assoc]; omega
      omega
    have ih := odd_short (r := r) (y := x) (e := y.b) ⟨h2, h3⟩ hf.2 (by omega) hx
    have h9 : 2 * 2 ^ x.lv ≤ 2 ^ y.lv := by
      rw [Nat.mul_comm, ← Nat.pow_succ]
      exact Nat.pow_le_pow_right (by decide) hlt
    omega
theorem head_lv {b e : Nat} {r r' : List (Nd α)} {y y' : Nd α} (h : RowR b (y :: r) e) (h' : RowR b (y' :: r') e) (hf : FreeR (y :: r)) (he : e ≤ 2 ^ 63) : ¬ y.lv < y'.lv := by
  intro hlt
  have h1 : y.e = y'.e := h.1.trans h'.1.symm
  have hodd : y.ix % 2 = 1 := by
    have h6 : (2 : Nat) ^ y'.lv = 2 ^ (y'.lv - y.lv - 1) * 2 * 2 ^ y.lv := by
      rw [← Nat.pow_succ, ← Nat.pow_add]; congr 1; omega
    simp only [Nd.e] at h1
    rw [h6, ← Nat.mul_assoc] at h1
    have h7 := Nat.eq_of_mul_eq_mul_right (pos2 _) h1
    have h8 : (y.ix + 1) % 2 = 0 := by rw [h7, ← Nat.mul_assoc]; omega
    omega
  have h2 := odd_short h hf he hodd
  have h3 : 2 * 2 ^ y.lv ≤ 2 ^ y'.lv := by
    rw [Nat.mul_comm, ← Nat.pow_succ]
    exact Nat.pow_le_pow_right (by decide) hlt
  have h4 := RowR.le h'.2
  have h5 := y'.e_eq
  have h6 := h'.1
  omega
def Nd.at (n : Nd α) : Nat × Nat := (n.lv, n.ix)
theorem row_one {b : Nat} : ∀ {r : List (Nd α)} {r' : List (Nd α)} {e : Nat}, RowR b r e → RowR b r' e → FreeR r → FreeR r' → e ≤ 2 ^ 63 → r.map Nd.at = r'.map Nd.at
  | [], [], _, _, _, _, _, _ => rfl
  | [], y :: r', e, h, h', _, _, _ => by
    have h1 : b = e := h
    have h2 := RowR.le h'.2
    have h3 := y.e_eq
    have h4 := h'.1
    have := pos2 y.lv
    omega
  | y :: r, [], e, h, h', _, _, _ => by
    have h1 : b = e := h'
    have h2 := RowR.le h.2
    have h3 := y.e_eq
    have h4 := h.1
    have := pos2 y.lv
    omega
  | y :: r, y' :: r', e, h, h', hf, hf', he => by
    have hl : y.lv = y'.lv := by
      have h1 := head_lv h h' hf he
      have h2 := head_lv h' h hf' he
      omega
    have hi : y.ix = y'.ix := by
      have h1 : y.e = y'.e := h.1.trans h'.1.symm
      simp only [Nd.e, hl] at h1
      have := Nat.eq_of_mul_eq_mul_right (pos2 _) h1
      omega
    have hb : y.b = y'.b := by simp [Nd.b, hl, hi]
    have h3 := y.e_eq
    have h4 := h.1
    have := pos2 y.lv
    have ih := row_one h.2 (hb ▸ h'.2) hf.tail hf'.tail (by omega)
    simp [Nd.at, hl, hi, ih]
end
end Go.EL.Cpt

/- Plain: the hash of a stretch by the definition; rows whose trees bear the hashes of their stretches; their fold. No program here. -/
namespace Go.EL.Cpt
section
variable {α : Type}
/-- the greatest power of two below n (n at least 2) -/
def half (n : Nat) : Nat := 2 ^ (n - 1).log2
theorem half_lt {n : Nat} (h : 2 ≤ n) : half n < n := by
  have := Nat.log2_self_le (show n - 1 ≠ 0 by omega)
  simp only [half]
  omega
theorem half_pos (n : Nat) : 0 < half n := pos2 _
def mthF (node : α → α → α) (empty : α) (l : List α) : α :=
  if h : 2 ≤ l.length then node (mthF node empty (l.take (half l.length))) (mthF node empty (l.drop (half l.length))) else l.headD empty
termination_by l.length
decreasing_by
  · have := half_lt h
    simp only [List.length_take]
    omega
  · have := half_pos l.length
    simp only [List.length_drop]
    omega
theorem mth_nil (node : α → α → α) (empty : α) : mthF node empty [] = empty := by rw [mthF]; simp
theorem mth_one (node : α → α → α) (empty : α) (x : α) : mthF node empty [x] = x := by rw [mthF]; simp
theorem mth_more (node : α → α → α) (empty : α) {l : List α} (h : 2 ≤ l.length) : mthF node empty l = node (mthF node empty (l.take (half l.length))) (mthF node empty (l.drop (half l.length))) := by
  rw [mthF, dif_pos h]
theorem mth_split (node : α → α → α) (empty : α) {x y : List α} {a : Nat} (hx : x.length = 2 ^ a) (h0 : 0 < y.length) (hy : y.length ≤ 2 ^ a) : mthF node empty (x ++ y) = node (mthF node empty x) (mthF node empty y) := by
  have hp := pos2 a
  have hh : half (x ++ y).length = x.length := by
    rw [half, hx]
    congr 1
    rw [Nat.log2_eq_iff (by simp; omega), List.length_append, Nat.pow_succ]
    omega
  rw [mth_more node empty (by simp; omega), hh]
  simp
/-- so many of a row, from a place on -/
def seg (f : Nat → α) (s n : Nat) : List α := (List.range n).map fun i => f (s + i)
theorem seg_len (f : Nat → α) (s n : Nat) : (seg f s n).length = n := by simp [seg]
theorem seg_add (f : Nat → α) (s n m : Nat) : seg f s (n + m) = seg f s n ++ seg f (s + n) m := by
  simp [seg, List.range_add, Nat.add_assoc, Function.comp_def]
theorem seg_one (f : Nat → α) (s : Nat) : seg f s 1 = [f s] := by simp [seg]
theorem seg_list (l : List α) (d : α) (b n : Nat) (h : b + n ≤ l.length) : seg (fun i => l.getD i d) b n = (l.drop b).take n := by
  apply List.ext_getElem
  · simp [seg]; omega
  · intro i h1 h2
    simp only [seg, List.length_map, List.length_range] at h1
    have : b + i < l.length := by omega
    simp [seg, this]
variable (node : α → α → α) (empty : α)
def Hashed (f : Nat → α) (n : Nd α) : Prop := n.h = mthF node empty (seg f n.b (2 ^ n.lv))
theorem up_hash {f : Nat → α} {x n : Nd α} (hs : sib x n = true) (h : x.e = n.b) (hx : Hashed node empty f x) (hn : Hashed node empty f n) : Hashed node empty f ⟨x.lv + 1, x.ix / 2, node x.h n.h⟩ := by
  obtain ⟨h1, _⟩ := up_b hs h (node x.h n.h)
  obtain ⟨_, hl, _⟩ := sib_parts hs
  simp only [Hashed] at hx hn ⊢
  rw [h1, show (2 : Nat) ^ (x.lv + 1) = 2 ^ x.lv + 2 ^ x.lv by rw [Nat.pow_succ]; omega, seg_add, mth_split node empty (a := x.lv) (seg_len ..) (by rw [seg_len]; exact pos2 _) (by rw [seg_len]; exact Nat.le_refl _), ← hx]
  rw [x.e_eq] at h
  rw [h, hn, hl]
theorem push_hashed {f : Nat → α} {b : Nat} : ∀ {r : List (Nd α)} {n : Nd α}, RowR b r n.b → (∀ x, x ∈ r → Hashed node empty f x) → Hashed node empty f n → ∀ x, x ∈ pushR node r n → Hashed node empty f x
  | [], n, _, _, hn, x, hx => by
    obtain rfl : x = n := by simpa [pushR] using hx
    exact hn
  | y :: r, n, h, hr, hn, x, hx => by
    simp only [pushR] at hx
    by_cases hs : sib y n = true
    · rw [if_pos hs] at hx
      obtain ⟨h1, _⟩ := up_b hs h.1 (node y.h n.h)
      exact push_hashed (by rw [h1]; exact h.2) (fun z hz => hr z (List.mem_cons_of_mem _ hz)) (up_hash node empty hs h.1 (hr y (List.mem_cons_self ..)) hn) x hx
    · rw [if_neg hs] at hx
      rcases List.mem_cons.1 hx with rfl | hx
      · exact hn
      · exact hr x hx
/-- a row without halves of one, its trees' hashes told: there is one -/
structure Good (f : Nat → α) (b e : Nat) (r : List (Nd α)) : Prop where
  row : RowR b r e
  free : FreeR r
  hashed : ∀ x, x ∈ r → Hashed node empty f x
variable {node empty}
theorem Good.nil (f : Nat → α) (b : Nat) : Good node empty f b b [] := ⟨rfl, trivial, fun _ h => by cases h⟩
theorem Good.push {f : Nat → α} {b : Nat} {r : List (Nd α)} {n : Nd α} (h : Good node empty f b n.b r) (hn : Hashed node empty f n) : Good node empty f b n.e (pushR node r n) :=
  ⟨push_row node h.row, push_free node h.free, push_hashed node empty h.row h.hashed hn⟩
theorem leaf_hashed (f : Nat → α) (s : Nat) : Hashed node empty f ⟨0, s, f s⟩ := by
  simp only [Hashed, Nd.b, Nat.pow_zero, Nat.mul_one, seg_one, mth_one]
theorem Good.leaf {f : Nat → α} {b m : Nat} {r : List (Nd α)} (h : Good node empty f b m r) : Good node empty f b (m + 1) (pushR node r ⟨0, m, f m⟩) := by
  have := Good.push (n := ⟨0, m, f m⟩) (by simpa [Nd.b] using h) (leaf_hashed f m)
  simpa [Nd.e] using this
theorem nd_ext : ∀ {r r' : List (Nd α)}, r.map Nd.at = r'.map Nd.at → (∀ x, x ∈ r → ∀ y, y ∈ r' → x.at = y.at → x = y) → r = r'
  | [], [], _, _ => rfl
  | [], _ :: _, h, _ => by simp at h
  | _ :: _, [], h, _ => by simp at h
  | x :: r, y :: r', h, he => by
    simp only [List.map_cons, List.cons.injEq] at h
    rw [he x (List.mem_cons_self ..) y (List.mem_cons_self ..) h.1, nd_ext h.2 fun a ha b hb => he a (List.mem_cons_of_mem _ ha) b (List.mem_cons_of_mem _ hb)]
theorem Good.one {f : Nat → α} {b e : Nat} {r r' : List (Nd α)} (h : Good node empty f b e r) (h' : Good node empty f b e r') (he : e ≤ 2 ^ 63) : r = r' := by
  refine nd_ext (row_one h.row h'.row h.free h'.free he) fun x hx y hy ha => ?_
  have h1 := h.hashed x hx
  have h2 := h'.hashed y hy
  cases x with | mk a i u => cases y with | mk c j v =>
  simp only [Nd.at, Prod.mk.injEq] at ha
  obtain ⟨rfl, rfl⟩ := ha
  simp only [Hashed, Nd.b] at h1 h2
  rw [h1, h2]
/-- rows put behind one another, tree by tree -/
theorem Good.join {f : Nat → α} {b m : Nat} : ∀ {o : List (Nd α)} {e : Nat} {r : List (Nd α)}, Good node empty f b m r → Good node empty f m e o → Good node empty f b e (o.reverse.foldl (pushR node) r)
  | [], e, r, h, ho => by
    have : m = e := ho.row
    subst this
    exact h
  | n :: o, e, r, h, ho => by
    have ih := Good.join h ⟨ho.row.2, ho.free.tail, fun x hx => ho.hashed x (List.mem_cons_of_mem _ hx)⟩
    rw [List.reverse_cons, List.foldl_append, List.foldl_cons, List.foldl_nil]
    have := ih.push (ho.hashed n (List.mem_cons_self ..))
    rw [ho.row.1] at this
    exact this
/-! ### the root -/
def foldR (node : α → α → α) : α → List (Nd α) → α
  | a, [] => a
  | a, n :: r => foldR node (node n.h a) r
theorem even_all {e : Nat} {r : List (Nd α)} {y : Nd α} (h : RowR 0 (y :: r) e) (hf : FreeR (y :: r)) (he : e ≤ 2 ^ 63) : y.ix % 2 = 0 := by
  rcases Nat.mod_two_eq_zero_or_one y.ix with h0 | h1
  · exact h0
  · have h2 := odd_short h hf he h1
    have h3 := h.1
    have h4 : 2 * 2 ^ y.lv ≤ y.e := Nat.mul_le_mul_right _ (by omega)
    omega
theorem falls {e : Nat} {r : List (Nd α)} {y x : Nd α} (h : RowR 0 (y :: x :: r) e) (hf : FreeR (y :: x :: r)) (he : e ≤ 2 ^ 63) : y.lv < x.lv := by
  obtain ⟨h1, h2, h3⟩ := h
  have hye := y.e_eq
  have hpy := pos2 y.lv
  have hy := even_all (r := x :: r) (y := y) (e := e) ⟨h1, h2, h3⟩ hf he
  have hx := even_all (r := r) (y := x) (e := y.b) ⟨h2, h3⟩ hf.2 (by omega)
  rcases Nat.lt_trichotomy y.lv x.lv with hlt | heq | hgt
  · exact hlt
  · have := not_sib h2 (by omega) hf.1 heq.symm
    omega
  · exfalso
    have h5 : y.ix * 2 ^ y.lv = (x.ix + 1) * 2 ^ x.lv := h2.symm
    have h6 : (2 : Nat) ^ y.lv = 2 ^ (y.lv - x.lv - 1) * 2 * 2 ^ x.lv := by
      rw [← Nat.pow_succ, ← Nat.pow_add]; congr 1; omega
    rw [h6, ← Nat.mul_assoc] at h5
    have h7 := Nat.eq_of_mul_eq_mul_right (pos2 _) h5
    have h8 : (x.ix + 1) % 2 = 0 := by rw [← h7, ← Nat.mul_assoc]; omega
    omega
theorem fold_seg {f : Nat → α} : ∀ {r : List (Nd α)} {m k : Nat}, Good node empty f 0 m r → m ≤ 2 ^ 63 → 0 < k → (∀ x, r.head? = some x → k ≤ 2 ^ x.lv) → foldR node (mthF node empty (seg f m k)) r = mthF node empty (seg f 0 (m + k))
  | [], m, k, h, _, _, _ => by
    have : 0 = m := h.row
    subst this
    simp [foldR]
  | x :: r, m, k, h, hm, h0, hk => by
    have hx := h.hashed x (List.mem_cons_self ..)
    have he := x.e_eq
    have h1 := h.row.1
    have hp := pos2 x.lv
    have hkx := hk x rfl
    simp only [Hashed] at hx
    simp only [foldR]
    rw [hx, ← mth_split node empty (a := x.lv) (seg_len ..) (by rw [seg_len]; exact h0) (by rw [seg_len]; exact hkx), show m = x.b + 2 ^ x.lv by omega, ← seg_add]
    rw [fold_seg (r := r) (m := x.b) (k := 2 ^ x.lv + k) ⟨h.row.2, h.free.tail, fun z hz => h.hashed z (List.mem_cons_of_mem _ hz)⟩ (by omega) (by omega), Nat.add_assoc]
    intro z hz
    cases r with
    | nil => cases hz
    | cons z' r =>
      obtain rfl : z' = z := by simpa using hz
      have := falls h.row h.free (by omega)
      have h2 : 2 * 2 ^ x.lv ≤ 2 ^ z'.lv := by
        rw [Nat.mul_comm, ← Nat.pow_succ]
        exact Nat.pow_le_pow_right (by decide) this
      omega
theorem Good.root {f : Nat → α} {e : Nat} {y : Nd α} {r : List (Nd α)} (h : Good node empty f 0 e (y :: r)) (he : e ≤ 2 ^ 63) : foldR node y.h r = mthF node empty (seg f 0 e) := by
  have hy := h.hashed y (List.mem_cons_self ..)
  have h1 := h.row.1
  have h2 := y.e_eq
  have hp := pos2 y.lv
  simp only [Hashed] at hy
  rw [hy, fold_seg (r := r) (m := y.b) ⟨h.row.2, h.free.tail, fun z hz => h.hashed z (List.mem_cons_of_mem _ hz)⟩ (by omega) hp]
  · rw [show y.b + 2 ^ y.lv = e by omega]
  · intro x hx
    cases r with
    | nil => cases hx
    | cons z r =>
      obtain rfl : z = x := by simpa using hx
      exact Nat.pow_le_pow_right (by decide) (Nat.le_of_lt (falls h.row h.free (by omega)))
theorem Good.root0 {f : Nat → α} {e : Nat} (h : Good node empty f 0 e []) : mthF node empty (seg f 0 e) = empty := by
  have : 0 = e := h.row
  subst this
  exact mth_nil node empty
end
end Go.EL.Cpt

/- Plain: the cover of a stretch, taken greedily from its beginning, is the row without halves of one. No program here. -/
namespace Go.EL.Cpt
/-- how often two goes into a number that is not 0 -/
def tz (n : Nat) : Nat := if _h : n = 0 then 64 else if n % 2 = 1 then 0 else tz (n / 2) + 1
termination_by n
theorem tz_odd {n : Nat} (h : n % 2 = 1) : tz n = 0 := by
  rw [tz, dif_neg (by omega), if_pos h]
theorem tz_even {n : Nat} (h0 : n ≠ 0) (h : n % 2 = 0) : tz n = tz (n / 2) + 1 := by
  rw [tz, dif_neg h0, if_neg (by omega)]
theorem tz_spec (n : Nat) : n ≠ 0 → 2 ^ tz n ∣ n ∧ ¬ 2 ^ (tz n + 1) ∣ n := by
  induction n using Nat.strongRecOn with
  | _ n ih =>
    intro h0
    rcases Nat.mod_two_eq_zero_or_one n with h | h
    · have he := tz_even h0 h
      obtain ⟨h1, h2⟩ := ih (n / 2) (by omega) (by omega)
      rw [he]
      have hn : n = 2 * (n / 2) := by omega
      constructor
      · rw [Nat.pow_succ, Nat.mul_comm]
        conv => rhs; rw [hn]
        exact Nat.mul_dvd_mul_left 2 h1
      · intro hd
        rw [Nat.pow_succ, Nat.mul_comm] at hd
        rw [hn] at hd
        rw [show 2 * (n / 2) / 2 = n / 2 by omega] at hd
        exact h2 (Nat.dvd_of_mul_dvd_mul_left (by decide) hd)
    · rw [tz_odd h]
      refine ⟨by simp, fun hd => ?_⟩
      have := Nat.mod_eq_zero_of_dvd hd
      simp at this
      omega
def lvl (b e : Nat) : Nat := if 0 < b then min (e - b).log2 (tz b) else (e - b).log2
theorem lvl_spec {b e : Nat} (h : b < e) : 2 ^ lvl b e ∣ b ∧ b + 2 ^ lvl b e ≤ e ∧ ¬ (2 ^ (lvl b e + 1) ∣ b ∧ b + 2 ^ (lvl b e + 1) ≤ e) := by
  have h1 := Nat.log2_self_le (show e - b ≠ 0 by omega)
  have h2 : e - b < 2 ^ ((e - b).log2 + 1) := Nat.lt_log2_self
  by_cases hb : 0 < b
  · obtain ⟨h3, h4⟩ := tz_spec b (by omega)
    simp only [lvl, if_pos hb]
    by_cases hle : (e - b).log2 ≤ tz b
    · rw [Nat.min_eq_left hle]
      exact ⟨Nat.dvd_trans (Nat.pow_dvd_pow 2 hle) h3, by omega, fun h => by omega⟩
    · rw [Nat.min_eq_right (by omega)]
      have h5 : 2 ^ tz b ≤ 2 ^ (e - b).log2 := Nat.pow_le_pow_right (by decide) (by omega)
      exact ⟨h3, by omega, fun h => h4 h.1⟩
  · simp only [lvl, if_neg hb]
    obtain rfl : b = 0 := by omega
    exact ⟨Nat.dvd_zero _, by omega, fun h => by omega⟩
def coverF (b e : Nat) : List (Nat × Nat) := if b < e then (lvl b e, b / 2 ^ lvl b e) :: coverF (b + 2 ^ lvl b e) e else []
termination_by e - b
decreasing_by
  have := pos2 (lvl b e)
  omega
theorem coverF_nil (b : Nat) {e : Nat} (h : ¬ b < e) : coverF b e = [] := by rw [coverF, if_neg h]
theorem coverF_cons {b e : Nat} (h : b < e) : coverF b e = (lvl b e, b / 2 ^ lvl b e) :: coverF (b + 2 ^ lvl b e) e := by rw [coverF, if_pos h]
theorem dvd_b {b a : Nat} (h : 2 ^ a ∣ b) : b / 2 ^ a * 2 ^ a = b := Nat.div_mul_cancel h
section
variable {α : Type}
/-- a tree that could not be greater where it stands -/
def Full (e : Nat) (x : Nd α) : Prop := ¬ (x.ix % 2 = 0 ∧ x.b + 2 * 2 ^ x.lv ≤ e)
theorem cover_row (g : Nat → Nat → α) {b e : Nat} : ∀ (n m : Nat) (acc : List (Nd α)), n = e - m → m ≤ e → RowR b acc m → FreeR acc → (∀ x, acc.head? = some x → Full e x) →
    RowR b (((coverF m e).map fun p => ⟨p.1, p.2, g p.1 p.2⟩).reverse ++ acc) e ∧ FreeR (((coverF m e).map fun p => (⟨p.1, p.2, g p.1 p.2⟩ : Nd α)).reverse ++ acc) := by
  intro n
  induction n using Nat.strongRecOn with
  | _ n ih =>
    intro m acc hn hm hr hf hx
    by_cases h : m < e
    · obtain ⟨h1, h2, h3⟩ := lvl_spec h
      have hp := pos2 (lvl m e)
      have hd := dvd_b h1
      rw [coverF_cons h]
      simp only [List.map_cons, List.reverse_cons, List.append_assoc, List.singleton_append]
      have hb : (⟨lvl m e, m / 2 ^ lvl m e, g (lvl m e) (m / 2 ^ lvl m e)⟩ : Nd α).b = m := hd
      have he : (⟨lvl m e, m / 2 ^ lvl m e, g (lvl m e) (m / 2 ^ lvl m e)⟩ : Nd α).e = m + 2 ^ lvl m e := by rw [Nd.e_eq, hb]
      refine ih (e - (m + 2 ^ lvl m e)) (by omega) (m + 2 ^ lvl m e) _ rfl h2 ⟨he, by rw [hb]; exact hr⟩ ?_ ?_
      · cases acc with
        | nil => trivial
        | cons x acc =>
          refine ⟨?_, hf⟩
          have hfull := hx x rfl
          cases hs : sib x ⟨lvl m e, m / 2 ^ lvl m e, g (lvl m e) (m / 2 ^ lvl m e)⟩ with
          | false => rfl
          | true =>
            exfalso
            obtain ⟨_, hl, hi⟩ := sib_parts hs
            have hn := next_ix hl (by rw [hb]; exact hr.1)
            rw [hn] at hi
            refine hfull ⟨by omega, ?_⟩
            have h4 := x.e_eq
            have h5 := hr.1
            simp only at hl
            rw [hl] at h4 ⊢
            omega
      · intro x hx'
        obtain rfl : ⟨lvl m e, m / 2 ^ lvl m e, g (lvl m e) (m / 2 ^ lvl m e)⟩ = x := by simpa using hx'
        intro hh
        obtain ⟨h4, h5⟩ := hh
        rw [hb] at h5
        refine h3 ⟨?_, by rw [Nat.pow_succ]; simp only at h5; omega⟩
        simp only at h4
        rw [Nat.pow_succ]
        conv => rhs; rw [← hd]
        rw [Nat.mul_comm]
        exact Nat.mul_dvd_mul_right (Nat.dvd_of_mod_eq_zero h4) _
    · obtain rfl : m = e := by omega
      rw [coverF_nil _ h]
      exact ⟨hr, hf⟩
def coverNd (g : Nat → Nat → α) (b e : Nat) : List (Nd α) := (coverF b e).map fun p => ⟨p.1, p.2, g p.1 p.2⟩
theorem cover_good (node : α → α → α) (empty : α) (f : Nat → α) {b e : Nat} (h : b ≤ e) : Good node empty f b e (coverNd (fun a i => mthF node empty (seg f (i * 2 ^ a) (2 ^ a))) b e).reverse := by
  have := cover_row (fun a i => mthF node empty (seg f (i * 2 ^ a) (2 ^ a))) (e - b) b ([] : List (Nd α)) rfl h rfl trivial (fun _ h => by cases h)
  rw [List.append_nil] at this
  refine ⟨this.1, this.2, fun x hx => ?_⟩
  simp only [coverNd, List.mem_reverse, List.mem_map] at hx
  obtain ⟨p, _, rfl⟩ := hx
  rfl
theorem coverNd_at (g : Nat → Nat → α) (b e : Nat) : (coverNd g b e).map Nd.at = coverF b e := by
  simp [coverNd, Nd.at, Function.comp_def]
end
end Go.EL.Cpt

/- Plain: how long a row without halves of one can be. No program here. -/
namespace Go.EL.Cpt
section
variable {α : Type}
theorem even_falls {b e : Nat} {r : List (Nd α)} {y x : Nd α} (h : RowR b (y :: x :: r) e) (hf : FreeR (y :: x :: r)) (he : e ≤ 2 ^ 63) (hy : y.ix % 2 = 0) (hx : x.ix % 2 = 0) : y.lv < x.lv := by
  obtain ⟨h1, h2, h3⟩ := h
  have hye := y.e_eq
  have hpy := pos2 y.lv
  rcases Nat.lt_trichotomy y.lv x.lv with hlt | heq | hgt
  · exact hlt
  · have := not_sib h2 (by omega) hf.1 heq.symm
    omega
  · exfalso
    have h5 : y.ix * 2 ^ y.lv = (x.ix + 1) * 2 ^ x.lv := h2.symm
    have h6 : (2 : Nat) ^ y.lv = 2 ^ (y.lv - x.lv - 1) * 2 * 2 ^ x.lv := by
      rw [← Nat.pow_succ, ← Nat.pow_add]; congr 1; omega
    rw [h6, ← Nat.mul_assoc] at h5
    have h7 := Nat.eq_of_mul_eq_mul_right (pos2 _) h5
    have h8 : (x.ix + 1) % 2 = 0 := by rw [← h7, ← Nat.mul_assoc]; omega
    omega
theorem odd_falls {b e : Nat} {r : List (Nd α)} {y x : Nd α} (h : RowR b (y :: x :: r) e) (hf : FreeR (y :: x :: r)) (he : e ≤ 2 ^ 63) (hy : y.ix % 2 = 1) : x.lv < y.lv ∧ x.ix % 2 = 1 := by
  obtain ⟨h1, h2, h3⟩ := h
  have h4 := y.e_eq
  have hpy := pos2 y.lv
  have hlt : x.lv < y.lv := by
    rcases Nat.lt_trichotomy x.lv y.lv with hlt | heq | hgt
    · exact hlt
    · have := not_sib h2 (by omega) hf.1 heq
      have := next_ix heq h2
      omega
    · have := mul_up (j := y.ix) (c := y.lv) h2 hgt
      omega
  refine ⟨hlt, ?_⟩
  have h5 : y.ix * 2 ^ y.lv = (x.ix + 1) * 2 ^ x.lv := h2.symm
  have h6 : (2 : Nat) ^ y.lv = 2 ^ (y.lv - x.lv - 1) * 2 * 2 ^ x.lv := by
    rw [← Nat.pow_succ, ← Nat.pow_add]; congr 1; omega
  rw [h6, ← Nat.mul_assoc] at h5
  have h7 := Nat.eq_of_mul_eq_mul_right (pos2 _) h5
  have h8 : (x.ix + 1) % 2 = 0 := by rw [← h7, ← Nat.mul_assoc]; omega
  omega
theorem odd_len {b : Nat} : ∀ {r : List (Nd α)} {y : Nd α} {e : Nat}, RowR b (y :: r) e → FreeR (y :: r) → e ≤ 2 ^ 63 → y.ix % 2 = 1 → (y :: r).length ≤ y.lv + 1
  | [], _, _, _, _, _, _ => by simp
  | x :: r, y, e, h, hf, he, hy => by
    obtain ⟨h1, h2⟩ := odd_falls h hf he hy
    have := odd_len (r := r) (y := x) (e := y.b) h.2 hf.2 (by have := y.e_eq; have := pos2 y.lv; have := h.1; omega) h2
    simp only [List.length_cons] at this ⊢
    omega
theorem row_len' {b : Nat} : ∀ {r : List (Nd α)} {y : Nd α} {e : Nat}, RowR b (y :: r) e → FreeR (y :: r) → e ≤ 2 ^ 63 → (y :: r).length ≤ (64 - y.lv) + 64
  | [], _, _, _, _, _ => by simp only [List.length_singleton]; omega
  | x :: r, y, e, h, hf, he => by
    have hp := pos2 y.lv
    have he' := y.e_eq
    have hxe : y.b ≤ 2 ^ 63 := by have := h.1; omega
    have hyl : y.lv ≤ 63 := (Nd.may_of (n := y) (by rw [h.1]; exact he)).1
    have hxl : x.lv ≤ 63 := (Nd.may_of (n := x) (by rw [h.2.1]; exact hxe)).1
    rcases Nat.mod_two_eq_zero_or_one y.ix with hy | hy
    · rcases Nat.mod_two_eq_zero_or_one x.ix with hx | hx
      · have h1 := even_falls h hf he hy hx
        have := row_len' (r := r) (y := x) (e := y.b) h.2 hf.2 hxe
        simp only [List.length_cons] at this ⊢
        omega
      · have := odd_len (r := r) (y := x) (e := y.b) h.2 hf.2 hxe hx
        simp only [List.length_cons] at this ⊢
        omega
    · have := odd_len h hf he hy
      simp only [List.length_cons] at this ⊢
      omega
theorem row_len {b e : Nat} {r : List (Nd α)} (h : RowR b r e) (hf : FreeR r) (he : e ≤ 2 ^ 63) : r.length ≤ 128 := by
  cases r with
  | nil => simp
  | cons y r =>
    have := row_len' h hf he
    omega
end
end Go.EL.Cpt

/- Plain: the lowest bit of a number; how many bits a number has. No program here. -/
namespace Go.EL.Cpt
theorem low_bit (x : Nat) : 0 < x → ∀ i, (x.testBit i && !(x - 1).testBit i) = decide (i = tz x) := by
  induction x using Nat.strongRecOn with
  | _ x ih =>
    intro h0 i
    rcases Nat.mod_two_eq_zero_or_one x with h | h
    · have ht := tz_even (by omega) h
      cases i with
      | zero => simp [Nat.testBit_zero, h, ht]
      | succ i =>
        rw [Nat.testBit_succ, Nat.testBit_succ, show (x - 1) / 2 = x / 2 - 1 by omega, ih (x / 2) (by omega) (by omega), ht]
        simp
    · have ht := tz_odd h
      cases i with
      | zero => simp [Nat.testBit_zero, h, ht]; omega
      | succ i =>
        rw [Nat.testBit_succ, Nat.testBit_succ, show (x - 1) / 2 = x / 2 by omega, ht]
        simp
theorem and_low {x n : Nat} (h0 : 0 < x) (h : x < 2 ^ n) : x &&& (2 ^ n - x) = 2 ^ tz x := by
  apply Nat.eq_of_testBit_eq
  intro i
  rw [Nat.testBit_and, show 2 ^ n - x = 2 ^ n - ((x - 1) + 1) by omega, Nat.testBit_two_pow_sub_succ (by omega), Nat.testBit_two_pow]
  have hl := low_bit x h0 i
  by_cases hi : i < n
  · simp only [hi, decide_true, Bool.true_and, hl, eq_comm]
  · have : x.testBit i = false := Nat.testBit_lt_two_pow (Nat.lt_of_lt_of_le h (Nat.pow_le_pow_right (by decide) (by omega)))
    rw [this] at hl ⊢
    rw [Bool.false_and] at hl
    rw [Bool.false_and, ← eq_comm]
    simp only [eq_comm] at hl ⊢
    exact hl
theorem tz_lt {x n : Nat} (h0 : 0 < x) (h : x < 2 ^ n) : tz x < n := by
  have h1 := Nat.le_of_dvd h0 (tz_spec x (by omega)).1
  exact (Nat.pow_lt_pow_iff_right (by decide)).1 (Nat.lt_of_le_of_lt h1 h)
theorem bitLenAux_log (f : Nat) : ∀ x, 0 < x → x < 2 ^ f → Lib.bitLenAux f x = x.log2 + 1 := by
  induction f with
  | zero => intro x h0 h; simp at h; omega
  | succ f ih =>
    intro x h0 h
    simp only [Lib.bitLenAux]
    rw [if_neg (by omega)]
    by_cases h1 : x = 1
    · subst h1
      cases f <;> simp [Lib.bitLenAux] <;> decide
    · rw [ih (x / 2) (by omega) (by rw [Nat.pow_succ] at h; omega)]
      have : x.log2 = (x / 2).log2 + 1 := by
        rw [Nat.log2_eq_iff (by omega)]
        have h2 := Nat.log2_self_le (show x / 2 ≠ 0 by omega)
        have h3 : x / 2 < 2 ^ ((x / 2).log2 + 1) := Nat.lt_log2_self
        rw [Nat.pow_succ] at h3 ⊢
        rw [Nat.pow_succ, Nat.pow_succ]
        omega
      omega
theorem bitLen_log {x : Nat} (h0 : 0 < x) (h : x < 2 ^ 64) : Lib.bitLen x = x.log2 + 1 := bitLenAux_log 64 x h0 h
end Go.EL.Cpt
