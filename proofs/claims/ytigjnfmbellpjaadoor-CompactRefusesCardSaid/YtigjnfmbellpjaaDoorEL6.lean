/- Part 6: rows of one size, one behind the other. -/
import Derived.Test.YtigjnfmbellpjaaDoorEL5
namespace Go.EL
section
variable {α β : Type} {f : α → List β} {k : Nat}
def Uni (f : α → List β) (k : Nat) (xs : List α) : Prop := ∀ x, x ∈ xs → (f x).length = k
theorem Uni.nil : Uni f k [] := fun _ h => by cases h
theorem Uni.cons {x : α} {xs : List α} (h : (f x).length = k) (hs : Uni f k xs) : Uni f k (x :: xs) := fun y hy => by
  rcases List.mem_cons.1 hy with rfl | hy
  · exact h
  · exact hs y hy
theorem Uni.append {xs ys : List α} (h : Uni f k xs) (h' : Uni f k ys) : Uni f k (xs ++ ys) := fun y hy => (List.mem_append.1 hy).elim (h y) (h' y)
theorem Uni.set {xs : List α} (h : Uni f k xs) {i : Nat} {x : α} (hx : (f x).length = k) : Uni f k (xs.set i x) := fun y hy => by
  rcases List.mem_or_eq_of_mem_set hy with hy | rfl
  · exact h y hy
  · exact hx
theorem Uni.sub {xs ys : List α} (h : Uni f k xs) (hs : ∀ y, y ∈ ys → y ∈ xs) : Uni f k ys := fun y hy => h y (hs y hy)
theorem Uni.of (h : ∀ x, (f x).length = k) (xs : List α) : Uni f k xs := fun x _ => h x
theorem fm_length {xs : List α} (h : Uni f k xs) : (xs.flatMap f).length = xs.length * k := by
  induction xs with
  | nil => simp
  | cons x xs ih =>
    rw [List.flatMap_cons, List.length_append, h x (List.mem_cons_self ..), ih (fun y hy => h y (List.mem_cons_of_mem _ hy)), List.length_cons, Nat.add_mul]
    omega
theorem fm_drop {xs : List α} (h : Uni f k xs) (sp : List β) (i : Nat) (hi : i ≤ xs.length) : (xs.flatMap f ++ sp).drop (i * k) = (xs.drop i).flatMap f ++ sp := by
  have hl : ((xs.take i).flatMap f).length = i * k := by
    rw [fm_length (h.sub fun y hy => List.mem_of_mem_take hy), List.length_take, Nat.min_eq_left hi]
  have e : xs.flatMap f = (xs.take i).flatMap f ++ (xs.drop i).flatMap f := by rw [← List.flatMap_append, List.take_append_drop]
  rw [e, List.append_assoc, ← hl, List.drop_left]
theorem fm_take' {xs : List α} (h : Uni f k xs) (sp : List β) (i : Nat) (hi : i ≤ xs.length) : (xs.flatMap f ++ sp).take (i * k) = (xs.take i).flatMap f := by
  have hl : ((xs.take i).flatMap f).length = i * k := by
    rw [fm_length (h.sub fun y hy => List.mem_of_mem_take hy), List.length_take, Nat.min_eq_left hi]
  have e : xs.flatMap f = (xs.take i).flatMap f ++ (xs.drop i).flatMap f := by rw [← List.flatMap_append, List.take_append_drop]
  rw [e, List.append_assoc, ← hl, List.take_left]
theorem fm_split {xs : List α} (h : Uni f k xs) (sp : List β) {i : Nat} {x : α} (hx : xs[i]? = some x) : (xs.flatMap f ++ sp).drop (i * k) = f x ++ ((xs.drop (i + 1)).flatMap f ++ sp) := by
  obtain ⟨hi, he⟩ := List.getElem?_eq_some_iff.1 hx
  rw [fm_drop h sp i (Nat.le_of_lt hi), List.drop_eq_getElem_cons hi, List.flatMap_cons, he, List.append_assoc]
theorem fm_get {xs : List α} (h : Uni f k xs) {sp : List β} {i o : Nat} {x : α} {v : β} (hx : xs[i]? = some x) (hv : (f x)[o]? = some v) : (xs.flatMap f ++ sp)[i * k + o]? = some v := by
  rw [← List.getElem?_drop, fm_split h sp hx, List.getElem?_append_left (List.getElem?_eq_some_iff.1 hv).1, hv]
theorem fm_get0 {xs : List α} (h : Uni f k xs) {sp : List β} {i : Nat} {x : α} {v : β} (hx : xs[i]? = some x) (hv : (f x)[0]? = some v) : (xs.flatMap f ++ sp)[i * k]? = some v := by
  have := fm_get (o := 0) h (sp := sp) hx hv
  simpa using this
theorem fm_cells {xs : List α} (h : Uni f k xs) {sp : List β} {i o n : Nat} {x : α} {vs : List β} (hx : xs[i]? = some x) (hv : ((f x).drop o).take n = vs) (hn : o + n ≤ k) : ((xs.flatMap f ++ sp).drop (i * k + o)).take n = vs := by
  have hk := h x (List.mem_of_getElem? hx)
  rw [← List.drop_drop, fm_split h sp hx, List.drop_append_of_le_length (by omega), List.take_append_of_le_length (by simp; omega), hv]
theorem fm_cells0 {xs : List α} (h : Uni f k xs) {sp : List β} {i n : Nat} {x : α} {vs : List β} (hx : xs[i]? = some x) (hv : (f x).take n = vs) (hn : n ≤ k := by decide) : ((xs.flatMap f ++ sp).drop (i * k)).take n = vs := by
  have := fm_cells (o := 0) (n := n) (vs := vs) h (sp := sp) hx (by simpa using hv) (by omega)
  simpa using this
theorem fm_set {xs : List α} (h : Uni f k xs) {sp : List β} {i o : Nat} {x x' : α} {v : β} (hx : xs[i]? = some x) (ho : o < k) (hv : f x' = (f x).set o v) : (xs.flatMap f ++ sp).set (i * k + o) v = (xs.set i x').flatMap f ++ sp := by
  obtain ⟨hi, he⟩ := List.getElem?_eq_some_iff.1 hx
  have hk := h x (List.mem_of_getElem? hx)
  have hl : ((xs.take i).flatMap f).length = i * k := by
    rw [fm_length (h.sub fun y hy => List.mem_of_mem_take hy), List.length_take, Nat.min_eq_left (Nat.le_of_lt hi)]
  have e : xs = xs.take i ++ x :: xs.drop (i + 1) := by rw [← he, ← List.drop_eq_getElem_cons hi, List.take_append_drop]
  have e2 : xs.set i x' = xs.take i ++ x' :: xs.drop (i + 1) := by
    rw [List.set_eq_take_append_cons_drop, if_pos hi]
  rw [e2]
  conv => lhs; rw [e]
  simp only [List.flatMap_append, List.flatMap_cons, List.append_assoc]
  rw [List.set_append_right _ _ (by omega), hl, Nat.add_sub_cancel_left, List.set_append_left _ _ (by omega), hv]
theorem fm_put {xs : List α} (h : Uni f k xs) {sp : List β} {i o n : Nat} {x x' : α} {vs : List β} (hx : xs[i]? = some x) (hn : o + n ≤ k) (hl' : vs.length = n) (hv : f x' = (f x).take o ++ vs ++ (f x).drop (o + n)) :
    (xs.flatMap f ++ sp).take (i * k + o) ++ vs ++ (xs.flatMap f ++ sp).drop (i * k + o + n) = (xs.set i x').flatMap f ++ sp := by
  obtain ⟨hi, he⟩ := List.getElem?_eq_some_iff.1 hx
  have hk := h x (List.mem_of_getElem? hx)
  have hl : ((xs.take i).flatMap f).length = i * k := by
    rw [fm_length (h.sub fun y hy => List.mem_of_mem_take hy), List.length_take, Nat.min_eq_left (Nat.le_of_lt hi)]
  have e2 : xs.set i x' = xs.take i ++ x' :: xs.drop (i + 1) := by
    rw [List.set_eq_take_append_cons_drop, if_pos hi]
  have d1 : (xs.flatMap f ++ sp).drop (i * k + o + n) = (f x).drop (o + n) ++ ((xs.drop (i + 1)).flatMap f ++ sp) := by
    rw [Nat.add_assoc, ← List.drop_drop, fm_split h sp hx, List.drop_append_of_le_length (by omega)]
  have d2 : (xs.flatMap f ++ sp).take (i * k + o) = (xs.take i).flatMap f ++ (f x).take o := by
    have e : xs.flatMap f ++ sp = (xs.take i).flatMap f ++ (f x ++ ((xs.drop (i + 1)).flatMap f ++ sp)) := by
      rw [← fm_split h sp hx, ← fm_take' h sp i (Nat.le_of_lt hi), List.take_append_drop]
    rw [e, ← hl, List.take_length_add_append, List.take_append_of_le_length (by omega)]
  rw [d1, d2, e2]
  simp only [List.flatMap_append, List.flatMap_cons, List.append_assoc, hv]
theorem fm_put0 {xs : List α} (h : Uni f k xs) {sp : List β} {i n : Nat} {x x' : α} {vs : List β} (hx : xs[i]? = some x) (hn : n = k) (hl' : vs.length = n) (hv : f x' = vs) :
    (xs.flatMap f ++ sp).take (i * k) ++ vs ++ (xs.flatMap f ++ sp).drop (i * k + n) = (xs.set i x').flatMap f ++ sp := by
  have := fm_put (o := 0) (n := n) (x' := x') (vs := vs) h (sp := sp) hx (by omega) hl' (by
    have hk := h x (List.mem_of_getElem? hx)
    rw [List.take_zero, List.nil_append, List.drop_eq_nil_of_le (by omega), List.append_nil, hv])
  simpa using this
theorem fm_le {xs : List α} (h : Uni f k xs) {sp : List β} {i o n : Nat} (hi : i < xs.length) (ho : o + n ≤ k) : Nat.ble (i * k + o + n) (xs.flatMap f ++ sp).length = true := by
  rw [List.length_append, fm_length h]
  have : (i + 1) * k ≤ xs.length * k := Nat.mul_le_mul_right _ hi
  rw [Nat.add_mul] at this
  apply Nat.ble_eq_true_of_le
  omega
theorem fm_le0 {xs : List α} (h : Uni f k xs) {sp : List β} {i n : Nat} (hi : i < xs.length) (ho : n ≤ k) : Nat.ble (i * k + n) (xs.flatMap f ++ sp).length = true := by
  have := fm_le (o := 0) (n := n) h (sp := sp) hi (by omega)
  simpa using this
theorem fm_lt {xs : List α} (h : Uni f k xs) {sp : List β} {i o : Nat} (hi : i < xs.length) (ho : o < k) : Nat.blt (i * k + o) (xs.flatMap f ++ sp).length = true := by
  have := fm_le (o := o) (n := 1) h (sp := sp) hi (by omega)
  exact this
end
end Go.EL
