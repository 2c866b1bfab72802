/- The things of a cache as the program lays them: items in a row, each with the places of its neighbours; what taking one out of the ring and putting one first does. No program in sight. -/
import Derived.Test.YtpakklmkajjodaaDoorEL9
namespace Go.EL.Cache
open Go Go.EL

structure It where
  key : List Value
  val : List Value
  newer : Nat
  older : Nat
def It.cells (x : It) : List Value := x.key ++ (x.val ++ [.int .i64 x.newer, .int .i64 x.older])
structure It.Ok (kn vn : Nat) (x : It) : Prop where
  k : x.key.length = kn
  v : x.val.length = vn
  ko : ones x.key = true
  vo : ones x.val = true
def Oks (kn vn : Nat) (xs : List It) : Prop := ∀ x, x ∈ xs → x.Ok kn vn

section
variable {kn vn : Nat} {x : It}
theorem it_len (h : x.Ok kn vn) {n : Nat} (hn : n = kn + vn + 2) : x.cells.length = n := by
  subst hn
  simp only [It.cells, List.length_append, h.k, h.v, List.length_cons, List.length_nil]
  omega
theorem it_ones (h : x.Ok kn vn) : ones x.cells = true := by
  have h1 := h.ko
  have h2 := h.vo
  simp only [ones, It.cells, List.all_append] at *
  simp [h1, h2, one]
theorem it_newer (h : x.Ok kn vn) {o : Nat} (ho : o = kn + vn) : x.cells[o]? = some (.int .i64 x.newer) := by
  subst ho
  simp only [It.cells]
  rw [List.getElem?_append_right (by rw [h.k]; omega), h.k, List.getElem?_append_right (by rw [h.v]; omega), h.v]
  simp
theorem it_older (h : x.Ok kn vn) {o : Nat} (ho : o = kn + vn + 1) : x.cells[o]? = some (.int .i64 x.older) := by
  subst ho
  simp only [It.cells]
  rw [List.getElem?_append_right (by rw [h.k]; omega), h.k, List.getElem?_append_right (by rw [h.v]; omega), h.v]
  have : kn + vn + 1 - kn - vn = 1 := by omega
  simp [this]
theorem it_setNewer (h : x.Ok kn vn) {o v : Nat} (ho : o = kn + vn) : ({ x with newer := v } : It).cells = x.cells.set o (.int .i64 v) := by
  subst ho
  simp only [It.cells]
  rw [List.set_append_right _ _ (by rw [h.k]; omega), h.k, List.set_append_right _ _ (by rw [h.v]; omega), h.v]
  simp
theorem it_setOlder (h : x.Ok kn vn) {o v : Nat} (ho : o = kn + vn + 1) : ({ x with older := v } : It).cells = x.cells.set o (.int .i64 v) := by
  subst ho
  simp only [It.cells]
  rw [List.set_append_right _ _ (by rw [h.k]; omega), h.k, List.set_append_right _ _ (by rw [h.v]; omega), h.v]
  have : kn + vn + 1 - kn - vn = 1 := by omega
  simp [this]
theorem it_key (h : x.Ok kn vn) : (x.cells.drop 0).take kn = x.key := by
  simp only [It.cells, List.drop_zero]
  rw [← h.k, List.take_left]
theorem it_val (h : x.Ok kn vn) : (x.cells.drop kn).take vn = x.val := by
  simp only [It.cells]
  rw [← h.k, List.drop_left, ← h.v, List.take_left]
theorem it_whole (h : x.Ok kn vn) {n : Nat} (hn : n = kn + vn + 2 := by rfl) : x.cells.take n = x.cells := List.take_of_length_le (by rw [it_len h hn]; exact Nat.le_refl _)
theorem it_putKey (h : x.Ok kn vn) (ks : List Value) : ({ x with key := ks } : It).cells = x.cells.take 0 ++ ks ++ x.cells.drop (0 + kn) := by
  simp only [It.cells, List.take_zero, List.nil_append, Nat.zero_add]
  rw [← h.k, List.drop_left]
theorem it_putVal (h : x.Ok kn vn) (vs : List Value) : ({ x with val := vs } : It).cells = x.cells.take kn ++ vs ++ x.cells.drop (kn + vn) := by
  simp only [It.cells]
  have e1 : (x.key ++ (x.val ++ [Value.int .i64 x.newer, .int .i64 x.older])).take kn = x.key := by rw [← h.k, List.take_left]
  have e2 : (x.key ++ (x.val ++ [Value.int .i64 x.newer, .int .i64 x.older])).drop (kn + vn) = [.int .i64 x.newer, .int .i64 x.older] := by
    rw [← List.drop_drop, ← h.k, List.drop_left, ← h.v, List.drop_left]
  rw [e1, e2]
  simp
end
theorem Oks.uni {kn vn : Nat} {xs : List It} (h : Oks kn vn xs) {k : Nat} (hk : k = kn + vn + 2) : Uni It.cells k xs := fun x hx => it_len (h x hx) hk
theorem put_whole {zs vs : List Value} {n : Nat} (h : zs.length = n) : zs.take 0 ++ vs ++ zs.drop (0 + n) = vs := by
  subst h
  simp
theorem set_one {cs : List Value} {o : Nat} {v : Value} (h : o < cs.length) : cs.set o v = cs.take o ++ [v] ++ cs.drop (o + 1) := by
  rw [List.set_eq_take_append_cons_drop, if_pos h]
  simp

theorem oks_set {kn vn : Nat} {xs : List It} (h : Oks kn vn xs) {i : Nat} {x : It} (hx : x.Ok kn vn) : Oks kn vn (xs.set i x) := fun y hy => by
  rcases List.mem_or_eq_of_mem_set hy with hy | rfl
  · exact h y hy
  · exact hx
theorem oks_append {kn vn : Nat} {xs : List It} (h : Oks kn vn xs) {x : It} (hx : x.Ok kn vn) : Oks kn vn (xs ++ [x]) := fun y hy => by
  rcases List.mem_append.1 hy with hy | hy
  · exact h y hy
  · rw [List.mem_singleton.1 hy]; exact hx
/-! ### neighbours -/
def olf (xs : List It) (a : Nat) : Nat := match xs[a]? with
  | some x => x.older
  | none => 0
def nwf (xs : List It) (a : Nat) : Nat := match xs[a]? with
  | some x => x.newer
  | none => 0
def setO (xs : List It) (a v : Nat) : List It := xs.modify a fun x => { x with older := v }
def setN (xs : List It) (a v : Nat) : List It := xs.modify a fun x => { x with newer := v }
theorem modify_set {α : Type} {xs : List α} {a : Nat} {f : α → α} {x : α} (h : xs[a]? = some x) : xs.modify a f = xs.set a (f x) := by
  apply List.ext_getElem?
  intro b
  rw [List.getElem?_modify, List.getElem?_set]
  obtain ⟨hlt, he⟩ := List.getElem?_eq_some_iff.1 h
  by_cases hb : a = b
  · subst hb
    simp [hlt, he]
  · simp [hb]
theorem setO_eq {xs : List It} {a v : Nat} {x : It} (h : xs[a]? = some x) : setO xs a v = xs.set a { x with older := v } := by
  obtain ⟨hlt, he⟩ := List.getElem?_eq_some_iff.1 h
  unfold setO
  exact modify_set h
theorem setN_eq {xs : List It} {a v : Nat} {x : It} (h : xs[a]? = some x) : setN xs a v = xs.set a { x with newer := v } := by
  obtain ⟨hlt, he⟩ := List.getElem?_eq_some_iff.1 h
  unfold setN
  exact modify_set h
theorem setO_len (xs : List It) (a v : Nat) : (setO xs a v).length = xs.length := by simp [setO]
theorem setN_len (xs : List It) (a v : Nat) : (setN xs a v).length = xs.length := by simp [setN]
theorem setO_get (xs : List It) (a v b : Nat) : (setO xs a v)[b]? = (xs[b]?).map fun x => if a = b then { x with older := v } else x := by
  unfold setO
  rw [List.getElem?_modify]
  cases xs[b]? <;> simp
theorem setN_get (xs : List It) (a v b : Nat) : (setN xs a v)[b]? = (xs[b]?).map fun x => if a = b then { x with newer := v } else x := by
  unfold setN
  rw [List.getElem?_modify]
  cases xs[b]? <;> simp
theorem setO_ok {kn vn : Nat} {xs : List It} (h : Oks kn vn xs) (a v : Nat) : Oks kn vn (setO xs a v) := by
  intro y hy
  obtain ⟨b, hb⟩ := List.getElem?_of_mem hy
  rw [setO_get] at hb
  cases hx : xs[b]? with
  | none => simp [hx] at hb
  | some x =>
    have := h x (List.mem_of_getElem? hx)
    simp only [hx, Option.map_some, Option.some.injEq] at hb
    subst hb
    split
    · exact ⟨this.k, this.v, this.ko, this.vo⟩
    · exact this
theorem setN_ok {kn vn : Nat} {xs : List It} (h : Oks kn vn xs) (a v : Nat) : Oks kn vn (setN xs a v) := by
  intro y hy
  obtain ⟨b, hb⟩ := List.getElem?_of_mem hy
  rw [setN_get] at hb
  cases hx : xs[b]? with
  | none => simp [hx] at hb
  | some x =>
    have := h x (List.mem_of_getElem? hx)
    simp only [hx, Option.map_some, Option.some.injEq] at hb
    subst hb
    split
    · exact ⟨this.k, this.v, this.ko, this.vo⟩
    · exact this

theorem olf_set_ne (xs : List It) (i b : Nat) (x : It) (h : i ≠ b) : olf (xs.set i x) b = olf xs b := by
  simp [olf, h]
theorem olf_append (xs : List It) (x : It) (b : Nat) (h : b < xs.length) : olf (xs ++ [x]) b = olf xs b := by
  simp [olf, List.getElem?_append_left h]
theorem nwf_append (xs : List It) (x : It) (b : Nat) (h : b < xs.length) : nwf (xs ++ [x]) b = nwf xs b := by
  simp [nwf, List.getElem?_append_left h]
theorem nwf_set_ne (xs : List It) (i b : Nat) (x : It) (h : i ≠ b) : nwf (xs.set i x) b = nwf xs b := by
  simp [nwf, h]
/-- i leaves the ring -/
def outL (xs : List It) (i : Nat) : List It := setN (setO xs (nwf xs i) (olf xs i)) (olf xs i) (nwf xs i)
/-- i becomes the newest -/
def firstL (xs : List It) (i : Nat) : List It := setO (setN (setO (setN xs i 0) i (olf xs 0)) (olf xs 0) i) 0 i
theorem outL_len (xs : List It) (i : Nat) : (outL xs i).length = xs.length := by simp [outL, setN_len, setO_len]
theorem firstL_len (xs : List It) (i : Nat) : (firstL xs i).length = xs.length := by simp [firstL, setN_len, setO_len]
theorem outL_ok {kn vn : Nat} {xs : List It} (h : Oks kn vn xs) (i : Nat) : Oks kn vn (outL xs i) := setN_ok (setO_ok h _ _) _ _
theorem firstL_ok {kn vn : Nat} {xs : List It} (h : Oks kn vn xs) (i : Nat) : Oks kn vn (firstL xs i) := setO_ok (setN_ok (setO_ok (setN_ok h _ _) _ _) _ _) _ _
theorem setO_kv {xs : List It} {a v b : Nat} {x y : It} (hx : xs[b]? = some x) (hy : (setO xs a v)[b]? = some y) : y.key = x.key ∧ y.val = x.val := by
  rw [setO_get, hx] at hy
  simp only [Option.map_some, Option.some.injEq] at hy
  subst hy
  split <;> exact ⟨rfl, rfl⟩
theorem setN_kv {xs : List It} {a v b : Nat} {x y : It} (hx : xs[b]? = some x) (hy : (setN xs a v)[b]? = some y) : y.key = x.key ∧ y.val = x.val := by
  rw [setN_get, hx] at hy
  simp only [Option.map_some, Option.some.injEq] at hy
  subst hy
  split <;> exact ⟨rfl, rfl⟩
theorem setO_at {xs : List It} {a v b : Nat} {x : It} (hx : xs[b]? = some x) : ∃ y, (setO xs a v)[b]? = some y := by
  rw [setO_get, hx]; exact ⟨_, rfl⟩
theorem setN_at {xs : List It} {a v b : Nat} {x : It} (hx : xs[b]? = some x) : ∃ y, (setN xs a v)[b]? = some y := by
  rw [setN_get, hx]; exact ⟨_, rfl⟩
theorem outL_kv {xs : List It} {i b : Nat} {x y : It} (hx : xs[b]? = some x) (hy : (outL xs i)[b]? = some y) : y.key = x.key ∧ y.val = x.val := by
  obtain ⟨z, hz⟩ := setO_at (a := nwf xs i) (v := olf xs i) hx
  have h1 := setO_kv hx hz
  have h2 := setN_kv hz hy
  exact ⟨h2.1.trans h1.1, h2.2.trans h1.2⟩
theorem outL_key {xs : List It} {i b : Nat} {x y : It} (hx : xs[b]? = some x) (hy : (outL xs i)[b]? = some y) : y.key = x.key := (outL_kv hx hy).1
theorem firstL_kv {xs : List It} {i b : Nat} {x y : It} (hx : xs[b]? = some x) (hy : (firstL xs i)[b]? = some y) : y.key = x.key ∧ y.val = x.val := by
  obtain ⟨z, hz⟩ := setN_at (a := i) (v := 0) hx
  obtain ⟨z2, hz2⟩ := setO_at (a := i) (v := olf xs 0) hz
  obtain ⟨z3, hz3⟩ := setN_at (a := olf xs 0) (v := i) hz2
  have h1 := setN_kv hx hz
  have h2 := setO_kv hz hz2
  have h3 := setN_kv hz2 hz3
  have h4 := setO_kv hz3 hy
  exact ⟨h4.1.trans (h3.1.trans (h2.1.trans h1.1)), h4.2.trans (h3.2.trans (h2.2.trans h1.2))⟩
end Go.EL.Cache
