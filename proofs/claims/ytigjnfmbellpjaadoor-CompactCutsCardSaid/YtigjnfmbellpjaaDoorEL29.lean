/- Part 29: a list within what a law is given. -/
import Derived.Test.YtigjnfmbellpjaaDoorEL26
namespace Go.EL
open Go Go.ChangeShapes Go.WideShapes
section
variable {H : Type} {enc : TypeId × Value → H} {P : Program} {W : World} {sp : Nat → Bool} {held : Bool}
/-- rows of cells of a slice that was handed -/
theorem open_rowsS {t e k : Nat} {v : Value} {d : DataW H} {ps : List MemPlace} (ht : P.underlying t = some (.slice e)) (hk : P.cellsOf e = k) (hsl : ∃ a n c, v = .slice a n c) (hd : DataW.Trod enc P W 0 sp held t v d ps) :
    ∃ ys : List (List Value), (∀ S, RdS W S id ys v) ∧ Uni id k ys ∧ ys.length ≤ maxLen ∧ ∀ y, y ∈ ys → ∃ n x, DataW.trod enc P W 0 sp held n e y = some x := by
  subst hk
  obtain ⟨fuel, hf⟩ := hd
  obtain ⟨a0, len0, cap0, rfl⟩ := hsl
  rcases DataW.trod_slice ht hf with ⟨hc, _⟩ | ⟨a, len, cap, elems, rest, n, _, hc, _, hb, hlc, hcm, hlen, hel, _⟩
  · have hc' : [Value.slice a0 len0 cap0] = [.slice none 0 0] := hc
    simp only [List.cons.injEq, Value.slice.injEq, and_true] at hc'
    obtain ⟨rfl, rfl, rfl⟩ := hc'
    exact ⟨[], fun S => .inl ⟨rfl, rfl⟩, Uni.nil, by simp, fun y h => by cases h⟩
  · have hc' : [Value.slice a0 len0 cap0] = [.slice (some a) len cap] := hc
    simp only [List.cons.injEq, Value.slice.injEq, and_true] at hc'
    obtain ⟨rfl, rfl, rfl⟩ := hc'
    have hrow : ∀ i, i < len0 → ∃ cs x, W.cells? 0 (a.add (i * P.cellsOf e)) (P.cellsOf e) = some cs ∧ DataW.trod enc P W 0 sp held n e cs = some x := by
      intro i hi
      have h1 := hel i hi
      have h2 : elems[i]? = some elems[i] := by simp
      rw [h2, Option.bind_eq_some_iff] at h1
      obtain ⟨cs, h3, h4⟩ := h1
      exact ⟨cs, _, h3, h4⟩
    let f : Nat → List Value := fun i => (W.cells? 0 (a.add (i * P.cellsOf e)) (P.cellsOf e)).getD []
    have hf1 : ∀ i, i < len0 → W.cells? 0 (a.add (i * P.cellsOf e)) (P.cellsOf e) = some (f i) ∧ ∃ x, DataW.trod enc P W 0 sp held n e (f i) = some x := by
      intro i hi
      obtain ⟨cs, x, h1, h2⟩ := hrow i hi
      have : f i = cs := by simp only [f, h1, Option.getD_some]
      rw [this]
      exact ⟨h1, x, h2⟩
    have hlenf : ∀ i, i < len0 → (f i).length = P.cellsOf e := fun i hi => (World.cells?_some (hf1 i hi).1).2.1
    have hcell : ∀ i, i < len0 → ∀ j, j < P.cellsOf e → W.cell? ((a.add (i * P.cellsOf e)).add j) = (f i)[j]? := fun i hi j hj => (World.cells?_some (hf1 i hi).1).2.2 j hj
    have huni : Uni id (P.cellsOf e) ((List.range len0).map f) := by
      intro y hy
      obtain ⟨i, hi, rfl⟩ := List.mem_map.1 hy
      exact hlenf i (List.mem_range.1 hi)
    refine ⟨(List.range len0).map f, fun S => .inr ⟨a, cap0, by simp, RdN.old ?_⟩, huni, by simp; omega, ?_⟩
    · intro j u hj
      have hlt : j < (((List.range len0).map f).flatMap id).length := (List.getElem?_eq_some_iff.1 hj).1
      rw [fm_length huni] at hlt
      simp only [List.length_map, List.length_range] at hlt
      have hk0 : 0 < P.cellsOf e := Nat.pos_of_ne_zero fun h0 => by rw [h0] at hlt; simp at hlt
      have hi : j / P.cellsOf e < len0 := Nat.div_lt_of_lt_mul (by rw [Nat.mul_comm]; exact hlt)
      have hm : j % P.cellsOf e < P.cellsOf e := Nat.mod_lt _ hk0
      have hj2 : j = j / P.cellsOf e * P.cellsOf e + j % P.cellsOf e := by
        have := Nat.div_add_mod j (P.cellsOf e)
        rw [Nat.mul_comm] at this
        exact this.symm
      have hx : ((List.range len0).map f)[j / P.cellsOf e]? = some (f (j / P.cellsOf e)) := by simp [hi]
      have hv : (f (j / P.cellsOf e))[j % P.cellsOf e]? = some ((f (j / P.cellsOf e))[j % P.cellsOf e]'(by rw [hlenf _ hi]; exact hm)) := by simp
      have h1 := fm_get huni (sp := []) (o := j % P.cellsOf e) hx hv
      rw [List.append_nil, ← hj2, hj] at h1
      rw [hj2, ← add_add, hcell _ hi _ hm, hv, h1]
    · intro y hy
      obtain ⟨i, hi, rfl⟩ := List.mem_map.1 hy
      exact ⟨n, (hf1 i (List.mem_range.1 hi)).2⟩
theorem open_capS {t e : Nat} {v : Value} {d : DataW H} {ps : List MemPlace} (ht : P.underlying t = some (.slice e)) (hsl : ∃ a n c, v = .slice a n c) (hd : DataW.Trod enc P W 0 sp held t v d ps) : ∃ p n c, v = .slice p n c ∧ n ≤ c ∧ c ≤ maxLen := by
  obtain ⟨fuel, hf⟩ := hd
  obtain ⟨a0, len0, cap0, rfl⟩ := hsl
  refine ⟨a0, len0, cap0, rfl, ?_⟩
  rcases DataW.trod_slice ht hf with ⟨hc, _⟩ | ⟨a, len, cap, elems, rest, n, _, hc, _, hb, hlc, hcm, _⟩
  · have hc' : [Value.slice a0 len0 cap0] = [.slice none 0 0] := hc
    simp only [List.cons.injEq, Value.slice.injEq, and_true] at hc'
    obtain ⟨rfl, rfl, rfl⟩ := hc'
    exact ⟨Nat.le_refl _, by simp [maxLen]⟩
  · have hc' : [Value.slice a0 len0 cap0] = [.slice (some a) len cap] := hc
    simp only [List.cons.injEq, Value.slice.injEq, and_true] at hc'
    obtain ⟨rfl, rfl, rfl⟩ := hc'
    exact ⟨hlc, hcm⟩
/-- a list that was handed: its elements' rows, that may be read -/
theorem open_heldS {t e k : Nat} {v : Value} {d : DataW H} {ps : List MemPlace} (ht : P.underlying t = some (.slice e)) (hk : P.cellsOf e = k) (hsl : ∃ a n c, v = .slice a n c) (hd : DataW.Trod enc P W 0 sp held t v d ps) :
    ∃ ys : List (List Value), Held W [] id ys v ∧ Uni id k ys ∧ ∀ y, y ∈ ys → ∃ n x, DataW.trod enc P W 0 sp held n e y = some x := by
  obtain ⟨ys, h1, h2, h3, h4⟩ := open_rowsS ht hk hsl hd
  obtain ⟨p, n, c, rfl, h5, h6⟩ := open_capS ht hsl hd
  refine ⟨ys, ?_, h2, h4⟩
  rcases h1 [] with ⟨e1, rfl⟩ | ⟨a, c', e1, _⟩
  · exact .inl ⟨e1, rfl⟩
  · injection e1 with e0 e2 e3
    subst e0; subst e2; subst e3
    refine .inr ⟨a, c, rfl, h5, h6, fun S i _ => ?_⟩
    rcases h1 S with ⟨e1, _⟩ | ⟨a', c', e1, hr⟩
    · cases e1
    · injection e1 with e0 _ _
      injection e0 with e0
      subst e0
      exact hr
theorem slice_of_trod {t e n : Nat} {v : Value} {x : DataW H × List MemPlace} (ht : P.underlying t = some (.slice e)) (h : DataW.trod enc P W 0 sp held n t [v] = some x) : (∃ a n c, v = .slice a n c) ∧ DataW.Trod enc P W 0 sp held t v x.1 x.2 := by
  rcases DataW.trod_slice ht h with ⟨hc, _⟩ | ⟨a, len, cap, elems, rest, n, _, hc, _⟩
  · simp only [List.cons.injEq, and_true] at hc
    subst hc
    exact ⟨⟨_, _, _, rfl⟩, _, h⟩
  · simp only [List.cons.injEq, and_true] at hc
    subst hc
    exact ⟨⟨_, _, _, rfl⟩, _, h⟩
end
end Go.EL
