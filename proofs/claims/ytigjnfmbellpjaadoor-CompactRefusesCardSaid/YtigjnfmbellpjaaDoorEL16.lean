/- Part 16: what a law is given, opened: rows of a slice; values of key types. -/
import Derived.Test.YtigjnfmbellpjaaDoorEL15
import Derived.Test.YtigjnfmbellpjaaDoorEL11
import Derived.MapViews
import Derived.ChangeArms
import Derived.DataReads
namespace Go.EL
open Go Go.ChangeShapes Go.WideShapes
section
variable {H : Type} {enc : TypeId × Value → H} {P : Program} {W : World} {sp : Nat → Bool} {held : Bool}
/-- rows of cells of a slice that was handed -/
theorem open_rows {t e k b0 : Nat} {v : Value} {d : DataW H} {ps : List MemPlace} {r : Reach} (ht : P.underlying t = some (.slice e)) (hk : P.cellsOf e = k) (hval : Value.okWide P W r b0 t v) (hd : DataW.Trod enc P W 0 sp held t v d ps) :
    ∃ ys : List (List Value), (∀ S, RdS W S id ys v) ∧ Uni id k ys ∧ ys.length ≤ maxLen ∧ ∀ y, y ∈ ys → ∃ n x, DataW.trod enc P W 0 sp held n e y = some x := by
  subst hk
  obtain ⟨fuel, hf⟩ := hd
  obtain ⟨a0, len0, cap0, rfl⟩ := okWide_slice ht hval
  rcases DataW.trod_slice ht hf with ⟨hc, _⟩ | ⟨a, len, cap, elems, rest, n, _, hc, _, hb, hlc, hcm, hlen, hel, _⟩
  · have hc' : [Value.slice a0 len0 cap0] = [.slice none 0 0] := hc
    simp only [List.cons.injEq, Value.slice.injEq, and_true] at hc'
    obtain ⟨rfl, rfl, rfl⟩ := hc'
    exact ⟨[], fun S => .inl ⟨rfl, rfl⟩, Uni.nil, by simp, fun y h => by cases h⟩
  · have hc' : [Value.slice a0 len0 cap0] = [.slice (some a) len cap] := hc
    simp only [List.cons.injEq, Value.slice.injEq, and_true] at hc'
    obtain ⟨rfl, rfl, rfl⟩ := hc'
    have hrow : ∀ i, i < len0 → ∃ cs x, W.cells? 0 (a.add (i * P.cellsOf e)) (P.cellsOf e) = some cs ∧ DataW.trod enc P W 0 sp held n e cs = some x := by
      intro i hi
      have h1 := hel i hi
      have h2 : elems[i]? = some elems[i] := by simp
      rw [h2, Option.bind_eq_some_iff] at h1
      obtain ⟨cs, h3, h4⟩ := h1
      exact ⟨cs, _, h3, h4⟩
    let f : Nat → List Value := fun i => (W.cells? 0 (a.add (i * P.cellsOf e)) (P.cellsOf e)).getD []
    have hf1 : ∀ i, i < len0 → W.cells? 0 (a.add (i * P.cellsOf e)) (P.cellsOf e) = some (f i) ∧ ∃ x, DataW.trod enc P W 0 sp held n e (f i) = some x := by
      intro i hi
      obtain ⟨cs, x, h1, h2⟩ := hrow i hi
      have : f i = cs := by simp only [f, h1, Option.getD_some]
      rw [this]
      exact ⟨h1, x, h2⟩
    have hlenf : ∀ i, i < len0 → (f i).length = P.cellsOf e := fun i hi => (World.cells?_some (hf1 i hi).1).2.1
    have hcell : ∀ i, i < len0 → ∀ j, j < P.cellsOf e → W.cell? ((a.add (i * P.cellsOf e)).add j) = (f i)[j]? := fun i hi j hj => (World.cells?_some (hf1 i hi).1).2.2 j hj
    have huni : Uni id (P.cellsOf e) ((List.range len0).map f) := by
      intro y hy
      obtain ⟨i, hi, rfl⟩ := List.mem_map.1 hy
      exact hlenf i (List.mem_range.1 hi)
    refine ⟨(List.range len0).map f, fun S => .inr ⟨a, cap0, by simp, RdN.old ?_⟩, huni, by simp; omega, ?_⟩
    · intro j u hj
      have hlt : j < (((List.range len0).map f).flatMap id).length := (List.getElem?_eq_some_iff.1 hj).1
      rw [fm_length huni] at hlt
      simp only [List.length_map, List.length_range] at hlt
      have hk0 : 0 < P.cellsOf e := Nat.pos_of_ne_zero fun h0 => by rw [h0] at hlt; simp at hlt
      have hi : j / P.cellsOf e < len0 := Nat.div_lt_of_lt_mul (by rw [Nat.mul_comm]; exact hlt)
      have hm : j % P.cellsOf e < P.cellsOf e := Nat.mod_lt _ hk0
      have hj2 : j = j / P.cellsOf e * P.cellsOf e + j % P.cellsOf e := by
        have := Nat.div_add_mod j (P.cellsOf e)
        rw [Nat.mul_comm] at this
        exact this.symm
      have hx : ((List.range len0).map f)[j / P.cellsOf e]? = some (f (j / P.cellsOf e)) := by simp [hi]
      have hv : (f (j / P.cellsOf e))[j % P.cellsOf e]? = some ((f (j / P.cellsOf e))[j % P.cellsOf e]'(by rw [hlenf _ hi]; exact hm)) := by simp
      have h1 := fm_get huni (sp := []) (o := j % P.cellsOf e) hx hv
      rw [List.append_nil, ← hj2, hj] at h1
      rw [hj2, ← add_add, hcell _ hi _ hm, hv, h1]
    · intro y hy
      obtain ⟨i, hi, rfl⟩ := List.mem_map.1 hy
      exact ⟨n, (hf1 i (List.mem_range.1 hi)).2⟩
/-- a value of a key type -/
theorem dk_of_trod {t k n : Nat} {cs : List Value} {x : DataW H × List MemPlace} (hw : wideKey P t = true) (hkt : P.keyType t = true) (hc : P.cellsOf t = k) (hl : cs.length = k) (h1 : k ≠ 1) (h : DataW.trod enc P W 0 sp held n t cs = some x) : Dk P t (vv cs) ∧ ones cs = true := by
  obtain ⟨hk5, ht5, hwide⟩ := wide_parts hw
  have hlits := (keyLits_of_trod (P.types.size + 1) t hkt n cs x h).1
  refine ⟨?_, ?_⟩
  · rw [vv_agg (by omega)]
    have hform : (Value.agg ⟨cs⟩).formed P t = true := by
      simp only [Value.formed]
      revert hwide
      cases hu : P.underlying t with
      | none => simp
      | some d => cases d <;> simp [hc, hl]
    refine ⟨.string (keyBytes x.1.flat), ?_⟩
    unfold keyOf
    revert hwide
    cases hu : P.underlying t with
    | none => simp
    | some d => cases d <;> simp [hkt, hform] <;> exact ⟨_, hlits, rfl⟩
  · have := cells_of_lits 5 t ht5 _ _ _ hlits
    rw [this]
    have hwf := keyLits_wf hlits
    simp only [ones, List.all_map, List.all_eq_true]
    intro l hl'
    have := hwf l hl'
    cases l <;> simp [Lit.keyWf] at this <;> rfl
end
end Go.EL
