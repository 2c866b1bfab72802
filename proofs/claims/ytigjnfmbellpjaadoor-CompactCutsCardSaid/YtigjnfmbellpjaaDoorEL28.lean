/- Part 28: a slice against nil. -/
import Derived.Test.YtigjnfmbellpjaaDoorEL26
namespace Go.EL
open Go
section
variable {P : Program} {ρ : Env} {ds : Option Nat} {ty : TypeId} {pos : String} {aft : Array Edge} {g : Option (Nat × Bool)}
theorem eq_nilSlice {t e : TypeId} (ht : P.underlying t = some (.slice e)) (p : Option Addr) (n c : Nat) (w : World) : (Op.equal t (.slice p n c) (.slice none 0 0)).run P w = .ok p.isNone w := by
  show (Op.equalIn (9999 + 1) t (.slice p n c) (.slice none 0 0)).run P w = _
  rw [Op.equalIn]
  cases p <;> simp [underlying, ht]
theorem p_eqNilSlice {t yt e : TypeId} {x y : Operand} {p : Option Addr} {n c : Nat} (hx : ev ρ x = some (.slice p n c)) (hy : ev ρ y = some (.slice none 0 0)) (ht : P.underlying t = some (.slice e)) : PureOp P ⟨ds, .binOp .eql t x y yt, ty, pos, aft, g⟩ ρ (.bool p.isNone) := fun a hs w => by
  simp [execOp, hs x _ hx, hs y _ hy, eqGuard, binOp, eq_nilSlice ht]
theorem p_neNilSlice {t yt e : TypeId} {x y : Operand} {p : Option Addr} {n c : Nat} (hx : ev ρ x = some (.slice p n c)) (hy : ev ρ y = some (.slice none 0 0)) (ht : P.underlying t = some (.slice e)) : PureOp P ⟨ds, .binOp .neq t x y yt, ty, pos, aft, g⟩ ρ (.bool !p.isNone) := fun a hs w => by
  simp [execOp, hs x _ hx, hs y _ hy, eqGuard, binOp, eq_nilSlice ht]
end
end Go.EL
namespace Go.EL
open Go
/-! ### slices that are only read, cut anywhere, nil or not -/
/-- where a cut slice begins -/
def cutV (p : Option Addr) (c l n : Nat) : Option Addr := p.map fun a => if c = l then a else a.add (l * n)
section
variable {P : Program} {w0 : World} {α : Type} {ρ : Env} {ds : Option Nat} {ty : TypeId} {pos : String} {aft : Array Edge} {g : Option (Nat × Bool)}
theorem p_sliceMidNil {t e : TypeId} {x y z : Operand} {n : Nat} {k1 k2 : IntKind} (hx : ev ρ x = some (.slice none 0 0)) (ht : sliceOf P t e n = true) (hy : ev ρ y = some (.int k1 0)) (hz : ev ρ z = some (.int k2 0)) :
    PureOp P ⟨ds, .slice t x (some y) (some z) none, ty, pos, aft, g⟩ ρ (.slice none 0 0) := fun a hs w => by
  obtain ⟨hu, hsz⟩ := sliceOf_und ht
  simp [execOp, hs x _ hx, hs y _ hy, hs z _ hz, Instr.sliceAt, underlying, hu, Instr.slice, Instr.sliceBounds, Instr.sliceBound, asIntOf, sizeIs_run hsz]
theorem p_sliceFromNil {t e : TypeId} {x y : Operand} {n : Nat} {k1 : IntKind} (hx : ev ρ x = some (.slice none 0 0)) (ht : sliceOf P t e n = true) (hy : ev ρ y = some (.int k1 0)) :
    PureOp P ⟨ds, .slice t x (some y) none none, ty, pos, aft, g⟩ ρ (.slice none 0 0) := fun a hs w => by
  obtain ⟨hu, hsz⟩ := sliceOf_und ht
  simp [execOp, hs x _ hx, hs y _ hy, Instr.sliceAt, underlying, hu, Instr.slice, Instr.sliceBounds, Instr.sliceBound, asIntOf, sizeIs_run hsz]
variable {HP : Hp} {enc : α → List Value} {ys : List α} {p : Option Addr} {c : Nat}
theorem Held.nilOrSome (hH : Held w0 HP enc ys (.slice p ys.length c)) : (p = none ∧ ys = [] ∧ c = 0) ∨ (∃ a, p = some a) ∧ ys.length ≤ c := by
  rcases hH with ⟨e1, hnil⟩ | ⟨a, c', e1, h1, _⟩
  · injection e1 with e0 e2 e3
    exact .inl ⟨e0, hnil, e3⟩
  · injection e1 with e0 e2 e3
    exact .inr ⟨⟨a, e0⟩, by omega⟩
theorem p_sliceMidH {t e : TypeId} {x y z : Operand} {n l h : Nat} {k1 k2 : IntKind} (hH : Held w0 HP enc ys (.slice p ys.length c)) (hx : ev ρ x = some (.slice p ys.length c)) (ht : sliceOf P t e n = true) (hy : ev ρ y = some (.int k1 (l : Nat))) (hz : ev ρ z = some (.int k2 (h : Nat))) (h2 : l ≤ h) (h3 : h ≤ ys.length) :
    PureOp P ⟨ds, .slice t x (some y) (some z) none, ty, pos, aft, g⟩ ρ (.slice (cutV p c l n) (h - l) (c - l)) := by
  rcases hH.nilOrSome with ⟨rfl, rfl, rfl⟩ | ⟨⟨a, rfl⟩, hc⟩
  · obtain rfl : h = 0 := by simpa using h3
    obtain rfl : l = 0 := by omega
    exact p_sliceMidNil hx ht hy hz
  · exact p_sliceMid hx ht hy hz h2 (by omega)
theorem p_sliceFromH {t e : TypeId} {x y : Operand} {n l : Nat} {k1 : IntKind} (hH : Held w0 HP enc ys (.slice p ys.length c)) (hx : ev ρ x = some (.slice p ys.length c)) (ht : sliceOf P t e n = true) (hy : ev ρ y = some (.int k1 (l : Nat))) (h2 : l ≤ ys.length) :
    PureOp P ⟨ds, .slice t x (some y) none none, ty, pos, aft, g⟩ ρ (.slice (cutV p c l n) (ys.length - l) (c - l)) := by
  rcases hH.nilOrSome with ⟨rfl, rfl, rfl⟩ | ⟨⟨a, rfl⟩, hc⟩
  · obtain rfl : l = 0 := by simpa using h2
    exact p_sliceFromNil hx ht hy
  · have := p_sliceFromG (ds := ds) (ty := ty) (pos := pos) (aft := aft) (g := g) hx ht hy (by omega) (by omega) hc
    simpa [cutV] using this
theorem Held.cut {k : Nat} (hu : ∀ ys, Uni enc k ys) (hH : Held w0 HP enc ys (.slice p ys.length c)) (l h : Nat) (h2 : l ≤ h) (h3 : h ≤ ys.length) : Held w0 HP enc ((ys.take h).drop l) (.slice (cutV p c l k) (h - l) (c - l)) := by
  rcases hH.nilOrSome with ⟨rfl, rfl, rfl⟩ | ⟨⟨a, rfl⟩, hc⟩
  · obtain rfl : h = 0 := by simpa using h3
    obtain rfl : l = 0 := by omega
    exact .inl ⟨rfl, rfl⟩
  · exact (hH.take hu h h3).dropN hu (by rw [List.length_take]; omega) l h2
theorem Held.from {k : Nat} (hu : ∀ ys, Uni enc k ys) (hH : Held w0 HP enc ys (.slice p ys.length c)) (l : Nat) (h2 : l ≤ ys.length) : Held w0 HP enc (ys.drop l) (.slice (cutV p c l k) (ys.length - l) (c - l)) := by
  have := hH.cut hu l ys.length h2 (Nat.le_refl _)
  rwa [List.take_length] at this
end
end Go.EL
namespace Go.EL
open Go
theorem RJ.heap {P : Program} {N : Nat} {w0 : World} {T : HS} {ops : Array Oper} {st : List Nat × List Nat} {k : Nat} {l : List Oper} {K : Env → HS → Prop} {ρ : Env} {S : HS} (U : HS) (he : S = U) (h : RXJ P N w0 T ops st k l K ρ U) : RXJ P N w0 T ops st k l K ρ S := by subst he; exact h
end Go.EL
