/- Part 12: keys that are arrays or structs; such values compared. -/
import Derived.Test.YtigjnfmbellpjaaDoorEL10
import Derived.DeepKeys3
namespace Go.EL
open Go Go.WideShapes
section
variable {P : Program}
/-- closed: a type of keys -/
def wideKey (P : Program) (t : TypeId) : Bool := P.keyTypeAt 5 t && P.tiled 5 t && (match P.underlying t with | some (.array _ _) | some (.struct _) => true | _ => false)
def Dk (P : Program) (t : TypeId) (v : Value) : Prop := ∃ l, keyOf P t v = some l
theorem wide_parts {t : TypeId} (h : wideKey P t = true) : P.keyTypeAt 5 t = true ∧ P.tiled 5 t = true ∧ (match P.underlying t with | some (.array _ _) | some (.struct _) => true | _ => false) = true := by
  simp only [wideKey, Bool.and_eq_true] at h
  exact ⟨h.1.1, h.1.2, h.2⟩
open Classical in
theorem eq_deep {t : TypeId} (h : wideKey P t = true) {x y : Value} (hx : Dk P t x) (hy : Dk P t y) (w : World) : (Op.equal t x y).run P w = .ok (decide (x = y)) w := by
  obtain ⟨h1, h2, h3⟩ := wide_parts h
  obtain ⟨lx, hx⟩ := hx
  obtain ⟨ly, hy⟩ := hy
  obtain ⟨r, hr, hi⟩ := run_equal_deep w (by decide) h1 h3 hx hy
  rw [hr]
  congr 1
  rw [Bool.eq_iff_iff, hi, decide_eq_true_iff]
  exact ⟨fun e => keyOf_inj_deep h2 h3 hx (by rw [e]; exact hy), fun e => by subst e; rw [hx] at hy; exact Option.some.inj hy⟩
theorem key_deep {t : TypeId} (h : wideKey P t = true) : KeyTy P t (Dk P t) := by
  obtain ⟨h1, h2, h3⟩ := wide_parts h
  have law := deep_law (m := 5) (by decide) h1 h2 h3
  refine ⟨fun k ⟨l, hk⟩ b w => law.check w b hk, ?_, ?_⟩
  · rintro v ⟨l, hv⟩
    obtain ⟨xs, L, rfl, h4, _⟩ := keyOf_top h3 hv
    have c1 := cells_of_lits 5 t h2 _ _ _ h4
    have hwf := keyLits_wf h4
    show Instr.sameBits (9999 + 1) (.agg xs) (.agg xs) = true
    simp only [Instr.sameBits, beq_self_eq_true, Bool.true_and, List.all_eq_true]
    intro p hp
    rw [c1] at hp
    obtain ⟨i, hi, e⟩ := List.getElem_of_mem hp
    rw [List.getElem_zip] at e
    rw [← e]
    simp only [List.getElem_map]
    exact sameBits_toCell (hwf _ (List.getElem_mem _)) 9999
  · cases hu : P.underlying t with
    | none => rw [hu] at h3; cases h3
    | some d =>
      refine ⟨d, rfl, .inr ⟨?_, fun k e hk he w => eq_deep h hk he w⟩⟩
      rw [hu] at h3
      rintro k e ⟨l, hk⟩ ⟨l', he⟩
      obtain ⟨xs, L, rfl, _, _⟩ := keyOf_top (by rw [hu]; exact h3) hk
      cases d <;> simp at h3 <;> rfl
section pure
variable {ρ : Env} {ds : Option Nat} {ty : TypeId} {pos : String} {aft : Array Edge} {g : Option (Nat × Bool)}
theorem guard_agg {t : TypeId} {x y : Operand} {xs ys : Array Value} (hg : P.eqGuardType P.depth t = false) (op : BinOp) (w : World) : (eqGuard op t x y (.agg xs) (.agg ys)).run P w = .ok () w := by
  cases op <;> simp [eqGuard, hg]
open Classical in
theorem p_eqDeep {t yt : TypeId} {x y : Operand} {m n : Value} (hx : ev ρ x = some m) (hy : ev ρ y = some n) (h : wideKey P t = true) (hm : Dk P t m) (hn : Dk P t n) (hg : P.eqGuardType P.depth t = false) : PureOp P ⟨ds, .binOp .eql t x y yt, ty, pos, aft, g⟩ ρ (.bool (decide (m = n))) := fun a hs w => by
  have := eq_deep h hm hn w
  obtain ⟨xs, L, rfl, _, _⟩ := keyOf_top (wide_parts h).2.2 hm.choose_spec
  obtain ⟨ys, L', rfl, _, _⟩ := keyOf_top (wide_parts h).2.2 hn.choose_spec
  have h2 := guard_agg (x := x) (y := y) (xs := xs) (ys := ys) hg .eql w
  generalize decide (Value.agg xs = Value.agg ys) = r at this ⊢
  simp [execOp, hs x _ hx, hs y _ hy, h2, binOp, this]
open Classical in
theorem p_neDeep {t yt : TypeId} {x y : Operand} {m n : Value} (hx : ev ρ x = some m) (hy : ev ρ y = some n) (h : wideKey P t = true) (hm : Dk P t m) (hn : Dk P t n) (hg : P.eqGuardType P.depth t = false) : PureOp P ⟨ds, .binOp .neq t x y yt, ty, pos, aft, g⟩ ρ (.bool !(decide (m = n))) := fun a hs w => by
  have := eq_deep h hm hn w
  obtain ⟨xs, L, rfl, _, _⟩ := keyOf_top (wide_parts h).2.2 hm.choose_spec
  obtain ⟨ys, L', rfl, _, _⟩ := keyOf_top (wide_parts h).2.2 hn.choose_spec
  have h2 := guard_agg (x := x) (y := y) (xs := xs) (ys := ys) hg .neq w
  generalize decide (Value.agg xs = Value.agg ys) = r at this ⊢
  simp [execOp, hs x _ hx, hs y _ hy, h2, binOp, this]
end pure
end
end Go.EL
