/- Part 15: some operations more: min, the same pointer compared. -/
import Derived.Test.YtigjnfmbellpjaaDoorEL14
namespace Go.EL
open Go
theorem of_dec {p : Prop} {inst : Decidable p} (h : @decide p inst = true) : p := of_decide_eq_true h
theorem of_ndec {p : Prop} {inst : Decidable p} (h : @decide p inst = false) : ¬ p := of_decide_eq_false h
section
variable {P : Program} {ρ : Env} {ds : Option Nat} {ty : TypeId} {pos : String} {aft : Array Edge} {g : Option (Nat × Bool)}
theorem p_min2 {x y : Operand} {tys : Array TypeId} {k : IntKind} {m n : Int} (hx : ev ρ x = some (.int k m)) (hy : ev ρ y = some (.int k n)) : PureOp P ⟨ds, .call ⟨.builtin .min, #[x, y], tys⟩, ty, pos, aft, g⟩ ρ (.int k (if n < m then n else m)) := fun a hs w => by
  simp [execOp, resolve, invoke, builtin, Builtin.min_, Builtin.min2, hs x _ hx, hs y _ hy]
theorem sameAddr_self (a : Addr) (w : World) : (sameAddr a a).run P w = .ok true w := by simp [sameAddr]
theorem eq_ptrSame {t e : TypeId} {n : Nat} (ht : P.underlying t = some (.pointer e)) (hs : sizeIs P e n = true) (_hn : n ≠ 0) (a : Addr) (w : World) : (Op.equal t (.pointer (some a)) (.pointer (some a))).run P w = .ok true w := by
  show (Op.equalIn (9999 + 1) t (.pointer (some a)) (.pointer (some a))).run P w = _
  rw [Op.equalIn]
  simp [underlying, ht, sizeIs_run hs, sameAddr_self]
theorem p_eqPtrSame {t yt e : TypeId} {n : Nat} {x y : Operand} {b : Addr} (hx : ev ρ x = some (.pointer (some b))) (hy : ev ρ y = some (.pointer (some b))) (ht : P.underlying t = some (.pointer e)) (hz : sizeIs P e n = true) (hn : n ≠ 0) : PureOp P ⟨ds, .binOp .eql t x y yt, ty, pos, aft, g⟩ ρ (.bool true) := fun a hs w => by
  simp [execOp, hs x _ hx, hs y _ hy, eqGuard, binOp, eq_ptrSame ht hz hn]
theorem p_nePtrSame {t yt e : TypeId} {n : Nat} {x y : Operand} {b : Addr} (hx : ev ρ x = some (.pointer (some b))) (hy : ev ρ y = some (.pointer (some b))) (ht : P.underlying t = some (.pointer e)) (hz : sizeIs P e n = true) (hn : n ≠ 0) : PureOp P ⟨ds, .binOp .neq t x y yt, ty, pos, aft, g⟩ ρ (.bool false) := fun a hs w => by
  simp [execOp, hs x _ hx, hs y _ hy, eqGuard, binOp, eq_ptrSame ht hz hn]
end
end Go.EL
