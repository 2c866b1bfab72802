/- errors.As at a sentinel error: it does not hold a fault. -/
import Derived.Test.YtigjnfmbellpjaaDoorProg
import Derived.WalkKit
import Derived.LaidEql
import Derived.Stop.Asserts
import Derived.RowKitTokens
set_option maxRecDepth 100000
namespace Go.Proofs.YtigjnfmbellpjaaDoor.Err
open Go Go.RowKit Go.Extern.Stop Go.Stop Go.Extern
theorem valueOf92 (t : Addr) (w : World) : (ReflectliteValue.unpack (.iface 140 (.pointer (some t)))).run Tryd.prog w
    = .ok (.agg #[.pointer (some ⟨19, 140, none⟩), .pointer (some ⟨w.heap.size, 0, none⟩), .int .u64 150]) (w.alloc (.cells #[.pointer (some t)] 140)) := by kernel_rfl
theorem type92 (a : Addr) (w : World) : (ReflectliteValue.methodAny (ReflectliteValue.valueError "reflectlite.Value.Type" 0) (fun t _ _ _ => ReflectliteType.toType t) #[.agg #[.pointer (some ⟨19, 140, none⟩), .pointer (some a), .int .u64 150]]).run Tryd.prog w
    = .ok (.iface 168 (.agg #[.pointer (some ⟨19, 140, none⟩)])) w := by kernel_rfl
theorem methodKind (h : Value) (w : World) : (Go.method 316 168 (.agg #[h]) "Kind").run Tryd.prog w = .ok (99, h) w := by kernel_rfl
theorem kind92 (w : World) : ((ReflectliteType.abiMethod fun t => (fun a : Nat => Value.int IntKind.u8 (a : Int)) <$> Rtype.kind t) #[.pointer (some ⟨19, 140, none⟩)]).run Tryd.prog w = .ok (.int .u8 22) w := by kernel_rfl
theorem kind90 (w : World) : ((ReflectliteType.abiMethod fun t => (fun a : Nat => Value.int IntKind.u8 (a : Int)) <$> Rtype.kind t) #[.pointer (some ⟨19, 138, none⟩)]).run Tryd.prog w = .ok (.int .u8 22) w := by kernel_rfl
theorem rlm (z : Sem Value) (f : TypeId → Addr → Nat → Nat → Sem Value) (v : Value) :
    ReflectliteValue.method z f #[v] = (do match ← ReflectliteValue.parts v with | none => z | some (t, a, fl) => f t a fl (fl % 32)) := rfl
theorem parts92 (a : Addr) (w : World) : (ReflectliteValue.parts (.agg #[.pointer (some ⟨19, 140, none⟩), .pointer (some a), .int .u64 150])).run Tryd.prog w = .ok (some (140, a, 150)) w := by kernel_rfl
theorem isNil92 (a p : Addr) (W : World) (ha : W.cell? a = some (.pointer (some p))) :
    (ReflectliteValue.method (ReflectliteValue.valueError "reflectlite.Value.IsNil" 0) ReflectliteValue.isNil #[.agg #[.pointer (some ⟨19, 140, none⟩), .pointer (some a), .int .u64 150]]).run Tryd.prog W = .ok (.bool false) W := by
  rw [rlm]
  simp only [Sem.run_bind, parts92, Result.andThen]
  simp [ReflectliteValue.isNil, loadVar, isAgg, underlying, Tryd.underlying140, ha, Result.andThen]
theorem methodElem (h : Value) (w : World) : (Go.method 316 168 (.agg #[h]) "Elem").run Tryd.prog w = .ok (111, .agg #[h]) w := by kernel_rfl
theorem methodImplements (h : Value) (w : World) : (Go.method 316 168 (.agg #[h]) "Implements").run Tryd.prog w = .ok (112, .agg #[h]) w := by kernel_rfl
theorem methodAssignableTo (h : Value) (w : World) : (Go.method 316 168 (.agg #[h]) "AssignableTo").run Tryd.prog w = .ok (109, .agg #[h]) w := by kernel_rfl
theorem methodComparable (h : Value) (w : World) : (Go.method 316 168 (.agg #[h]) "Comparable").run Tryd.prog w = .ok (110, .agg #[h]) w := by kernel_rfl
theorem elem92 (w : World) : (ReflectliteType.method ReflectliteType.elem #[.agg #[.pointer (some ⟨19, 140, none⟩)]]).run Tryd.prog w = .ok (.iface 168 (.agg #[.pointer (some ⟨19, 138, none⟩)])) w := by kernel_rfl
theorem implements90 (w : World) : (ReflectliteType.relation "Implements" ReflectliteType.implements_ #[.agg #[.pointer (some ⟨19, 138, none⟩)], .iface 168 (.agg #[.pointer (some ⟨19, 34, none⟩)])]).run Tryd.prog w = .ok (.bool true) w := by kernel_rfl
theorem typeOf127 (v : Value) (w : World) : (ReflectliteType.typeOf #[.iface 183 v]).run Tryd.prog w = .ok (.iface 168 (.agg #[.pointer (some ⟨19, 183, none⟩)])) w := by kernel_rfl
theorem assignable (w : World) : (ReflectliteType.relation "AssignableTo" ReflectliteType.assignableTo #[.agg #[.pointer (some ⟨19, 183, none⟩)], .iface 168 (.agg #[.pointer (some ⟨19, 138, none⟩)])]).run Tryd.prog w = .ok (.bool false) w := by kernel_rfl
theorem comparable127 (w : World) : (ReflectliteType.method (fun t => do Go.Extern.Rtype.noPackHeld "Comparable" t; pure (.bool (← typeInfo t).comparable)) #[.agg #[.pointer (some ⟨19, 183, none⟩)]]).run Tryd.prog w = .ok (.bool true) w := by kernel_rfl
theorem noAs (v : Value) (xT : TypeId) (w : World) : (Instr.typeAssert (.iface 183 v) xT 172 true).run Tryd.prog w = .ok (.tuple #[.nilIface, .bool false]) w := run_typeAssert_lacksB Tryd.underlying172 (by kernel_rfl) (by kernel_rfl) v xT w
theorem noUnwrap (v : Value) (xT : TypeId) (w : World) : (Instr.typeAssert (.iface 183 v) xT 175 true).run Tryd.prog w = .ok (.tuple #[.nilIface, .bool false]) w := run_typeAssert_lacksB Tryd.underlying175 (by kernel_rfl) (by kernel_rfl) v xT w
theorem noUnwraps (v : Value) (xT : TypeId) (w : World) : (Instr.typeAssert (.iface 183 v) xT 177 true).run Tryd.prog w = .ok (.tuple #[.nilIface, .bool false]) w := run_typeAssert_lacksB Tryd.underlying177 (by kernel_rfl) (by kernel_rfl) v xT w
theorem noIs (v : Value) (xT : TypeId) (w : World) : (Instr.typeAssert (.iface 183 v) xT 180 true).run Tryd.prog w = .ok (.tuple #[.nilIface, .bool false]) w := run_typeAssert_lacksB Tryd.underlying180 (by kernel_rfl) (by kernel_rfl) v xT w
set_option maxHeartbeats 4000000 in
theorem as_miss (e t : Addr) (w : World) (hg : w.cell? ⟨17, 0, none⟩ = some (.iface 168 (.agg #[.pointer (some ⟨19, 34, none⟩)]))) (hlt : 17 < w.heap.size) (old : Value) (ht0 : w.cell? t = some old) :
    Calls Tryd.prog 72 #[.iface 183 (.pointer (some e)), .iface 140 (.pointer (some t))] w fun ev w' => ev = .returned (.bool false) ∧ w' = ((w.alloc (.cells #[.pointer (some t)] 140)).alloc (.cells #[.pointer (some ⟨19, 140, none⟩), .pointer (some ⟨w.heap.size, 0, none⟩), .int .u64 150] 154)).alloc (.cells #[.pointer (some ⟨19, 140, none⟩), .pointer (some ⟨w.heap.size, 0, none⟩), .int .u64 150] 154) := by
  have h34 := @run_callFunc_extern Tryd.prog 76 _ (fun args => ReflectliteValue.unpack (args.getD 0 (.tuple #[]))) Tryd.func76 (by kernel_rfl) (by kernel_rfl) (by kernel_rfl) (by kernel_rfl)
  have h35 := @run_callFunc_extern Tryd.prog 77 _ (ReflectliteValue.methodAny (ReflectliteValue.valueError "reflectlite.Value.Type" 0) (fun t _ _ _ => ReflectliteType.toType t)) Tryd.func77 (by kernel_rfl) (by kernel_rfl) (by kernel_rfl) (by kernel_rfl)
  have h36 := @run_callFunc_extern Tryd.prog 78 _ (ReflectliteValue.method (ReflectliteValue.valueError "reflectlite.Value.IsNil" 0) ReflectliteValue.isNil) Tryd.func78 (by kernel_rfl) (by kernel_rfl) (by kernel_rfl) (by kernel_rfl)
  have h56 := @run_callFunc_extern Tryd.prog 99 _ (ReflectliteType.abiMethod fun t => do pure (.int .u8 (← Rtype.kind t))) Tryd.func99 (by kernel_rfl) (by kernel_rfl) (by kernel_rfl) (by kernel_rfl)
  have h73 := @run_callFunc_extern Tryd.prog 111 _ (ReflectliteType.method ReflectliteType.elem) Tryd.func111 (by kernel_rfl) (by kernel_rfl) (by kernel_rfl) (by kernel_rfl)
  have h74 := @run_callFunc_extern Tryd.prog 112 _ (ReflectliteType.relation "Implements" ReflectliteType.implements_) Tryd.func112 (by kernel_rfl) (by kernel_rfl) (by kernel_rfl) (by kernel_rfl)
  have h38 := @run_callFunc_extern Tryd.prog 80 _ ReflectliteType.typeOf Tryd.func80 (by kernel_rfl) (by kernel_rfl) (by kernel_rfl) (by kernel_rfl)
  have h71 := @run_callFunc_extern Tryd.prog 109 _ (ReflectliteType.relation "AssignableTo" ReflectliteType.assignableTo) Tryd.func109 (by kernel_rfl) (by kernel_rfl) (by kernel_rfl) (by kernel_rfl)
  have tO := typeOf127
  have nA := noAs
  have nU := noUnwrap
  have nUs := noUnwraps
  have mA := methodAssignableTo
  have aS := assignable
  have f6 := valueOf92
  have f7 := type92
  have mK := methodKind
  have mE := methodElem
  have mI := methodImplements
  have k92 := kind92
  have k90 := kind90
  have e92 := elem92
  have i90 := implements90
  have n8 := isNil92 ⟨w.heap.size, 0, none⟩ t ((w.alloc (.cells #[.pointer (some t)] 140)).alloc (.cells #[.pointer (some ⟨19, 140, none⟩), .pointer (some ⟨w.heap.size, 0, none⟩), .int .u64 150] 154)) (by simp)
  have hg2 : ((w.alloc (.cells #[.pointer (some t)] 140)).alloc (.cells #[.pointer (some ⟨19, 140, none⟩), .pointer (some ⟨w.heap.size, 0, none⟩), .int .u64 150] 154)).cell? ⟨17, 0, none⟩ = some (.iface 168 (.agg #[.pointer (some ⟨19, 34, none⟩)])) := by
    rw [World.cell?_alloc_lt _ _ ⟨17, 0, none⟩ (by simp; omega), World.cell?_alloc_lt _ _ ⟨17, 0, none⟩ hlt]; exact hg
  go_enter Tryd.func72, Tryd.ntmps72
  go_wp2
  refine wp_loop_rounds 1 ?_
  rw [rounds_succ]
  go_wp2
  go_ret
  exact ⟨rfl, rfl⟩
end Go.Proofs.YtigjnfmbellpjaaDoor.Err

/- errors.Is at two sentinel errors. -/
set_option maxRecDepth 100000
namespace Go.Proofs.YtigjnfmbellpjaaDoor.Err
open Go Go.RowKit Go.Extern.Stop Go.Stop Go.Extern
theorem eqSame (a : Addr) (w : World) : (binOp .eql 34 (.iface 183 (.pointer (some a))) (.iface 183 (.pointer (some a)))).run Tryd.prog w = .ok (.bool true) w := by
  obtain ⟨i, hi, hc⟩ : ∃ i, Tryd.prog.info? 183 = some i ∧ i.comparable = true := by
    have : (Tryd.prog.info? 183).map (·.comparable) = some true := by kernel_rfl
    cases h : Tryd.prog.info? 183 with
    | none => rw [h] at this; cases this
    | some i => rw [h] at this; exact ⟨i, rfl, Option.some.inj this⟩
  obtain ⟨j, hj⟩ : ∃ j, Tryd.prog.info? 204 = some j := by
    have : (Tryd.prog.info? 204).isSome = true := by kernel_rfl
    exact Option.isSome_iff_exists.1 this
  exact run_eql_iface_ptr_same w a Tryd.underlying34 Tryd.underlying183 hi hc hj
theorem eqOther {a b : Addr} (w : World) {ca cb : Array Value} {ta tb : TypeId} (hne : a ≠ b) (ha : w.heap[a.block]? = some (.cells ca ta (0, 0))) (hb : w.heap[b.block]? = some (.cells cb tb (0, 0))) : (binOp .eql 34 (.iface 183 (.pointer (some a))) (.iface 183 (.pointer (some b)))).run Tryd.prog w = .ok (.bool false) w := by
  obtain ⟨i, hi, hc⟩ : ∃ i, Tryd.prog.info? 183 = some i ∧ i.comparable = true := by
    have : (Tryd.prog.info? 183).map (·.comparable) = some true := by kernel_rfl
    cases h : Tryd.prog.info? 183 with
    | none => rw [h] at this; cases this
    | some i => rw [h] at this; exact ⟨i, rfl, Option.some.inj this⟩
  obtain ⟨j, hj, hs⟩ : ∃ j, Tryd.prog.info? 204 = some j ∧ j.size ≠ 0 := by
    have : (Tryd.prog.info? 204).map (fun j => decide (j.size ≠ 0)) = some true := by kernel_rfl
    cases h : Tryd.prog.info? 204 with
    | none => rw [h] at this; cases this
    | some j => rw [h] at this; exact ⟨j, rfl, of_decide_eq_true (Option.some.inj this)⟩
  exact run_eql_iface_ptr_other w Tryd.underlying34 Tryd.underlying183 hi hc hj hs hne ha hb
theorem comparable127' (w : World) : (ReflectliteType.method (fun t => do Go.Extern.Rtype.noPackHeld "Comparable" t; (fun a : TypeInfo => Value.bool a.comparable) <$> typeInfo t) #[.agg #[.pointer (some ⟨19, 183, none⟩)]]).run Tryd.prog w = .ok (.bool true) w := by kernel_rfl
set_option maxHeartbeats 4000000 in
theorem is_same (a : Addr) (w : World) : Calls Tryd.prog 73 #[.iface 183 (.pointer (some a)), .iface 183 (.pointer (some a))] w fun ev w' => ev = .returned (.bool true) ∧ w' = w := by
  have h38 := @run_callFunc_extern Tryd.prog 80 _ ReflectliteType.typeOf Tryd.func80 (by kernel_rfl) (by kernel_rfl) (by kernel_rfl) (by kernel_rfl)
  have h72 := @run_callFunc_extern Tryd.prog 110 _ (ReflectliteType.method (fun t => do Go.Extern.Rtype.noPackHeld "Comparable" t; pure (.bool (← typeInfo t).comparable))) Tryd.func110 (by kernel_rfl) (by kernel_rfl) (by kernel_rfl) (by kernel_rfl)
  have tO := typeOf127
  have mC := methodComparable
  have cC := comparable127'
  have eS := eqSame a
  go_enter Tryd.func73, Tryd.ntmps73
  go_wp2
  refine wp_loop_rounds 1 ?_
  rw [rounds_succ]
  go_wp2
  go_ret
  exact ⟨rfl, rfl⟩
set_option maxHeartbeats 4000000 in
theorem is_other {a b : Addr} (w : World) {ca cb : Array Value} {ta tb : TypeId} (hne : a ≠ b) (ha : w.heap[a.block]? = some (.cells ca ta (0, 0))) (hb : w.heap[b.block]? = some (.cells cb tb (0, 0))) : Calls Tryd.prog 73 #[.iface 183 (.pointer (some a)), .iface 183 (.pointer (some b))] w fun ev w' => ev = .returned (.bool false) ∧ w' = w := by
  have h38 := @run_callFunc_extern Tryd.prog 80 _ ReflectliteType.typeOf Tryd.func80 (by kernel_rfl) (by kernel_rfl) (by kernel_rfl) (by kernel_rfl)
  have h72 := @run_callFunc_extern Tryd.prog 110 _ (ReflectliteType.method (fun t => do Go.Extern.Rtype.noPackHeld "Comparable" t; pure (.bool (← typeInfo t).comparable))) Tryd.func110 (by kernel_rfl) (by kernel_rfl) (by kernel_rfl) (by kernel_rfl)
  have tO := typeOf127
  have mC := methodComparable
  have cC := comparable127'
  have nI := noIs
  have nU := noUnwrap
  have nUs := noUnwraps
  have eO := eqOther w hne ha hb
  go_enter Tryd.func73, Tryd.ntmps73
  go_wp2
  refine wp_loop_rounds 1 ?_
  rw [rounds_succ]
  go_wp2
  go_ret
  exact ⟨rfl, rfl⟩
end Go.Proofs.YtigjnfmbellpjaaDoor.Err
