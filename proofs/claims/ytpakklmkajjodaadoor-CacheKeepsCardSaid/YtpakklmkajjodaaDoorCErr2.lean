/- errors.Is at two sentinel errors. -/
import Derived.Test.YtpakklmkajjodaaDoorCErr
set_option maxRecDepth 100000
namespace Go.Proofs.YtpakklmkajjodaaDoor.Err
open Go Go.RowKit Go.Extern.Stop Go.Stop Go.Extern
theorem eqSame (a : Addr) (w : World) : (binOp .eql 25 (.iface 127 (.pointer (some a))) (.iface 127 (.pointer (some a)))).run Tryd.prog w = .ok (.bool true) w := by
  obtain ⟨i, hi, hc⟩ : ∃ i, Tryd.prog.info? 127 = some i ∧ i.comparable = true := by
    have : (Tryd.prog.info? 127).map (·.comparable) = some true := by kernel_rfl
    cases h : Tryd.prog.info? 127 with
    | none => rw [h] at this; cases this
    | some i => rw [h] at this; exact ⟨i, rfl, Option.some.inj this⟩
  obtain ⟨j, hj⟩ : ∃ j, Tryd.prog.info? 152 = some j := by
    have : (Tryd.prog.info? 152).isSome = true := by kernel_rfl
    exact Option.isSome_iff_exists.1 this
  exact run_eql_iface_ptr_same w a Tryd.underlying25 Tryd.underlying127 hi hc hj
theorem eqOther {a b : Addr} (w : World) {ca cb : Array Value} {ta tb : TypeId} (hne : a ≠ b) (ha : w.heap[a.block]? = some (.cells ca ta (0, 0))) (hb : w.heap[b.block]? = some (.cells cb tb (0, 0))) : (binOp .eql 25 (.iface 127 (.pointer (some a))) (.iface 127 (.pointer (some b)))).run Tryd.prog w = .ok (.bool false) w := by
  obtain ⟨i, hi, hc⟩ : ∃ i, Tryd.prog.info? 127 = some i ∧ i.comparable = true := by
    have : (Tryd.prog.info? 127).map (·.comparable) = some true := by kernel_rfl
    cases h : Tryd.prog.info? 127 with
    | none => rw [h] at this; cases this
    | some i => rw [h] at this; exact ⟨i, rfl, Option.some.inj this⟩
  obtain ⟨j, hj, hs⟩ : ∃ j, Tryd.prog.info? 152 = some j ∧ j.size ≠ 0 := by
    have : (Tryd.prog.info? 152).map (fun j => decide (j.size ≠ 0)) = some true := by kernel_rfl
    cases h : Tryd.prog.info? 152 with
    | none => rw [h] at this; cases this
    | some j => rw [h] at this; exact ⟨j, rfl, of_decide_eq_true (Option.some.inj this)⟩
  exact run_eql_iface_ptr_other w Tryd.underlying25 Tryd.underlying127 hi hc hj hs hne ha hb
theorem comparable127' (w : World) : (ReflectliteType.method (fun t => do Go.Extern.Rtype.noPackHeld "Comparable" t; (fun a : TypeInfo => Value.bool a.comparable) <$> typeInfo t) #[.agg #[.pointer (some ⟨17, 127, none⟩)]]).run Tryd.prog w = .ok (.bool true) w := by kernel_rfl
set_option maxHeartbeats 4000000 in
theorem is_same (a : Addr) (w : World) : Calls Tryd.prog 33 #[.iface 127 (.pointer (some a)), .iface 127 (.pointer (some a))] w fun ev w' => ev = .returned (.bool true) ∧ w' = w := by
  have h38 := @run_callFunc_extern Tryd.prog 38 _ ReflectliteType.typeOf Tryd.func38 (by kernel_rfl) (by kernel_rfl) (by kernel_rfl) (by kernel_rfl)
  have h72 := @run_callFunc_extern Tryd.prog 72 _ (ReflectliteType.method (fun t => do Go.Extern.Rtype.noPackHeld "Comparable" t; pure (.bool (← typeInfo t).comparable))) Tryd.func72 (by kernel_rfl) (by kernel_rfl) (by kernel_rfl) (by kernel_rfl)
  have tO := typeOf127
  have mC := methodComparable
  have cC := comparable127'
  have eS := eqSame a
  go_enter Tryd.func33, Tryd.ntmps33
  go_wp2
  refine wp_loop_rounds 1 ?_
  rw [rounds_succ]
  go_wp2
  go_ret
  exact ⟨rfl, rfl⟩
set_option maxHeartbeats 4000000 in
theorem is_other {a b : Addr} (w : World) {ca cb : Array Value} {ta tb : TypeId} (hne : a ≠ b) (ha : w.heap[a.block]? = some (.cells ca ta (0, 0))) (hb : w.heap[b.block]? = some (.cells cb tb (0, 0))) : Calls Tryd.prog 33 #[.iface 127 (.pointer (some a)), .iface 127 (.pointer (some b))] w fun ev w' => ev = .returned (.bool false) ∧ w' = w := by
  have h38 := @run_callFunc_extern Tryd.prog 38 _ ReflectliteType.typeOf Tryd.func38 (by kernel_rfl) (by kernel_rfl) (by kernel_rfl) (by kernel_rfl)
  have h72 := @run_callFunc_extern Tryd.prog 72 _ (ReflectliteType.method (fun t => do Go.Extern.Rtype.noPackHeld "Comparable" t; pure (.bool (← typeInfo t).comparable))) Tryd.func72 (by kernel_rfl) (by kernel_rfl) (by kernel_rfl) (by kernel_rfl)
  have tO := typeOf127
  have mC := methodComparable
  have cC := comparable127'
  have nI := noIs
  have nU := noUnwrap
  have nUs := noUnwraps
  have eO := eqOther w hne ha hb
  go_enter Tryd.func33, Tryd.ntmps33
  go_wp2
  refine wp_loop_rounds 1 ?_
  rw [rounds_succ]
  go_wp2
  go_ret
  exact ⟨rfl, rfl⟩
end Go.Proofs.YtpakklmkajjodaaDoor.Err
