/- Closed facts on the types and functions of this translation, each asked of the kernel. -/
import Derived.Test.YtigjnfmbellpjaaDoorFacts
import Derived.Test.YtigjnfmbellpjaaDoorFactsC
import Derived.Test.YtigjnfmbellpjaaDoorFactsU
import Derived.Test.YtigjnfmbellpjaaDoorProg
namespace Go.Proofs.YtigjnfmbellpjaaDoor
open Go Go.EL
theorem ar_143 : arrayOf Tryd.prog 143 16 34 1 = true := by kernel_rfl
theorem call_33 : callOk Tryd.prog 33 = true := by kernel_rfl
theorem call_56 : callOk Tryd.prog 56 = true := by kernel_rfl
theorem call_57 : callOk Tryd.prog 57 = true := by kernel_rfl
theorem call_72 : callOk Tryd.prog 72 = true := by kernel_rfl
theorem call_73 : callOk Tryd.prog 73 = true := by kernel_rfl
theorem na_138 : notAgg Tryd.prog 138 = true := by kernel_rfl
theorem na_34 : notAgg Tryd.prog 34 = true := by kernel_rfl
theorem ni_140 : (match Tryd.prog.underlying 140 with | some (.interface _) => false | some _ => true | none => false) = true := by kernel_rfl
theorem sz_143 : sizeIs Tryd.prog 143 16 = true := by kernel_rfl
theorem zr_138 : zeroIs Tryd.prog 138 [.pointer none] := by exact zeroIs_mk (by kernel_rfl)
theorem zr_143 : zeroIs Tryd.prog 143 [.nilIface, .nilIface, .nilIface, .nilIface, .nilIface, .nilIface, .nilIface, .nilIface, .nilIface, .nilIface, .nilIface, .nilIface, .nilIface, .nilIface, .nilIface, .nilIface] := by exact zeroIs_mk (by kernel_rfl)
end Go.Proofs.YtigjnfmbellpjaaDoor
