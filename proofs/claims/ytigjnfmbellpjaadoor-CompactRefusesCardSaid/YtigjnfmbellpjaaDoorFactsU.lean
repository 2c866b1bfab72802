/- Closed facts on the types and functions of this translation, each asked of the kernel. -/
import Derived.Test.YtigjnfmbellpjaaDoorFacts
import Derived.Test.YtigjnfmbellpjaaDoorFactsC
import Derived.Test.YtigjnfmbellpjaaDoorProg
namespace Go.Proofs.YtigjnfmbellpjaaDoor
open Go Go.EL
theorem call_24 : callOk Tryd.prog 24 = true := by kernel_rfl
theorem call_25 : callOk Tryd.prog 25 = true := by kernel_rfl
theorem call_26 : callOk Tryd.prog 26 = true := by kernel_rfl
theorem call_27 : callOk Tryd.prog 27 = true := by kernel_rfl
theorem call_28 : callOk Tryd.prog 28 = true := by kernel_rfl
theorem call_53 : callOk Tryd.prog 53 = true := by kernel_rfl
theorem fa_61_0 : fieldIs Tryd.prog 61 0 0 23 = true := by kernel_rfl
theorem fa_61_1 : fieldIs Tryd.prog 61 1 1 24 = true := by kernel_rfl
theorem fa_61_2 : fieldIs Tryd.prog 61 2 2 5 = true := by kernel_rfl
theorem fa_61_3 : fieldIs Tryd.prog 61 3 3 5 = true := by kernel_rfl
theorem na_24 : notAgg Tryd.prog 24 = true := by kernel_rfl
end Go.Proofs.YtigjnfmbellpjaaDoor
