/- Closed facts on the types and functions of this translation, each asked of the kernel. -/
import Derived.Test.YtigjnfmbellpjaaDoorFacts
import Derived.Test.YtigjnfmbellpjaaDoorProg
namespace Go.Proofs.YtigjnfmbellpjaaDoor
open Go Go.EL
theorem ag_106 : aggOf Tryd.prog 106 34 = true := by kernel_rfl
theorem ag_32 : aggOf Tryd.prog 32 32 = true := by kernel_rfl
theorem ag_53 : aggOf Tryd.prog 53 2 = true := by kernel_rfl
theorem by_106 : bytesIs Tryd.prog 106 48 = true := by kernel_rfl
theorem by_32 : bytesIs Tryd.prog 32 32 = true := by kernel_rfl
theorem call_16 : callOk Tryd.prog 16 = true := by kernel_rfl
theorem call_17 : callOk Tryd.prog 17 = true := by kernel_rfl
theorem call_18 : callOk Tryd.prog 18 = true := by kernel_rfl
theorem call_19 : callOk Tryd.prog 19 = true := by kernel_rfl
theorem call_20 : callOk Tryd.prog 20 = true := by kernel_rfl
theorem call_21 : callOk Tryd.prog 21 = true := by kernel_rfl
theorem call_22 : callOk Tryd.prog 22 = true := by kernel_rfl
theorem call_23 : callOk Tryd.prog 23 = true := by kernel_rfl
theorem call_29 : callOk Tryd.prog 29 = true := by kernel_rfl
theorem call_30 : callOk Tryd.prog 30 = true := by kernel_rfl
theorem call_46 : callOk Tryd.prog 46 = true := by kernel_rfl
theorem call_47 : callOk Tryd.prog 47 = true := by kernel_rfl
theorem call_48 : callOk Tryd.prog 48 = true := by kernel_rfl
theorem call_49 : callOk Tryd.prog 49 = true := by kernel_rfl
theorem call_70 : callOk Tryd.prog 70 = true := by kernel_rfl
theorem fa_104_0 : fieldIs Tryd.prog 104 0 0 4 = true := by kernel_rfl
theorem fa_104_1 : fieldIs Tryd.prog 104 1 1 53 = true := by kernel_rfl
theorem fa_104_2 : fieldIs Tryd.prog 104 2 3 102 = true := by kernel_rfl
theorem fa_106_0 : fieldIs Tryd.prog 106 0 0 58 = true := by kernel_rfl
theorem fa_106_1 : fieldIs Tryd.prog 106 1 2 32 = true := by kernel_rfl
theorem na_102 : notAgg Tryd.prog 102 = true := by kernel_rfl
theorem na_4 : notAgg Tryd.prog 4 = true := by kernel_rfl
theorem pl_104 : placesOf Tryd.prog 104 = some [(0, 1), (1, 2), (3, 1)] := by kernel_rfl
theorem pl_106 : placesOf Tryd.prog 106 = some [(0, 2), (2, 32)] := by kernel_rfl
theorem sl_102 : sliceOf Tryd.prog 102 106 34 = true := by kernel_rfl
theorem sl_24 : sliceOf Tryd.prog 24 32 32 = true := by kernel_rfl
theorem sz_102 : sizeIs Tryd.prog 102 1 = true := by kernel_rfl
theorem sz_106 : sizeIs Tryd.prog 106 34 = true := by kernel_rfl
theorem zr_104 : zeroIs Tryd.prog 104 [.bool false, .int .u64 0, .int .u64 0, .slice none 0 0] := by exact zeroIs_mk (by kernel_rfl)
theorem zr_106 : zeroIs Tryd.prog 106 [.int .u8 0, .int .u64 0, .int .u8 0, .int .u8 0, .int .u8 0, .int .u8 0, .int .u8 0, .int .u8 0, .int .u8 0, .int .u8 0, .int .u8 0, .int .u8 0, .int .u8 0, .int .u8 0, .int .u8 0, .int .u8 0, .int .u8 0, .int .u8 0, .int .u8 0, .int .u8 0, .int .u8 0, .int .u8 0, .int .u8 0, .int .u8 0, .int .u8 0, .int .u8 0, .int .u8 0, .int .u8 0, .int .u8 0, .int .u8 0, .int .u8 0, .int .u8 0, .int .u8 0, .int .u8 0] := by exact zeroIs_mk (by kernel_rfl)
end Go.Proofs.YtigjnfmbellpjaaDoor
