/- Closed facts on the types and functions of this translation, each asked of the kernel. -/
import Derived.Test.YtigjnfmbellpjaaDoorEL9
import Derived.Test.YtigjnfmbellpjaaDoorProg
namespace Go.Proofs.YtigjnfmbellpjaaDoor
open Go Go.EL
theorem mixed : Tryd.prog.follows .mixedOrders = true := by kernel_rfl
theorem ag_147 : aggOf Tryd.prog 147 8 = true := by kernel_rfl
theorem ag_58 : aggOf Tryd.prog 58 2 = true := by kernel_rfl
theorem ar_137 : arrayOf Tryd.prog 137 64 5 1 = true := by kernel_rfl
theorem ar_147 : arrayOf Tryd.prog 147 8 146 1 = true := by kernel_rfl
theorem ar_165 : arrayOf Tryd.prog 165 64 146 1 = true := by kernel_rfl
theorem ar_32 : arrayOf Tryd.prog 32 32 5 1 = true := by kernel_rfl
theorem by_5 : bytesIs Tryd.prog 5 1 = true := by kernel_rfl
theorem by_58 : bytesIs Tryd.prog 58 16 = true := by kernel_rfl
theorem call_43 : callOk Tryd.prog 43 = true := by kernel_rfl
theorem call_50 : callOk Tryd.prog 50 = true := by kernel_rfl
theorem call_51 : callOk Tryd.prog 51 = true := by kernel_rfl
theorem call_52 : callOk Tryd.prog 52 = true := by kernel_rfl
theorem call_66 : callOk Tryd.prog 66 = true := by kernel_rfl
theorem call_67 : callOk Tryd.prog 67 = true := by kernel_rfl
theorem call_68 : callOk Tryd.prog 68 = true := by kernel_rfl
theorem call_74 : callOk Tryd.prog 74 = true := by kernel_rfl
theorem call_75 : callOk Tryd.prog 75 = true := by kernel_rfl
theorem call_82 : callOk Tryd.prog 82 = true := by kernel_rfl
theorem fa_149_0 : fieldIs Tryd.prog 149 0 0 145 = true := by kernel_rfl
theorem fa_149_1 : fieldIs Tryd.prog 149 1 1 133 = true := by kernel_rfl
theorem fa_149_2 : fieldIs Tryd.prog 149 2 2 23 = true := by kernel_rfl
theorem fa_53_0 : fieldIs Tryd.prog 53 0 0 23 = true := by kernel_rfl
theorem fa_53_1 : fieldIs Tryd.prog 53 1 1 23 = true := by kernel_rfl
theorem fa_58_0 : fieldIs Tryd.prog 58 0 0 5 = true := by kernel_rfl
theorem fa_58_1 : fieldIs Tryd.prog 58 1 1 23 = true := by kernel_rfl
theorem ldv_32 : ldv Tryd.prog 32 32 = true := by kernel_rfl
theorem ldv_53 : ldv Tryd.prog 53 2 = true := by kernel_rfl
theorem ldv_58 : ldv Tryd.prog 58 2 = true := by kernel_rfl
theorem na_133 : notAgg Tryd.prog 133 = true := by kernel_rfl
theorem na_145 : notAgg Tryd.prog 145 = true := by kernel_rfl
theorem na_146 : notAgg Tryd.prog 146 = true := by kernel_rfl
theorem na_23 : notAgg Tryd.prog 23 = true := by kernel_rfl
theorem na_5 : notAgg Tryd.prog 5 = true := by kernel_rfl
theorem na_9 : notAgg Tryd.prog 9 = true := by kernel_rfl
theorem pl_149 : placesOf Tryd.prog 149 = some [(0, 1), (1, 1), (2, 1)] := by kernel_rfl
theorem pl_53 : placesOf Tryd.prog 53 = some [(0, 1), (1, 1)] := by kernel_rfl
theorem pl_58 : placesOf Tryd.prog 58 = some [(0, 1), (1, 1)] := by kernel_rfl
theorem sl_133 : sliceOf Tryd.prog 133 5 1 = true := by kernel_rfl
theorem sl_22 : sliceOf Tryd.prog 22 9 1 = true := by kernel_rfl
theorem sl_49 : sliceOf Tryd.prog 49 58 2 = true := by kernel_rfl
theorem sz_133 : sizeIs Tryd.prog 133 1 = true := by kernel_rfl
theorem sz_146 : sizeIs Tryd.prog 146 1 = true := by kernel_rfl
theorem sz_147 : sizeIs Tryd.prog 147 8 = true := by kernel_rfl
theorem sz_23 : sizeIs Tryd.prog 23 1 = true := by kernel_rfl
theorem sz_32 : sizeIs Tryd.prog 32 32 = true := by kernel_rfl
theorem sz_5 : sizeIs Tryd.prog 5 1 = true := by kernel_rfl
theorem sz_53 : sizeIs Tryd.prog 53 2 = true := by kernel_rfl
theorem sz_58 : sizeIs Tryd.prog 58 2 = true := by kernel_rfl
theorem zr_147 : zeroIs Tryd.prog 147 [.int .u32 0, .int .u32 0, .int .u32 0, .int .u32 0, .int .u32 0, .int .u32 0, .int .u32 0, .int .u32 0] := by exact zeroIs_mk (by kernel_rfl)
theorem zr_149 : zeroIs Tryd.prog 149 [.pointer none, .slice none 0 0, .int .u64 0] := by exact zeroIs_mk (by kernel_rfl)
theorem zr_165 : zeroIs Tryd.prog 165 [.int .u32 0, .int .u32 0, .int .u32 0, .int .u32 0, .int .u32 0, .int .u32 0, .int .u32 0, .int .u32 0, .int .u32 0, .int .u32 0, .int .u32 0, .int .u32 0, .int .u32 0, .int .u32 0, .int .u32 0, .int .u32 0, .int .u32 0, .int .u32 0, .int .u32 0, .int .u32 0, .int .u32 0, .int .u32 0, .int .u32 0, .int .u32 0, .int .u32 0, .int .u32 0, .int .u32 0, .int .u32 0, .int .u32 0, .int .u32 0, .int .u32 0, .int .u32 0, .int .u32 0, .int .u32 0, .int .u32 0, .int .u32 0, .int .u32 0, .int .u32 0, .int .u32 0, .int .u32 0, .int .u32 0, .int .u32 0, .int .u32 0, .int .u32 0, .int .u32 0, .int .u32 0, .int .u32 0, .int .u32 0, .int .u32 0, .int .u32 0, .int .u32 0, .int .u32 0, .int .u32 0, .int .u32 0, .int .u32 0, .int .u32 0, .int .u32 0, .int .u32 0, .int .u32 0, .int .u32 0, .int .u32 0, .int .u32 0, .int .u32 0, .int .u32 0] := by exact zeroIs_mk (by kernel_rfl)
theorem zr_32 : zeroIs Tryd.prog 32 [.int .u8 0, .int .u8 0, .int .u8 0, .int .u8 0, .int .u8 0, .int .u8 0, .int .u8 0, .int .u8 0, .int .u8 0, .int .u8 0, .int .u8 0, .int .u8 0, .int .u8 0, .int .u8 0, .int .u8 0, .int .u8 0, .int .u8 0, .int .u8 0, .int .u8 0, .int .u8 0, .int .u8 0, .int .u8 0, .int .u8 0, .int .u8 0, .int .u8 0, .int .u8 0, .int .u8 0, .int .u8 0, .int .u8 0, .int .u8 0, .int .u8 0, .int .u8 0] := by exact zeroIs_mk (by kernel_rfl)
theorem zr_5 : zeroIs Tryd.prog 5 [.int .u8 0] := by exact zeroIs_mk (by kernel_rfl)
theorem zr_53 : zeroIs Tryd.prog 53 [.int .u64 0, .int .u64 0] := by exact zeroIs_mk (by kernel_rfl)
theorem zr_58 : zeroIs Tryd.prog 58 [.int .u8 0, .int .u64 0] := by exact zeroIs_mk (by kernel_rfl)
theorem zr_9 : zeroIs Tryd.prog 9 [.string ⟨#[]⟩] := by exact zeroIs_mk (by kernel_rfl)
end Go.Proofs.YtigjnfmbellpjaaDoor
