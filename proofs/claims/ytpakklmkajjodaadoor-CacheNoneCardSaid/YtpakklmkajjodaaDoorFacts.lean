/- Closed facts on the types and functions of this translation, each asked of the kernel. -/
import Derived.Test.YtpakklmkajjodaaDoorEL9
import Derived.Test.YtpakklmkajjodaaDoorProg
namespace Go.Proofs.YtpakklmkajjodaaDoor
open Go Go.EL
theorem mixed : Tryd.prog.follows .mixedOrders = true := by kernel_rfl
theorem ag_87 : aggOf Tryd.prog 87 4 = true := by kernel_rfl
theorem ar_55 : arrayOf Tryd.prog 55 2 49 1 = true := by kernel_rfl
theorem by_3 : bytesIs Tryd.prog 3 8 = true := by kernel_rfl
theorem by_87 : bytesIs Tryd.prog 87 40 = true := by kernel_rfl
theorem by_9 : bytesIs Tryd.prog 9 16 = true := by kernel_rfl
theorem call_13 : callOk Tryd.prog 13 = true := by kernel_rfl
theorem call_14 : callOk Tryd.prog 14 = true := by kernel_rfl
theorem call_15 : callOk Tryd.prog 15 = true := by kernel_rfl
theorem call_16 : callOk Tryd.prog 16 = true := by kernel_rfl
theorem call_17 : callOk Tryd.prog 17 = true := by kernel_rfl
theorem call_18 : callOk Tryd.prog 18 = true := by kernel_rfl
theorem call_20 : callOk Tryd.prog 20 = true := by kernel_rfl
theorem call_27 : callOk Tryd.prog 27 = true := by kernel_rfl
theorem call_28 : callOk Tryd.prog 28 = true := by kernel_rfl
theorem call_29 : callOk Tryd.prog 29 = true := by kernel_rfl
theorem call_8 : callOk Tryd.prog 8 = true := by kernel_rfl
theorem fa_54_0 : fieldIs Tryd.prog 54 0 0 3 = true := by kernel_rfl
theorem fa_54_1 : fieldIs Tryd.prog 54 1 1 50 = true := by kernel_rfl
theorem fa_54_2 : fieldIs Tryd.prog 54 2 2 51 = true := by kernel_rfl
theorem fa_54_3 : fieldIs Tryd.prog 54 3 3 52 = true := by kernel_rfl
theorem fa_87_0 : fieldIs Tryd.prog 87 0 0 9 = true := by kernel_rfl
theorem fa_87_1 : fieldIs Tryd.prog 87 1 1 3 = true := by kernel_rfl
theorem fa_87_2 : fieldIs Tryd.prog 87 2 2 3 = true := by kernel_rfl
theorem fa_87_3 : fieldIs Tryd.prog 87 3 3 3 = true := by kernel_rfl
theorem ldv_3 : ldv Tryd.prog 3 1 = true := by kernel_rfl
theorem ldv_9 : ldv Tryd.prog 9 1 = true := by kernel_rfl
theorem na_25 : notAgg Tryd.prog 25 = true := by kernel_rfl
theorem na_3 : notAgg Tryd.prog 3 = true := by kernel_rfl
theorem na_49 : notAgg Tryd.prog 49 = true := by kernel_rfl
theorem na_50 : notAgg Tryd.prog 50 = true := by kernel_rfl
theorem na_51 : notAgg Tryd.prog 51 = true := by kernel_rfl
theorem na_52 : notAgg Tryd.prog 52 = true := by kernel_rfl
theorem na_9 : notAgg Tryd.prog 9 = true := by kernel_rfl
theorem pl_54 : placesOf Tryd.prog 54 = some [(0, 1), (1, 1), (2, 1), (3, 1)] := by kernel_rfl
theorem pl_87 : placesOf Tryd.prog 87 = some [(0, 1), (1, 1), (2, 1), (3, 1)] := by kernel_rfl
theorem sl_51 : sliceOf Tryd.prog 51 87 4 = true := by kernel_rfl
theorem sl_52 : sliceOf Tryd.prog 52 3 1 = true := by kernel_rfl
theorem sl_62 : sliceOf Tryd.prog 62 9 1 = true := by kernel_rfl
theorem sz_3 : sizeIs Tryd.prog 3 1 = true := by kernel_rfl
theorem sz_51 : sizeIs Tryd.prog 51 1 = true := by kernel_rfl
theorem sz_52 : sizeIs Tryd.prog 52 1 = true := by kernel_rfl
theorem sz_55 : sizeIs Tryd.prog 55 2 = true := by kernel_rfl
theorem sz_87 : sizeIs Tryd.prog 87 4 = true := by kernel_rfl
theorem sz_9 : sizeIs Tryd.prog 9 1 = true := by kernel_rfl
theorem zr_3 : zeroIs Tryd.prog 3 [.int .i64 0] := by exact zeroIs_mk (by kernel_rfl)
theorem zr_54 : zeroIs Tryd.prog 54 [.int .i64 0, .map none, .slice none 0 0, .slice none 0 0] := by exact zeroIs_mk (by kernel_rfl)
theorem zr_55 : zeroIs Tryd.prog 55 [.pointer none, .pointer none] := by exact zeroIs_mk (by kernel_rfl)
theorem zr_87 : zeroIs Tryd.prog 87 [.string ⟨#[]⟩, .int .i64 0, .int .i64 0, .int .i64 0] := by exact zeroIs_mk (by kernel_rfl)
theorem zr_9 : zeroIs Tryd.prog 9 [.string ⟨#[]⟩] := by exact zeroIs_mk (by kernel_rfl)
theorem zv_3 : (Tryd.prog.info? 3).bind (·.zero) = some (.int .i64 0) := by kernel_rfl
end Go.Proofs.YtpakklmkajjodaaDoor
