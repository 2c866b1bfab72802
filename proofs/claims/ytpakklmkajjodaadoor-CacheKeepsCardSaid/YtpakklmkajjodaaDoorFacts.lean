/- Closed facts on the types and functions of this translation, each asked of the kernel. -/
import Derived.Test.YtpakklmkajjodaaDoorEL9
import Derived.Test.YtpakklmkajjodaaDoorProg
namespace Go.Proofs.YtpakklmkajjodaaDoor
open Go Go.EL
theorem mixed : Tryd.prog.follows .mixedOrders = true := by kernel_rfl
theorem ag_82 : aggOf Tryd.prog 82 37 = true := by kernel_rfl
theorem ag_85 : aggOf Tryd.prog 85 35 = true := by kernel_rfl
theorem ag_87 : aggOf Tryd.prog 87 4 = true := by kernel_rfl
theorem ar_55 : arrayOf Tryd.prog 55 2 49 1 = true := by kernel_rfl
theorem ar_95 : arrayOf Tryd.prog 95 16 25 1 = true := by kernel_rfl
theorem by_3 : bytesIs Tryd.prog 3 8 = true := by kernel_rfl
theorem by_36 : bytesIs Tryd.prog 36 8 = true := by kernel_rfl
theorem by_82 : bytesIs Tryd.prog 82 72 = true := by kernel_rfl
theorem by_85 : bytesIs Tryd.prog 85 56 = true := by kernel_rfl
theorem by_87 : bytesIs Tryd.prog 87 40 = true := by kernel_rfl
theorem by_9 : bytesIs Tryd.prog 9 16 = true := by kernel_rfl
theorem call_10 : callOk Tryd.prog 10 = true := by kernel_rfl
theorem call_11 : callOk Tryd.prog 11 = true := by kernel_rfl
theorem call_12 : callOk Tryd.prog 12 = true := by kernel_rfl
theorem call_13 : callOk Tryd.prog 13 = true := by kernel_rfl
theorem call_14 : callOk Tryd.prog 14 = true := by kernel_rfl
theorem call_15 : callOk Tryd.prog 15 = true := by kernel_rfl
theorem call_16 : callOk Tryd.prog 16 = true := by kernel_rfl
theorem call_17 : callOk Tryd.prog 17 = true := by kernel_rfl
theorem call_18 : callOk Tryd.prog 18 = true := by kernel_rfl
theorem call_19 : callOk Tryd.prog 19 = true := by kernel_rfl
theorem call_20 : callOk Tryd.prog 20 = true := by kernel_rfl
theorem call_21 : callOk Tryd.prog 21 = true := by kernel_rfl
theorem call_22 : callOk Tryd.prog 22 = true := by kernel_rfl
theorem call_23 : callOk Tryd.prog 23 = true := by kernel_rfl
theorem call_24 : callOk Tryd.prog 24 = true := by kernel_rfl
theorem call_25 : callOk Tryd.prog 25 = true := by kernel_rfl
theorem call_26 : callOk Tryd.prog 26 = true := by kernel_rfl
theorem call_27 : callOk Tryd.prog 27 = true := by kernel_rfl
theorem call_28 : callOk Tryd.prog 28 = true := by kernel_rfl
theorem call_29 : callOk Tryd.prog 29 = true := by kernel_rfl
theorem call_30 : callOk Tryd.prog 30 = true := by kernel_rfl
theorem call_31 : callOk Tryd.prog 31 = true := by kernel_rfl
theorem call_32 : callOk Tryd.prog 32 = true := by kernel_rfl
theorem call_33 : callOk Tryd.prog 33 = true := by kernel_rfl
theorem call_6 : callOk Tryd.prog 6 = true := by kernel_rfl
theorem call_7 : callOk Tryd.prog 7 = true := by kernel_rfl
theorem call_8 : callOk Tryd.prog 8 = true := by kernel_rfl
theorem call_9 : callOk Tryd.prog 9 = true := by kernel_rfl
theorem fa_40_0 : fieldIs Tryd.prog 40 0 0 30 = true := by kernel_rfl
theorem fa_40_1 : fieldIs Tryd.prog 40 1 3 32 = true := by kernel_rfl
theorem fa_54_0 : fieldIs Tryd.prog 54 0 0 3 = true := by kernel_rfl
theorem fa_54_1 : fieldIs Tryd.prog 54 1 1 50 = true := by kernel_rfl
theorem fa_54_2 : fieldIs Tryd.prog 54 2 2 51 = true := by kernel_rfl
theorem fa_54_3 : fieldIs Tryd.prog 54 3 3 52 = true := by kernel_rfl
theorem fa_70_0 : fieldIs Tryd.prog 70 0 0 9 = true := by kernel_rfl
theorem fa_70_1 : fieldIs Tryd.prog 70 1 1 3 = true := by kernel_rfl
theorem fa_70_2 : fieldIs Tryd.prog 70 2 2 4 = true := by kernel_rfl
theorem fa_76_0 : fieldIs Tryd.prog 76 0 0 3 = true := by kernel_rfl
theorem fa_76_1 : fieldIs Tryd.prog 76 1 1 73 = true := by kernel_rfl
theorem fa_76_2 : fieldIs Tryd.prog 76 2 2 74 = true := by kernel_rfl
theorem fa_76_3 : fieldIs Tryd.prog 76 3 3 52 = true := by kernel_rfl
theorem fa_80_0 : fieldIs Tryd.prog 80 0 0 3 = true := by kernel_rfl
theorem fa_80_1 : fieldIs Tryd.prog 80 1 1 77 = true := by kernel_rfl
theorem fa_80_2 : fieldIs Tryd.prog 80 2 2 78 = true := by kernel_rfl
theorem fa_80_3 : fieldIs Tryd.prog 80 3 3 52 = true := by kernel_rfl
theorem fa_82_0 : fieldIs Tryd.prog 82 0 0 30 = true := by kernel_rfl
theorem fa_82_1 : fieldIs Tryd.prog 82 1 3 32 = true := by kernel_rfl
theorem fa_82_2 : fieldIs Tryd.prog 82 2 35 3 = true := by kernel_rfl
theorem fa_82_3 : fieldIs Tryd.prog 82 3 36 3 = true := by kernel_rfl
theorem fa_85_0 : fieldIs Tryd.prog 85 0 0 32 = true := by kernel_rfl
theorem fa_85_1 : fieldIs Tryd.prog 85 1 32 36 = true := by kernel_rfl
theorem fa_85_2 : fieldIs Tryd.prog 85 2 33 3 = true := by kernel_rfl
theorem fa_85_3 : fieldIs Tryd.prog 85 3 34 3 = true := by kernel_rfl
theorem fa_87_0 : fieldIs Tryd.prog 87 0 0 9 = true := by kernel_rfl
theorem fa_87_1 : fieldIs Tryd.prog 87 1 1 3 = true := by kernel_rfl
theorem fa_87_2 : fieldIs Tryd.prog 87 2 2 3 = true := by kernel_rfl
theorem fa_87_3 : fieldIs Tryd.prog 87 3 3 3 = true := by kernel_rfl
theorem ldv_3 : ldv Tryd.prog 3 1 = true := by kernel_rfl
theorem ldv_30 : ldv Tryd.prog 30 3 = true := by kernel_rfl
theorem ldv_32 : ldv Tryd.prog 32 32 = true := by kernel_rfl
theorem ldv_36 : ldv Tryd.prog 36 1 = true := by kernel_rfl
theorem ldv_9 : ldv Tryd.prog 9 1 = true := by kernel_rfl
theorem na_25 : notAgg Tryd.prog 25 = true := by kernel_rfl
theorem na_3 : notAgg Tryd.prog 3 = true := by kernel_rfl
theorem na_36 : notAgg Tryd.prog 36 = true := by kernel_rfl
theorem na_4 : notAgg Tryd.prog 4 = true := by kernel_rfl
theorem na_49 : notAgg Tryd.prog 49 = true := by kernel_rfl
theorem na_50 : notAgg Tryd.prog 50 = true := by kernel_rfl
theorem na_51 : notAgg Tryd.prog 51 = true := by kernel_rfl
theorem na_52 : notAgg Tryd.prog 52 = true := by kernel_rfl
theorem na_73 : notAgg Tryd.prog 73 = true := by kernel_rfl
theorem na_74 : notAgg Tryd.prog 74 = true := by kernel_rfl
theorem na_77 : notAgg Tryd.prog 77 = true := by kernel_rfl
theorem na_78 : notAgg Tryd.prog 78 = true := by kernel_rfl
theorem na_9 : notAgg Tryd.prog 9 = true := by kernel_rfl
theorem na_90 : notAgg Tryd.prog 90 = true := by kernel_rfl
theorem ni_92 : (match Tryd.prog.underlying 92 with | some (.interface _) => false | some _ => true | none => false) = true := by kernel_rfl
theorem pl_40 : placesOf Tryd.prog 40 = some [(0, 3), (3, 32)] := by kernel_rfl
theorem pl_54 : placesOf Tryd.prog 54 = some [(0, 1), (1, 1), (2, 1), (3, 1)] := by kernel_rfl
theorem pl_76 : placesOf Tryd.prog 76 = some [(0, 1), (1, 1), (2, 1), (3, 1)] := by kernel_rfl
theorem pl_80 : placesOf Tryd.prog 80 = some [(0, 1), (1, 1), (2, 1), (3, 1)] := by kernel_rfl
theorem pl_82 : placesOf Tryd.prog 82 = some [(0, 3), (3, 32), (35, 1), (36, 1)] := by kernel_rfl
theorem pl_85 : placesOf Tryd.prog 85 = some [(0, 32), (32, 1), (33, 1), (34, 1)] := by kernel_rfl
theorem pl_87 : placesOf Tryd.prog 87 = some [(0, 1), (1, 1), (2, 1), (3, 1)] := by kernel_rfl
theorem sl_22 : sliceOf Tryd.prog 22 40 35 = true := by kernel_rfl
theorem sl_38 : sliceOf Tryd.prog 38 36 1 = true := by kernel_rfl
theorem sl_51 : sliceOf Tryd.prog 51 87 4 = true := by kernel_rfl
theorem sl_52 : sliceOf Tryd.prog 52 3 1 = true := by kernel_rfl
theorem sl_62 : sliceOf Tryd.prog 62 9 1 = true := by kernel_rfl
theorem sl_65 : sliceOf Tryd.prog 65 70 3 = true := by kernel_rfl
theorem sl_74 : sliceOf Tryd.prog 74 82 37 = true := by kernel_rfl
theorem sl_78 : sliceOf Tryd.prog 78 85 35 = true := by kernel_rfl
theorem sz_3 : sizeIs Tryd.prog 3 1 = true := by kernel_rfl
theorem sz_30 : sizeIs Tryd.prog 30 3 = true := by kernel_rfl
theorem sz_32 : sizeIs Tryd.prog 32 32 = true := by kernel_rfl
theorem sz_36 : sizeIs Tryd.prog 36 1 = true := by kernel_rfl
theorem sz_40 : sizeIs Tryd.prog 40 35 = true := by kernel_rfl
theorem sz_51 : sizeIs Tryd.prog 51 1 = true := by kernel_rfl
theorem sz_52 : sizeIs Tryd.prog 52 1 = true := by kernel_rfl
theorem sz_55 : sizeIs Tryd.prog 55 2 = true := by kernel_rfl
theorem sz_74 : sizeIs Tryd.prog 74 1 = true := by kernel_rfl
theorem sz_78 : sizeIs Tryd.prog 78 1 = true := by kernel_rfl
theorem sz_82 : sizeIs Tryd.prog 82 37 = true := by kernel_rfl
theorem sz_85 : sizeIs Tryd.prog 85 35 = true := by kernel_rfl
theorem sz_87 : sizeIs Tryd.prog 87 4 = true := by kernel_rfl
theorem sz_9 : sizeIs Tryd.prog 9 1 = true := by kernel_rfl
theorem sz_95 : sizeIs Tryd.prog 95 16 = true := by kernel_rfl
theorem zr_3 : zeroIs Tryd.prog 3 [.int .i64 0] := by exact zeroIs_mk (by kernel_rfl)
theorem zr_30 : zeroIs Tryd.prog 30 [.int .u8 0, .int .u64 0, .int .i64 0] := by exact zeroIs_mk (by kernel_rfl)
theorem zr_32 : zeroIs Tryd.prog 32 [.int .u8 0, .int .u8 0, .int .u8 0, .int .u8 0, .int .u8 0, .int .u8 0, .int .u8 0, .int .u8 0, .int .u8 0, .int .u8 0, .int .u8 0, .int .u8 0, .int .u8 0, .int .u8 0, .int .u8 0, .int .u8 0, .int .u8 0, .int .u8 0, .int .u8 0, .int .u8 0, .int .u8 0, .int .u8 0, .int .u8 0, .int .u8 0, .int .u8 0, .int .u8 0, .int .u8 0, .int .u8 0, .int .u8 0, .int .u8 0, .int .u8 0, .int .u8 0] := by exact zeroIs_mk (by kernel_rfl)
theorem zr_36 : zeroIs Tryd.prog 36 [.pointer none] := by exact zeroIs_mk (by kernel_rfl)
theorem zr_40 : zeroIs Tryd.prog 40 [.int .u8 0, .int .u64 0, .int .i64 0, .int .u8 0, .int .u8 0, .int .u8 0, .int .u8 0, .int .u8 0, .int .u8 0, .int .u8 0, .int .u8 0, .int .u8 0, .int .u8 0, .int .u8 0, .int .u8 0, .int .u8 0, .int .u8 0, .int .u8 0, .int .u8 0, .int .u8 0, .int .u8 0, .int .u8 0, .int .u8 0, .int .u8 0, .int .u8 0, .int .u8 0, .int .u8 0, .int .u8 0, .int .u8 0, .int .u8 0, .int .u8 0, .int .u8 0, .int .u8 0, .int .u8 0, .int .u8 0] := by exact zeroIs_mk (by kernel_rfl)
theorem zr_54 : zeroIs Tryd.prog 54 [.int .i64 0, .map none, .slice none 0 0, .slice none 0 0] := by exact zeroIs_mk (by kernel_rfl)
theorem zr_55 : zeroIs Tryd.prog 55 [.pointer none, .pointer none] := by exact zeroIs_mk (by kernel_rfl)
theorem zr_76 : zeroIs Tryd.prog 76 [.int .i64 0, .map none, .slice none 0 0, .slice none 0 0] := by exact zeroIs_mk (by kernel_rfl)
theorem zr_80 : zeroIs Tryd.prog 80 [.int .i64 0, .map none, .slice none 0 0, .slice none 0 0] := by exact zeroIs_mk (by kernel_rfl)
theorem zr_82 : zeroIs Tryd.prog 82 [.int .u8 0, .int .u64 0, .int .i64 0, .int .u8 0, .int .u8 0, .int .u8 0, .int .u8 0, .int .u8 0, .int .u8 0, .int .u8 0, .int .u8 0, .int .u8 0, .int .u8 0, .int .u8 0, .int .u8 0, .int .u8 0, .int .u8 0, .int .u8 0, .int .u8 0, .int .u8 0, .int .u8 0, .int .u8 0, .int .u8 0, .int .u8 0, .int .u8 0, .int .u8 0, .int .u8 0, .int .u8 0, .int .u8 0, .int .u8 0, .int .u8 0, .int .u8 0, .int .u8 0, .int .u8 0, .int .u8 0, .int .i64 0, .int .i64 0] := by exact zeroIs_mk (by kernel_rfl)
theorem zr_85 : zeroIs Tryd.prog 85 [.int .u8 0, .int .u8 0, .int .u8 0, .int .u8 0, .int .u8 0, .int .u8 0, .int .u8 0, .int .u8 0, .int .u8 0, .int .u8 0, .int .u8 0, .int .u8 0, .int .u8 0, .int .u8 0, .int .u8 0, .int .u8 0, .int .u8 0, .int .u8 0, .int .u8 0, .int .u8 0, .int .u8 0, .int .u8 0, .int .u8 0, .int .u8 0, .int .u8 0, .int .u8 0, .int .u8 0, .int .u8 0, .int .u8 0, .int .u8 0, .int .u8 0, .int .u8 0, .pointer none, .int .i64 0, .int .i64 0] := by exact zeroIs_mk (by kernel_rfl)
theorem zr_87 : zeroIs Tryd.prog 87 [.string ⟨#[]⟩, .int .i64 0, .int .i64 0, .int .i64 0] := by exact zeroIs_mk (by kernel_rfl)
theorem zr_9 : zeroIs Tryd.prog 9 [.string ⟨#[]⟩] := by exact zeroIs_mk (by kernel_rfl)
theorem zr_90 : zeroIs Tryd.prog 90 [.pointer none] := by exact zeroIs_mk (by kernel_rfl)
theorem zr_95 : zeroIs Tryd.prog 95 [.nilIface, .nilIface, .nilIface, .nilIface, .nilIface, .nilIface, .nilIface, .nilIface, .nilIface, .nilIface, .nilIface, .nilIface, .nilIface, .nilIface, .nilIface, .nilIface] := by exact zeroIs_mk (by kernel_rfl)
theorem zv_3 : (Tryd.prog.info? 3).bind (·.zero) = some (.int .i64 0) := by kernel_rfl
end Go.Proofs.YtpakklmkajjodaaDoor
