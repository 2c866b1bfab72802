/- sha: a word turned. -/
import Derived.Test.YtigjnfmbellpjaaDoorEL17
import Derived.Test.YtigjnfmbellpjaaDoorFacts
import Derived.WalkKit
set_option maxRecDepth 100000
namespace Go.Proofs.YtigjnfmbellpjaaDoor.Sha
open Go Go.EL Go.RowKit
/-- a word, turned right -/
def turnF (x n : Int) : Int := bOr .u32 (bShr .u32 x n) (bShl .u32 x (32 - n))
theorem turn_q (x n : Int) (h0 : 0 ≤ n) (h1 : n ≤ 32) : Quiet Tryd.prog 82 #[.int .u32 x, .int .i64 n] (.int .u32 (turnF x n)) := by
  refine Quiet.mk Tryd.func82 rfl rfl rfl rfl ?_
  refine QWP.sregion ?_
  refine QX.pure (.none rfl) rfl rfl (p_assign rfl) ?_
  refine QX.nil ?_
  refine QWP.sdraw mixed (by kernel_rfl) ?_
  refine QX.pure (.none rfl) rfl rfl (p_move rfl) ?_
  refine QX.pure (.none rfl) rfl rfl (p_move rfl) ?_
  refine QX.pure (.none rfl) rfl rfl (p_shr rfl rfl h0 rfl) ?_
  refine QX.pure (.none rfl) rfl rfl (p_move rfl) ?_
  refine QX.pure (.none rfl) rfl rfl (p_move rfl) ?_
  refine QX.pure (.none rfl) rfl rfl (p_sub rfl rfl (wr_i64 (by omega) (by omega))) ?_
  refine QX.pure (.none rfl) rfl rfl (p_shl rfl rfl (by omega) rfl) ?_
  refine QX.pure (.none rfl) rfl rfl (p_or rfl rfl rfl) ?_
  refine QX.pure (.none rfl) rfl rfl (p_assign rfl) ?_
  refine QX.nil ?_
  refine QWP.ret ?_
  exact ⟨trivial, rfl⟩
end Go.Proofs.YtigjnfmbellpjaaDoor.Sha
