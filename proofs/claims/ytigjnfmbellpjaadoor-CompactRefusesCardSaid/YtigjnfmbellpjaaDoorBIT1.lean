/- math/bits.Len64, as its callers see it. -/
import Derived.Test.YtigjnfmbellpjaaDoorBIT0
import Derived.Test.YtigjnfmbellpjaaDoorCPT1
import Derived.Test.YtigjnfmbellpjaaDoorEL14
namespace Go.Proofs.YtigjnfmbellpjaaDoor.Bit
open Go Go.EL
/-- of a number that is not 0 -/
theorem len64_q (n : Nat) (h0 : 0 < n) (h : n < 2 ^ 64) : Quiet Tryd.prog 50 #[.int .u64 (n : Nat)] (.int .i64 ((n.log2 + 1 : Nat) : Int)) := fun w =>
  (len64_calls n w (by omega) (by omega)).mono fun e w' ⟨he, hw⟩ => ⟨by rw [he, Int.toNat_natCast, Cpt.bitLen_log h0 h], w.drawn, by subst hw; rfl⟩
end Go.Proofs.YtigjnfmbellpjaaDoor.Bit
