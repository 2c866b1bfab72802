/- sha: what a digest keeps, after whole blocks are taken in. -/
import Derived.Test.YtigjnfmbellpjaaDoorSHA6
set_option maxRecDepth 100000
namespace Go.Proofs.YtigjnfmbellpjaaDoor.Sha
open Go Go.EL
theorem absorbN_rest (K : Nat → Int) : ∀ (n : Nat) (hs l : List Int), (absorbN K n hs l).2 = l.drop (64 * n)
  | 0, _, _ => rfl
  | n + 1, hs, l => by
    rw [absorbN, absorbN_rest K n, List.drop_drop]
    congr 1
    omega
theorem absorb_rest (K : Nat → Int) (hs l : List Int) : (absorb K hs l).2.length < 64 := by
  rw [absorb, absorbN_rest, List.length_drop]
  omega
theorem absorbN_len (K : Nat → Int) : ∀ (n : Nat) (hs l : List Int), hs.length = 8 → (absorbN K n hs l).1.length = 8
  | 0, _, _, h => h
  | n + 1, hs, l, _ => by
    rw [absorbN]
    exact absorbN_len K n _ _ (blockF_len K _ _)
theorem absorb_len (K : Nat → Int) (hs l : List Int) (h : hs.length = 8) : (absorb K hs l).1.length = 8 := absorbN_len K _ _ _ h
end Go.Proofs.YtigjnfmbellpjaaDoor.Sha
