/- sha: what a digest keeps, after whole blocks are taken in. -/
import Derived.Test.YtigjnfmbellpjaaDoorSHA6
set_option maxRecDepth 100000
namespace Go.Proofs.YtigjnfmbellpjaaDoor.Sha
open Go Go.EL
theorem absorbN_rest (K : Nat → Int) : ∀ (n : Nat) (hs l : List Int), (absorbN K n hs l).2 = l.drop (64 * n)
  | 0, _, _ => rfl
  | n + 1, hs, l => by
    rw [absorbN, absorbN_rest K n, List.drop_drop]
    congr 1
    omega
theorem absorb_rest (K : Nat → Int) (hs l : List Int) : (absorb K hs l).2.length < 64 := by
  rw [absorb, absorbN_rest, List.length_drop]
  omega
theorem absorbN_len (K : Nat → Int) : ∀ (n : Nat) (hs l : List Int), hs.length = 8 → (absorbN K n hs l).1.length = 8
  | 0, _, _, h => h
  | n + 1, hs, l, _ => by
    rw [absorbN]
    exact absorbN_len K n _ _ (blockF_len K _ _)
theorem absorb_len (K : Nat → Int) (hs l : List Int) (h : hs.length = 8) : (absorb K hs l).1.length = 8 := absorbN_len K _ _ _ h
end Go.Proofs.YtigjnfmbellpjaaDoor.Sha

/- Plain: what is taken in, in two goes. -/
set_option maxRecDepth 100000
namespace Go.Proofs.YtigjnfmbellpjaaDoor.Sha
open Go Go.EL
theorem absorb_app (K : Nat → Int) (b : List Int) : ∀ (n : Nat) (hs a : List Int), a.length = n → absorb K hs (a ++ b) = absorb K (absorb K hs a).1 ((absorb K hs a).2 ++ b) := by
  intro n
  induction n using Nat.strongRecOn with
  | _ n ih =>
    intro hs a hn
    by_cases h : a.length < 64
    · rw [absorb_done K hs a h]
    · have h' : 64 ≤ a.length := by omega
      rw [absorb_step K hs a h', absorb_step K hs (a ++ b) (by simp; omega), List.take_append_of_le_length h', List.drop_append_of_le_length h']
      exact ih (a.length - 64) (by omega) _ _ (by simp)
theorem wrap64_add (a b : Int) : IntKind.wrap .u64 (IntKind.wrap .u64 a + b) = IntKind.wrap .u64 (a + b) := by
  simp only [IntKind.wrap, IntKind.signed, IntKind.bits]
  simp
/-- SHA-256 of a row of bytes -/
def shaF (K : Nat → Int) (bs : List Int) : List Int := sumF K (absorb K begin8 bs).1 (absorb K begin8 bs).2 (IntKind.wrap .u64 bs.length)
theorem shaF_len (K : Nat → Int) (bs : List Int) : (shaF K bs).length = 32 := by simp [shaF, sumF, outB_len]
end Go.Proofs.YtigjnfmbellpjaaDoor.Sha
