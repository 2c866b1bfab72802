/- What the laws on hashes are given: the tables that are laid; lists of hashes. -/
import Derived.Test.YtigjnfmbellpjaaDoorCMP1
import Derived.Test.YtigjnfmbellpjaaDoorEL26
import Derived.Test.YtigjnfmbellpjaaDoorRows
set_option maxRecDepth 100000
namespace Go.Proofs.YtigjnfmbellpjaaDoor.Law
open Go Go.EL Go.ChangeShapes Go.WideShapes Cmp Sha Coo
/-- the numbers of a table -/
def numsOf : DataW Unit → List Int
  | .agg l => l.map fun | .lit (.int _ n) => n | _ => 0
  | _ => []
/-- the table of sha, as it is laid -/
def shaNums : List Int := numsOf Rows.laid_cartulary_sha_table
def shaK (t : Nat) : Int := shaNums.getD t 0
theorem sha_laid : (Rows.laid_cartulary_sha_table : DataW Unit) = .agg (shaNums.map fun k => .lit (.int .u32 k)) := rfl
theorem de_laid : (Rows.laid_math_bits_deBruijn64tab : DataW Unit) = .agg ((deTab.map fun (n : Nat) => (n : Int)).map fun k => .lit (.int .u8 k)) := rfl
theorem tab_sha {r : List (String × DataW Unit)} {W : World} (h : laidMet Tryd.prog (("cartulary/sha.table", Rows.laid_cartulary_sha_table) :: r) W) : Tab W shaK := by
  rw [sha_laid] at h
  exact tab_of h (by kernel_rfl) (by kernel_rfl) Tryd.underlying165 (by kernel_rfl) Tryd.underlying146 (by kernel_rfl)
theorem tab_de {r : List (String × DataW Unit)} {W : World} (h : laidMet Tryd.prog (("math/bits.deBruijn64tab", Rows.laid_math_bits_deBruijn64tab) :: r) W) : DeB W := by
  rw [de_laid] at h
  intro t ht
  have := tab_of (g := 5) h (by kernel_rfl) (by kernel_rfl) Tryd.underlying137 (by kernel_rfl) Tryd.underlying5 (by kernel_rfl) t ht
  rw [this]
  have hl : t < deTab.length := ht
  simp [List.getD, hl]
/-- a list of hashes that was handed -/
theorem open_hashes {H : Type} {enc : TypeId × Value → H} {W : World} {b0 : Nat} {v : Value} {d : DataW H} {ps : List MemPlace} {r : Reach} {sp : Nat → Bool} {held : Bool} (hval : Value.okWide Tryd.prog W r b0 24 v) (hd : DataW.Trod enc Tryd.prog W 0 sp held 24 v d ps) :
    ∃ hs : List H32, Held W [] hC hs v := by
  obtain ⟨ys, hH, hu, hy⟩ := open_held (k := 32) Tryd.underlying24 (by kernel_rfl) hval hd
  obtain ⟨hs, hhs⟩ := choose_map (f := hC) (ys := ys) fun y hm => by
    obtain ⟨n, x, hx⟩ := hy y hm
    obtain ⟨ns, h1, h2, h3, _⟩ := ints_of_trod Tryd.underlying32 (by kernel_rfl) Tryd.underlying5 (by kernel_rfl) hx
    refine ⟨⟨ns, h2, fun k hk => ?_⟩, h1⟩
    have := h3 k hk
    simp [Lit.wf, IntKind.min, IntKind.max, IntKind.signed, IntKind.bits] at this
    omega
  exact ⟨hs, hH.conv (by rw [hhs]; simp)⟩
end Go.Proofs.YtigjnfmbellpjaaDoor.Law
