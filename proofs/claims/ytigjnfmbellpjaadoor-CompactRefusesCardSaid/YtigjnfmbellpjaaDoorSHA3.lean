/- sha: a digest, as its callers see it; New; what Write does, in plain Lean. -/
import Derived.Test.YtigjnfmbellpjaaDoorSHA2
import Derived.Test.YtigjnfmbellpjaaDoorEL17
set_option maxRecDepth 100000
namespace Go.Proofs.YtigjnfmbellpjaaDoor.Sha
open Go Go.EL
/-- whole blocks are taken in -/
def absorbN (K : Nat → Int) : Nat → List Int → List Int → List Int × List Int
  | 0, hs, l => (hs, l)
  | n + 1, hs, l => absorbN K n (blockF K hs (l.take 64)) (l.drop 64)
def absorb (K : Nat → Int) (hs l : List Int) : List Int × List Int := absorbN K (l.length / 64) hs l
theorem absorb_done (K : Nat → Int) (hs l : List Int) (h : l.length < 64) : absorb K hs l = (hs, l) := by
  simp [absorb, Nat.div_eq_of_lt h, absorbN]
theorem absorb_step (K : Nat → Int) (hs l : List Int) (h : 64 ≤ l.length) : absorb K hs l = absorb K (blockF K hs (l.take 64)) (l.drop 64) := by
  have e : l.length / 64 = (l.drop 64).length / 64 + 1 := by
    rw [List.length_drop]
    omega
  simp only [absorb]
  rw [e]
  rfl
theorem blockF_len (K : Nat → Int) (hs bs : List Int) : (blockF K hs bs).length = 8 := by simp [blockF, mixed8]
/-- a digest: its words, what is no whole block yet, how many bytes -/
def DAt (hs rest : List Int) (n : Int) (d : Nat) (H : Hp) : Prop :=
  ∃ h vr Hr, H = (d, row [.pointer (some ⟨h, 0, none⟩), vr, .int .u64 n] 149) :: (h, row (hs.map u32) 147) :: Hr ∧ Vec 5 1 (fun x => [u8 x]) rest vr Hr ∧ hs.length = 8
/-- the words that a digest begins with -/
def begin8 : List Int := [1779033703, 3144134277, 1013904242, 2773480762, 1359893119, 2600822924, 528734635, 1541459225]
section
variable {w0 : World}
theorem new_tri : Tri Tryd.prog w0 66 #[] [] (fun v S' => ∃ d H, v = .pointer (some ⟨d, 0, none⟩) ∧ S' = [H] ∧ DAt begin8 [] 0 d H) := by
  refine Tri.mk Tryd.func66 rfl rfl rfl ?_
  refine WP.sregion ?_
  refine RX.pure (.none rfl) rfl rfl (p_assign rfl) ?_
  refine RX.nil ?_
  refine WP.sregion ?_
  refine RX.pure (.none rfl) rfl rfl (p_buildA (cs := begin8.map u32) zr_147 ar_147 rfl (by rfl)) ?_
  refine RX.eff (.none rfl) rfl rfl rfl (e_box (cs := begin8.map u32) rfl rfl) ?_
  rintro _ _ ⟨n2, rfl, rfl⟩
  refine RX.pure (.none rfl) rfl rfl (p_buildS zr_149 pl_149 rfl rfl) ?_
  refine RX.eff (.none rfl) rfl rfl rfl (e_box rfl rfl) ?_
  rintro _ _ ⟨n4, rfl, rfl⟩
  refine RX.pure (.none rfl) rfl rfl (p_assign rfl) ?_
  refine RX.nil ?_
  refine WP.perm (T := [[(n4, row [.pointer (some ⟨n2, 0, none⟩), .slice none 0 0, .int .u64 0] 149), (n2, row (begin8.map u32) 147)]]) ?_ ?_
  · exact List.Perm.swap _ _ _
  refine WP.ret ?_
  repeat (first | refine sq_ret ?_ | refine bk_ret ?_ | refine lq_ret ?_ | refine cq_ret ?_)
  exact fin1 rfl rfl rfl ⟨_, _, rfl, rfl, n2, _, [], rfl, Vec.nil _ _ _, rfl⟩
end
end Go.Proofs.YtigjnfmbellpjaaDoor.Sha
