/- New, walked (items of 1 and 1 cells). -/
import Derived.Test.YtpakklmkajjodaaDoorCW1S
set_option maxRecDepth 100000
namespace Go.Proofs.YtpakklmkajjodaaDoor.CSI
open Go Go.EL Go.EL.Cache
section
variable {w0 : World}
theorem newBad_tri (n : Int) (err : Value) (hg : w0.cell? ⟨0, 0, none⟩ = some err) (h : n < 0 ∨ 1024 < n) :
    Tri Tryd.prog w0 18 #[.int .i64 n] [] (fun v S' => v = .tuple #[.pointer none, err] ∧ S' = []) := by
  refine Tri.mk Tryd.func18 rfl rfl rfl ?_
  refine WP.sregion ?_
  refine RX.pure (.none rfl) rfl rfl (p_assign rfl) ?_
  refine RX.pure (.none rfl) rfl rfl (p_assign rfl) ?_
  refine RX.nil ?_
  refine WP.seq (WP.sregion ?_)
  by_cases h1 : n < 0
  · refine RX.pure (.none rfl) rfl rfl (p_move rfl) ?_
    refine RX.pure (.none rfl) rfl rfl (p_lss rfl rfl) ?_
    refine RX.pure (.none rfl) rfl rfl (p_move rfl) ?_
    refine RX.say (t := 6) rfl (.bool true) (by rw [decide_eq_true h1]) ?_
    (first | refine RX.skip (.no rfl rfl rfl rfl) rfl rfl ?_ | refine RX.pure (.yes rfl rfl rfl) rfl rfl (p_move rfl) ?_)
    (first | refine RX.skip (.no rfl rfl rfl rfl) rfl rfl ?_ | refine RX.pure (.yes rfl rfl rfl) rfl rfl (p_gtr rfl rfl) ?_)
    (first | refine RX.pure (.none rfl) rfl rfl (p_pickT rfl rfl) ?_ | refine RX.pure (.none rfl) rfl rfl (p_pickF rfl rfl) ?_)
    refine RX.nil ?_
    refine WP.condT rfl ?_
    refine WP.sdraw mixed (by kernel_rfl) ?_
    refine RX.read (.none rfl) rfl rfl rfl (r_load rfl na_25 (Rd.old hg)) ?_
    refine RX.pure (.none rfl) rfl rfl (p_assign rfl) ?_
    refine RX.pure (.none rfl) rfl rfl (p_assign rfl) ?_
    refine RX.nil ?_
    refine WP.ret ?_
    repeat (first | refine sq_ret ?_ | refine bk_ret ?_ | refine lq_ret ?_ | refine cq_ret ?_)
    exact fin2 rfl rfl rfl rfl ⟨rfl, rfl⟩
  · have h2 : 1024 < n := by omega
    refine RX.pure (.none rfl) rfl rfl (p_move rfl) ?_
    refine RX.pure (.none rfl) rfl rfl (p_lss rfl rfl) ?_
    refine RX.pure (.none rfl) rfl rfl (p_move rfl) ?_
    refine RX.say (t := 6) rfl (.bool false) (by rw [decide_eq_false h1]) ?_
    (first | refine RX.skip (.no rfl rfl rfl rfl) rfl rfl ?_ | refine RX.pure (.yes rfl rfl rfl) rfl rfl (p_move rfl) ?_)
    (first | refine RX.skip (.no rfl rfl rfl rfl) rfl rfl ?_ | (refine RX.pure (.yes rfl rfl rfl) rfl rfl (p_gtr rfl rfl) ?_; refine RX.say (t := 8) rfl (.bool true) (by rw [decide_eq_true h2]) ?_))
    (first | refine RX.pure (.none rfl) rfl rfl (p_pickT rfl rfl) ?_ | refine RX.pure (.none rfl) rfl rfl (p_pickF rfl rfl) ?_)
    refine RX.nil ?_
    refine WP.condT rfl ?_
    refine WP.sdraw mixed (by kernel_rfl) ?_
    refine RX.read (.none rfl) rfl rfl rfl (r_load rfl na_25 (Rd.old hg)) ?_
    refine RX.pure (.none rfl) rfl rfl (p_assign rfl) ?_
    refine RX.pure (.none rfl) rfl rfl (p_assign rfl) ?_
    refine RX.nil ?_
    refine WP.ret ?_
    repeat (first | refine sq_ret ?_ | refine bk_ret ?_ | refine lq_ret ?_ | refine cq_ret ?_)
    exact fin2 rfl rfl rfl rfl ⟨rfl, rfl⟩
theorem new_tri (n : Int) (h1 : ¬ n < 0) (h2 : ¬ 1024 < n) :
    Tri Tryd.prog w0 18 #[.int .i64 n] [] (fun v S' => ∃ c l m, v = .tuple #[.pointer (some ⟨c, 0, none⟩), .nilIface] ∧ S' = [[(m, .map ⟨[]⟩ 0)], [(l, li [zeroIt] [])], [(c, cc n m l 1 1 (.slice none 0 0))]]) := by
  refine Tri.mk Tryd.func18 rfl rfl rfl ?_
  refine WP.sregion ?_
  refine RX.pure (.none rfl) rfl rfl (p_assign rfl) ?_
  refine RX.pure (.none rfl) rfl rfl (p_assign rfl) ?_
  refine RX.nil ?_
  refine WP.seq (WP.sregion ?_)
  refine RX.pure (.none rfl) rfl rfl (p_move rfl) ?_
  refine RX.pure (.none rfl) rfl rfl (p_lss rfl rfl) ?_
  refine RX.pure (.none rfl) rfl rfl (p_move rfl) ?_
  refine RX.say (t := 6) rfl (.bool false) (by rw [decide_eq_false h1]) ?_
  (first | refine RX.skip (.no rfl rfl rfl rfl) rfl rfl ?_ | refine RX.pure (.yes rfl rfl rfl) rfl rfl (p_move rfl) ?_)
  (first | refine RX.skip (.no rfl rfl rfl rfl) rfl rfl ?_ | (refine RX.pure (.yes rfl rfl rfl) rfl rfl (p_gtr rfl rfl) ?_; refine RX.say (t := 8) rfl (.bool false) (by rw [decide_eq_false h2]) ?_))
  (first | refine RX.pure (.none rfl) rfl rfl (p_pickT rfl rfl) ?_ | refine RX.pure (.none rfl) rfl rfl (p_pickF rfl rfl) ?_)
  refine RX.nil ?_
  refine WP.condF rfl (WP.skip ?_)
  refine WP.sregion ?_
  refine RX.pure (.none rfl) rfl rfl (p_move rfl) ?_
  refine RX.eff (.none rfl) rfl rfl rfl (e_makeMap) ?_
  rintro _ _ ⟨n12, rfl, rfl⟩
  refine RX.eff (.none rfl) rfl rfl rfl (e_makeSlice rfl rfl sl_51 zr_87 rfl (by decide) by_87 (by decide) (by decide) (by decide) (by decide)) ?_
  rintro _ _ ⟨l, rfl, rfl⟩
  refine RX.pure (.none rfl) rfl rfl (p_buildS zr_54 pl_54 rfl rfl) ?_
  refine RX.eff (.none rfl) rfl rfl rfl (e_box rfl rfl) ?_
  rintro _ _ ⟨n15, rfl, rfl⟩
  refine RX.pure (.none rfl) rfl rfl (p_assign rfl) ?_
  refine RX.pure (.none rfl) rfl rfl (p_assign rfl) ?_
  refine RX.nil ?_
  refine WP.ret ?_
  repeat (first | refine sq_ret ?_ | refine bk_ret ?_ | refine lq_ret ?_ | refine cq_ret ?_)
  exact fin2 rfl rfl rfl rfl ⟨_, l, _, rfl, rfl⟩
end
end Go.Proofs.YtpakklmkajjodaaDoor.CSI
