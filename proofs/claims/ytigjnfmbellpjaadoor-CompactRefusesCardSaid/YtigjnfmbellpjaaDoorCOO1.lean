/- coord: may, Parent, Span, of trees that may be. -/
import Derived.Test.YtigjnfmbellpjaaDoorEL21
import Derived.Test.YtigjnfmbellpjaaDoorFacts
set_option maxRecDepth 100000
namespace Go.Proofs.YtigjnfmbellpjaaDoor.Coo
open Go Go.EL
abbrev cu8 (x : Nat) : Value := .int .u8 (x : Nat)
abbrev cu64 (x : Nat) : Value := .int .u64 (x : Nat)
abbrev cAgg (lv ix : Nat) : Value := .agg ⟨[cu8 lv, cu64 ix]⟩
abbrev sAgg (b e : Nat) : Value := .agg ⟨[cu64 b, cu64 e]⟩
section
variable {w0 : World}
theorem pow63 (n : Nat) : (2 : Nat) ^ (63 - n) ≤ 9223372036854775808 := Nat.pow_le_pow_right (n := 2) (by decide) (show 63 - n ≤ 63 by omega)
theorem may_tri (lv ix : Nat) (h1 : lv ≤ 63) (h2 : ix < 2 ^ (63 - lv)) : Tri Tryd.prog w0 52 #[cAgg lv ix] [] (fun v S' => v = .bool true ∧ S' = []) := by
  refine Tri.mk Tryd.func52 rfl rfl rfl ?_
  refine WP.sregion ?_
  refine RX.eff (.none rfl) rfl rfl rfl (e_box rfl rfl) ?_
  rintro _ _ ⟨n1, rfl, rfl⟩
  refine RX.pure (.none rfl) rfl rfl (p_assign rfl) ?_
  refine RX.nil ?_
  refine WP.sregion ?_
  refine RX.pure (.none rfl) rfl rfl (p_fieldAddr rfl fa_58_0) ?_
  (first | refine RX.ld 0 (.none rfl) rfl rfl na_5 rfl rfl ?_ | refine RX.ld 1 (.none rfl) rfl rfl na_5 rfl rfl ?_ | refine RX.ld 2 (.none rfl) rfl rfl na_5 rfl rfl ?_ | refine RX.ld 3 (.none rfl) rfl rfl na_5 rfl rfl ?_ | refine RX.ld 4 (.none rfl) rfl rfl na_5 rfl rfl ?_ | refine RX.ld 5 (.none rfl) rfl rfl na_5 rfl rfl ?_)
  refine RX.pure (.none rfl) rfl rfl (p_leq rfl rfl) ?_
  refine RX.say (t := 5) rfl (.bool true) (by rw [decide_eq_true]; omega) ?_
  refine RX.pure (.none rfl) rfl rfl (p_move rfl) ?_
  (first | refine RX.skip (.no rfl rfl rfl rfl) rfl rfl ?_ | refine RX.pure (.yes rfl rfl rfl) rfl rfl (p_fieldAddr rfl fa_58_1) ?_)
  (first | refine RX.skip (.no rfl rfl rfl rfl) rfl rfl ?_ | refine RX.ld 0 (.yes rfl rfl rfl) rfl rfl na_23 rfl rfl ?_ | refine RX.ld 1 (.yes rfl rfl rfl) rfl rfl na_23 rfl rfl ?_ | refine RX.ld 2 (.yes rfl rfl rfl) rfl rfl na_23 rfl rfl ?_ | refine RX.ld 3 (.yes rfl rfl rfl) rfl rfl na_23 rfl rfl ?_ | refine RX.ld 4 (.yes rfl rfl rfl) rfl rfl na_23 rfl rfl ?_ | refine RX.ld 5 (.yes rfl rfl rfl) rfl rfl na_23 rfl rfl ?_)
  (first | refine RX.skip (.no rfl rfl rfl rfl) rfl rfl ?_ | refine RX.pure (.yes rfl rfl rfl) rfl rfl (p_fieldAddr rfl fa_58_0) ?_)
  (first | refine RX.skip (.no rfl rfl rfl rfl) rfl rfl ?_ | refine RX.ld 0 (.yes rfl rfl rfl) rfl rfl na_5 rfl rfl ?_ | refine RX.ld 1 (.yes rfl rfl rfl) rfl rfl na_5 rfl rfl ?_ | refine RX.ld 2 (.yes rfl rfl rfl) rfl rfl na_5 rfl rfl ?_ | refine RX.ld 3 (.yes rfl rfl rfl) rfl rfl na_5 rfl rfl ?_ | refine RX.ld 4 (.yes rfl rfl rfl) rfl rfl na_5 rfl rfl ?_ | refine RX.ld 5 (.yes rfl rfl rfl) rfl rfl na_5 rfl rfl ?_)
  (first | refine RX.skip (.no rfl rfl rfl rfl) rfl rfl ?_ | refine RX.pure (.yes rfl rfl rfl) rfl rfl (p_shr rfl rfl (by omega) (shr63 lv h1)) ?_)
  (first | refine RX.skip (.no rfl rfl rfl rfl) rfl rfl ?_ | (refine RX.pure (.yes rfl rfl rfl) rfl rfl (p_lss rfl rfl) ?_; refine RX.say (t := 12) rfl (.bool true) (by rw [decide_eq_true]; omega) ?_))
  (first | refine RX.pure (.none rfl) rfl rfl (p_pickT rfl rfl) ?_ | refine RX.pure (.none rfl) rfl rfl (p_pickF rfl rfl) ?_)
  refine RX.pure (.none rfl) rfl rfl (p_assign rfl) ?_
  refine RX.nil ?_
  refine WP.ret ?_
  repeat (first | refine sq_ret ?_ | refine bk_ret ?_ | refine lq_ret ?_ | refine cq_ret ?_)
  exact fin1' 0 rfl rfl rfl ⟨rfl, rfl⟩
theorem parent_tri (lv ix : Nat) (h1 : lv < 63) (h2 : ix < 2 ^ (63 - lv)) : Tri Tryd.prog w0 70 #[cAgg lv ix] [] (fun v S' => v = .tuple #[cAgg (lv + 1) (ix / 2), .bool true] ∧ S' = []) := by
  have h3 := pow63 lv
  refine Tri.mk Tryd.func70 rfl rfl rfl ?_
  refine WP.sregion ?_
  refine RX.eff (.none rfl) rfl rfl rfl (e_box rfl rfl) ?_
  rintro _ _ ⟨n1, rfl, rfl⟩
  refine RX.eff (.none rfl) rfl rfl rfl (e_alloc zr_58) ?_
  rintro _ _ ⟨n2, rfl, rfl⟩
  refine RX.pure (.none rfl) rfl rfl (p_assign rfl) ?_
  refine RX.nil ?_
  refine WP.seq (WP.sregion ?_)
  (first | refine RX.lda 0 (.none rfl) rfl rfl ag_58 rfl rfl rfl ?_ | refine RX.lda 1 (.none rfl) rfl rfl ag_58 rfl rfl rfl ?_ | refine RX.lda 2 (.none rfl) rfl rfl ag_58 rfl rfl rfl ?_ | refine RX.lda 3 (.none rfl) rfl rfl ag_58 rfl rfl rfl ?_ | refine RX.lda 4 (.none rfl) rfl rfl ag_58 rfl rfl rfl ?_ | refine RX.lda 5 (.none rfl) rfl rfl ag_58 rfl rfl rfl ?_)
  refine RX.eff (.none rfl) rfl rfl rfl (e_call [] rfl call_52 rfl rfl (may_tri lv ix (by omega) h2)) ?_
  rintro _ _ ⟨_, ⟨rfl, rfl⟩, rfl⟩
  refine RX.pure (.none rfl) rfl rfl (p_not rfl) ?_
  refine RX.pure (.none rfl) rfl rfl (p_move rfl) ?_
  (first | refine RX.skip (.no rfl rfl rfl rfl) rfl rfl ?_ | refine RX.pure (.yes rfl rfl rfl) rfl rfl (p_fieldAddr rfl fa_58_0) ?_)
  (first | refine RX.skip (.no rfl rfl rfl rfl) rfl rfl ?_ | refine RX.ld 0 (.yes rfl rfl rfl) rfl rfl na_5 rfl rfl ?_ | refine RX.ld 1 (.yes rfl rfl rfl) rfl rfl na_5 rfl rfl ?_ | refine RX.ld 2 (.yes rfl rfl rfl) rfl rfl na_5 rfl rfl ?_ | refine RX.ld 3 (.yes rfl rfl rfl) rfl rfl na_5 rfl rfl ?_ | refine RX.ld 4 (.yes rfl rfl rfl) rfl rfl na_5 rfl rfl ?_ | refine RX.ld 5 (.yes rfl rfl rfl) rfl rfl na_5 rfl rfl ?_)
  (first | refine RX.skip (.no rfl rfl rfl rfl) rfl rfl ?_ | (refine RX.pure (.yes rfl rfl rfl) rfl rfl (p_eqInt rfl rfl) ?_; refine RX.say (t := 10) rfl (.bool false) (by rw [decide_eq_false]; omega) ?_))
  (first | refine RX.pure (.none rfl) rfl rfl (p_pickT rfl rfl) ?_ | refine RX.pure (.none rfl) rfl rfl (p_pickF rfl rfl) ?_)
  refine RX.nil ?_
  refine WP.condF rfl (WP.skip ?_)
  refine WP.sregion ?_
  refine RX.pure (.none rfl) rfl rfl (p_fieldAddr rfl fa_58_0) ?_
  (first | refine RX.ld 0 (.none rfl) rfl rfl na_5 rfl rfl ?_ | refine RX.ld 1 (.none rfl) rfl rfl na_5 rfl rfl ?_ | refine RX.ld 2 (.none rfl) rfl rfl na_5 rfl rfl ?_ | refine RX.ld 3 (.none rfl) rfl rfl na_5 rfl rfl ?_ | refine RX.ld 4 (.none rfl) rfl rfl na_5 rfl rfl ?_ | refine RX.ld 5 (.none rfl) rfl rfl na_5 rfl rfl ?_)
  refine RX.pure (.none rfl) rfl rfl (p_add rfl rfl (r := ((lv + 1 : Nat) : Int)) (wr_u8 (by omega) (by omega))) ?_
  refine RX.pure (.none rfl) rfl rfl (p_fieldAddr rfl fa_58_0) ?_
  (first | refine RX.st 0 (.none rfl) rfl rfl sz_5 rfl rfl rfl _ rfl ?_ | refine RX.st 1 (.none rfl) rfl rfl sz_5 rfl rfl rfl _ rfl ?_ | refine RX.st 2 (.none rfl) rfl rfl sz_5 rfl rfl rfl _ rfl ?_ | refine RX.st 3 (.none rfl) rfl rfl sz_5 rfl rfl rfl _ rfl ?_ | refine RX.st 4 (.none rfl) rfl rfl sz_5 rfl rfl rfl _ rfl ?_ | refine RX.st 5 (.none rfl) rfl rfl sz_5 rfl rfl rfl _ rfl ?_)
  refine RX.nil ?_
  refine WP.sregion ?_
  refine RX.pure (.none rfl) rfl rfl (p_fieldAddr rfl fa_58_1) ?_
  (first | refine RX.ld 0 (.none rfl) rfl rfl na_23 rfl rfl ?_ | refine RX.ld 1 (.none rfl) rfl rfl na_23 rfl rfl ?_ | refine RX.ld 2 (.none rfl) rfl rfl na_23 rfl rfl ?_ | refine RX.ld 3 (.none rfl) rfl rfl na_23 rfl rfl ?_ | refine RX.ld 4 (.none rfl) rfl rfl na_23 rfl rfl ?_ | refine RX.ld 5 (.none rfl) rfl rfl na_23 rfl rfl ?_)
  refine RX.pure (.none rfl) rfl rfl (p_shr rfl rfl (by omega) (bShr_nat .u64 ix 1 (by decide))) ?_
  refine RX.pure (.none rfl) rfl rfl (p_fieldAddr rfl fa_58_1) ?_
  (first | refine RX.st 0 (.none rfl) rfl rfl sz_23 rfl rfl rfl _ rfl ?_ | refine RX.st 1 (.none rfl) rfl rfl sz_23 rfl rfl rfl _ rfl ?_ | refine RX.st 2 (.none rfl) rfl rfl sz_23 rfl rfl rfl _ rfl ?_ | refine RX.st 3 (.none rfl) rfl rfl sz_23 rfl rfl rfl _ rfl ?_ | refine RX.st 4 (.none rfl) rfl rfl sz_23 rfl rfl rfl _ rfl ?_ | refine RX.st 5 (.none rfl) rfl rfl sz_23 rfl rfl rfl _ rfl ?_)
  refine RX.nil ?_
  refine WP.sregion ?_
  (first | refine RX.lda 0 (.none rfl) rfl rfl ag_58 rfl rfl rfl ?_ | refine RX.lda 1 (.none rfl) rfl rfl ag_58 rfl rfl rfl ?_ | refine RX.lda 2 (.none rfl) rfl rfl ag_58 rfl rfl rfl ?_ | refine RX.lda 3 (.none rfl) rfl rfl ag_58 rfl rfl rfl ?_ | refine RX.lda 4 (.none rfl) rfl rfl ag_58 rfl rfl rfl ?_ | refine RX.lda 5 (.none rfl) rfl rfl ag_58 rfl rfl rfl ?_)
  (first | refine RX.sta 0 (.none rfl) rfl rfl sz_58 rfl rfl rfl rfl _ rfl ?_ | refine RX.sta 1 (.none rfl) rfl rfl sz_58 rfl rfl rfl rfl _ rfl ?_ | refine RX.sta 2 (.none rfl) rfl rfl sz_58 rfl rfl rfl rfl _ rfl ?_ | refine RX.sta 3 (.none rfl) rfl rfl sz_58 rfl rfl rfl rfl _ rfl ?_ | refine RX.sta 4 (.none rfl) rfl rfl sz_58 rfl rfl rfl rfl _ rfl ?_ | refine RX.sta 5 (.none rfl) rfl rfl sz_58 rfl rfl rfl rfl _ rfl ?_)
  refine RX.pure (.none rfl) rfl rfl (p_assign rfl) ?_
  refine RX.nil ?_
  refine WP.ret ?_
  repeat (first | refine sq_ret ?_ | refine bk_ret ?_ | refine lq_ret ?_ | refine cq_ret ?_)
  exact finC2' (vs := [cu8 (lv + 1), cu64 (ix / 2)]) 0 rfl rfl rfl ldv_58 (RdN.own 1 rfl rfl) rfl rfl ⟨rfl, rfl⟩
theorem parent_top (ix : Nat) (h2 : ix < 1) : Tri Tryd.prog w0 70 #[cAgg 63 ix] [] (fun v S' => v = .tuple #[cAgg 0 0, .bool false] ∧ S' = []) := by
  refine Tri.mk Tryd.func70 rfl rfl rfl ?_
  refine WP.sregion ?_
  refine RX.eff (.none rfl) rfl rfl rfl (e_box rfl rfl) ?_
  rintro _ _ ⟨n1, rfl, rfl⟩
  refine RX.eff (.none rfl) rfl rfl rfl (e_alloc zr_58) ?_
  rintro _ _ ⟨n2, rfl, rfl⟩
  refine RX.pure (.none rfl) rfl rfl (p_assign rfl) ?_
  refine RX.nil ?_
  refine WP.seq (WP.sregion ?_)
  (first | refine RX.lda 0 (.none rfl) rfl rfl ag_58 rfl rfl rfl ?_ | refine RX.lda 1 (.none rfl) rfl rfl ag_58 rfl rfl rfl ?_ | refine RX.lda 2 (.none rfl) rfl rfl ag_58 rfl rfl rfl ?_ | refine RX.lda 3 (.none rfl) rfl rfl ag_58 rfl rfl rfl ?_ | refine RX.lda 4 (.none rfl) rfl rfl ag_58 rfl rfl rfl ?_ | refine RX.lda 5 (.none rfl) rfl rfl ag_58 rfl rfl rfl ?_)
  refine RX.eff (.none rfl) rfl rfl rfl (e_call [] rfl call_52 rfl rfl (may_tri 63 ix (by omega) h2)) ?_
  rintro _ _ ⟨_, ⟨rfl, rfl⟩, rfl⟩
  refine RX.pure (.none rfl) rfl rfl (p_not rfl) ?_
  refine RX.pure (.none rfl) rfl rfl (p_move rfl) ?_
  (first | refine RX.skip (.no rfl rfl rfl rfl) rfl rfl ?_ | refine RX.pure (.yes rfl rfl rfl) rfl rfl (p_fieldAddr rfl fa_58_0) ?_)
  (first | refine RX.skip (.no rfl rfl rfl rfl) rfl rfl ?_ | refine RX.ld 0 (.yes rfl rfl rfl) rfl rfl na_5 rfl rfl ?_ | refine RX.ld 1 (.yes rfl rfl rfl) rfl rfl na_5 rfl rfl ?_ | refine RX.ld 2 (.yes rfl rfl rfl) rfl rfl na_5 rfl rfl ?_ | refine RX.ld 3 (.yes rfl rfl rfl) rfl rfl na_5 rfl rfl ?_ | refine RX.ld 4 (.yes rfl rfl rfl) rfl rfl na_5 rfl rfl ?_ | refine RX.ld 5 (.yes rfl rfl rfl) rfl rfl na_5 rfl rfl ?_)
  (first | refine RX.skip (.no rfl rfl rfl rfl) rfl rfl ?_ | (refine RX.pure (.yes rfl rfl rfl) rfl rfl (p_eqInt rfl rfl) ?_; refine RX.say (t := 10) rfl (.bool true) (by rw [decide_eq_true]; omega) ?_))
  (first | refine RX.pure (.none rfl) rfl rfl (p_pickT rfl rfl) ?_ | refine RX.pure (.none rfl) rfl rfl (p_pickF rfl rfl) ?_)
  refine RX.nil ?_
  refine WP.condT rfl ?_
  refine WP.sregion ?_
  refine RX.pure (.none rfl) rfl rfl (p_buildS zr_58 pl_58 rfl rfl) ?_
  (first | refine RX.sta 0 (.none rfl) rfl rfl sz_58 rfl rfl rfl rfl _ rfl ?_ | refine RX.sta 1 (.none rfl) rfl rfl sz_58 rfl rfl rfl rfl _ rfl ?_ | refine RX.sta 2 (.none rfl) rfl rfl sz_58 rfl rfl rfl rfl _ rfl ?_ | refine RX.sta 3 (.none rfl) rfl rfl sz_58 rfl rfl rfl rfl _ rfl ?_ | refine RX.sta 4 (.none rfl) rfl rfl sz_58 rfl rfl rfl rfl _ rfl ?_ | refine RX.sta 5 (.none rfl) rfl rfl sz_58 rfl rfl rfl rfl _ rfl ?_)
  refine RX.pure (.none rfl) rfl rfl (p_assign rfl) ?_
  refine RX.nil ?_
  refine WP.ret ?_
  repeat (first | refine sq_ret ?_ | refine bk_ret ?_ | refine lq_ret ?_ | refine cq_ret ?_)
  exact finC2' (vs := [cu8 0, cu64 0]) 0 rfl rfl rfl ldv_58 (RdN.own 1 rfl rfl) rfl rfl ⟨rfl, rfl⟩
theorem top_le {lv ix : Nat} (h1 : lv ≤ 63) (h2 : ix < 2 ^ (63 - lv)) : (ix + 1) * 2 ^ lv ≤ 9223372036854775808 := by
  have h3 : (9223372036854775808 : Nat) = 2 ^ (63 - lv) * 2 ^ lv := by
    rw [← Nat.pow_add, show 63 - lv + lv = 63 by omega]
  rw [h3]
  exact Nat.mul_le_mul_right _ h2
theorem span_tri (lv ix : Nat) (h1 : lv ≤ 63) (h2 : ix < 2 ^ (63 - lv)) : Tri Tryd.prog w0 23 #[cAgg lv ix] [] (fun v S' => v = .tuple #[sAgg (ix * 2 ^ lv) ((ix + 1) * 2 ^ lv), .bool true] ∧ S' = []) := by
  have h3 := pow63 lv
  have h4 := top_le h1 h2
  have h5 : ix * 2 ^ lv ≤ (ix + 1) * 2 ^ lv := Nat.mul_le_mul_right _ (by omega)
  refine Tri.mk Tryd.func23 rfl rfl rfl ?_
  refine WP.sregion ?_
  refine RX.eff (.none rfl) rfl rfl rfl (e_box rfl rfl) ?_
  rintro _ _ ⟨n1, rfl, rfl⟩
  refine RX.eff (.none rfl) rfl rfl rfl (e_alloc zr_53) ?_
  rintro _ _ ⟨n2, rfl, rfl⟩
  refine RX.pure (.none rfl) rfl rfl (p_assign rfl) ?_
  refine RX.nil ?_
  refine WP.seq (WP.sregion ?_)
  (first | refine RX.lda 0 (.none rfl) rfl rfl ag_58 rfl rfl rfl ?_ | refine RX.lda 1 (.none rfl) rfl rfl ag_58 rfl rfl rfl ?_ | refine RX.lda 2 (.none rfl) rfl rfl ag_58 rfl rfl rfl ?_ | refine RX.lda 3 (.none rfl) rfl rfl ag_58 rfl rfl rfl ?_ | refine RX.lda 4 (.none rfl) rfl rfl ag_58 rfl rfl rfl ?_ | refine RX.lda 5 (.none rfl) rfl rfl ag_58 rfl rfl rfl ?_)
  refine RX.eff (.none rfl) rfl rfl rfl (e_call [] rfl call_52 rfl rfl (may_tri lv ix h1 h2)) ?_
  rintro _ _ ⟨_, ⟨rfl, rfl⟩, rfl⟩
  refine RX.pure (.none rfl) rfl rfl (p_not rfl) ?_
  refine RX.nil ?_
  refine WP.condF rfl (WP.skip ?_)
  refine WP.sregion ?_
  refine RX.pure (.none rfl) rfl rfl (p_fieldAddr rfl fa_58_1) ?_
  (first | refine RX.ld 0 (.none rfl) rfl rfl na_23 rfl rfl ?_ | refine RX.ld 1 (.none rfl) rfl rfl na_23 rfl rfl ?_ | refine RX.ld 2 (.none rfl) rfl rfl na_23 rfl rfl ?_ | refine RX.ld 3 (.none rfl) rfl rfl na_23 rfl rfl ?_ | refine RX.ld 4 (.none rfl) rfl rfl na_23 rfl rfl ?_ | refine RX.ld 5 (.none rfl) rfl rfl na_23 rfl rfl ?_)
  refine RX.pure (.none rfl) rfl rfl (p_fieldAddr rfl fa_58_0) ?_
  (first | refine RX.ld 0 (.none rfl) rfl rfl na_5 rfl rfl ?_ | refine RX.ld 1 (.none rfl) rfl rfl na_5 rfl rfl ?_ | refine RX.ld 2 (.none rfl) rfl rfl na_5 rfl rfl ?_ | refine RX.ld 3 (.none rfl) rfl rfl na_5 rfl rfl ?_ | refine RX.ld 4 (.none rfl) rfl rfl na_5 rfl rfl ?_ | refine RX.ld 5 (.none rfl) rfl rfl na_5 rfl rfl ?_)
  refine RX.pure (.none rfl) rfl rfl (p_shl rfl rfl (by omega) (bShl_nat ix lv (by omega) (by omega))) ?_
  refine RX.pure (.none rfl) rfl rfl (p_fieldAddr rfl fa_58_1) ?_
  (first | refine RX.ld 0 (.none rfl) rfl rfl na_23 rfl rfl ?_ | refine RX.ld 1 (.none rfl) rfl rfl na_23 rfl rfl ?_ | refine RX.ld 2 (.none rfl) rfl rfl na_23 rfl rfl ?_ | refine RX.ld 3 (.none rfl) rfl rfl na_23 rfl rfl ?_ | refine RX.ld 4 (.none rfl) rfl rfl na_23 rfl rfl ?_ | refine RX.ld 5 (.none rfl) rfl rfl na_23 rfl rfl ?_)
  refine RX.pure (.none rfl) rfl rfl (p_add rfl rfl (r := ((ix + 1 : Nat) : Int)) (wr_u64 (by omega) (by omega))) ?_
  refine RX.pure (.none rfl) rfl rfl (p_fieldAddr rfl fa_58_0) ?_
  (first | refine RX.ld 0 (.none rfl) rfl rfl na_5 rfl rfl ?_ | refine RX.ld 1 (.none rfl) rfl rfl na_5 rfl rfl ?_ | refine RX.ld 2 (.none rfl) rfl rfl na_5 rfl rfl ?_ | refine RX.ld 3 (.none rfl) rfl rfl na_5 rfl rfl ?_ | refine RX.ld 4 (.none rfl) rfl rfl na_5 rfl rfl ?_ | refine RX.ld 5 (.none rfl) rfl rfl na_5 rfl rfl ?_)
  refine RX.pure (.none rfl) rfl rfl (p_shl rfl rfl (by omega) (bShl_nat (ix + 1) lv (by omega) (by omega))) ?_
  refine RX.pure (.none rfl) rfl rfl (p_buildS zr_53 pl_53 rfl rfl) ?_
  (first | refine RX.sta 0 (.none rfl) rfl rfl sz_53 rfl rfl rfl rfl _ rfl ?_ | refine RX.sta 1 (.none rfl) rfl rfl sz_53 rfl rfl rfl rfl _ rfl ?_ | refine RX.sta 2 (.none rfl) rfl rfl sz_53 rfl rfl rfl rfl _ rfl ?_ | refine RX.sta 3 (.none rfl) rfl rfl sz_53 rfl rfl rfl rfl _ rfl ?_ | refine RX.sta 4 (.none rfl) rfl rfl sz_53 rfl rfl rfl rfl _ rfl ?_ | refine RX.sta 5 (.none rfl) rfl rfl sz_53 rfl rfl rfl rfl _ rfl ?_)
  refine RX.pure (.none rfl) rfl rfl (p_assign rfl) ?_
  refine RX.nil ?_
  refine WP.ret ?_
  repeat (first | refine sq_ret ?_ | refine bk_ret ?_ | refine lq_ret ?_ | refine cq_ret ?_)
  exact finC2' (vs := [cu64 (ix * 2 ^ lv), cu64 ((ix + 1) * 2 ^ lv)]) 0 rfl rfl rfl ldv_53 (RdN.own 1 rfl rfl) rfl rfl ⟨rfl, rfl⟩
end
end Go.Proofs.YtigjnfmbellpjaaDoor.Coo
