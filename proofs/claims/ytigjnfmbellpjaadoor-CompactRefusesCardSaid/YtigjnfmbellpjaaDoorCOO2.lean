/- math/bits.TrailingZeros64, by the table that is laid; coord.Cover. -/
import Derived.Test.YtigjnfmbellpjaaDoorCOO1
import Derived.Test.YtigjnfmbellpjaaDoorBIT1
import Derived.Test.YtigjnfmbellpjaaDoorCPT1
set_option maxRecDepth 100000
namespace Go.Proofs.YtigjnfmbellpjaaDoor.Coo
open Go Go.EL Go.EL.Cpt
def deTab : List Nat := [0, 1, 56, 2, 57, 49, 28, 3, 61, 58, 42, 50, 38, 29, 17, 4, 62, 47, 59, 36, 45, 43, 51, 22, 53, 39, 33, 30, 24, 18, 12, 5, 63, 55, 48, 27, 60, 41, 37, 16, 46, 35, 44, 21, 52, 32, 23, 11, 54, 26, 40, 15, 34, 20, 31, 10, 25, 14, 19, 9, 13, 8, 7, 6]
theorem de_at : ∀ a : Fin 64, deTab.getD ((2 ^ a.val * 285870213051353865 % 18446744073709551616) / 2 ^ 58) 0 = a.val := by decide +kernel
theorem de_lt : ∀ a : Fin 64, (2 ^ a.val * 285870213051353865 % 18446744073709551616) / 2 ^ 58 < 64 := by decide +kernel
theorem wrap_mod (n : Nat) : IntKind.wrap .u64 (n : Int) = ((n % 18446744073709551616 : Nat) : Int) := by
  simp [IntKind.wrap, IntKind.signed, IntKind.bits]
theorem band_nat (a b : Nat) (ha : a < 18446744073709551616) (hb : b < 18446744073709551616) : bAnd .u64 (a : Int) (b : Int) = ((a &&& b : Nat) : Int) := by
  show IntKind.wrap .u64 ((BitVec.ofInt 64 (a : Int) &&& BitVec.ofInt 64 (b : Int)).toNat : Int) = _
  rw [BitVec.toNat_and, BitVec.ofInt_natCast, BitVec.ofInt_natCast, BitVec.toNat_ofNat, BitVec.toNat_ofNat, Nat.mod_eq_of_lt ha, Nat.mod_eq_of_lt hb]
  exact wrap_u64 _ (Nat.lt_of_le_of_lt Nat.and_le_left ha)
section
variable {w0 : World}
abbrev DeB (w0 : World) : Prop := ∀ t, t < 64 → w0.cell? ⟨5, t, none⟩ = some (cu8 (deTab.getD t 0))
theorem tz_tri (hD : DeB w0) (x : Nat) (h0 : 0 < x) (h : x < 18446744073709551616) : Tri Tryd.prog w0 51 #[cu64 x] [] (fun v S' => v = .int .i64 (tz x : Nat) ∧ S' = []) := by
  have ht := tz_lt (n := 64) h0 h
  have hp : (2 : Nat) ^ tz x < 18446744073709551616 := by have := Nat.pow_lt_pow_right (show 1 < 2 by decide) ht; omega
  have h1 := de_at ⟨tz x, ht⟩
  have h2 := de_lt ⟨tz x, ht⟩
  simp only at h1 h2
  have hand := and_low (n := 64) h0 h
  have hneg : IntKind.wrap .u64 (-(x : Int)) = ((18446744073709551616 - x : Nat) : Int) := by
    simp only [IntKind.wrap, IntKind.signed, IntKind.bits]
    simp
    omega
  refine Tri.mk Tryd.func51 rfl rfl rfl ?_
  refine WP.sregion ?_
  refine RX.pure (.none rfl) rfl rfl (p_assign rfl) ?_
  refine RX.nil ?_
  refine WP.seq (WP.sregion ?_)
  refine RX.pure (.none rfl) rfl rfl (p_move rfl) ?_
  refine RX.pure (.none rfl) rfl rfl (p_eqInt rfl rfl) ?_
  refine RX.say (t := 4) rfl (.bool false) (by rw [decide_eq_false]; omega) ?_
  refine RX.nil ?_
  refine WP.condF rfl (WP.skip ?_)
  refine WP.sregion ?_
  refine RX.pure (.none rfl) rfl rfl (p_move rfl) ?_
  refine RX.pure (.none rfl) rfl rfl (p_move rfl) ?_
  refine RX.pure (.none rfl) rfl rfl (p_neg rfl hneg) ?_
  refine RX.pure (.none rfl) rfl rfl (p_and rfl rfl (r := ((2 ^ tz x : Nat) : Int)) ((band_nat x (18446744073709551616 - x) h (by omega)).trans (congrArg Nat.cast hand))) ?_
  refine RX.pure (.none rfl) rfl rfl (p_mul rfl rfl (r := ((2 ^ tz x * 285870213051353865 % 18446744073709551616 : Nat) : Int)) (by rw [← wrap_mod, Int.natCast_mul]; rfl)) ?_
  refine RX.pure (.none rfl) rfl rfl (p_shr rfl rfl (by omega) (bShr_nat .u64 _ 58 (by decide))) ?_
  refine RX.pure (.none rfl) rfl rfl (p_idxArr0 rfl rfl ar_137 (by omega) (by omega)) ?_
  refine RX.read (.none rfl) rfl rfl rfl (r_load rfl na_5 (Rd.old (by rw [Int.toNat_natCast, Nat.mul_one]; exact hD _ h2))) ?_
  refine RX.pure (.none rfl) rfl rfl (p_convInt rfl Tryd.underlying5 Tryd.underlying3 (m := ((tz x : Nat) : Int)) (by rw [h1]; exact wr_i64 (by omega) (by omega))) ?_
  refine RX.pure (.none rfl) rfl rfl (p_assign rfl) ?_
  refine RX.nil ?_
  refine WP.ret ?_
  repeat (first | refine sq_ret ?_ | refine bk_ret ?_ | refine lq_ret ?_ | refine cq_ret ?_)
  exact fin1' 0 rfl rfl rfl ⟨rfl, rfl⟩
theorem len64_tri (n : Nat) (h0 : 0 < n) (h : n < 2 ^ 64) : Tri Tryd.prog w0 50 #[cu64 n] [] (fun v S' => v = .int .i64 ((n.log2 + 1 : Nat) : Int) ∧ S' = []) := fun F w hi =>
  (Bit.len64_q n h0 h w).mono fun e w' ⟨he, m, hm⟩ => ⟨_, [], he, ⟨rfl, rfl⟩, by subst hm; exact hi.drawn m⟩
/-- the cells of a tree's place -/
abbrev encC (p : Nat × Nat) : List Value := [cu8 p.1, cu64 p.2]
theorem cover_len {b e : Nat} (h : b ≤ e) (he : e ≤ 2 ^ 63) : (coverF b e).length ≤ 128 := by
  have hg := cover_good (fun _ _ => ()) () (fun _ => ()) h
  have := row_len hg.row hg.free he
  simpa [coverNd] using this
theorem lvl_le {b e : Nat} (h : b < e) (he : e ≤ 2 ^ 63) : lvl b e ≤ 63 := by
  obtain ⟨_, h2, _⟩ := lvl_spec h
  exact (Nat.pow_le_pow_iff_right (by decide)).1 (show 2 ^ lvl b e ≤ 2 ^ 63 by omega)
set_option maxHeartbeats 1000000 in
theorem cover_tri (hD : DeB w0) (b e : Nat) (hbe : b ≤ e) (he : e ≤ 9223372036854775808) : Tri Tryd.prog w0 21 #[sAgg b e] [] (fun v S' => ∃ vs H, v = .tuple #[vs, .nilIface] ∧ S' = [H] ∧ Vec 58 2 encC (coverF b e) vs H) := by
  have hcl := cover_len hbe he
  refine Tri.mk Tryd.func21 rfl rfl rfl ?_
  refine WP.sregion ?_
  refine RX.eff (.none rfl) rfl rfl rfl (e_box rfl rfl) ?_
  rintro _ _ ⟨n1, rfl, rfl⟩
  refine RX.pure (.none rfl) rfl rfl (p_assign rfl) ?_
  refine RX.pure (.none rfl) rfl rfl (p_assign rfl) ?_
  refine RX.nil ?_
  refine WP.seq (WP.sregion ?_)
  refine RX.pure (.none rfl) rfl rfl (p_fieldAddr rfl fa_53_0) ?_
  (first | refine RX.ld 0 (.none rfl) rfl rfl na_23 rfl rfl ?_ | refine RX.ld 1 (.none rfl) rfl rfl na_23 rfl rfl ?_ | refine RX.ld 2 (.none rfl) rfl rfl na_23 rfl rfl ?_ | refine RX.ld 3 (.none rfl) rfl rfl na_23 rfl rfl ?_ | refine RX.ld 4 (.none rfl) rfl rfl na_23 rfl rfl ?_ | refine RX.ld 5 (.none rfl) rfl rfl na_23 rfl rfl ?_)
  refine RX.pure (.none rfl) rfl rfl (p_fieldAddr rfl fa_53_1) ?_
  (first | refine RX.ld 0 (.none rfl) rfl rfl na_23 rfl rfl ?_ | refine RX.ld 1 (.none rfl) rfl rfl na_23 rfl rfl ?_ | refine RX.ld 2 (.none rfl) rfl rfl na_23 rfl rfl ?_ | refine RX.ld 3 (.none rfl) rfl rfl na_23 rfl rfl ?_ | refine RX.ld 4 (.none rfl) rfl rfl na_23 rfl rfl ?_ | refine RX.ld 5 (.none rfl) rfl rfl na_23 rfl rfl ?_)
  refine RX.pure (.none rfl) rfl rfl (p_gtr rfl rfl) ?_
  refine RX.say (t := 11) rfl (.bool false) (by rw [decide_eq_false]; omega) ?_
  refine RX.pure (.none rfl) rfl rfl (p_move rfl) ?_
  (first | refine RX.skip (.no rfl rfl rfl rfl) rfl rfl ?_ | refine RX.pure (.yes rfl rfl rfl) rfl rfl (p_fieldAddr rfl fa_53_1) ?_)
  (first | refine RX.skip (.no rfl rfl rfl rfl) rfl rfl ?_ | refine RX.ld 0 (.yes rfl rfl rfl) rfl rfl na_23 rfl rfl ?_ | refine RX.ld 1 (.yes rfl rfl rfl) rfl rfl na_23 rfl rfl ?_ | refine RX.ld 2 (.yes rfl rfl rfl) rfl rfl na_23 rfl rfl ?_ | refine RX.ld 3 (.yes rfl rfl rfl) rfl rfl na_23 rfl rfl ?_ | refine RX.ld 4 (.yes rfl rfl rfl) rfl rfl na_23 rfl rfl ?_ | refine RX.ld 5 (.yes rfl rfl rfl) rfl rfl na_23 rfl rfl ?_)
  (first | refine RX.skip (.no rfl rfl rfl rfl) rfl rfl ?_ | (refine RX.pure (.yes rfl rfl rfl) rfl rfl (p_gtr rfl rfl) ?_; refine RX.say (t := 15) rfl (.bool false) (by rw [decide_eq_false]; omega) ?_))
  (first | refine RX.pure (.none rfl) rfl rfl (p_pickT rfl rfl) ?_ | refine RX.pure (.none rfl) rfl rfl (p_pickF rfl rfl) ?_)
  refine RX.nil ?_
  refine WP.condF rfl (WP.skip ?_)
  refine WP.sregion ?_
  refine RX.pure (.none rfl) rfl rfl (p_assign rfl) ?_
  refine RX.nil ?_
  refine WP.nilChunk rfl ?_
  refine WP.cut (fun ρ S => ∃ vs H, Vec 58 2 encC (coverF b e) vs H ∧ Sub [(4, vs)] ρ ∧ S = [[(n1, row [cu64 b, cu64 e] 53)], H]) ?_ ?_
  · refine WP.sregion ?_
    refine RX.pure (.none rfl) rfl rfl (p_fieldAddr rfl fa_53_0) ?_
    (first | refine RX.ld 0 (.none rfl) rfl rfl na_23 rfl rfl ?_ | refine RX.ld 1 (.none rfl) rfl rfl na_23 rfl rfl ?_ | refine RX.ld 2 (.none rfl) rfl rfl na_23 rfl rfl ?_ | refine RX.ld 3 (.none rfl) rfl rfl na_23 rfl rfl ?_ | refine RX.ld 4 (.none rfl) rfl rfl na_23 rfl rfl ?_ | refine RX.ld 5 (.none rfl) rfl rfl na_23 rfl rfl ?_)
    refine RX.pure (.none rfl) rfl rfl (p_assign rfl) ?_
    refine RX.nil ?_
    refine WP.block ?_
    refine WP.loop (fun m ρ S => ∃ (l : List (Nat × Nat)) (at' : Nat) (vs : Value) (H : Hp), m = e - at' ∧ at' ≤ e ∧ coverF b e = l ++ coverF at' e ∧ Vec 58 2 encC l vs H ∧ Sub [(1, .pointer (some ⟨n1, 0, none⟩)), (4, vs), (5, cu64 at')] ρ ∧ S = [[(n1, row [cu64 b, cu64 e] 53)], H]) (e - b) ?_ ?_
    · refine ⟨[], b, _, [], rfl, hbe, rfl, .nil .., ?_, rfl⟩
      repeat (first | exact Sub.nil | refine Sub.cons rfl ?_)
    rintro m ρ S ⟨l, at', vs, H, rfl, hat, hcov, hV, hρ, rfl⟩
    refine WP.sub hρ ?_
    clear hρ
    by_cases hlt : at' < e
    · have hspec := lvl_spec hlt
      have hs2 := hspec.2.1
      have hl2 : (e - at').log2 < 64 := (Nat.log2_lt (by omega)).2 (by omega)
      have hlv := lvl_le hlt he
      have hp := pos2 (lvl at' e)
      have hlen : l.length < 128 := by
        rw [hcov, List.length_append, coverF_cons hlt, List.length_cons] at hcl
        omega
      obtain ⟨pV, cV, rfl⟩ := hV.slice
      refine WP.seq (WP.sregion ?_)
      refine RX.pure (.none rfl) rfl rfl (p_move rfl) ?_
      refine RX.pure (.none rfl) rfl rfl (p_fieldAddr rfl fa_53_1) ?_
      (first | refine RX.ld 0 (.none rfl) rfl rfl na_23 rfl rfl ?_ | refine RX.ld 1 (.none rfl) rfl rfl na_23 rfl rfl ?_ | refine RX.ld 2 (.none rfl) rfl rfl na_23 rfl rfl ?_ | refine RX.ld 3 (.none rfl) rfl rfl na_23 rfl rfl ?_ | refine RX.ld 4 (.none rfl) rfl rfl na_23 rfl rfl ?_ | refine RX.ld 5 (.none rfl) rfl rfl na_23 rfl rfl ?_)
      refine RX.pure (.none rfl) rfl rfl (p_lss rfl rfl) ?_
      refine RX.say (t := 23) rfl (.bool true) (by rw [decide_eq_true]; omega) ?_
      refine RX.nil ?_
      refine WP.condT rfl (WP.skip ?_)
      refine WP.block ?_
      refine WP.sregion ?_
      refine RX.pure (.none rfl) rfl rfl (p_fieldAddr rfl fa_53_1) ?_
      (first | refine RX.ld 0 (.none rfl) rfl rfl na_23 rfl rfl ?_ | refine RX.ld 1 (.none rfl) rfl rfl na_23 rfl rfl ?_ | refine RX.ld 2 (.none rfl) rfl rfl na_23 rfl rfl ?_ | refine RX.ld 3 (.none rfl) rfl rfl na_23 rfl rfl ?_ | refine RX.ld 4 (.none rfl) rfl rfl na_23 rfl rfl ?_ | refine RX.ld 5 (.none rfl) rfl rfl na_23 rfl rfl ?_)
      refine RX.pure (.none rfl) rfl rfl (p_move rfl) ?_
      refine RX.pure (.none rfl) rfl rfl (p_sub rfl rfl (r := ((e - at' : Nat) : Int)) ((wr_u64 (by omega) (by omega)).trans (by omega))) ?_
      refine RX.eff (.none rfl) rfl rfl rfl (e_call [] rfl call_50 rfl rfl (len64_tri (e - at') (by omega) (by omega))) ?_
      rintro _ _ ⟨_, ⟨rfl, rfl⟩, rfl⟩
      refine RX.pure (.none rfl) rfl rfl (p_sub rfl rfl (r := (((e - at').log2 : Nat) : Int)) ((wr_i64 (by omega) (by omega)).trans (by omega))) ?_
      refine RX.pure (.none rfl) rfl rfl (p_assign rfl) ?_
      refine RX.nil ?_
      refine WP.heap [[(n1, row [cu64 b, cu64 e] 53)], H] rfl ?_
      refine WP.cut (fun ρ S => Sub [(1, .pointer (some ⟨n1, 0, none⟩)), (4, .slice pV l.length cV), (5, cu64 at'), (6, .int .i64 (lvl at' e : Nat))] ρ ∧ S = [[(n1, row [cu64 b, cu64 e] 53)], H]) ?_ ?_
      · by_cases ha0 : 0 < at'
        · refine WP.sregion ?_
          refine RX.pure (.none rfl) rfl rfl (p_move rfl) ?_
          refine RX.pure (.none rfl) rfl rfl (p_gtr rfl rfl) ?_
          refine RX.say (t := 31) rfl (.bool true) (by rw [decide_eq_true]; omega) ?_
          refine RX.nil ?_
          refine WP.condT rfl ?_
          refine WP.region ?_
          refine RX.pure (.none rfl) rfl rfl (p_move rfl) ?_
          refine RX.pure (.none rfl) rfl rfl (p_move rfl) ?_
          refine RX.eff (.none rfl) rfl rfl rfl (e_call [] rfl call_51 rfl rfl (tz_tri hD at' ha0 (by omega))) ?_
          rintro _ _ ⟨_, ⟨rfl, rfl⟩, rfl⟩
          refine RX.pure (.none rfl) rfl rfl (p_min2 rfl rfl) ?_
          refine RX.say (t := 35) rfl (.int .i64 (lvl at' e : Nat)) (by rw [lvl, if_pos ha0]; congr 1; split <;> omega) ?_
          refine RX.pure (.none rfl) rfl rfl (p_assign rfl) ?_
          refine RX.nil ?_
          refine ⟨?_, rfl⟩
          repeat (first | exact Sub.nil | refine Sub.cons rfl ?_)
        · refine WP.sregion ?_
          refine RX.pure (.none rfl) rfl rfl (p_move rfl) ?_
          refine RX.pure (.none rfl) rfl rfl (p_gtr rfl rfl) ?_
          refine RX.say (t := 31) rfl (.bool false) (by rw [decide_eq_false]; omega) ?_
          refine RX.nil ?_
          refine WP.condF rfl (WP.skip ?_)
          refine ⟨?_, rfl⟩
          rw [show lvl at' e = (e - at').log2 by rw [lvl, if_neg ha0]]
          repeat (first | exact Sub.nil | refine Sub.cons rfl ?_)
      rintro ρ S ⟨hρ, rfl⟩
      refine WP.sub hρ ?_
      clear hρ
      refine WP.sregion ?_
      refine RX.pure (.none rfl) rfl rfl (p_move rfl) ?_
      refine RX.pure (.none rfl) rfl rfl (p_move rfl) ?_
      refine RX.pure (.none rfl) rfl rfl (p_convInt rfl Tryd.underlying3 Tryd.underlying5 (wr_u8 (by omega) (by omega))) ?_
      refine RX.pure (.none rfl) rfl rfl (p_move rfl) ?_
      refine RX.pure (.none rfl) rfl rfl (p_move rfl) ?_
      refine RX.pure (.none rfl) rfl rfl (p_shr rfl rfl (by omega) (bShr_nat .u64 at' (lvl at' e) (by simp [IntKind.bits]; omega))) ?_
      refine RX.pure (.none rfl) rfl rfl (p_buildS zr_58 pl_58 rfl rfl) ?_
      refine RX.eff (.none rfl) rfl rfl rfl (e_buildSlice sl_49 zr_58 rfl (by decide) (by decide) rfl rfl rfl) ?_
      rintro _ _ ⟨n43, rfl, rfl⟩
      refine RX.eff (.none rfl) rfl rfl rfl (e_append (enc := encC) (ys := [(lvl at' e, at' / 2 ^ lvl at' e)]) 1 rfl rfl sl_49 zr_58 rfl (by decide) by_58 (fun _ _ => rfl) (fun _ _ => rfl) (fun _ _ => rfl) hV rfl (.inr ⟨_, _, rfl, RdN.own 2 rfl rfl⟩) (by simp; omega) (by simp [maxLen]; omega)) ?_
      rintro _ _ ⟨H', hV', rfl⟩; obtain ⟨pE', cE', rfl⟩ := hV'.slice
      refine RX.pure (.none rfl) rfl rfl (p_assign rfl) ?_
      refine RX.take 2 ?_
      refine RX.nil ?_
      refine WP.region ?_
      refine RX.pure (.none rfl) rfl rfl (p_move rfl) ?_
      refine RX.pure (.none rfl) rfl rfl (p_move rfl) ?_
      refine RX.pure (.none rfl) rfl rfl (p_shl rfl rfl (by omega) (r := ((2 ^ lvl at' e : Nat) : Int)) ((bShl_nat 1 (lvl at' e) (by omega) (by omega)).trans (by rw [Nat.one_mul]))) ?_
      refine RX.pure (.none rfl) rfl rfl (p_add rfl rfl (r := ((at' + 2 ^ lvl at' e : Nat) : Int)) ((wr_u64 (by omega) (by omega)).trans (by omega))) ?_
      refine RX.pure (.none rfl) rfl rfl (p_assign rfl) ?_
      refine RX.nil ?_
      refine bk_normal ?_
      refine lq_normal (e - (at' + 2 ^ lvl at' e)) (by omega) ?_
      refine ⟨_, at' + 2 ^ lvl at' e, _, H', rfl, hspec.2.1, ?_, hV', ?_, rfl⟩
      · rw [hcov, coverF_cons hlt, List.append_assoc]; rfl
      · repeat (first | exact Sub.nil | refine Sub.cons rfl ?_)
    · obtain rfl : at' = e := by omega
      refine WP.seq (WP.sregion ?_)
      refine RX.pure (.none rfl) rfl rfl (p_move rfl) ?_
      refine RX.pure (.none rfl) rfl rfl (p_fieldAddr rfl fa_53_1) ?_
      (first | refine RX.ld 0 (.none rfl) rfl rfl na_23 rfl rfl ?_ | refine RX.ld 1 (.none rfl) rfl rfl na_23 rfl rfl ?_ | refine RX.ld 2 (.none rfl) rfl rfl na_23 rfl rfl ?_ | refine RX.ld 3 (.none rfl) rfl rfl na_23 rfl rfl ?_ | refine RX.ld 4 (.none rfl) rfl rfl na_23 rfl rfl ?_ | refine RX.ld 5 (.none rfl) rfl rfl na_23 rfl rfl ?_)
      refine RX.pure (.none rfl) rfl rfl (p_lss rfl rfl) ?_
      refine RX.say (t := 23) rfl (.bool false) (by rw [decide_eq_false]; omega) ?_
      refine RX.nil ?_
      refine WP.condF rfl ?_
      refine WP.exit ?_
      repeat (first | refine sq_exit ?_ | refine bk_exit ?_ | refine lq_exit ?_ | refine cq_exit ?_ | refine bk_exit' rfl ?_)
      rw [coverF_nil _ hlt, List.append_nil] at hcov
      subst hcov
      refine ⟨vs, H, hV, ?_, rfl⟩
      repeat (first | exact Sub.nil | refine Sub.cons rfl ?_)
  rintro ρ S ⟨vs, H, hV, hρ, rfl⟩
  refine WP.sub hρ ?_
  clear hρ
  refine WP.sregion ?_
  refine RX.pure (.none rfl) rfl rfl (p_move rfl) ?_
  refine RX.pure (.none rfl) rfl rfl (p_assign rfl) ?_
  refine RX.pure (.none rfl) rfl rfl (p_assign rfl) ?_
  refine RX.nil ?_
  refine WP.only [1] rfl rfl ?_
  refine WP.ret ?_
  repeat (first | refine sq_ret ?_ | refine bk_ret ?_ | refine lq_ret ?_ | refine cq_ret ?_)
  exact fin2' 1 rfl rfl rfl rfl ⟨_, H, rfl, rfl, hV⟩
end
end Go.Proofs.YtigjnfmbellpjaaDoor.Coo
