/- compact: what is refused. -/
import Derived.Test.YtigjnfmbellpjaaDoorCUT4
import Derived.Test.YtigjnfmbellpjaaDoorERR3
import Derived.Test.YtigjnfmbellpjaaDoorEL26
set_option maxRecDepth 100000
namespace Go.Proofs.YtigjnfmbellpjaaDoor.Cmp
open Go Go.EL Go.EL.Cpt Sha Coo Err
section
variable {w0 : World} {A : Nat → Addr}
theorem is2_tri (h : Sents w0 A) : Tri Tryd.prog w0 33 #[E A 1, .int .i64 2] [] (fun v S' => v = .bool true ∧ S' = []) := is_tri h 1 (by decide)
theorem is4_tri (h : Sents w0 A) : Tri Tryd.prog w0 33 #[E A 3, .int .i64 4] [] (fun v S' => v = .bool true ∧ S' = []) := is_tri h 3 (by decide)
theorem append_full (h : Sents w0 A) (b e : Nat) (rs : List Tr) (x : H32) (r : Nat) (H : Hp) (hR : RAt b e rs r H) (he : 9223372036854775808 ≤ e) :
    Tri Tryd.prog w0 20 #[.pointer (some ⟨r, 0, none⟩), hV x] [H] (fun v S' => v = E A 3 ∧ S' = [H]) := by
  obtain ⟨v, Hr, rfl, hV⟩ := hR
  refine Tri.mk Tryd.func20 rfl rfl rfl ?_
  refine WP.sregion ?_
  refine RX.eff (.none rfl) rfl rfl rfl (e_box rfl rfl) ?_
  rintro _ _ ⟨n3, rfl, rfl⟩
  refine RX.pure (.none rfl) rfl rfl (p_assign rfl) ?_
  refine RX.nil ?_
  refine WP.heap [(r, row [.bool true, cu64 b, cu64 e, v] 104) :: Hr, [(n3, row (hC x) 32)]] rfl ?_
  refine WP.open1 ?_
  refine WP.seq (WP.sregion ?_)
  refine RX.pure (.none rfl) rfl rfl (p_move rfl) ?_
  refine RX.eff (.none rfl) rfl rfl rfl (e_call [0] rfl call_48 rfl rfl (there_tri r _)) ?_
  rintro _ _ ⟨_, ⟨rfl, rfl⟩, rfl⟩
  refine RX.pure (.none rfl) rfl rfl (p_not rfl) ?_
  refine RX.nil ?_
  refine WP.condF rfl (WP.skip ?_)
  refine WP.seq (WP.sregion ?_)
  refine RX.pure (.none rfl) rfl rfl (p_move rfl) ?_
  refine RX.pure (.none rfl) rfl rfl (p_nilCheck rfl) ?_
  refine RX.pure (.none rfl) rfl rfl (p_fieldAddr rfl fa_104_1) ?_
  refine RX.pure (.none rfl) rfl rfl (p_fieldAddr rfl fa_53_1) ?_
  (first | refine RX.ld 0 (.none rfl) rfl rfl na_23 rfl rfl ?_ | refine RX.ld 1 (.none rfl) rfl rfl na_23 rfl rfl ?_ | refine RX.ld 2 (.none rfl) rfl rfl na_23 rfl rfl ?_ | refine RX.ld 3 (.none rfl) rfl rfl na_23 rfl rfl ?_ | refine RX.ld 4 (.none rfl) rfl rfl na_23 rfl rfl ?_ | refine RX.ld 5 (.none rfl) rfl rfl na_23 rfl rfl ?_)
  refine RX.pure (.none rfl) rfl rfl (p_geq rfl rfl) ?_
  refine RX.say (t := 14) rfl (.bool true) (by rw [decide_eq_true]; omega) ?_
  refine RX.nil ?_
  refine WP.condT rfl ?_
  refine WP.sregion ?_
  refine RX.read (.none rfl) rfl rfl rfl (r_load rfl na_34 (Rd.old (h.cell 3 (by decide)))) ?_
  refine RX.pure (.none rfl) rfl rfl (p_assign rfl) ?_
  refine RX.nil ?_
  refine WP.close1 ?_
  refine WP.ret ?_
  repeat (first | refine sq_ret ?_ | refine bk_ret ?_ | refine lq_ret ?_ | refine cq_ret ?_)
  exact fin1' 1 rfl rfl rfl ⟨rfl, rfl⟩
theorem join_err (h : Sents w0 A) (b m m' e : Nat) (rs os : List Tr) (r o : Nat) (H HO : Hp) (hR : RAt b m rs r H) (hO : RAt m' e os o HO) (hne : m' ≠ m) :
    Tri Tryd.prog w0 27 #[.pointer (some ⟨r, 0, none⟩), .pointer (some ⟨o, 0, none⟩)] [H, HO] (fun v S' => v = E A 1 ∧ S' = [H, HO]) := by
  obtain ⟨v, Hr, rfl, hV⟩ := hR
  obtain ⟨vo, Ho, rfl, hVo⟩ := hO
  refine Tri.mk Tryd.func27 rfl rfl rfl ?_
  refine WP.sregion ?_
  refine RX.pure (.none rfl) rfl rfl (p_assign rfl) ?_
  refine RX.nil ?_
  refine WP.perm (T := [[(r, row [.bool true, cu64 b, cu64 m, v] 104)], Hr, [(o, row [.bool true, cu64 m', cu64 e, vo] 104)], Ho]) ?_ ?_
  · simp
  refine WP.seq (WP.sregion ?_)
  refine RX.pure (.none rfl) rfl rfl (p_move rfl) ?_
  refine RX.eff (.none rfl) rfl rfl rfl (e_call [0] rfl call_48 rfl rfl (there_tri r _)) ?_
  rintro _ _ ⟨_, ⟨rfl, rfl⟩, rfl⟩
  refine RX.pure (.none rfl) rfl rfl (p_not rfl) ?_
  refine RX.pure (.none rfl) rfl rfl (p_move rfl) ?_
  (first | refine RX.skip (.no rfl rfl rfl rfl) rfl rfl ?_ | refine RX.pure (.yes rfl rfl rfl) rfl rfl (p_move rfl) ?_)
  (first | refine RX.skip (.no rfl rfl rfl rfl) rfl rfl ?_ | (refine RX.eff (.yes rfl rfl rfl) rfl rfl rfl (e_call [2] rfl call_48 rfl rfl (there_tri o _)) ?_; rintro _ _ ⟨_, ⟨rfl, rfl⟩, rfl⟩))
  (first | refine RX.skip (.no rfl rfl rfl rfl) rfl rfl ?_ | refine RX.pure (.yes rfl rfl rfl) rfl rfl (p_not rfl) ?_)
  (first | refine RX.pure (.none rfl) rfl rfl (p_pickT rfl rfl) ?_ | refine RX.pure (.none rfl) rfl rfl (p_pickF rfl rfl) ?_)
  refine RX.nil ?_
  refine WP.condF rfl (WP.skip ?_)
  refine WP.only (T := [[(r, row [.bool true, cu64 b, cu64 m, v] 104)], Hr, [(o, row [.bool true, cu64 m', cu64 e, vo] 104)], Ho]) [1, 2, 0, 3] rfl rfl ?_
  refine WP.seq (WP.sdraw mixed (by kernel_rfl) ?_)
  refine RX.pure (.none rfl) rfl rfl (p_move rfl) ?_
  refine RX.pure (.none rfl) rfl rfl (p_nilCheck rfl) ?_
  refine RX.pure (.none rfl) rfl rfl (p_fieldAddr rfl fa_104_1) ?_
  refine RX.pure (.none rfl) rfl rfl (p_fieldAddr rfl fa_53_0) ?_
  (first | refine RX.ld 0 (.none rfl) rfl rfl na_23 rfl rfl ?_ | refine RX.ld 1 (.none rfl) rfl rfl na_23 rfl rfl ?_ | refine RX.ld 2 (.none rfl) rfl rfl na_23 rfl rfl ?_ | refine RX.ld 3 (.none rfl) rfl rfl na_23 rfl rfl ?_ | refine RX.ld 4 (.none rfl) rfl rfl na_23 rfl rfl ?_ | refine RX.ld 5 (.none rfl) rfl rfl na_23 rfl rfl ?_)
  refine RX.pure (.none rfl) rfl rfl (p_move rfl) ?_
  refine RX.pure (.none rfl) rfl rfl (p_nilCheck rfl) ?_
  refine RX.pure (.none rfl) rfl rfl (p_fieldAddr rfl fa_104_1) ?_
  refine RX.pure (.none rfl) rfl rfl (p_fieldAddr rfl fa_53_1) ?_
  (first | refine RX.ld 0 (.none rfl) rfl rfl na_23 rfl rfl ?_ | refine RX.ld 1 (.none rfl) rfl rfl na_23 rfl rfl ?_ | refine RX.ld 2 (.none rfl) rfl rfl na_23 rfl rfl ?_ | refine RX.ld 3 (.none rfl) rfl rfl na_23 rfl rfl ?_ | refine RX.ld 4 (.none rfl) rfl rfl na_23 rfl rfl ?_ | refine RX.ld 5 (.none rfl) rfl rfl na_23 rfl rfl ?_)
  refine RX.pure (.none rfl) rfl rfl (p_neInt rfl rfl) ?_
  refine RX.say (t := 26) rfl (.bool true) (by rw [decide_eq_true]; omega) ?_
  refine RX.nil ?_
  refine WP.condT rfl ?_
  refine WP.sregion ?_
  refine RX.read (.none rfl) rfl rfl rfl (r_load rfl na_34 (Rd.old (h.cell 1 (by decide)))) ?_
  refine RX.pure (.none rfl) rfl rfl (p_assign rfl) ?_
  refine RX.nil ?_
  refine WP.perm (T := [(r, row [.bool true, cu64 b, cu64 m, v] 104) :: Hr, (o, row [.bool true, cu64 m', cu64 e, vo] 104) :: Ho]) ?_ ?_
  · simp
  refine WP.ret ?_
  repeat (first | refine sq_ret ?_ | refine bk_ret ?_ | refine lq_ret ?_ | refine cq_ret ?_)
  exact fin1' 2 rfl rfl rfl ⟨rfl, rfl⟩
theorem load_short (h : Sents w0 A) (hD : DeB w0) (b e : Nat) (hs : List H32) (v : Value) (HP : Hp) (hH : Held w0 HP hC hs v) (hbe : b ≤ e) (he : e ≤ 9223372036854775808) (hl : hs.length ≠ (coverF b e).length) :
    Tri Tryd.prog w0 28 #[sAgg b e, v] [HP] (fun u S' => u = .tuple #[.pointer none, E A 1] ∧ S' = [HP]) := by
  obtain ⟨p, c, rfl, hc1, hc2⟩ := hH.len
  refine Tri.mk Tryd.func28 rfl rfl rfl ?_
  refine WP.sregion ?_
  refine RX.eff (.none rfl) rfl rfl rfl (e_box rfl rfl) ?_
  rintro _ _ ⟨n2, rfl, rfl⟩
  refine RX.pure (.none rfl) rfl rfl (p_assign rfl) ?_
  refine RX.pure (.none rfl) rfl rfl (p_assign rfl) ?_
  refine RX.nil ?_
  refine WP.sregion ?_
  (first | refine RX.lda 0 (.none rfl) rfl rfl ag_53 rfl rfl rfl ?_ | refine RX.lda 1 (.none rfl) rfl rfl ag_53 rfl rfl rfl ?_ | refine RX.lda 2 (.none rfl) rfl rfl ag_53 rfl rfl rfl ?_ | refine RX.lda 3 (.none rfl) rfl rfl ag_53 rfl rfl rfl ?_ | refine RX.lda 4 (.none rfl) rfl rfl ag_53 rfl rfl rfl ?_ | refine RX.lda 5 (.none rfl) rfl rfl ag_53 rfl rfl rfl ?_)
  refine RX.eff (.none rfl) rfl rfl rfl (e_call [] rfl call_21 rfl rfl (cover_tri hD b e hbe he)) ?_
  rintro _ _ ⟨_, ⟨vC, HC, rfl, rfl, hVC⟩, rfl⟩; obtain ⟨pC, cC, rfl⟩ := hVC.slice
  refine RX.pure (.none rfl) rfl rfl (p_move rfl) ?_
  refine RX.pure (.none rfl) rfl rfl (p_extract rfl rfl) ?_
  refine RX.pure (.none rfl) rfl rfl (p_extract rfl rfl) ?_
  refine RX.pure (.none rfl) rfl rfl (p_assign rfl) ?_
  refine RX.pure (.none rfl) rfl rfl (p_assign rfl) ?_
  refine RX.nil ?_
  refine WP.seq (WP.sregion ?_)
  refine RX.pure (.none rfl) rfl rfl (p_move rfl) ?_
  refine RX.pure (.none rfl) rfl rfl (p_neNilIface rfl (by first | exact .inl rfl | exact .inr ⟨_, _, rfl⟩ | assumption) Tryd.underlying34) ?_
  refine RX.nil ?_
  refine WP.condF rfl (WP.skip ?_)
  refine WP.seq (WP.sregion ?_)
  refine RX.pure (.none rfl) rfl rfl (p_move rfl) ?_
  refine RX.pure (.none rfl) rfl rfl (p_lenSlice rfl Tryd.underlying49) ?_
  refine RX.pure (.none rfl) rfl rfl (p_move rfl) ?_
  refine RX.pure (.none rfl) rfl rfl (p_lenSlice rfl Tryd.underlying24) ?_
  refine RX.pure (.none rfl) rfl rfl (p_neInt rfl rfl) ?_
  refine RX.say (t := 23) rfl (.bool true) (by rw [decide_eq_true]; omega) ?_
  refine RX.nil ?_
  refine WP.condT rfl ?_
  refine WP.sdraw mixed (by kernel_rfl) ?_
  refine RX.read (.none rfl) rfl rfl rfl (r_load rfl na_34 (Rd.old (h.cell 1 (by decide)))) ?_
  refine RX.pure (.none rfl) rfl rfl (p_assign rfl) ?_
  refine RX.pure (.none rfl) rfl rfl (p_assign rfl) ?_
  refine RX.nil ?_
  refine WP.only [1] rfl rfl ?_
  refine WP.ret ?_
  repeat (first | refine sq_ret ?_ | refine bk_ret ?_ | refine lq_ret ?_ | refine cq_ret ?_)
  exact fin2' (v := .pointer none) (x := E A 1) 1 rfl rfl rfl rfl ⟨rfl, rfl⟩
end
end Go.Proofs.YtigjnfmbellpjaaDoor.Cmp

/- CompactRefuses, walked. -/
set_option maxRecDepth 100000
namespace Go.Proofs.YtigjnfmbellpjaaDoor.Cmp
open Go Go.EL Go.EL.Cpt Sha Coo Err
def u5 : H32 := u1 5 (by decide)
def u6 : H32 := u1 6 (by decide)
def u7 : H32 := u1 7 (by decide)
theorem cover_last : coverF 9223372036854775807 9223372036854775808 = [(0, 9223372036854775807)] := by
  have hl : lvl 9223372036854775807 9223372036854775808 = 0 := by
    have h0 : Nat.log2 (9223372036854775808 - 9223372036854775807) = 0 := by
      rw [show 9223372036854775808 - 9223372036854775807 = 1 from rfl, Nat.log2_eq_iff (by decide)]
      decide
    rw [lvl, if_pos (by decide), h0]
    exact Nat.zero_min _
  rw [coverF_cons (by decide), hl, coverF_nil _ (by decide)]
section
variable {w0 : World} {A : Nat → Addr}
open Classical in
set_option maxHeartbeats 4000000 in
theorem ref_tri (K : Nat → Int) (hK : Tab w0 K) (hD : DeB w0) (hS : Sents w0 A) (beg off : Nat) (hs : List H32) (v : Value) (hH : Held w0 [] hC hs v) (hbeg : beg ≤ 18446744073709551615) (hoff : off ≤ 18446744073709551615) :
    Tri Tryd.prog w0 7 #[cu64 beg, v, cu64 off] [] (fun v S' => v = .bool true ∧ S' = []) := by
  obtain ⟨p, c, rfl, hc1, hc2⟩ := hH.len
  unfold maxLen at hc2
  refine Tri.mk Tryd.func7 rfl rfl rfl ?_
  refine WP.sregion ?_
  refine RX.pure (.none rfl) rfl rfl (p_assign rfl) ?_
  refine RX.nil ?_
  refine WP.nilChunk (T := [[]]) rfl ?_
  by_cases hbig : 300 < hs.length
  · refine WP.seq (WP.sregion ?_)
    refine RX.pure (.none rfl) rfl rfl (p_move rfl) ?_
    refine RX.pure (.none rfl) rfl rfl (p_lenSlice rfl Tryd.underlying24) ?_
    refine RX.pure (.none rfl) rfl rfl (p_gtr rfl rfl) ?_
    refine RX.say (t := 18) rfl (.bool true) (by rw [decide_eq_true]; omega) ?_
    refine RX.nil ?_
    refine WP.condT rfl ?_
    refine WP.sregion ?_
    refine RX.eff (.none rfl) rfl rfl rfl (e_call [] rfl call_16 rfl rfl (alive_tri K hK)) ?_
    rintro _ _ ⟨_, ⟨rfl, rfl⟩, rfl⟩
    refine RX.pure (.none rfl) rfl rfl (p_assign rfl) ?_
    refine RX.nil ?_
    refine WP.ret ?_
    repeat (first | refine sq_ret ?_ | refine bk_ret ?_ | refine lq_ret ?_ | refine cq_ret ?_)
    exact fin1' 0 rfl rfl rfl ⟨rfl, rfl⟩
  have hb : hs.length ≤ 300 := by omega
  clear hbig
  refine WP.seq (WP.sregion ?_)
  refine RX.pure (.none rfl) rfl rfl (p_move rfl) ?_
  refine RX.pure (.none rfl) rfl rfl (p_lenSlice rfl Tryd.underlying24) ?_
  refine RX.pure (.none rfl) rfl rfl (p_gtr rfl rfl) ?_
  refine RX.say (t := 18) rfl (.bool false) (by rw [decide_eq_false]; omega) ?_
  refine RX.nil ?_
  refine WP.condF rfl (WP.skip ?_)
  refine WP.sregion ?_
  refine RX.pure (.none rfl) rfl rfl (p_move rfl) ?_
  refine RX.pure (.none rfl) rfl rfl (p_move rfl) ?_
  refine RX.pure (.none rfl) rfl rfl (p_lenSlice rfl Tryd.underlying24) ?_
  refine RX.pure (.none rfl) rfl rfl (p_add rfl rfl (r := ((hs.length + 1 : Nat) : Int)) (wr_i64 (by omega) (by omega))) ?_
  refine RX.eff (.none rfl) rfl rfl rfl (e_call [] rfl call_24 rfl rfl (start_tri beg (hs.length + 1) hbeg (by omega))) ?_
  rintro _ _ ⟨_, ⟨rfl, rfl⟩, rfl⟩
  refine RX.pure (.none rfl) rfl rfl (p_assign rfl) ?_
  refine RX.nil ?_
  have hnb := startF_le beg (hs.length + 1) (by omega)
  generalize startF beg (hs.length + 1) = n at *
  have gW := rows_good K n hs hs.length
  have tW := appended_tri K hK n hs _ [] hH (by omega) (by omega)
  generalize leafAt K n hs = F at *
  generalize rows K n hs hs.length = W at *
  have wl := good_len gW (by omega)
  have hcl := good_cl gW (by omega)
  have sdk : Dk Tryd.prog 53 (sAgg n (n + hs.length)) := sp_dk _ _ (by omega) (by omega)
  refine WP.sregion ?_
  refine RX.pure (.none rfl) rfl rfl (p_move rfl) ?_
  refine RX.pure (.none rfl) rfl rfl (p_move rfl) ?_
  refine RX.eff (.none rfl) rfl rfl rfl (e_call [0] rfl call_25 rfl rfl tW) ?_
  rintro _ _ ⟨_, ⟨rW, HW, rfl, rfl, hRW⟩, rfl⟩
  refine RX.pure (.none rfl) rfl rfl (p_assign rfl) ?_
  refine RX.nil ?_
  refine WP.sregion ?_
  refine RX.pure (.none rfl) rfl rfl (p_move rfl) ?_
  refine RX.pure (.none rfl) rfl rfl (p_move rfl) ?_
  refine RX.pure (.none rfl) rfl rfl (p_lenSlice rfl Tryd.underlying24) ?_
  (first | refine RX.pure (.none rfl) rfl rfl (p_convInt rfl Tryd.underlying3 Tryd.underlying23 (wr_u64 (by omega) (by omega))) ?_ | refine RX.pure (.none rfl) rfl rfl (p_convInt rfl Tryd.underlying3 Tryd.underlying23 rfl) ?_)
  refine RX.pure (.none rfl) rfl rfl (p_add rfl rfl (r := ((n + hs.length : Nat) : Int)) ((wr_u64 (by omega) (by omega)).trans (by omega))) ?_
  refine RX.pure (.none rfl) rfl rfl (p_move rfl) ?_
  refine RX.pure (.none rfl) rfl rfl (p_add rfl rfl (r := (((n + hs.length + off) % 18446744073709551616 : Nat) : Int)) (by rw [← Int.natCast_add]; exact wrap_mod _)) ?_
  refine RX.eff (.none rfl) rfl rfl rfl (e_call [] rfl call_17 rfl rfl (new_tri _)) ?_
  rintro _ _ ⟨_, ⟨rO, HO, rfl, rfl, hRO⟩, rfl⟩
  refine RX.pure (.none rfl) rfl rfl (p_assign rfl) ?_
  refine RX.nil ?_
  generalize hbo : (n + hs.length + off) % 18446744073709551616 = bo at *
  refine WP.seq (WP.sregion ?_)
  refine RX.pure (.none rfl) rfl rfl (p_move rfl) ?_
  refine RX.pure (.none rfl) rfl rfl (p_eqNilPtr rfl rfl Tryd.underlying44) ?_
  refine RX.pure (.none rfl) rfl rfl (p_move rfl) ?_
  (first | refine RX.skip (.no rfl rfl rfl rfl) rfl rfl ?_ | refine RX.pure (.yes rfl rfl rfl) rfl rfl (p_move rfl) ?_)
  (first | refine RX.skip (.no rfl rfl rfl rfl) rfl rfl ?_ | refine RX.pure (.yes rfl rfl rfl) rfl rfl (p_eqNilPtr rfl rfl Tryd.underlying44) ?_)
  (first | refine RX.pure (.none rfl) rfl rfl (p_pickT rfl rfl) ?_ | refine RX.pure (.none rfl) rfl rfl (p_pickF rfl rfl) ?_)
  refine RX.nil ?_
  refine WP.condF rfl (WP.skip ?_)
  refine WP.heap [HO, HW, []] rfl ?_
  refine WP.sregion ?_
  refine RX.pure (.none rfl) rfl rfl (p_move rfl) ?_
  refine RX.eff (.none rfl) rfl rfl rfl (e_call [1] rfl call_22 rfl rfl (hashes_tri _ _ W rW HW hRW wl)) ?_
  rintro vW _ ⟨_, ⟨HV, rfl, hVW⟩, rfl⟩
  refine RX.pure (.none rfl) rfl rfl (p_assign rfl) ?_
  refine RX.nil ?_
  refine WP.sregion ?_
  refine RX.pure (.none rfl) rfl rfl (p_move rfl) ?_
  refine RX.eff (.none rfl) rfl rfl rfl (e_call [0] rfl call_29 rfl rfl (rspan_tri _ _ W rW HW hRW)) ?_
  rintro _ _ ⟨_, ⟨rfl, rfl⟩, rfl⟩
  refine RX.eff (.none rfl) rfl rfl rfl (e_alloc zr_53) ?_
  rintro _ _ ⟨n11, rfl, rfl⟩
  (first | refine RX.sta 0 (.none rfl) rfl rfl sz_53 rfl rfl rfl rfl _ rfl ?_ | refine RX.sta 1 (.none rfl) rfl rfl sz_53 rfl rfl rfl rfl _ rfl ?_ | refine RX.sta 2 (.none rfl) rfl rfl sz_53 rfl rfl rfl rfl _ rfl ?_ | refine RX.sta 3 (.none rfl) rfl rfl sz_53 rfl rfl rfl rfl _ rfl ?_ | refine RX.sta 4 (.none rfl) rfl rfl sz_53 rfl rfl rfl rfl _ rfl ?_ | refine RX.sta 5 (.none rfl) rfl rfl sz_53 rfl rfl rfl rfl _ rfl ?_)
  refine RX.nil ?_
  refine WP.heap [HW, HV, HO, [], [(n11, row [cu64 n, cu64 (n + hs.length)] 53)]] rfl ?_
  refine WP.cut (fun ρ S => Sub [(2, cu64 off), (10, vW), (11, .pointer (some ⟨n11, 0, none⟩))] ρ ∧ S = [HV, [(n11, row [cu64 n, cu64 (n + hs.length)] 53)]]) ?_ ?_
  · by_cases h0 : off = 0
    · subst h0
      obtain rfl : bo = n + hs.length := by omega
      have gN : Cpt.Good (nodeH K) (emptyH K) F (n + hs.length) (n + hs.length) [] := Good.nil ..
      refine WP.sdrawJ ([22], []) [4] mixed (by kernel_rfl) rfl rfl rfl ?_
      refine RJ.pure (.none rfl) rfl rfl (p_move rfl) ?_
      refine RJ.pure (.none rfl) rfl rfl (p_neInt rfl rfl) ?_
      refine RJ.say (t := 47) rfl (.bool false) (by simp) ?_
      refine RJ.pure (.none rfl) rfl rfl (p_move rfl) ?_
      (first | refine RJ.skip (.no rfl rfl rfl rfl) rfl rfl ?_ | refine RJ.pure (.yes rfl rfl rfl) rfl rfl (p_move rfl) ?_)
      (first | refine RJ.skip (.no rfl rfl rfl rfl) rfl rfl ?_ | refine RJ.pure (.yes rfl rfl rfl) rfl rfl (p_move rfl) ?_)
      (first | refine RJ.skip (.no rfl rfl rfl rfl) rfl rfl ?_ | refine RJ.eff (.yes rfl rfl rfl) rfl rfl rfl rfl (True.intro) ?_)
      (first | refine RJ.skip (.no rfl rfl rfl rfl) rfl rfl ?_ | refine RJ.eff (.yes rfl rfl rfl) rfl rfl rfl rfl (True.intro) ?_)
      (first | refine RJ.skip (.no rfl rfl rfl rfl) rfl rfl ?_ | refine RJ.pure (.yes rfl rfl rfl) rfl rfl (p_not rfl) ?_)
      (first | refine RJ.pure (.none rfl) rfl rfl (p_pickT rfl rfl) ?_ | refine RJ.pure (.none rfl) rfl rfl (p_pickF rfl rfl) ?_)
      refine RJ.pure (.none rfl) rfl rfl (p_move rfl) ?_
      (first | refine RJ.skip (.no rfl rfl rfl rfl) rfl rfl ?_ | refine RJ.pure (.yes rfl rfl rfl) rfl rfl (p_move rfl) ?_)
      (first | refine RJ.skip (.no rfl rfl rfl rfl) rfl rfl ?_ | (refine RJ.pure (.yes rfl rfl rfl) rfl rfl (p_eqInt rfl rfl) ?_; refine RJ.say (t := 57) rfl (.bool true) (by simp) ?_))
      (first | refine RJ.skip (.no rfl rfl rfl rfl) rfl rfl ?_ | refine RJ.pure (.yes rfl rfl rfl) rfl rfl (p_move rfl) ?_)
      (first | refine RJ.skip (.no rfl rfl rfl rfl) rfl rfl ?_ | refine RJ.pure (.yes rfl rfl rfl) rfl rfl (p_move rfl) ?_)
      (first | refine RJ.skip (.no rfl rfl rfl rfl) rfl rfl ?_ | refine RJ.pure (.yes rfl rfl rfl) rfl rfl (p_move rfl) ?_)
      (first | refine RJ.skip (.no rfl rfl rfl rfl) rfl rfl ?_ | (refine RJ.eff (.yes rfl rfl rfl) rfl rfl rfl rfl (e_call [0, 2] rfl call_27 rfl rfl (join_tri K hK F n (n + hs.length) (n + hs.length) W [] rW rO HW HO hRW hRO gW gN (by omega))) ?_; rintro _ _ ⟨_, ⟨rfl, HW2, rfl, hRW2⟩, rfl⟩; refine RJ.heap [HW2, HO, HV, []] rfl ?_; have hRW3 : RAt n (n + hs.length) W rW HW2 := hRW2))
      (first | refine RJ.skip (.no rfl rfl rfl rfl) rfl rfl ?_ | refine RJ.pure (.yes rfl rfl rfl) rfl rfl (p_neNilIface rfl (by first | exact .inl rfl | exact .inr ⟨_, _, rfl⟩ | assumption) Tryd.underlying34) ?_)
      (first | refine RJ.skip (.no rfl rfl rfl rfl) rfl rfl ?_ | refine RJ.pure (.yes rfl rfl rfl) rfl rfl (p_pickT rfl rfl) ?_ | refine RJ.pure (.yes rfl rfl rfl) rfl rfl (p_pickF rfl rfl) ?_)
      (first | refine RJ.pure (.none rfl) rfl rfl (p_pickT rfl rfl) ?_ | refine RJ.pure (.none rfl) rfl rfl (p_pickF rfl rfl) ?_)
      refine RJ.pure (.none rfl) rfl rfl (p_move rfl) ?_
      (first | refine RJ.skip (.no rfl rfl rfl rfl) rfl rfl ?_ | refine RJ.pure (.yes rfl rfl rfl) rfl rfl (p_move rfl) ?_)
      (first | refine RJ.skip (.no rfl rfl rfl rfl) rfl rfl ?_ | (refine RJ.eff (.yes rfl rfl rfl) rfl rfl rfl rfl (e_call [0] rfl call_29 rfl rfl (rspan_tri _ _ W rW HW2 hRW3)) ?_; rintro _ _ ⟨_, ⟨rfl, rfl⟩, rfl⟩; refine RJ.heap [HW2, HO, HV, []] rfl ?_))
      (first | refine RJ.skip (.no rfl rfl rfl rfl) rfl rfl ?_ | refine RJ.stab (.yes rfl rfl rfl) rfl rfl (r_loadA (vs := [cu64 n, cu64 (n + hs.length)]) rfl ag_53 (RdN.own 0 rfl rfl) rfl) ?_)
      (first | refine RJ.skip (.no rfl rfl rfl rfl) rfl rfl ?_ | (refine RJ.pure (.yes rfl rfl rfl) rfl rfl (p_neDeep rfl rfl sp_wide sdk sdk sp_guard) ?_; refine RJ.say (t := 69) rfl (.bool false) (by simp) ?_))
      (first | refine RJ.pure (.none rfl) rfl rfl (p_pickT rfl rfl) ?_ | refine RJ.pure (.none rfl) rfl rfl (p_pickF rfl rfl) ?_)
      refine RJ.pure (.none rfl) rfl rfl (p_move rfl) ?_
      (first | refine RJ.skip (.no rfl rfl rfl rfl) rfl rfl ?_ | refine RJ.pure (.yes rfl rfl rfl) rfl rfl (p_move rfl) ?_)
      (first | refine RJ.skip (.no rfl rfl rfl rfl) rfl rfl ?_ | (refine RJ.eff (.yes rfl rfl rfl) rfl rfl rfl rfl (e_call [0] rfl call_22 rfl rfl (hashes_tri _ _ W rW HW2 hRW3 wl)) ?_; rintro _ _ ⟨_, ⟨Ha, rfl, hVa⟩, rfl⟩; refine RJ.heap [HW2, Ha, HO, HV, []] rfl ?_))
      (first | refine RJ.skip (.no rfl rfl rfl rfl) rfl rfl ?_ | refine RJ.pure (.yes rfl rfl rfl) rfl rfl (p_move rfl) ?_)
      (first | refine RJ.skip (.no rfl rfl rfl rfl) rfl rfl ?_ | (refine RJ.eff (.yes rfl rfl rfl) rfl rfl rfl rfl (e_call [1, 3] rfl call_30 rfl rfl (same_tri _ _ _ Ha HV hVa.held hVW.held)) ?_; rintro _ _ ⟨_, ⟨rfl, rfl⟩, rfl⟩; refine RJ.heap [Ha, HV, HW2, HO, []] rfl ?_))
      (first | refine RJ.skip (.no rfl rfl rfl rfl) rfl rfl ?_ | refine RJ.pure (.yes rfl rfl rfl) rfl rfl (p_not rfl) ?_)
      (first | refine RJ.pure (.none rfl) rfl rfl (p_pickT rfl rfl) ?_ | refine RJ.pure (.none rfl) rfl rfl (p_pickF rfl rfl) ?_)
      refine RJ.nil ?_
      refine WP.condF rfl ?_
      refine WP.only (T := [HV, [(n11, row [cu64 n, cu64 (n + hs.length)] 53)]]) [1, 5] rfl rfl ?_
      refine WP.skip ?_
      refine cq_normal ⟨?_, rfl⟩
      repeat (first | exact Sub.nil | refine Sub.cons rfl ?_)
    · have hne : bo ≠ n + hs.length := by omega
      refine WP.sdrawJ ([22], []) [4] mixed (by kernel_rfl) rfl rfl rfl ?_
      refine RJ.pure (.none rfl) rfl rfl (p_move rfl) ?_
      refine RJ.pure (.none rfl) rfl rfl (p_neInt rfl rfl) ?_
      refine RJ.say (t := 47) rfl (.bool true) (by rw [decide_eq_true]; omega) ?_
      refine RJ.pure (.none rfl) rfl rfl (p_move rfl) ?_
      (first | refine RJ.skip (.no rfl rfl rfl rfl) rfl rfl ?_ | refine RJ.pure (.yes rfl rfl rfl) rfl rfl (p_move rfl) ?_)
      (first | refine RJ.skip (.no rfl rfl rfl rfl) rfl rfl ?_ | refine RJ.pure (.yes rfl rfl rfl) rfl rfl (p_move rfl) ?_)
      (first | refine RJ.skip (.no rfl rfl rfl rfl) rfl rfl ?_ | (refine RJ.eff (.yes rfl rfl rfl) rfl rfl rfl rfl (e_call [0, 2] rfl call_27 rfl rfl (join_err hS n (n + hs.length) bo bo W [] rW rO HW HO hRW hRO hne)) ?_; rintro _ _ ⟨_, ⟨rfl, rfl⟩, rfl⟩; refine RJ.heap [HW, HO, HV, []] rfl ?_))
      (first | refine RJ.skip (.no rfl rfl rfl rfl) rfl rfl ?_ | (refine RJ.eff (.yes rfl rfl rfl) rfl rfl rfl rfl (e_call [] rfl call_33 rfl rfl (is2_tri hS)) ?_; rintro _ _ ⟨_, ⟨rfl, rfl⟩, rfl⟩; refine RJ.heap [HW, HO, HV, []] rfl ?_))
      (first | refine RJ.skip (.no rfl rfl rfl rfl) rfl rfl ?_ | refine RJ.pure (.yes rfl rfl rfl) rfl rfl (p_not rfl) ?_)
      (first | refine RJ.pure (.none rfl) rfl rfl (p_pickT rfl rfl) ?_ | refine RJ.pure (.none rfl) rfl rfl (p_pickF rfl rfl) ?_)
      refine RJ.pure (.none rfl) rfl rfl (p_move rfl) ?_
      (first | refine RJ.skip (.no rfl rfl rfl rfl) rfl rfl ?_ | refine RJ.pure (.yes rfl rfl rfl) rfl rfl (p_move rfl) ?_)
      (first | refine RJ.skip (.no rfl rfl rfl rfl) rfl rfl ?_ | (refine RJ.pure (.yes rfl rfl rfl) rfl rfl (p_eqInt rfl rfl) ?_; refine RJ.say (t := 57) rfl (.bool false) (by rw [decide_eq_false]; omega) ?_))
      (first | refine RJ.skip (.no rfl rfl rfl rfl) rfl rfl ?_ | refine RJ.pure (.yes rfl rfl rfl) rfl rfl (p_move rfl) ?_)
      (first | refine RJ.skip (.no rfl rfl rfl rfl) rfl rfl ?_ | refine RJ.pure (.yes rfl rfl rfl) rfl rfl (p_move rfl) ?_)
      (first | refine RJ.skip (.no rfl rfl rfl rfl) rfl rfl ?_ | refine RJ.pure (.yes rfl rfl rfl) rfl rfl (p_move rfl) ?_)
      (first | refine RJ.skip (.no rfl rfl rfl rfl) rfl rfl ?_ | refine RJ.eff (.yes rfl rfl rfl) rfl rfl rfl rfl (True.intro) ?_)
      (first | refine RJ.skip (.no rfl rfl rfl rfl) rfl rfl ?_ | refine RJ.pure (.yes rfl rfl rfl) rfl rfl (p_neNilIface rfl (by first | exact .inl rfl | exact .inr ⟨_, _, rfl⟩ | assumption) Tryd.underlying34) ?_)
      (first | refine RJ.skip (.no rfl rfl rfl rfl) rfl rfl ?_ | refine RJ.pure (.yes rfl rfl rfl) rfl rfl (p_pickT rfl rfl) ?_ | refine RJ.pure (.yes rfl rfl rfl) rfl rfl (p_pickF rfl rfl) ?_)
      (first | refine RJ.pure (.none rfl) rfl rfl (p_pickT rfl rfl) ?_ | refine RJ.pure (.none rfl) rfl rfl (p_pickF rfl rfl) ?_)
      refine RJ.pure (.none rfl) rfl rfl (p_move rfl) ?_
      (first | refine RJ.skip (.no rfl rfl rfl rfl) rfl rfl ?_ | refine RJ.pure (.yes rfl rfl rfl) rfl rfl (p_move rfl) ?_)
      (first | refine RJ.skip (.no rfl rfl rfl rfl) rfl rfl ?_ | (refine RJ.eff (.yes rfl rfl rfl) rfl rfl rfl rfl (e_call [0] rfl call_29 rfl rfl (rspan_tri _ _ W rW HW hRW)) ?_; rintro _ _ ⟨_, ⟨rfl, rfl⟩, rfl⟩; refine RJ.heap [HW, HO, HV, []] rfl ?_))
      (first | refine RJ.skip (.no rfl rfl rfl rfl) rfl rfl ?_ | refine RJ.stab (.yes rfl rfl rfl) rfl rfl (r_loadA (vs := [cu64 n, cu64 (n + hs.length)]) rfl ag_53 (RdN.own 0 rfl rfl) rfl) ?_)
      (first | refine RJ.skip (.no rfl rfl rfl rfl) rfl rfl ?_ | (refine RJ.pure (.yes rfl rfl rfl) rfl rfl (p_neDeep rfl rfl sp_wide sdk sdk sp_guard) ?_; refine RJ.say (t := 69) rfl (.bool false) (by simp) ?_))
      (first | refine RJ.pure (.none rfl) rfl rfl (p_pickT rfl rfl) ?_ | refine RJ.pure (.none rfl) rfl rfl (p_pickF rfl rfl) ?_)
      refine RJ.pure (.none rfl) rfl rfl (p_move rfl) ?_
      (first | refine RJ.skip (.no rfl rfl rfl rfl) rfl rfl ?_ | refine RJ.pure (.yes rfl rfl rfl) rfl rfl (p_move rfl) ?_)
      (first | refine RJ.skip (.no rfl rfl rfl rfl) rfl rfl ?_ | (refine RJ.eff (.yes rfl rfl rfl) rfl rfl rfl rfl (e_call [0] rfl call_22 rfl rfl (hashes_tri _ _ W rW HW hRW wl)) ?_; rintro _ _ ⟨_, ⟨Ha, rfl, hVa⟩, rfl⟩; refine RJ.heap [HW, Ha, HO, HV, []] rfl ?_))
      (first | refine RJ.skip (.no rfl rfl rfl rfl) rfl rfl ?_ | refine RJ.pure (.yes rfl rfl rfl) rfl rfl (p_move rfl) ?_)
      (first | refine RJ.skip (.no rfl rfl rfl rfl) rfl rfl ?_ | (refine RJ.eff (.yes rfl rfl rfl) rfl rfl rfl rfl (e_call [1, 3] rfl call_30 rfl rfl (same_tri _ _ _ Ha HV hVa.held hVW.held)) ?_; rintro _ _ ⟨_, ⟨rfl, rfl⟩, rfl⟩; refine RJ.heap [Ha, HV, HW, HO, []] rfl ?_))
      (first | refine RJ.skip (.no rfl rfl rfl rfl) rfl rfl ?_ | refine RJ.pure (.yes rfl rfl rfl) rfl rfl (p_not rfl) ?_)
      (first | refine RJ.pure (.none rfl) rfl rfl (p_pickT rfl rfl) ?_ | refine RJ.pure (.none rfl) rfl rfl (p_pickF rfl rfl) ?_)
      refine RJ.nil ?_
      refine WP.condF rfl ?_
      refine WP.only (T := [HV, [(n11, row [cu64 n, cu64 (n + hs.length)] 53)]]) [1, 5] rfl rfl ?_
      refine WP.skip ?_
      refine cq_normal ⟨?_, rfl⟩
      repeat (first | exact Sub.nil | refine Sub.cons rfl ?_)
  rintro ρ S ⟨hρ, rfl⟩
  refine WP.sub hρ ?_
  clear hρ
  refine WP.cut (fun ρ S => Sub [(2, cu64 off), (12, .pointer none), (13, E A 1)] ρ) ?_ ?_
  · have hbnd : (W.reverse.map (fun x : Tr => x.h)).length ≤ 1000000 := by simpa using wl
    have tL : ∀ (v : Value) (HP : Hp), Vec 32 32 hC (W.reverse.map (fun x : Tr => x.h) ++ [hA]) v HP → Tri Tryd.prog w0 28 #[sAgg n (n + hs.length), v] [HP] (fun u S' => u = .tuple #[.pointer none, E A 1] ∧ S' = [HP]) := fun v HP hV => load_short hS hD n (n + hs.length) _ v HP hV.held (by omega) (by omega) (by rw [List.length_append, hcl]; simp)
    refine WP.drawA ([0], []) [1] _ rfl mixed (by kernel_rfl) rfl rfl rfl ?_
    refine RXA.free 0 (by kernel_rfl) rfl rfl ?_
    refine RJ.stab (.none rfl) rfl rfl (r_loadA (vs := [cu64 n, cu64 (n + hs.length)]) rfl ag_53 (RdN.own 0 rfl rfl) rfl) ?_
    refine RJ.nil ?_
    refine RXA.free 2 (by kernel_rfl) rfl rfl ?_
    refine RJ.pure (.none rfl) rfl rfl (p_move rfl) ?_
    refine RJ.nil ?_
    refine RXA.free 4 (by kernel_rfl) rfl rfl ?_
    refine RJ.pure (.none rfl) rfl rfl (p_buildA zr_32 ar_32 rfl rfl) ?_
    refine RJ.say (t := 83) rfl (hV hA) rfl ?_
    refine RJ.nil ?_
    refine RXA.two 1 5 (by kernel_rfl) rfl rfl rfl rfl ?_ ?_
    · refine RJ.eff (.none rfl) rfl rfl rfl rfl (e_buildSlice0 sl_24) ?_
      rintro _ _ ⟨n80, rfl, rfl⟩
      refine RJ.nil ?_
      refine RXA.two 3 5 (by kernel_rfl) rfl rfl rfl rfl ?_ ?_
      · refine RJ.eff (.none rfl) rfl rfl rfl rfl (e_append (enc := hC) (xs := []) (ys := W.reverse.map (fun x : Tr => x.h)) 1 rfl rfl sl_24 zr_32 rfl (by decide) by_32 (uniH _) (uniH _) (fun y _ => hC_ones y) (.inr ⟨n80, 0, [], rfl, rfl, by simp, by simp, by simp⟩) rfl (hVW.rd (i := 0) rfl) (by simp at hbnd ⊢; omega) (by simp [maxLen] at hbnd ⊢; omega)) ?_
        rintro _ _ ⟨HA, hVA, rfl⟩
        refine RJ.nil ?_
        refine RXA.free 5 (by kernel_rfl) rfl rfl ?_
        refine RJ.eff (.none rfl) rfl rfl rfl rfl (e_buildSlice sl_24 zr_32 rfl (by decide) (by decide) rfl rfl (fill_one rfl (hC_len hA))) ?_
        rintro _ _ ⟨n84, rfl, rfl⟩
        refine RJ.nil ?_
        refine RXA.free 6 (by kernel_rfl) rfl rfl ?_
        refine RJ.eff (.none rfl) rfl rfl rfl rfl (e_append (enc := hC) (ys := [hA]) 1 rfl rfl sl_24 zr_32 rfl (by decide) by_32 (uniH _) (uniH _) (fun y _ => hC_ones y) hVA rfl (.inr ⟨_, _, rfl, RdN.own 2 rfl (by rw [List.flatMap_singleton]; exact take_all')⟩) (by simp at hbnd ⊢; omega) (by simp [maxLen] at hbnd ⊢; omega)) ?_
        rintro _ _ ⟨HA', hVA', rfl⟩
        refine RJ.nil ?_
        refine RXA.free 7 (by kernel_rfl) rfl rfl ?_
        refine RJ.eff (.none rfl) rfl rfl rfl rfl (e_call [1] rfl call_28 rfl rfl (tL _ HA' hVA')) ?_
        rintro _ _ ⟨_, ⟨rfl, rfl⟩, rfl⟩
        refine RJ.nil ?_
        refine RXA.free 8 (by kernel_rfl) rfl rfl ?_
        refine RJ.pure (.none rfl) rfl rfl (p_move rfl) ?_
        refine RJ.nil ?_
        refine RXA.free 9 (by kernel_rfl) rfl rfl ?_
        refine RJ.pure (.none rfl) rfl rfl (p_extract rfl rfl) ?_
        refine RJ.nil ?_
        refine RXA.free 10 (by kernel_rfl) rfl rfl ?_
        refine RJ.pure (.none rfl) rfl rfl (p_extract rfl rfl) ?_
        refine RJ.nil ?_
        refine RXA.free 11 (by kernel_rfl) rfl rfl ?_
        refine RJ.pure (.none rfl) rfl rfl (p_assign rfl) ?_
        refine RJ.nil ?_
        refine RXA.free 12 (by kernel_rfl) rfl rfl ?_
        refine RJ.pure (.none rfl) rfl rfl (p_assign rfl) ?_
        refine RJ.nil ?_
        refine RXA.nil ?_
        refine cq_normal ?_
        repeat (first | exact Sub.nil | refine Sub.cons rfl ?_)
      · refine RJ.eff (.none rfl) rfl rfl rfl rfl (e_buildSlice sl_24 zr_32 rfl (by decide) (by decide) rfl rfl (fill_one rfl (hC_len hA))) ?_
        rintro _ _ ⟨n84, rfl, rfl⟩
        refine RJ.nil ?_
        refine RXA.free 3 (by kernel_rfl) rfl rfl ?_
        refine RJ.eff (.none rfl) rfl rfl rfl rfl (e_append (enc := hC) (xs := []) (ys := W.reverse.map (fun x : Tr => x.h)) 1 rfl rfl sl_24 zr_32 rfl (by decide) by_32 (uniH _) (uniH _) (fun y _ => hC_ones y) (.inr ⟨n80, 0, [], rfl, rfl, by simp, by simp, by simp⟩) rfl (hVW.rd (i := 0) rfl) (by simp at hbnd ⊢; omega) (by simp [maxLen] at hbnd ⊢; omega)) ?_
        rintro _ _ ⟨HA, hVA, rfl⟩
        refine RJ.nil ?_
        refine RXA.free 6 (by kernel_rfl) rfl rfl ?_
        refine RJ.eff (.none rfl) rfl rfl rfl rfl (e_append (enc := hC) (ys := [hA]) 1 rfl rfl sl_24 zr_32 rfl (by decide) by_32 (uniH _) (uniH _) (fun y _ => hC_ones y) hVA rfl (.inr ⟨_, _, rfl, RdN.own 2 rfl (by rw [List.flatMap_singleton]; exact take_all')⟩) (by simp at hbnd ⊢; omega) (by simp [maxLen] at hbnd ⊢; omega)) ?_
        rintro _ _ ⟨HA', hVA', rfl⟩
        refine RJ.nil ?_
        refine RXA.free 7 (by kernel_rfl) rfl rfl ?_
        refine RJ.eff (.none rfl) rfl rfl rfl rfl (e_call [1] rfl call_28 rfl rfl (tL _ HA' hVA')) ?_
        rintro _ _ ⟨_, ⟨rfl, rfl⟩, rfl⟩
        refine RJ.nil ?_
        refine RXA.free 8 (by kernel_rfl) rfl rfl ?_
        refine RJ.pure (.none rfl) rfl rfl (p_move rfl) ?_
        refine RJ.nil ?_
        refine RXA.free 9 (by kernel_rfl) rfl rfl ?_
        refine RJ.pure (.none rfl) rfl rfl (p_extract rfl rfl) ?_
        refine RJ.nil ?_
        refine RXA.free 10 (by kernel_rfl) rfl rfl ?_
        refine RJ.pure (.none rfl) rfl rfl (p_extract rfl rfl) ?_
        refine RJ.nil ?_
        refine RXA.free 11 (by kernel_rfl) rfl rfl ?_
        refine RJ.pure (.none rfl) rfl rfl (p_assign rfl) ?_
        refine RJ.nil ?_
        refine RXA.free 12 (by kernel_rfl) rfl rfl ?_
        refine RJ.pure (.none rfl) rfl rfl (p_assign rfl) ?_
        refine RJ.nil ?_
        refine RXA.nil ?_
        refine cq_normal ?_
        repeat (first | exact Sub.nil | refine Sub.cons rfl ?_)
    · refine RJ.eff (.none rfl) rfl rfl rfl rfl (e_buildSlice sl_24 zr_32 rfl (by decide) (by decide) rfl rfl (fill_one rfl (hC_len hA))) ?_
      rintro _ _ ⟨n84, rfl, rfl⟩
      refine RJ.nil ?_
      refine RXA.free 1 (by kernel_rfl) rfl rfl ?_
      refine RJ.eff (.none rfl) rfl rfl rfl rfl (e_buildSlice0 sl_24) ?_
      rintro _ _ ⟨n80, rfl, rfl⟩
      refine RJ.nil ?_
      refine RXA.free 3 (by kernel_rfl) rfl rfl ?_
      refine RJ.eff (.none rfl) rfl rfl rfl rfl (e_append (enc := hC) (xs := []) (ys := W.reverse.map (fun x : Tr => x.h)) 2 rfl rfl sl_24 zr_32 rfl (by decide) by_32 (uniH _) (uniH _) (fun y _ => hC_ones y) (.inr ⟨n80, 0, [], rfl, rfl, by simp, by simp, by simp⟩) rfl (hVW.rd (i := 0) rfl) (by simp at hbnd ⊢; omega) (by simp [maxLen] at hbnd ⊢; omega)) ?_
      rintro _ _ ⟨HA, hVA, rfl⟩
      refine RJ.nil ?_
      refine RXA.free 6 (by kernel_rfl) rfl rfl ?_
      refine RJ.eff (.none rfl) rfl rfl rfl rfl (e_append (enc := hC) (ys := [hA]) 2 rfl rfl sl_24 zr_32 rfl (by decide) by_32 (uniH _) (uniH _) (fun y _ => hC_ones y) hVA rfl (.inr ⟨_, _, rfl, RdN.own 1 rfl (by rw [List.flatMap_singleton]; exact take_all')⟩) (by simp at hbnd ⊢; omega) (by simp [maxLen] at hbnd ⊢; omega)) ?_
      rintro _ _ ⟨HA', hVA', rfl⟩
      refine RJ.nil ?_
      refine RXA.free 7 (by kernel_rfl) rfl rfl ?_
      refine RJ.eff (.none rfl) rfl rfl rfl rfl (e_call [2] rfl call_28 rfl rfl (tL _ HA' hVA')) ?_
      rintro _ _ ⟨_, ⟨rfl, rfl⟩, rfl⟩
      refine RJ.nil ?_
      refine RXA.free 8 (by kernel_rfl) rfl rfl ?_
      refine RJ.pure (.none rfl) rfl rfl (p_move rfl) ?_
      refine RJ.nil ?_
      refine RXA.free 9 (by kernel_rfl) rfl rfl ?_
      refine RJ.pure (.none rfl) rfl rfl (p_extract rfl rfl) ?_
      refine RJ.nil ?_
      refine RXA.free 10 (by kernel_rfl) rfl rfl ?_
      refine RJ.pure (.none rfl) rfl rfl (p_extract rfl rfl) ?_
      refine RJ.nil ?_
      refine RXA.free 11 (by kernel_rfl) rfl rfl ?_
      refine RJ.pure (.none rfl) rfl rfl (p_assign rfl) ?_
      refine RJ.nil ?_
      refine RXA.free 12 (by kernel_rfl) rfl rfl ?_
      refine RJ.pure (.none rfl) rfl rfl (p_assign rfl) ?_
      refine RJ.nil ?_
      refine RXA.nil ?_
      refine cq_normal ?_
      repeat (first | exact Sub.nil | refine Sub.cons rfl ?_)
  rintro ρ S hρ
  refine WP.sub hρ ?_
  clear hρ
  refine WP.take 0 ?_
  refine WP.heap [] rfl ?_
  refine WP.seq (WP.sregion ?_)
  refine RX.pure (.none rfl) rfl rfl (p_move rfl) ?_
  refine RX.pure (.none rfl) rfl rfl (p_neNilPtr rfl rfl Tryd.underlying44) ?_
  refine RX.pure (.none rfl) rfl rfl (p_move rfl) ?_
  (first | refine RX.skip (.no rfl rfl rfl rfl) rfl rfl ?_ | refine RX.pure (.yes rfl rfl rfl) rfl rfl (p_move rfl) ?_)
  (first | refine RX.skip (.no rfl rfl rfl rfl) rfl rfl ?_ | (refine RX.eff (.yes rfl rfl rfl) rfl rfl rfl (e_call [] rfl call_33 rfl rfl (is2_tri hS)) ?_; rintro _ _ ⟨_, ⟨rfl, rfl⟩, rfl⟩))
  (first | refine RX.skip (.no rfl rfl rfl rfl) rfl rfl ?_ | refine RX.pure (.yes rfl rfl rfl) rfl rfl (p_not rfl) ?_)
  (first | refine RX.pure (.none rfl) rfl rfl (p_pickT rfl rfl) ?_ | refine RX.pure (.none rfl) rfl rfl (p_pickF rfl rfl) ?_)
  refine RX.nil ?_
  refine WP.condF rfl (WP.skip ?_)
  have hR5 : (loadF (coverF 9223372036854775807 9223372036854775808) [u5]).reverse = [(⟨0, 9223372036854775807, u5⟩ : Tr)] := by rw [cover_last]; rfl
  refine WP.sregion ?_
  refine RX.pure (.none rfl) rfl rfl (p_buildS zr_53 pl_53 rfl rfl) ?_
  refine RX.say (t := 97) rfl (sAgg 9223372036854775807 9223372036854775808) rfl ?_
  refine RX.pure (.none rfl) rfl rfl (p_buildA zr_32 ar_32 rfl rfl) ?_
  refine RX.say (t := 98) rfl (hV u5) rfl ?_
  refine RX.eff (.none rfl) rfl rfl rfl (e_buildSlice sl_24 zr_32 rfl (by decide) (by decide) rfl rfl (fill_one rfl (hC_len u5))) ?_
  rintro _ _ ⟨n99, rfl, rfl⟩
  refine RX.eff (.none rfl) rfl rfl rfl (e_call [0] rfl call_28 rfl rfl (load_tri hD 9223372036854775807 9223372036854775808 [u5] _ _ (.inr ⟨_, 1, rfl, Nat.le_refl 1, by decide, fun S i hi => RdN.own i hi (by rw [List.flatMap_singleton]; exact take_all')⟩) (by decide) (by decide) (by rw [cover_last]; rfl))) ?_
  rintro _ _ ⟨_, ⟨rF, HF, rfl, rfl, hRF⟩, rfl⟩
  refine RX.pure (.none rfl) rfl rfl (p_move rfl) ?_
  refine RX.pure (.none rfl) rfl rfl (p_extract rfl rfl) ?_
  refine RX.pure (.none rfl) rfl rfl (p_extract rfl rfl) ?_
  refine RX.pure (.none rfl) rfl rfl (p_assign rfl) ?_
  refine RX.pure (.none rfl) rfl rfl (p_assign rfl) ?_
  refine RX.nil ?_
  rw [hR5] at hRF
  refine WP.only (T := [HF]) [0] rfl rfl ?_
  refine WP.seq (WP.sregion ?_)
  refine RX.pure (.none rfl) rfl rfl (p_move rfl) ?_
  refine RX.pure (.none rfl) rfl rfl (p_eqNilPtr rfl rfl Tryd.underlying44) ?_
  refine RX.pure (.none rfl) rfl rfl (p_move rfl) ?_
  (first | refine RX.skip (.no rfl rfl rfl rfl) rfl rfl ?_ | refine RX.pure (.yes rfl rfl rfl) rfl rfl (p_move rfl) ?_)
  (first | refine RX.skip (.no rfl rfl rfl rfl) rfl rfl ?_ | refine RX.pure (.yes rfl rfl rfl) rfl rfl (p_neNilIface rfl (by first | exact .inl rfl | exact .inr ⟨_, _, rfl⟩ | assumption) Tryd.underlying34) ?_)
  (first | refine RX.pure (.none rfl) rfl rfl (p_pickT rfl rfl) ?_ | refine RX.pure (.none rfl) rfl rfl (p_pickF rfl rfl) ?_)
  refine RX.pure (.none rfl) rfl rfl (p_move rfl) ?_
  (first | refine RX.skip (.no rfl rfl rfl rfl) rfl rfl ?_ | refine RX.pure (.yes rfl rfl rfl) rfl rfl (p_move rfl) ?_)
  (first | refine RX.skip (.no rfl rfl rfl rfl) rfl rfl ?_ | (refine RX.pure (.yes rfl rfl rfl) rfl rfl (p_buildA zr_32 ar_32 rfl rfl) ?_; refine RX.say (t := 111) rfl (hV u6) rfl ?_))
  (first | refine RX.skip (.no rfl rfl rfl rfl) rfl rfl ?_ | (refine RX.eff (.yes rfl rfl rfl) rfl rfl rfl (e_call [0] rfl call_20 rfl rfl (append_full hS _ _ _ u6 rF HF hRF (by decide))) ?_; rintro _ _ ⟨_, ⟨rfl, rfl⟩, rfl⟩))
  (first | refine RX.skip (.no rfl rfl rfl rfl) rfl rfl ?_ | (refine RX.eff (.yes rfl rfl rfl) rfl rfl rfl (e_call [] rfl call_33 rfl rfl (is4_tri hS)) ?_; rintro _ _ ⟨_, ⟨rfl, rfl⟩, rfl⟩))
  (first | refine RX.skip (.no rfl rfl rfl rfl) rfl rfl ?_ | refine RX.pure (.yes rfl rfl rfl) rfl rfl (p_not rfl) ?_)
  (first | refine RX.pure (.none rfl) rfl rfl (p_pickT rfl rfl) ?_ | refine RX.pure (.none rfl) rfl rfl (p_pickF rfl rfl) ?_)
  refine RX.pure (.none rfl) rfl rfl (p_move rfl) ?_
  (first | refine RX.skip (.no rfl rfl rfl rfl) rfl rfl ?_ | refine RX.pure (.yes rfl rfl rfl) rfl rfl (p_move rfl) ?_)
  (first | refine RX.skip (.no rfl rfl rfl rfl) rfl rfl ?_ | (refine RX.eff (.yes rfl rfl rfl) rfl rfl rfl (e_call [0] rfl call_22 rfl rfl (hashes_tri _ _ _ rF HF hRF (by simp))) ?_; rintro _ _ ⟨_, ⟨Hb, rfl, hVb⟩, rfl⟩))
  (first | refine RX.skip (.no rfl rfl rfl rfl) rfl rfl ?_ | (refine RX.pure (.yes rfl rfl rfl) rfl rfl (p_buildA zr_32 ar_32 rfl rfl) ?_; refine RX.say (t := 119) rfl (hV u5) rfl ?_))
  (first | refine RX.skip (.no rfl rfl rfl rfl) rfl rfl ?_ | (refine RX.eff (.yes rfl rfl rfl) rfl rfl rfl (e_buildSlice sl_24 zr_32 rfl (by decide) (by decide) rfl rfl (fill_one rfl (hC_len u5))) ?_; rintro _ _ ⟨n120, rfl, rfl⟩))
  (first | refine RX.skip (.no rfl rfl rfl rfl) rfl rfl ?_ | (refine RX.eff (.yes rfl rfl rfl) rfl rfl rfl (e_call [1, 2] rfl call_30 rfl rfl (same_tri [u5] _ _ Hb _ hVb.held (.inr ⟨_, 1, rfl, Nat.le_refl 1, by decide, fun S i hi => RdN.own i hi (by rw [List.flatMap_singleton]; exact take_all')⟩))) ?_; rintro _ _ ⟨_, ⟨rfl, rfl⟩, rfl⟩))
  (first | refine RX.skip (.no rfl rfl rfl rfl) rfl rfl ?_ | refine RX.pure (.yes rfl rfl rfl) rfl rfl (p_not rfl) ?_)
  (first | refine RX.pure (.none rfl) rfl rfl (p_pickT rfl rfl) ?_ | refine RX.pure (.none rfl) rfl rfl (p_pickF rfl rfl) ?_)
  refine RX.nil ?_
  refine WP.condF rfl (WP.skip ?_)
  refine WP.only (T := []) [] rfl rfl ?_
  refine WP.sregion ?_
  refine RX.pure (.none rfl) rfl rfl (p_move rfl) ?_
  refine RX.pure (.none rfl) rfl rfl (p_remN rfl rfl (by omega) (by decide)) ?_
  refine RX.say (t := 125) rfl (cu64 (off % 9223372036854775808)) (by simp) ?_
  refine RX.pure (.none rfl) rfl rfl (p_add rfl rfl (r := ((9223372036854775808 + off % 9223372036854775808 : Nat) : Int)) ((wr_u64 (by omega) (by omega)).trans (by omega))) ?_
  refine RX.eff (.none rfl) rfl rfl rfl (e_call [] rfl call_17 rfl rfl (new_tri _)) ?_
  rintro _ _ ⟨_, ⟨rQ, HQ, rfl, rfl, hRQ⟩, rfl⟩
  refine RX.pure (.none rfl) rfl rfl (p_assign rfl) ?_
  refine RX.nil ?_
  refine WP.sregion ?_
  refine RX.pure (.none rfl) rfl rfl (p_move rfl) ?_
  refine RX.pure (.none rfl) rfl rfl (p_neNilPtr rfl rfl Tryd.underlying44) ?_
  refine RX.pure (.none rfl) rfl rfl (p_move rfl) ?_
  (first | refine RX.skip (.no rfl rfl rfl rfl) rfl rfl ?_ | refine RX.pure (.yes rfl rfl rfl) rfl rfl (p_move rfl) ?_)
  (first | refine RX.skip (.no rfl rfl rfl rfl) rfl rfl ?_ | (refine RX.pure (.yes rfl rfl rfl) rfl rfl (p_buildA zr_32 ar_32 rfl rfl) ?_; refine RX.say (t := 132) rfl (hV u7) rfl ?_))
  (first | refine RX.skip (.no rfl rfl rfl rfl) rfl rfl ?_ | (refine RX.eff (.yes rfl rfl rfl) rfl rfl rfl (e_call [0] rfl call_20 rfl rfl (append_full hS _ _ _ u7 rQ HQ hRQ (by omega))) ?_; rintro _ _ ⟨_, ⟨rfl, rfl⟩, rfl⟩))
  (first | refine RX.skip (.no rfl rfl rfl rfl) rfl rfl ?_ | (refine RX.eff (.yes rfl rfl rfl) rfl rfl rfl (e_call [] rfl call_33 rfl rfl (is4_tri hS)) ?_; rintro _ _ ⟨_, ⟨rfl, rfl⟩, rfl⟩))
  (first | refine RX.pure (.none rfl) rfl rfl (p_pickT rfl rfl) ?_ | refine RX.pure (.none rfl) rfl rfl (p_pickF rfl rfl) ?_)
  refine RX.pure (.none rfl) rfl rfl (p_move rfl) ?_
  (first | refine RX.skip (.no rfl rfl rfl rfl) rfl rfl ?_ | refine RX.pure (.yes rfl rfl rfl) rfl rfl (p_move rfl) ?_)
  (first | refine RX.skip (.no rfl rfl rfl rfl) rfl rfl ?_ | (refine RX.eff (.yes rfl rfl rfl) rfl rfl rfl (e_call [0] rfl call_22 rfl rfl (hashes_tri _ _ _ rQ HQ hRQ (by simp))) ?_; rintro _ _ ⟨_, ⟨Hd, rfl, hVd⟩, rfl⟩; obtain ⟨pd, cd, rfl⟩ := hVd.slice))
  (first | refine RX.skip (.no rfl rfl rfl rfl) rfl rfl ?_ | refine RX.pure (.yes rfl rfl rfl) rfl rfl (p_lenSlice rfl Tryd.underlying24) ?_)
  (first | refine RX.skip (.no rfl rfl rfl rfl) rfl rfl ?_ | (refine RX.pure (.yes rfl rfl rfl) rfl rfl (p_eqInt rfl rfl) ?_; refine RX.say (t := 140) rfl (.bool true) (by simp) ?_))
  (first | refine RX.pure (.none rfl) rfl rfl (p_pickT rfl rfl) ?_ | refine RX.pure (.none rfl) rfl rfl (p_pickF rfl rfl) ?_)
  refine RX.pure (.none rfl) rfl rfl (p_move rfl) ?_
  (first | refine RX.skip (.no rfl rfl rfl rfl) rfl rfl ?_ | (refine RX.eff (.yes rfl rfl rfl) rfl rfl rfl (e_call [] rfl call_16 rfl rfl (alive_tri K hK)) ?_; rintro _ _ ⟨_, ⟨rfl, rfl⟩, rfl⟩))
  (first | refine RX.pure (.none rfl) rfl rfl (p_pickT rfl rfl) ?_ | refine RX.pure (.none rfl) rfl rfl (p_pickF rfl rfl) ?_)
  refine RX.pure (.none rfl) rfl rfl (p_assign rfl) ?_
  refine RX.nil ?_
  refine WP.ret ?_
  repeat (first | refine sq_ret ?_ | refine bk_ret ?_ | refine lq_ret ?_ | refine cq_ret ?_)
  exact fin1' 0 rfl rfl rfl ⟨rfl, rfl⟩
end
end Go.Proofs.YtigjnfmbellpjaaDoor.Cmp
