/- compact: Append, Hashes, Span, Root. -/
import Derived.Test.YtigjnfmbellpjaaDoorCMP2
set_option maxRecDepth 100000
namespace Go.Proofs.YtigjnfmbellpjaaDoor.Cmp
open Go Go.EL Go.EL.Cpt Sha Coo
theorem _root_.Go.EL.Tri.split2 {P : Program} {w0 : World} {f : FuncId} {args : Array Value} {x : Nat × Obj} {H : Hp} {R : Value → HS → Prop} (h : Tri P w0 f args [x :: H] R) : Tri P w0 f args [[x], H] R := h.pre (by simp)
section
variable {w0 : World}
theorem append_tri (K : Nat → Int) (hK : Tab w0 K) (b e : Nat) (rs : List Tr) (h : H32) (r : Nat) (H : Hp) (hR : RAt b e rs r H) (hm : ∀ x, x ∈ rs → x.may) (he : e < 9223372036854775808) (hl : rs.length ≤ 1000000) :
    Tri Tryd.prog w0 20 #[.pointer (some ⟨r, 0, none⟩), hV h] [H] (fun v S' => v = .nilIface ∧ ∃ H', S' = [H'] ∧ RAt b (e + 1) (pushR (nodeH K) rs ⟨0, e, h⟩) r H') := by
  have hR0 := hR
  obtain ⟨v, Hr, rfl, hV⟩ := hR
  refine Tri.mk Tryd.func20 rfl rfl rfl ?_
  refine WP.sregion ?_
  refine RX.eff (.none rfl) rfl rfl rfl (e_box rfl rfl) ?_
  rintro _ _ ⟨n3, rfl, rfl⟩
  refine RX.pure (.none rfl) rfl rfl (p_assign rfl) ?_
  refine RX.nil ?_
  refine WP.heap [(r, row [.bool true, cu64 b, cu64 e, v] 104) :: Hr, [(n3, row (hC h) 32)]] rfl ?_
  refine WP.open1 ?_
  refine WP.seq (WP.sregion ?_)
  refine RX.pure (.none rfl) rfl rfl (p_move rfl) ?_
  refine RX.eff (.none rfl) rfl rfl rfl (e_call [0] rfl call_48 rfl rfl (there_tri r _)) ?_
  rintro _ _ ⟨_, ⟨rfl, rfl⟩, rfl⟩
  refine RX.pure (.none rfl) rfl rfl (p_not rfl) ?_
  refine RX.nil ?_
  refine WP.condF rfl (WP.skip ?_)
  refine WP.seq (WP.sregion ?_)
  refine RX.pure (.none rfl) rfl rfl (p_move rfl) ?_
  refine RX.pure (.none rfl) rfl rfl (p_nilCheck rfl) ?_
  refine RX.pure (.none rfl) rfl rfl (p_fieldAddr rfl fa_104_1) ?_
  refine RX.pure (.none rfl) rfl rfl (p_fieldAddr rfl fa_53_1) ?_
  (first | refine RX.ld 0 (.none rfl) rfl rfl na_23 rfl rfl ?_ | refine RX.ld 1 (.none rfl) rfl rfl na_23 rfl rfl ?_ | refine RX.ld 2 (.none rfl) rfl rfl na_23 rfl rfl ?_ | refine RX.ld 3 (.none rfl) rfl rfl na_23 rfl rfl ?_ | refine RX.ld 4 (.none rfl) rfl rfl na_23 rfl rfl ?_ | refine RX.ld 5 (.none rfl) rfl rfl na_23 rfl rfl ?_)
  refine RX.pure (.none rfl) rfl rfl (p_geq rfl rfl) ?_
  refine RX.say (t := 14) rfl (.bool false) (by rw [decide_eq_false]; omega) ?_
  refine RX.nil ?_
  refine WP.condF rfl (WP.skip ?_)
  refine WP.sdraw mixed (by kernel_rfl) ?_
  refine RX.pure (.none rfl) rfl rfl (p_move rfl) ?_
  refine RX.pure (.none rfl) rfl rfl (p_move rfl) ?_
  refine RX.pure (.none rfl) rfl rfl (p_nilCheck rfl) ?_
  refine RX.pure (.none rfl) rfl rfl (p_fieldAddr rfl fa_104_1) ?_
  refine RX.pure (.none rfl) rfl rfl (p_fieldAddr rfl fa_53_1) ?_
  (first | refine RX.ld 0 (.none rfl) rfl rfl na_23 rfl rfl ?_ | refine RX.ld 1 (.none rfl) rfl rfl na_23 rfl rfl ?_ | refine RX.ld 2 (.none rfl) rfl rfl na_23 rfl rfl ?_ | refine RX.ld 3 (.none rfl) rfl rfl na_23 rfl rfl ?_ | refine RX.ld 4 (.none rfl) rfl rfl na_23 rfl rfl ?_ | refine RX.ld 5 (.none rfl) rfl rfl na_23 rfl rfl ?_)
  refine RX.pure (.none rfl) rfl rfl (p_buildS zr_58 pl_58 rfl rfl) ?_
  refine RX.lda 2 (.none rfl) rfl rfl ag_32 rfl (hC_all h) (hC_len h) ?_
  refine RX.pure (.none rfl) rfl rfl (p_buildS zr_106 pl_106 rfl (fillN 0 e h _ rfl)) ?_
  refine RX.eff (.none rfl) rfl rfl rfl (e_call [0, 1] rfl call_49 rfl rfl ((push_tri K hK b e rs ⟨0, e, h⟩ r _ hR0 hm ⟨Nat.zero_le _, he⟩ hl).split2)) ?_
  rintro _ _ ⟨_, ⟨H', rfl, hR'⟩, rfl⟩
  refine RX.nil ?_
  obtain ⟨v', Hr', rfl, hV'⟩ := hR'
  refine WP.open1 ?_
  refine WP.sregion ?_
  refine RX.pure (.none rfl) rfl rfl (p_move rfl) ?_
  refine RX.pure (.none rfl) rfl rfl (p_nilCheck rfl) ?_
  refine RX.pure (.none rfl) rfl rfl (p_fieldAddr rfl fa_104_1) ?_
  refine RX.pure (.none rfl) rfl rfl (p_fieldAddr rfl fa_53_1) ?_
  (first | refine RX.ld 0 (.none rfl) rfl rfl na_23 rfl rfl ?_ | refine RX.ld 1 (.none rfl) rfl rfl na_23 rfl rfl ?_ | refine RX.ld 2 (.none rfl) rfl rfl na_23 rfl rfl ?_ | refine RX.ld 3 (.none rfl) rfl rfl na_23 rfl rfl ?_ | refine RX.ld 4 (.none rfl) rfl rfl na_23 rfl rfl ?_ | refine RX.ld 5 (.none rfl) rfl rfl na_23 rfl rfl ?_)
  refine RX.pure (.none rfl) rfl rfl (p_add rfl rfl (r := ((e + 1 : Nat) : Int)) (wr_u64 (by omega) (by omega))) ?_
  refine RX.pure (.none rfl) rfl rfl (p_nilCheck rfl) ?_
  refine RX.pure (.none rfl) rfl rfl (p_fieldAddr rfl fa_104_1) ?_
  refine RX.pure (.none rfl) rfl rfl (p_fieldAddr rfl fa_53_1) ?_
  (first | refine RX.st 0 (.none rfl) rfl rfl sz_23 rfl rfl rfl _ rfl ?_ | refine RX.st 1 (.none rfl) rfl rfl sz_23 rfl rfl rfl _ rfl ?_ | refine RX.st 2 (.none rfl) rfl rfl sz_23 rfl rfl rfl _ rfl ?_ | refine RX.st 3 (.none rfl) rfl rfl sz_23 rfl rfl rfl _ rfl ?_ | refine RX.st 4 (.none rfl) rfl rfl sz_23 rfl rfl rfl _ rfl ?_ | refine RX.st 5 (.none rfl) rfl rfl sz_23 rfl rfl rfl _ rfl ?_)
  refine RX.nil ?_
  refine WP.sregion ?_
  refine RX.pure (.none rfl) rfl rfl (p_assign rfl) ?_
  refine RX.nil ?_
  refine WP.close1 ?_
  refine WP.ret ?_
  repeat (first | refine sq_ret ?_ | refine bk_ret ?_ | refine lq_ret ?_ | refine cq_ret ?_)
  exact fin1' 1 rfl rfl rfl ⟨rfl, _, rfl, v', Hr', rfl, hV'⟩
set_option maxHeartbeats 1000000 in
theorem hashes_tri (b e : Nat) (rs : List Tr) (r : Nat) (H : Hp) (hR : RAt b e rs r H) (hl : rs.length ≤ 1000000) :
    Tri Tryd.prog w0 22 #[.pointer (some ⟨r, 0, none⟩)] [H] (fun v S' => ∃ HV, S' = [H, HV] ∧ Vec 32 32 hC (rs.reverse.map (·.h)) v HV) := by
  obtain ⟨v, Hr, rfl, hV⟩ := hR
  obtain ⟨p, c, rfl⟩ := hV.slice
  refine Tri.mk Tryd.func22 rfl rfl rfl ?_
  refine WP.sregion ?_
  refine RX.pure (.none rfl) rfl rfl (p_assign rfl) ?_
  refine RX.nil ?_
  refine WP.open1 ?_
  refine WP.seq (WP.sregion ?_)
  refine RX.pure (.none rfl) rfl rfl (p_move rfl) ?_
  refine RX.eff (.none rfl) rfl rfl rfl (e_call [0] rfl call_48 rfl rfl (there_tri r _)) ?_
  rintro _ _ ⟨_, ⟨rfl, rfl⟩, rfl⟩
  refine RX.pure (.none rfl) rfl rfl (p_not rfl) ?_
  refine RX.nil ?_
  refine WP.condF rfl (WP.skip ?_)
  have hlen : rs.reverse.length = rs.length := List.length_reverse
  refine WP.sregion ?_
  refine RX.pure (.none rfl) rfl rfl (p_move rfl) ?_
  refine RX.pure (.none rfl) rfl rfl (p_nilCheck rfl) ?_
  refine RX.pure (.none rfl) rfl rfl (p_fieldAddr rfl fa_104_2) ?_
  (first | refine RX.ld 0 (.none rfl) rfl rfl na_102 rfl rfl ?_ | refine RX.ld 1 (.none rfl) rfl rfl na_102 rfl rfl ?_ | refine RX.ld 2 (.none rfl) rfl rfl na_102 rfl rfl ?_ | refine RX.ld 3 (.none rfl) rfl rfl na_102 rfl rfl ?_ | refine RX.ld 4 (.none rfl) rfl rfl na_102 rfl rfl ?_ | refine RX.ld 5 (.none rfl) rfl rfl na_102 rfl rfl ?_)
  refine RX.pure (.none rfl) rfl rfl (p_lenSlice rfl Tryd.underlying102) ?_
  refine RX.eff (.none rfl) rfl rfl rfl (e_makeSlice rfl rfl sl_24 zr_32 rfl (by decide) by_32 (by omega) (by omega) (by omega) (by omega)) ?_
  rintro _ _ ⟨n14, rfl, rfl⟩
  refine RX.pure (.none rfl) rfl rfl (p_assign rfl) ?_
  refine RX.nil ?_
  refine WP.heap [[(r, row [.bool true, cu64 b, cu64 e, .slice p rs.reverse.length c] 104)], Hr, [(n14, row (List.replicate rs.reverse.length [.int .u8 0, .int .u8 0, .int .u8 0, .int .u8 0, .int .u8 0, .int .u8 0, .int .u8 0, .int .u8 0, .int .u8 0, .int .u8 0, .int .u8 0, .int .u8 0, .int .u8 0, .int .u8 0, .int .u8 0, .int .u8 0, .int .u8 0, .int .u8 0, .int .u8 0, .int .u8 0, .int .u8 0, .int .u8 0, .int .u8 0, .int .u8 0, .int .u8 0, .int .u8 0, .int .u8 0, .int .u8 0, .int .u8 0, .int .u8 0, .int .u8 0, .int .u8 0]).flatten 32)]] rfl ?_
  refine WP.cut (fun ρ S => ∃ vH HV, Vec 32 32 hC (rs.reverse.map (·.h)) vH HV ∧ Sub [(3, vH)] ρ ∧ S = [[(r, row [.bool true, cu64 b, cu64 e, .slice p rs.reverse.length c] 104)], Hr, HV]) ?_ ?_
  · refine WP.sregion ?_
    refine RX.pure (.none rfl) rfl rfl (p_move rfl) ?_
    refine RX.pure (.none rfl) rfl rfl (p_nilCheck rfl) ?_
    refine RX.pure (.none rfl) rfl rfl (p_fieldAddr rfl fa_104_2) ?_
    (first | refine RX.ld 0 (.none rfl) rfl rfl na_102 rfl rfl ?_ | refine RX.ld 1 (.none rfl) rfl rfl na_102 rfl rfl ?_ | refine RX.ld 2 (.none rfl) rfl rfl na_102 rfl rfl ?_ | refine RX.ld 3 (.none rfl) rfl rfl na_102 rfl rfl ?_ | refine RX.ld 4 (.none rfl) rfl rfl na_102 rfl rfl ?_ | refine RX.ld 5 (.none rfl) rfl rfl na_102 rfl rfl ?_)
    refine RX.pure (.none rfl) rfl rfl (p_lenSlice rfl Tryd.underlying102) ?_
    refine RX.pure (.none rfl) rfl rfl (p_move rfl) ?_
    refine RX.nil ?_
    refine WP.block ?_
    refine WP.loop (fun m ρ S => ∃ (i : Nat) (vH : Value) (HV : Hp), i ≤ rs.reverse.length ∧ m = rs.reverse.length - i ∧ Vec 32 32 hC ((rs.reverse.take i).map (·.h)) vH HV ∧ Sub [(3, vH), (18, .slice p rs.reverse.length c), (19, .int .i64 (rs.reverse.length : Nat)), (20, .int .i64 (i : Nat))] ρ ∧ S = [[(r, row [.bool true, cu64 b, cu64 e, .slice p rs.reverse.length c] 104)], Hr, HV]) rs.reverse.length ?_ ?_
    · refine ⟨0, _, _, by omega, by omega, .inr ⟨n14, rs.reverse.length, (List.replicate rs.reverse.length [.int .u8 0, .int .u8 0, .int .u8 0, .int .u8 0, .int .u8 0, .int .u8 0, .int .u8 0, .int .u8 0, .int .u8 0, .int .u8 0, .int .u8 0, .int .u8 0, .int .u8 0, .int .u8 0, .int .u8 0, .int .u8 0, .int .u8 0, .int .u8 0, .int .u8 0, .int .u8 0, .int .u8 0, .int .u8 0, .int .u8 0, .int .u8 0, .int .u8 0, .int .u8 0, .int .u8 0, .int .u8 0, .int .u8 0, .int .u8 0, .int .u8 0, .int .u8 0]).flatten, rfl, rfl, by simp, by simp [maxLen]; omega, by simp [List.length_flatten]⟩, ?_, rfl⟩
      repeat (first | exact Sub.nil | refine Sub.cons rfl ?_)
    rintro m ρ S ⟨i, vH, HV, hi, rfl, hVH, hρ, rfl⟩
    refine WP.sub hρ ?_
    clear hρ
    by_cases hlt : i < rs.reverse.length
    · obtain ⟨x, hx⟩ : ∃ x, rs.reverse[i]? = some x := ⟨_, List.getElem?_eq_getElem hlt⟩
      obtain ⟨a0, c0, e1⟩ := (hV.rd (w0 := w0) (S := [Hr]) (i := 0) rfl).some (by intro e; rw [e] at hlt; simp at hlt)
      injection e1 with e1 _ e3
      subst e1; subst e3
      obtain ⟨pH, cH, rfl⟩ := hVH.slice
      have hrd : RdN w0 [[(r, row [.bool true, cu64 b, cu64 e, .slice (some a0) rs.reverse.length c] 104)], Hr, HV] (a0.add (((i : Nat) : Int).toNat * 34)) (encN x) := by
        have := (hV.rd (w0 := w0) (S := [[(r, row [.bool true, cu64 b, cu64 e, .slice (some a0) rs.reverse.length c] 104)], Hr, HV]) (i := 1) rfl).elems (uniN _) (o := 0) (n := 34) hx (encN_all x) (by decide) (encN_len x)
        simpa using this
      have htl : ((rs.reverse.take i).map (fun n : Tr => n.h)).length = i := by rw [List.length_map, List.length_take, Nat.min_eq_left hi]
      refine WP.sregion ?_
      refine RX.pure (.none rfl) rfl rfl (p_lss rfl rfl) ?_
      refine RX.say (t := 21) rfl (.bool true) (by rw [decide_eq_true]; omega) ?_
      refine RX.nil ?_
      refine WP.seq (WP.condT rfl (WP.skip ?_))
      refine sq_normal ?_
      refine WP.seq (WP.block ?_)
      refine WP.sregion ?_
      refine RX.pure (.none rfl) rfl rfl (p_idxS rfl rfl sl_102 (by omega) (by omega)) ?_
      refine RX.read (.none rfl) rfl rfl rfl (r_loadA rfl ag_106 hrd (encN_len x)) ?_
      refine RX.eff (.none rfl) rfl rfl rfl (e_alloc zr_106) ?_
      rintro _ _ ⟨n5, rfl, rfl⟩
      refine RX.sta 3 (.none rfl) rfl rfl sz_106 (encN_len x) (encN_ones x) rfl rfl (encN x) (put_all rfl) ?_
      refine RX.nil ?_
      refine WP.region ?_
      refine RX.pure (.none rfl) rfl rfl (p_move rfl) ?_
      refine RX.pure (.none rfl) rfl rfl (p_fieldAddr rfl fa_106_1) ?_
      refine RX.lda 3 (.none rfl) rfl rfl ag_32 rfl (encN_hash x) (hC_len x.h) ?_
      refine RX.eff (.none rfl) rfl rfl rfl (e_buildSlice sl_24 zr_32 rfl (by decide) (by decide) rfl rfl (fill_one rfl (hC_len x.h))) ?_
      rintro _ _ ⟨n27, rfl, rfl⟩
      refine RX.eff (.none rfl) rfl rfl rfl (e_append (enc := hC) (ys := [x.h]) 2 rfl rfl sl_24 zr_32 rfl (by decide) by_32 (uniH _) (uniH _) (fun y _ => hC_ones y) hVH rfl (.inr ⟨_, _, rfl, RdN.own 4 rfl (by rw [List.flatMap_singleton]; exact take_all')⟩) (by rw [htl]; simp; omega) (by rw [htl]; simp [maxLen]; omega)) ?_
      rintro _ _ ⟨HV', hV', rfl⟩; obtain ⟨pE', cE', rfl⟩ := hV'.slice
      refine RX.pure (.none rfl) rfl rfl (p_assign rfl) ?_
      refine RX.only [0, 1, 2] rfl rfl ?_
      refine RX.nil ?_
      refine sq_normal ?_
      refine WP.region ?_
      (first | refine RX.pure (.none rfl) rfl rfl (p_add rfl rfl (wr_i64 (by omega) (by omega))) ?_ | refine RX.pure (.none rfl) rfl rfl (p_add rfl rfl rfl) ?_)
      refine RX.pure (.none rfl) rfl rfl (p_move rfl) ?_
      refine RX.nil ?_
      refine lq_normal (rs.reverse.length - (i + 1)) (by omega) ?_
      refine ⟨i + 1, .slice pE' ((rs.reverse.take i).map (fun n : Tr => n.h) ++ [x.h]).length cE', HV', by omega, rfl, ?_, ?_, rfl⟩
      · rw [List.take_add_one, hx, List.map_append]
        exact hV'
      · repeat (first | exact Sub.nil | refine Sub.cons rfl ?_)
    · refine WP.sregion ?_
      refine RX.pure (.none rfl) rfl rfl (p_lss rfl rfl) ?_
      refine RX.say (t := 21) rfl (.bool false) (by rw [decide_eq_false]; omega) ?_
      refine RX.nil ?_
      refine WP.seq (WP.condF rfl ?_)
      refine WP.exit ?_
      repeat (first | refine sq_exit ?_ | refine bk_exit ?_ | refine lq_exit ?_ | refine cq_exit ?_ | refine bk_exit' rfl ?_)
      obtain rfl : i = rs.reverse.length := by omega
      rw [List.take_length] at hVH
      refine ⟨vH, HV, hVH, ?_, rfl⟩
      repeat (first | exact Sub.nil | refine Sub.cons rfl ?_)
  rintro ρ S ⟨vH, HV, hVH, hρ, rfl⟩
  refine WP.sub hρ ?_
  clear hρ
  refine WP.sregion ?_
  refine RX.pure (.none rfl) rfl rfl (p_move rfl) ?_
  refine RX.pure (.none rfl) rfl rfl (p_assign rfl) ?_
  refine RX.nil ?_
  refine WP.close1 ?_
  refine WP.ret ?_
  repeat (first | refine sq_ret ?_ | refine bk_ret ?_ | refine lq_ret ?_ | refine cq_ret ?_)
  exact fin1' 2 rfl rfl rfl ⟨HV, rfl, hVH⟩
theorem rspan_tri (b e : Nat) (rs : List Tr) (r : Nat) (H : Hp) (hR : RAt b e rs r H) :
    Tri Tryd.prog w0 29 #[.pointer (some ⟨r, 0, none⟩)] [H] (fun v S' => v = sAgg b e ∧ S' = [H]) := by
  obtain ⟨v, Hr, rfl, hV⟩ := hR
  refine Tri.mk Tryd.func29 rfl rfl rfl ?_
  refine WP.sregion ?_
  refine RX.eff (.none rfl) rfl rfl rfl (e_alloc zr_53) ?_
  rintro _ _ ⟨n2, rfl, rfl⟩
  refine RX.nil ?_
  refine WP.open1 ?_
  refine WP.seq (WP.sregion ?_)
  refine RX.pure (.none rfl) rfl rfl (p_move rfl) ?_
  refine RX.eff (.none rfl) rfl rfl rfl (e_call [0] rfl call_48 rfl rfl (there_tri r _)) ?_
  rintro _ _ ⟨_, ⟨rfl, rfl⟩, rfl⟩
  refine RX.pure (.none rfl) rfl rfl (p_not rfl) ?_
  refine RX.nil ?_
  refine WP.condF rfl (WP.skip ?_)
  refine WP.sregion ?_
  refine RX.pure (.none rfl) rfl rfl (p_move rfl) ?_
  refine RX.pure (.none rfl) rfl rfl (p_nilCheck rfl) ?_
  refine RX.pure (.none rfl) rfl rfl (p_fieldAddr rfl fa_104_1) ?_
  (first | refine RX.lda 0 (.none rfl) rfl rfl ag_53 rfl rfl rfl ?_ | refine RX.lda 1 (.none rfl) rfl rfl ag_53 rfl rfl rfl ?_ | refine RX.lda 2 (.none rfl) rfl rfl ag_53 rfl rfl rfl ?_ | refine RX.lda 3 (.none rfl) rfl rfl ag_53 rfl rfl rfl ?_ | refine RX.lda 4 (.none rfl) rfl rfl ag_53 rfl rfl rfl ?_ | refine RX.lda 5 (.none rfl) rfl rfl ag_53 rfl rfl rfl ?_)
  (first | refine RX.sta 0 (.none rfl) rfl rfl sz_53 rfl rfl rfl rfl _ rfl ?_ | refine RX.sta 1 (.none rfl) rfl rfl sz_53 rfl rfl rfl rfl _ rfl ?_ | refine RX.sta 2 (.none rfl) rfl rfl sz_53 rfl rfl rfl rfl _ rfl ?_ | refine RX.sta 3 (.none rfl) rfl rfl sz_53 rfl rfl rfl rfl _ rfl ?_ | refine RX.sta 4 (.none rfl) rfl rfl sz_53 rfl rfl rfl rfl _ rfl ?_ | refine RX.sta 5 (.none rfl) rfl rfl sz_53 rfl rfl rfl rfl _ rfl ?_)
  refine RX.nil ?_
  refine WP.close1 ?_
  refine WP.ret ?_
  repeat (first | refine sq_ret ?_ | refine bk_ret ?_ | refine lq_ret ?_ | refine cq_ret ?_)
  exact finC1' (vs := [cu64 b, cu64 e]) 1 rfl rfl rfl ldv_53 (RdN.own 1 rfl rfl) rfl ⟨rfl, rfl⟩
end
end Go.Proofs.YtigjnfmbellpjaaDoor.Cmp
