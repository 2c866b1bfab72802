/- compact: push: a tree put behind a row. -/
import Derived.Test.YtigjnfmbellpjaaDoorCMP1
set_option maxRecDepth 100000
namespace Go.Proofs.YtigjnfmbellpjaaDoor.Cmp
open Go Go.EL Go.EL.Cpt Sha Coo
theorem may_up {x : Tr} (h : x.may) (hlt : x.lv < 63) (a : H32) : (⟨x.lv + 1, x.ix / 2, a⟩ : Tr).may := by
  obtain ⟨_, h2⟩ := h
  refine ⟨Nat.succ_le_of_lt hlt, ?_⟩
  simp only
  have : (2 : Nat) ^ (63 - x.lv) = 2 ^ (63 - (x.lv + 1)) * 2 := by rw [← Nat.pow_succ]; congr 1; omega
  omega
section
variable {w0 : World}
open Classical in
set_option maxHeartbeats 1000000 in
theorem push_tri (K : Nat → Int) (hK : Tab w0 K) (b e : Nat) (rs : List Tr) (n : Tr) (r : Nat) (H : Hp) (hR : RAt b e rs r H) (hm : ∀ x, x ∈ rs → x.may) (hn : n.may) (hl : rs.length ≤ 1000000) :
    Tri Tryd.prog w0 49 #[.pointer (some ⟨r, 0, none⟩), .agg ⟨encN n⟩] [H] (fun _ S' => ∃ H', S' = [H'] ∧ RAt b e (pushR (nodeH K) rs n) r H') := by
  obtain ⟨v, Hr, rfl, hV⟩ := hR
  refine Tri.mk Tryd.func49 rfl rfl rfl ?_
  refine WP.sregion ?_
  refine RX.eff (.none rfl) rfl rfl rfl (e_box rfl rfl) ?_
  rintro _ _ ⟨n3, rfl, rfl⟩
  refine RX.nil ?_
  refine WP.heap [(r, row [.bool true, cu64 b, cu64 e, v] 104) :: Hr, [(n3, row (encN n) 106)]] rfl ?_
  refine WP.open1 ?_
  refine WP.scope ?_
  refine WP.seq (WP.label ?_)
  refine sq_normal ?_
  refine WP.cut (fun ρ S => ∃ (rs' : List Tr) (n' : Tr) (v' : Value) (Hr' : Hp), n' :: rs' = pushR (nodeH K) rs n ∧ rs'.length ≤ 1000000 ∧ Vec 106 34 encN rs'.reverse v' Hr' ∧ Sub [(0, .pointer (some ⟨r, 0, none⟩)), (3, .pointer (some ⟨n3, 0, none⟩))] ρ ∧ S = [[(r, row [.bool true, cu64 b, cu64 e, v'] 104)], Hr', [(n3, row (encN n') 106)]]) ?_ ?_
  · refine WP.block ?_
    refine WP.loop (fun m ρ S => ∃ (rs' : List Tr) (n' : Tr) (v' : Value) (Hr' : Hp), m = rs'.length ∧ pushR (nodeH K) rs' n' = pushR (nodeH K) rs n ∧ rs'.length ≤ 1000000 ∧ (∀ x, x ∈ rs' → x.may) ∧ n'.may ∧ Vec 106 34 encN rs'.reverse v' Hr' ∧ Sub [(0, .pointer (some ⟨r, 0, none⟩)), (3, .pointer (some ⟨n3, 0, none⟩))] ρ ∧ S = [[(r, row [.bool true, cu64 b, cu64 e, v'] 104)], Hr', [(n3, row (encN n') 106)]]) rs.length ?_ ?_
    · refine ⟨rs, n, v, Hr, rfl, rfl, hl, hm, hn, hV, ?_, rfl⟩
      repeat (first | exact Sub.nil | refine Sub.cons rfl ?_)
    clear hV v Hr
    rintro m ρ S ⟨rs', n', v', Hr', rfl, hpush, hl', hm', hn', hV, hρ, rfl⟩
    refine WP.sub hρ ?_
    clear hρ
    cases rs' with
    | nil =>
      obtain ⟨p, c, rfl⟩ := hV.slice
      refine WP.seq (WP.sregion ?_)
      refine RX.pure (.none rfl) rfl rfl (p_move rfl) ?_
      refine RX.pure (.none rfl) rfl rfl (p_nilCheck rfl) ?_
      refine RX.pure (.none rfl) rfl rfl (p_fieldAddr rfl fa_104_2) ?_
      (first | refine RX.ld 0 (.none rfl) rfl rfl na_102 rfl rfl ?_ | refine RX.ld 1 (.none rfl) rfl rfl na_102 rfl rfl ?_ | refine RX.ld 2 (.none rfl) rfl rfl na_102 rfl rfl ?_ | refine RX.ld 3 (.none rfl) rfl rfl na_102 rfl rfl ?_ | refine RX.ld 4 (.none rfl) rfl rfl na_102 rfl rfl ?_ | refine RX.ld 5 (.none rfl) rfl rfl na_102 rfl rfl ?_)
      refine RX.pure (.none rfl) rfl rfl (p_lenSlice rfl Tryd.underlying102) ?_
      refine RX.pure (.none rfl) rfl rfl (p_gtr rfl rfl) ?_
      refine RX.say (t := 14) rfl (.bool false) (by rw [decide_eq_false]; simp) ?_
      refine RX.nil ?_
      refine WP.condF rfl ?_
      refine WP.exit ?_
      repeat (first | refine sq_exit ?_ | refine bk_exit ?_ | refine lq_exit ?_ | refine cq_exit ?_ | refine bk_exit' rfl ?_)
      refine ⟨[], n', _, Hr', hpush, by simp, hV, ?_, rfl⟩
      repeat (first | exact Sub.nil | refine Sub.cons rfl ?_)
    | cons x rs' =>
      rw [List.reverse_cons] at hV
      obtain ⟨p, c, e1⟩ := hV.slice
      obtain ⟨b0, rfl⟩ : ∃ b0, p = some ⟨b0, 0, none⟩ := by
        rcases hV with ⟨_, e, _⟩ | ⟨b0, cap, sp, e, _⟩
        · simp at e
        · rw [e1] at e; injection e with e; exact ⟨b0, e⟩
      subst e1
      have hxm := hm' x (List.mem_cons_self ..)
      have hll : (rs'.reverse ++ [x]).length = rs'.length + 1 := by simp
      rw [hll] at hV ⊢
      have hget : (rs'.reverse ++ [x])[rs'.length]? = some x := by simp
      have hcap : rs'.length + 1 ≤ c := by
        rcases hV with ⟨e, _⟩ | ⟨b1, cap, sp, e, _, h1, _⟩
        · cases e
        · injection e with _ _ e; subst e; simpa using h1
      simp only [List.length_cons] at hl'
      have hrd : ∀ T : HS, RdN w0 ([[(r, row [.bool true, cu64 b, cu64 e, .slice (some ⟨b0, 0, none⟩) (rs'.length + 1) c] 104)], Hr'] ++ T) ((⟨b0, 0, none⟩ : Addr).add (rs'.length * 34 + 0)) (encN x) := fun T =>
        (hV.rd (S := [[(r, row [.bool true, cu64 b, cu64 e, .slice (some ⟨b0, 0, none⟩) (rs'.length + 1) c] 104)], Hr'] ++ T) (i := 1) rfl).elems (uniN _) (n := 34) hget (encN_all x) (by decide) (encN_len x)
      refine WP.seq (WP.sregion ?_)
      refine RX.pure (.none rfl) rfl rfl (p_move rfl) ?_
      refine RX.pure (.none rfl) rfl rfl (p_nilCheck rfl) ?_
      refine RX.pure (.none rfl) rfl rfl (p_fieldAddr rfl fa_104_2) ?_
      (first | refine RX.ld 0 (.none rfl) rfl rfl na_102 rfl rfl ?_ | refine RX.ld 1 (.none rfl) rfl rfl na_102 rfl rfl ?_ | refine RX.ld 2 (.none rfl) rfl rfl na_102 rfl rfl ?_ | refine RX.ld 3 (.none rfl) rfl rfl na_102 rfl rfl ?_ | refine RX.ld 4 (.none rfl) rfl rfl na_102 rfl rfl ?_ | refine RX.ld 5 (.none rfl) rfl rfl na_102 rfl rfl ?_)
      refine RX.pure (.none rfl) rfl rfl (p_lenSlice rfl Tryd.underlying102) ?_
      refine RX.pure (.none rfl) rfl rfl (p_gtr rfl rfl) ?_
      refine RX.say (t := 14) rfl (.bool true) (by rw [decide_eq_true]; omega) ?_
      refine RX.nil ?_
      refine WP.condT rfl (WP.skip ?_)
      refine WP.block ?_
      refine WP.sdrawT ([3, 7, 8, 11], []) [0, 1] 13 rfl rfl mixed (by kernel_rfl) rfl rfl rfl rfl ?_
      refine RJ.pure (.none rfl) rfl rfl (p_move rfl) ?_
      refine RJ.pure (.none rfl) rfl rfl (p_nilCheck rfl) ?_
      refine RJ.pure (.none rfl) rfl rfl (p_fieldAddr rfl fa_104_2) ?_
      (first | refine RJ.stab (.none rfl) rfl rfl (r_load rfl na_102 (Rd.own 0 rfl rfl)) ?_ | refine RJ.stab (.none rfl) rfl rfl (r_load rfl na_102 (Rd.own 1 rfl rfl)) ?_ | refine RJ.stab (.none rfl) rfl rfl (r_load rfl na_102 (Rd.own 2 rfl rfl)) ?_ | refine RJ.stab (.none rfl) rfl rfl (r_load rfl na_102 (Rd.own 3 rfl rfl)) ?_ | refine RJ.stab (.none rfl) rfl rfl (r_load rfl na_102 (Rd.own 4 rfl rfl)) ?_ | refine RJ.stab (.none rfl) rfl rfl (r_load rfl na_102 (Rd.own 5 rfl rfl)) ?_)
      refine RJ.pure (.none rfl) rfl rfl (p_move rfl) ?_
      refine RJ.pure (.none rfl) rfl rfl (p_nilCheck rfl) ?_
      refine RJ.pure (.none rfl) rfl rfl (p_fieldAddr rfl fa_104_2) ?_
      (first | refine RJ.stab (.none rfl) rfl rfl (r_load rfl na_102 (Rd.own 0 rfl rfl)) ?_ | refine RJ.stab (.none rfl) rfl rfl (r_load rfl na_102 (Rd.own 1 rfl rfl)) ?_ | refine RJ.stab (.none rfl) rfl rfl (r_load rfl na_102 (Rd.own 2 rfl rfl)) ?_ | refine RJ.stab (.none rfl) rfl rfl (r_load rfl na_102 (Rd.own 3 rfl rfl)) ?_ | refine RJ.stab (.none rfl) rfl rfl (r_load rfl na_102 (Rd.own 4 rfl rfl)) ?_ | refine RJ.stab (.none rfl) rfl rfl (r_load rfl na_102 (Rd.own 5 rfl rfl)) ?_)
      refine RJ.pure (.none rfl) rfl rfl (p_lenSlice rfl Tryd.underlying102) ?_
      refine RJ.pure (.none rfl) rfl rfl (p_sub rfl rfl (r := ((rs'.length : Nat) : Int)) ((wr_i64 (by omega) (by omega)).trans (by omega))) ?_
      refine RJ.pure (.none rfl) rfl rfl (p_idxS rfl rfl sl_102 (by omega) (by omega)) ?_
      refine RJ.stab (.none rfl) rfl rfl (r_loadA rfl ag_106 (hrd []) (encN_len x)) ?_
      refine RJ.eff (.none rfl) rfl rfl rfl rfl (e_alloc zr_106) ?_
      rintro _ _ ⟨n4, rfl, rfl⟩
      refine RJ.nil ?_
      refine RX.sta 1 (.none rfl) rfl rfl sz_106 (encN_len x) (encN_ones x) rfl rfl (encN x) (put_all rfl) ?_
      refine RX.nil ?_
      refine WP.only [2, 3, 0, 1] rfl rfl ?_
      refine WP.sregion ?_
      refine RX.pure (.none rfl) rfl rfl (p_fieldAddr rfl fa_106_0) ?_
      refine RX.lda 3 (.none rfl) rfl rfl ag_58 rfl rfl rfl ?_
      refine RX.eff (.none rfl) rfl rfl rfl (e_call [] rfl call_70 rfl rfl (parent_may x.lv x.ix hxm.1 hxm.2)) ?_
      rintro _ _ ⟨_, ⟨rfl, rfl⟩, rfl⟩
      refine RX.pure (.none rfl) rfl rfl (p_move rfl) ?_
      refine RX.pure (.none rfl) rfl rfl (p_extract rfl rfl) ?_
      refine RX.pure (.none rfl) rfl rfl (p_extract rfl rfl) ?_
      refine RX.eff (.none rfl) rfl rfl rfl (e_alloc zr_58) ?_
      rintro _ _ ⟨n5, rfl, rfl⟩
      (first | refine RX.sta 0 (.none rfl) rfl rfl sz_58 rfl rfl rfl rfl _ rfl ?_ | refine RX.sta 1 (.none rfl) rfl rfl sz_58 rfl rfl rfl rfl _ rfl ?_ | refine RX.sta 2 (.none rfl) rfl rfl sz_58 rfl rfl rfl rfl _ rfl ?_ | refine RX.sta 3 (.none rfl) rfl rfl sz_58 rfl rfl rfl rfl _ rfl ?_ | refine RX.sta 4 (.none rfl) rfl rfl sz_58 rfl rfl rfl rfl _ rfl ?_ | refine RX.sta 5 (.none rfl) rfl rfl sz_58 rfl rfl rfl rfl _ rfl ?_)
      refine RX.pure (.none rfl) rfl rfl (p_assign rfl) ?_
      refine RX.nil ?_
      refine WP.sregion ?_
      refine RX.pure (.none rfl) rfl rfl (p_fieldAddr rfl fa_106_0) ?_
      refine RX.lda 2 (.none rfl) rfl rfl ag_58 rfl rfl rfl ?_
      refine RX.eff (.none rfl) rfl rfl rfl (e_call [] rfl call_70 rfl rfl (parent_may n'.lv n'.ix hn'.1 hn'.2)) ?_
      rintro _ _ ⟨_, ⟨rfl, rfl⟩, rfl⟩
      refine RX.pure (.none rfl) rfl rfl (p_move rfl) ?_
      refine RX.pure (.none rfl) rfl rfl (p_extract rfl rfl) ?_
      refine RX.pure (.none rfl) rfl rfl (p_extract rfl rfl) ?_
      refine RX.eff (.none rfl) rfl rfl rfl (e_alloc zr_58) ?_
      rintro _ _ ⟨n7, rfl, rfl⟩
      (first | refine RX.sta 0 (.none rfl) rfl rfl sz_58 rfl rfl rfl rfl _ rfl ?_ | refine RX.sta 1 (.none rfl) rfl rfl sz_58 rfl rfl rfl rfl _ rfl ?_ | refine RX.sta 2 (.none rfl) rfl rfl sz_58 rfl rfl rfl rfl _ rfl ?_ | refine RX.sta 3 (.none rfl) rfl rfl sz_58 rfl rfl rfl rfl _ rfl ?_ | refine RX.sta 4 (.none rfl) rfl rfl sz_58 rfl rfl rfl rfl _ rfl ?_ | refine RX.sta 5 (.none rfl) rfl rfl sz_58 rfl rfl rfl rfl _ rfl ?_)
      refine RX.pure (.none rfl) rfl rfl (p_assign rfl) ?_
      refine RX.nil ?_
      refine WP.heap [[(r, row [.bool true, cu64 b, cu64 e, .slice (some ⟨b0, 0, none⟩) (rs'.length + 1) c] 104)], Hr', [(n3, row (encN n') 106)], [(n4, row (encN x) 106)], [(n5, row [cu8 (parF x.lv x.ix).1, cu64 (parF x.lv x.ix).2.1] 58)], [(n7, row [cu8 (parF n'.lv n'.ix).1, cu64 (parF n'.lv n'.ix).2.1] 58)]] rfl ?_
      have hps := parF_sib x n'
      have hp1 : (parF x.lv x.ix).1 ≤ 255 ∧ (parF x.lv x.ix).2.1 ≤ 18446744073709551615 := by
        have h1 := hxm.1; have h2 := hxm.2; have := pow63 x.lv
        unfold parF; split <;> constructor <;> simp <;> omega
      have hp2 : (parF n'.lv n'.ix).1 ≤ 255 ∧ (parF n'.lv n'.ix).2.1 ≤ 18446744073709551615 := by
        have h1 := hn'.1; have h2 := hn'.2; have := pow63 n'.lv
        unfold parF; split <;> constructor <;> simp <;> omega
      have hgo : (parF x.lv x.ix).2.2 = true → (parF x.lv x.ix).1 = x.lv + 1 ∧ (parF x.lv x.ix).2.1 = x.ix / 2 := by
        unfold parF; split <;> simp
      generalize (parF x.lv x.ix).1 = pa at *
      generalize (parF x.lv x.ix).2.1 = pb at *
      generalize (parF x.lv x.ix).2.2 = pc at *
      generalize (parF n'.lv n'.ix).1 = qa at *
      generalize (parF n'.lv n'.ix).2.1 = qb at *
      generalize (parF n'.lv n'.ix).2.2 = qc at *
      refine WP.cut (fun ρ S => sib x n' = true ∧ Sub [(0, .pointer (some ⟨r, 0, none⟩)), (3, .pointer (some ⟨n3, 0, none⟩)), (4, .pointer (some ⟨n4, 0, none⟩)), (5, .pointer (some ⟨n5, 0, none⟩))] ρ ∧ S = [[(r, row [.bool true, cu64 b, cu64 e, .slice (some ⟨b0, 0, none⟩) (rs'.length + 1) c] 104)], Hr', [(n3, row (encN n') 106)], [(n4, row (encN x) 106)], [(n5, row [cu8 pa, cu64 pb] 58)], [(n7, row [cu8 qa, cu64 qb] 58)]]) ?_ ?_
      · refine WP.block ?_
        refine WP.cut (fun ρ S => Sub [(0, .pointer (some ⟨r, 0, none⟩)), (3, .pointer (some ⟨n3, 0, none⟩)), (4, .pointer (some ⟨n4, 0, none⟩)), (5, .pointer (some ⟨n5, 0, none⟩)), (39, .bool !(sib x n'))] ρ ∧ S = [[(r, row [.bool true, cu64 b, cu64 e, .slice (some ⟨b0, 0, none⟩) (rs'.length + 1) c] 104)], Hr', [(n3, row (encN n') 106)], [(n4, row (encN x) 106)], [(n5, row [cu8 pa, cu64 pb] 58)], [(n7, row [cu8 qa, cu64 qb] 58)]]) ?_ ?_
        · cases pc with
          | false =>
            refine WP.sregion ?_
            refine RX.pure (.none rfl) rfl rfl (p_move rfl) ?_
            refine RX.pure (.none rfl) rfl rfl (p_not rfl) ?_
            refine RX.pure (.none rfl) rfl rfl (p_assign rfl) ?_
            refine RX.nil ?_
            refine WP.condT rfl (WP.skip ?_)
            refine cq_normal ⟨?_, rfl⟩
            rw [← hps]
            repeat (first | exact Sub.nil | refine Sub.cons rfl ?_)
          | true =>
            refine WP.sregion ?_
            refine RX.pure (.none rfl) rfl rfl (p_move rfl) ?_
            refine RX.pure (.none rfl) rfl rfl (p_not rfl) ?_
            refine RX.pure (.none rfl) rfl rfl (p_assign rfl) ?_
            refine RX.nil ?_
            refine WP.condF rfl ?_
            cases qc with
            | false =>
              refine WP.sregion ?_
              refine RX.pure (.none rfl) rfl rfl (p_move rfl) ?_
              refine RX.pure (.none rfl) rfl rfl (p_not rfl) ?_
              refine RX.pure (.none rfl) rfl rfl (p_assign rfl) ?_
              refine RX.nil ?_
              refine WP.condT rfl (WP.skip ?_)
              refine cq_normal ⟨?_, rfl⟩
              rw [← hps]
              repeat (first | exact Sub.nil | refine Sub.cons rfl ?_)
            | true =>
              refine WP.sregion ?_
              refine RX.pure (.none rfl) rfl rfl (p_move rfl) ?_
              refine RX.pure (.none rfl) rfl rfl (p_not rfl) ?_
              refine RX.pure (.none rfl) rfl rfl (p_assign rfl) ?_
              refine RX.nil ?_
              refine WP.condF rfl ?_
              refine WP.region ?_
              refine RX.lda 4 (.none rfl) rfl rfl ag_58 rfl rfl rfl ?_
              refine RX.lda 5 (.none rfl) rfl rfl ag_58 rfl rfl rfl ?_
              refine RX.pure (.none rfl) rfl rfl (p_neDeep rfl rfl coord_wide (coord_dk pa pb hp1.1 hp1.2) (coord_dk qa qb hp2.1 hp2.2) coord_guard) ?_
              refine RX.say (t := 46) rfl (.bool !(sib x n')) (by rw [← hps]; congr 2; rw [Bool.eq_iff_iff, decide_eq_true_iff]; simp; omega) ?_
              refine RX.pure (.none rfl) rfl rfl (p_assign rfl) ?_
              refine RX.nil ?_
              refine cq_normal ⟨?_, rfl⟩
              repeat (first | exact Sub.nil | refine Sub.cons rfl ?_)
        rintro ρ S ⟨hρ, rfl⟩
        refine WP.sub hρ ?_
        clear hρ
        cases hs : sib x n' with
        | true =>
          refine WP.condF rfl (WP.skip ?_)
          refine bk_normal (cq_normal ⟨rfl, ?_, rfl⟩)
          repeat (first | exact Sub.nil | refine Sub.cons rfl ?_)
        | false =>
          refine WP.condT rfl ?_
          refine WP.only [0, 1, 2] rfl rfl ?_
          refine WP.exit ?_
          repeat (first | refine sq_exit ?_ | refine bk_exit ?_ | refine lq_exit ?_ | refine cq_exit ?_ | refine bk_exit' rfl ?_)
          refine ⟨x :: rs', n', _, Hr', ?_, by simpa using hl', by rw [List.reverse_cons]; exact hV, ?_, rfl⟩
          · rw [← hpush, pushR, if_neg (by rw [hs]; simp)]
          · repeat (first | exact Sub.nil | refine Sub.cons rfl ?_)
      rintro ρ S ⟨hs, hρ, rfl⟩
      refine WP.sub hρ ?_
      clear hρ
      have hpc : pc = true := by
        cases pc with
        | true => rfl
        | false => rw [hs] at hps; simp at hps
      obtain ⟨hpa, hpb⟩ := hgo hpc
      subst hpa; subst hpb
      have hxs := (sib_parts hs).1
      refine WP.sdrawT ([0], []) [4] 7 rfl rfl mixed (by kernel_rfl) rfl rfl rfl rfl ?_
      refine RJ.stab (.none rfl) rfl rfl (r_loadA (vs := [cu8 (x.lv + 1), cu64 (x.ix / 2)]) rfl ag_58 (RdN.own 0 rfl rfl) rfl) ?_
      refine RJ.pure (.none rfl) rfl rfl (p_fieldAddr rfl fa_106_1) ?_
      refine RJ.read (.none rfl) rfl rfl rfl rfl (r_loadA rfl ag_32 (RdN.own 3 rfl (by rw [hC_len x.h]; exact encN_hash x)) (hC_len x.h)) ?_
      refine RJ.pure (.none rfl) rfl rfl (p_fieldAddr rfl fa_106_1) ?_
      refine RJ.read (.none rfl) rfl rfl rfl rfl (r_loadA rfl ag_32 (RdN.own 2 rfl (by rw [hC_len n'.h]; exact encN_hash n')) (hC_len n'.h)) ?_
      refine RJ.eff (.none rfl) rfl rfl rfl rfl (e_call [] rfl call_46 rfl rfl (nodeH_tri K hK x.h n'.h)) ?_
      rintro _ _ ⟨_, ⟨rfl, rfl⟩, rfl⟩
      refine RJ.pure (.none rfl) rfl rfl (p_buildS zr_106 pl_106 rfl (fillN (x.lv + 1) (x.ix / 2) (nodeH K x.h n'.h) _ rfl)) ?_
      refine RJ.nil ?_
      refine RX.sta 2 (.none rfl) rfl rfl sz_106 (encN_len _) (encN_ones _) rfl (ble_all (encN_len n')) (encN ⟨x.lv + 1, x.ix / 2, nodeH K x.h n'.h⟩) (put_all (encN_len n')) ?_
      refine RX.nil ?_
      refine WP.only [0, 1, 2] rfl rfl ?_
      refine WP.draw mixed (by kernel_rfl) ?_
      refine RX.pure (.none rfl) rfl rfl (p_move rfl) ?_
      refine RX.pure (.none rfl) rfl rfl (p_move rfl) ?_
      refine RX.pure (.none rfl) rfl rfl (p_nilCheck rfl) ?_
      refine RX.pure (.none rfl) rfl rfl (p_fieldAddr rfl fa_104_2) ?_
      (first | refine RX.ld 0 (.none rfl) rfl rfl na_102 rfl rfl ?_ | refine RX.ld 1 (.none rfl) rfl rfl na_102 rfl rfl ?_ | refine RX.ld 2 (.none rfl) rfl rfl na_102 rfl rfl ?_ | refine RX.ld 3 (.none rfl) rfl rfl na_102 rfl rfl ?_ | refine RX.ld 4 (.none rfl) rfl rfl na_102 rfl rfl ?_ | refine RX.ld 5 (.none rfl) rfl rfl na_102 rfl rfl ?_)
      refine RX.pure (.none rfl) rfl rfl (p_move rfl) ?_
      refine RX.pure (.none rfl) rfl rfl (p_nilCheck rfl) ?_
      refine RX.pure (.none rfl) rfl rfl (p_fieldAddr rfl fa_104_2) ?_
      (first | refine RX.ld 0 (.none rfl) rfl rfl na_102 rfl rfl ?_ | refine RX.ld 1 (.none rfl) rfl rfl na_102 rfl rfl ?_ | refine RX.ld 2 (.none rfl) rfl rfl na_102 rfl rfl ?_ | refine RX.ld 3 (.none rfl) rfl rfl na_102 rfl rfl ?_ | refine RX.ld 4 (.none rfl) rfl rfl na_102 rfl rfl ?_ | refine RX.ld 5 (.none rfl) rfl rfl na_102 rfl rfl ?_)
      refine RX.pure (.none rfl) rfl rfl (p_lenSlice rfl Tryd.underlying102) ?_
      refine RX.pure (.none rfl) rfl rfl (p_sub rfl rfl (r := ((rs'.length : Nat) : Int)) ((wr_i64 (by omega) (by omega)).trans (by omega))) ?_
      refine RX.pure (.none rfl) rfl rfl (p_sliceTo rfl sl_102 rfl (by omega) (by omega)) ?_
      refine RX.pure (.none rfl) rfl rfl (p_nilCheck rfl) ?_
      refine RX.pure (.none rfl) rfl rfl (p_fieldAddr rfl fa_104_2) ?_
      (first | refine RX.st 0 (.none rfl) rfl rfl sz_102 rfl rfl rfl _ rfl ?_ | refine RX.st 1 (.none rfl) rfl rfl sz_102 rfl rfl rfl _ rfl ?_ | refine RX.st 2 (.none rfl) rfl rfl sz_102 rfl rfl rfl _ rfl ?_ | refine RX.st 3 (.none rfl) rfl rfl sz_102 rfl rfl rfl _ rfl ?_ | refine RX.st 4 (.none rfl) rfl rfl sz_102 rfl rfl rfl _ rfl ?_ | refine RX.st 5 (.none rfl) rfl rfl sz_102 rfl rfl rfl _ rfl ?_)
      refine RX.nil ?_
      refine bk_normal ?_
      refine lq_normal rs'.length (by simp) ?_
      refine ⟨rs', ⟨x.lv + 1, x.ix / 2, nodeH K x.h n'.h⟩, _, Hr', rfl, ?_, by omega, fun z hz => hm' z (List.mem_cons_of_mem _ hz), may_up hxm hxs _, ?_, ?_, rfl⟩
      · rw [← hpush]
        conv => rhs; rw [pushR, if_pos hs]
      · have := Vec.pop (encN_len x) (b := b0) (cap := c) (xs := rs'.reverse) (by simpa using hV)
        simpa using this
      · repeat (first | exact Sub.nil | refine Sub.cons rfl ?_)
  clear hV v Hr
  rintro ρ S ⟨rs', n', v, Hr, hpush, hl', hV, hρ, rfl⟩
  refine WP.sub hρ ?_
  clear hρ
  obtain ⟨p, c, rfl⟩ := hV.slice
  refine WP.drawT ([4], []) [0] 8 rfl rfl mixed (by kernel_rfl) rfl rfl rfl rfl ?_
  refine RJ.pure (.none rfl) rfl rfl (p_move rfl) ?_
  refine RJ.pure (.none rfl) rfl rfl (p_move rfl) ?_
  refine RJ.pure (.none rfl) rfl rfl (p_nilCheck rfl) ?_
  refine RJ.pure (.none rfl) rfl rfl (p_fieldAddr rfl fa_104_2) ?_
  (first | refine RJ.stab (.none rfl) rfl rfl (r_load rfl na_102 (Rd.own 0 rfl rfl)) ?_ | refine RJ.stab (.none rfl) rfl rfl (r_load rfl na_102 (Rd.own 1 rfl rfl)) ?_ | refine RJ.stab (.none rfl) rfl rfl (r_load rfl na_102 (Rd.own 2 rfl rfl)) ?_ | refine RJ.stab (.none rfl) rfl rfl (r_load rfl na_102 (Rd.own 3 rfl rfl)) ?_ | refine RJ.stab (.none rfl) rfl rfl (r_load rfl na_102 (Rd.own 4 rfl rfl)) ?_ | refine RJ.stab (.none rfl) rfl rfl (r_load rfl na_102 (Rd.own 5 rfl rfl)) ?_)
  refine RJ.read (.none rfl) rfl rfl rfl rfl (r_loadA rfl ag_106 (RdN.own 1 rfl (by simpa [encN_len] using encN_all n')) (encN_len n')) ?_
  refine RJ.eff (.none rfl) rfl rfl rfl rfl (e_buildSlice sl_102 zr_106 rfl (by decide) (by decide) rfl rfl (fill_one rfl (encN_len n'))) ?_
  rintro _ _ ⟨n74, rfl, rfl⟩
  refine RJ.eff (.none rfl) rfl rfl rfl rfl (e_append (enc := encN) (ys := [n']) 0 rfl rfl sl_102 zr_106 rfl (by decide) by_106 (uniN _) (uniN _) (fun y _ => encN_ones y) hV rfl (.inr ⟨_, _, rfl, RdN.own 2 rfl (by simp)⟩) (by simp; omega) (by simp [maxLen]; omega)) ?_
  rintro _ _ ⟨H', hV', rfl⟩; obtain ⟨pE', cE', rfl⟩ := hV'.slice
  refine RJ.nil ?_
  refine RX.pure (.none rfl) rfl rfl (p_nilCheck rfl) ?_
  refine RX.pure (.none rfl) rfl rfl (p_fieldAddr rfl fa_104_2) ?_
  (first | refine RX.st 0 (.none rfl) rfl rfl sz_102 rfl rfl rfl _ rfl ?_ | refine RX.st 1 (.none rfl) rfl rfl sz_102 rfl rfl rfl _ rfl ?_ | refine RX.st 2 (.none rfl) rfl rfl sz_102 rfl rfl rfl _ rfl ?_ | refine RX.st 3 (.none rfl) rfl rfl sz_102 rfl rfl rfl _ rfl ?_ | refine RX.st 4 (.none rfl) rfl rfl sz_102 rfl rfl rfl _ rfl ?_ | refine RX.st 5 (.none rfl) rfl rfl sz_102 rfl rfl rfl _ rfl ?_)
  refine RX.only [3, 0] rfl rfl ?_; refine RX.close1 ?_
  refine RX.nil ?_
  refine ng_normal ?_
  exact fin0' 1 rfl rfl ⟨_, rfl, _, H', rfl, by rw [← hpush]; simpa using hV'⟩
end
end Go.Proofs.YtigjnfmbellpjaaDoor.Cmp
