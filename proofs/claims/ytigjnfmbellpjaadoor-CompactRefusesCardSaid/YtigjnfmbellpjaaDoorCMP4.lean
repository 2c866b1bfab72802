/- compact: Root; the law's mth; lists of hashes compared. -/
import Derived.Test.YtigjnfmbellpjaaDoorCMP3
set_option maxRecDepth 100000
namespace Go.Proofs.YtigjnfmbellpjaaDoor.Cmp
open Go Go.EL Go.EL.Cpt Sha Coo
theorem vC_eq (h : H32) : vv (hC h) = hV h := hV_eq h
/-- the root of a row (the last tree first) -/
def rootF (K : Nat → Int) : List Tr → H32
  | [] => emptyH K
  | y :: r0 => foldR (nodeH K) y.h r0
section
variable {w0 : World}
theorem top_hash {rs : List Tr} {a : Addr} {n c i j : Nat} {Hr : Hp} {S : HS} {x : Tr} (hV : Vec 106 34 encN rs (.slice (some a) n c) Hr) (hx : rs[j]? = some x) (hi : S[i]? = some Hr) : RdN w0 S ((a.add (((j : Nat) : Int).toNat * 34)).add 2) (hC x.h) := by
  have := (hV.rd (w0 := w0) (S := S) hi).elems (uniN _) (o := 2) (n := 32) hx (encN_hash x) (by decide) (hC_len x.h)
  rw [add_add]
  simpa using this
set_option maxHeartbeats 1000000 in
theorem root_tri (K : Nat → Int) (hK : Tab w0 K) (e : Nat) (rs : List Tr) (r : Nat) (H : Hp) (hR : RAt 0 e rs r H) (hl : rs.length ≤ 1000000) :
    Tri Tryd.prog w0 18 #[.pointer (some ⟨r, 0, none⟩)] [H] (fun v S' => v = .tuple #[hV (rootF K rs), .nilIface] ∧ S' = [H]) := by
  obtain ⟨v, Hr, rfl, hV⟩ := hR
  obtain ⟨p, c, rfl⟩ := hV.slice
  refine Tri.mk Tryd.func18 rfl rfl rfl ?_
  refine WP.sregion ?_
  refine RX.eff (.none rfl) rfl rfl rfl (e_alloc zr_32) ?_
  rintro _ _ ⟨n2, rfl, rfl⟩
  refine RX.pure (.none rfl) rfl rfl (p_assign rfl) ?_
  refine RX.nil ?_
  refine WP.open1 ?_
  refine WP.seq (WP.sregion ?_)
  refine RX.pure (.none rfl) rfl rfl (p_move rfl) ?_
  refine RX.eff (.none rfl) rfl rfl rfl (e_call [0] rfl call_48 rfl rfl (there_tri r _)) ?_
  rintro _ _ ⟨_, ⟨rfl, rfl⟩, rfl⟩
  refine RX.pure (.none rfl) rfl rfl (p_not rfl) ?_
  refine RX.nil ?_
  refine WP.condF rfl (WP.skip ?_)
  refine WP.seq (WP.sregion ?_)
  refine RX.pure (.none rfl) rfl rfl (p_move rfl) ?_
  refine RX.pure (.none rfl) rfl rfl (p_nilCheck rfl) ?_
  refine RX.pure (.none rfl) rfl rfl (p_fieldAddr rfl fa_104_1) ?_
  refine RX.pure (.none rfl) rfl rfl (p_fieldAddr rfl fa_53_0) ?_
  (first | refine RX.ld 0 (.none rfl) rfl rfl na_23 rfl rfl ?_ | refine RX.ld 1 (.none rfl) rfl rfl na_23 rfl rfl ?_ | refine RX.ld 2 (.none rfl) rfl rfl na_23 rfl rfl ?_ | refine RX.ld 3 (.none rfl) rfl rfl na_23 rfl rfl ?_ | refine RX.ld 4 (.none rfl) rfl rfl na_23 rfl rfl ?_ | refine RX.ld 5 (.none rfl) rfl rfl na_23 rfl rfl ?_)
  refine RX.pure (.none rfl) rfl rfl (p_neInt rfl rfl) ?_
  refine RX.say (t := 16) rfl (.bool false) (by simp) ?_
  refine RX.nil ?_
  refine WP.condF rfl (WP.skip ?_)
  cases rs with
  | nil =>
    refine WP.seq (WP.sregion ?_)
    refine RX.pure (.none rfl) rfl rfl (p_move rfl) ?_
    refine RX.pure (.none rfl) rfl rfl (p_nilCheck rfl) ?_
    refine RX.pure (.none rfl) rfl rfl (p_fieldAddr rfl fa_104_2) ?_
    (first | refine RX.ld 0 (.none rfl) rfl rfl na_102 rfl rfl ?_ | refine RX.ld 1 (.none rfl) rfl rfl na_102 rfl rfl ?_ | refine RX.ld 2 (.none rfl) rfl rfl na_102 rfl rfl ?_ | refine RX.ld 3 (.none rfl) rfl rfl na_102 rfl rfl ?_ | refine RX.ld 4 (.none rfl) rfl rfl na_102 rfl rfl ?_ | refine RX.ld 5 (.none rfl) rfl rfl na_102 rfl rfl ?_)
    refine RX.pure (.none rfl) rfl rfl (p_lenSlice rfl Tryd.underlying102) ?_
    refine RX.pure (.none rfl) rfl rfl (p_eqInt rfl rfl) ?_
    refine RX.say (t := 24) rfl (.bool true) (by simp) ?_
    refine RX.nil ?_
    refine WP.condT rfl ?_
    refine WP.sregion ?_
    refine RX.eff (.none rfl) rfl rfl rfl (e_call [] rfl call_47 rfl rfl (emptyH_tri K hK)) ?_
    rintro _ _ ⟨_, ⟨rfl, rfl⟩, rfl⟩
    refine RX.sta 2 (.none rfl) rfl rfl sz_32 (hC_len _) (hC_ones _) rfl rfl (hC (emptyH K)) (put_all rfl) ?_
    refine RX.pure (.none rfl) rfl rfl (p_assign rfl) ?_
    refine RX.nil ?_
    refine WP.close1 ?_
    refine WP.ret ?_
    repeat (first | refine sq_ret ?_ | refine bk_ret ?_ | refine lq_ret ?_ | refine cq_ret ?_)
    exact finC2' (vs := hC (emptyH K)) 1 rfl rfl rfl ldv_32 (RdN.own 1 rfl take_all') (hC_len _) rfl ⟨by rw [rootF, vC_eq], rfl⟩
  | cons y r0 =>
    have hlen : (y :: r0).reverse.length = r0.length + 1 := by simp
    rw [hlen] at hV ⊢
    simp only [List.length_cons] at hl
    obtain ⟨a0, rfl⟩ : ∃ a0, p = some a0 := by
      rcases hV with ⟨_, e, _⟩ | ⟨b0, cap, sp, e, _⟩
      · simp at e
      · injection e with e; exact ⟨_, e⟩
    have hy : (y :: r0).reverse[r0.length]? = some y := by simp
    refine WP.seq (WP.sregion ?_)
    refine RX.pure (.none rfl) rfl rfl (p_move rfl) ?_
    refine RX.pure (.none rfl) rfl rfl (p_nilCheck rfl) ?_
    refine RX.pure (.none rfl) rfl rfl (p_fieldAddr rfl fa_104_2) ?_
    (first | refine RX.ld 0 (.none rfl) rfl rfl na_102 rfl rfl ?_ | refine RX.ld 1 (.none rfl) rfl rfl na_102 rfl rfl ?_ | refine RX.ld 2 (.none rfl) rfl rfl na_102 rfl rfl ?_ | refine RX.ld 3 (.none rfl) rfl rfl na_102 rfl rfl ?_ | refine RX.ld 4 (.none rfl) rfl rfl na_102 rfl rfl ?_ | refine RX.ld 5 (.none rfl) rfl rfl na_102 rfl rfl ?_)
    refine RX.pure (.none rfl) rfl rfl (p_lenSlice rfl Tryd.underlying102) ?_
    refine RX.pure (.none rfl) rfl rfl (p_eqInt rfl rfl) ?_
    refine RX.say (t := 24) rfl (.bool false) (by rw [decide_eq_false]; omega) ?_
    refine RX.nil ?_
    refine WP.condF rfl (WP.skip ?_)
    refine WP.sdrawT ([3, 7, 8, 12], []) [0, 1] 14 rfl rfl mixed (by kernel_rfl) rfl rfl rfl rfl ?_
    refine RJ.pure (.none rfl) rfl rfl (p_move rfl) ?_
    refine RJ.pure (.none rfl) rfl rfl (p_nilCheck rfl) ?_
    refine RJ.pure (.none rfl) rfl rfl (p_fieldAddr rfl fa_104_2) ?_
    (first | refine RJ.stab (.none rfl) rfl rfl (r_load rfl na_102 (Rd.own 0 rfl rfl)) ?_ | refine RJ.stab (.none rfl) rfl rfl (r_load rfl na_102 (Rd.own 1 rfl rfl)) ?_ | refine RJ.stab (.none rfl) rfl rfl (r_load rfl na_102 (Rd.own 2 rfl rfl)) ?_ | refine RJ.stab (.none rfl) rfl rfl (r_load rfl na_102 (Rd.own 3 rfl rfl)) ?_ | refine RJ.stab (.none rfl) rfl rfl (r_load rfl na_102 (Rd.own 4 rfl rfl)) ?_ | refine RJ.stab (.none rfl) rfl rfl (r_load rfl na_102 (Rd.own 5 rfl rfl)) ?_)
    refine RJ.pure (.none rfl) rfl rfl (p_move rfl) ?_
    refine RJ.pure (.none rfl) rfl rfl (p_nilCheck rfl) ?_
    refine RJ.pure (.none rfl) rfl rfl (p_fieldAddr rfl fa_104_2) ?_
    (first | refine RJ.stab (.none rfl) rfl rfl (r_load rfl na_102 (Rd.own 0 rfl rfl)) ?_ | refine RJ.stab (.none rfl) rfl rfl (r_load rfl na_102 (Rd.own 1 rfl rfl)) ?_ | refine RJ.stab (.none rfl) rfl rfl (r_load rfl na_102 (Rd.own 2 rfl rfl)) ?_ | refine RJ.stab (.none rfl) rfl rfl (r_load rfl na_102 (Rd.own 3 rfl rfl)) ?_ | refine RJ.stab (.none rfl) rfl rfl (r_load rfl na_102 (Rd.own 4 rfl rfl)) ?_ | refine RJ.stab (.none rfl) rfl rfl (r_load rfl na_102 (Rd.own 5 rfl rfl)) ?_)
    refine RJ.pure (.none rfl) rfl rfl (p_lenSlice rfl Tryd.underlying102) ?_
    refine RJ.pure (.none rfl) rfl rfl (p_sub rfl rfl (r := ((r0.length : Nat) : Int)) ((wr_i64 (by omega) (by omega)).trans (by omega))) ?_
    refine RJ.pure (.none rfl) rfl rfl (p_idxS rfl rfl sl_102 (by omega) (by omega)) ?_
    refine RJ.pure (.none rfl) rfl rfl (p_faddr rfl fa_106_1) ?_
    refine RJ.stab (.none rfl) rfl rfl (r_loadA rfl ag_32 (top_hash (i := 1) hV hy rfl) (hC_len y.h)) ?_
    refine RJ.eff (.none rfl) rfl rfl rfl rfl (e_alloc zr_32) ?_
    rintro _ _ ⟨n4, rfl, rfl⟩
    refine RJ.nil ?_
    refine RX.sta 1 (.none rfl) rfl rfl sz_32 (hC_len _) (hC_ones _) rfl rfl (hC y.h) (put_all rfl) ?_
    refine RX.nil ?_
    refine WP.only [2, 3, 0, 1] rfl rfl ?_
    refine WP.heap [[(r, row [.bool true, cu64 0, cu64 e, .slice (some a0) (r0.length + 1) c] 104)], Hr, [(n2, row [.int .u8 0, .int .u8 0, .int .u8 0, .int .u8 0, .int .u8 0, .int .u8 0, .int .u8 0, .int .u8 0, .int .u8 0, .int .u8 0, .int .u8 0, .int .u8 0, .int .u8 0, .int .u8 0, .int .u8 0, .int .u8 0, .int .u8 0, .int .u8 0, .int .u8 0, .int .u8 0, .int .u8 0, .int .u8 0, .int .u8 0, .int .u8 0, .int .u8 0, .int .u8 0, .int .u8 0, .int .u8 0, .int .u8 0, .int .u8 0, .int .u8 0, .int .u8 0] 32)], [(n4, row (hC y.h) 32)]] rfl ?_
    refine WP.cut (fun ρ S => Sub [(2, .pointer (some ⟨n2, 0, none⟩)), (4, .pointer (some ⟨n4, 0, none⟩))] ρ ∧ S = [[(r, row [.bool true, cu64 0, cu64 e, .slice (some a0) (r0.length + 1) c] 104)], Hr, [(n2, row [.int .u8 0, .int .u8 0, .int .u8 0, .int .u8 0, .int .u8 0, .int .u8 0, .int .u8 0, .int .u8 0, .int .u8 0, .int .u8 0, .int .u8 0, .int .u8 0, .int .u8 0, .int .u8 0, .int .u8 0, .int .u8 0, .int .u8 0, .int .u8 0, .int .u8 0, .int .u8 0, .int .u8 0, .int .u8 0, .int .u8 0, .int .u8 0, .int .u8 0, .int .u8 0, .int .u8 0, .int .u8 0, .int .u8 0, .int .u8 0, .int .u8 0, .int .u8 0] 32)], [(n4, row (hC (foldR (nodeH K) y.h r0)) 32)]]) ?_ ?_
    · refine WP.sregion ?_
      refine RX.pure (.none rfl) rfl rfl (p_move rfl) ?_
      refine RX.pure (.none rfl) rfl rfl (p_nilCheck rfl) ?_
      refine RX.pure (.none rfl) rfl rfl (p_fieldAddr rfl fa_104_2) ?_
      (first | refine RX.ld 0 (.none rfl) rfl rfl na_102 rfl rfl ?_ | refine RX.ld 1 (.none rfl) rfl rfl na_102 rfl rfl ?_ | refine RX.ld 2 (.none rfl) rfl rfl na_102 rfl rfl ?_ | refine RX.ld 3 (.none rfl) rfl rfl na_102 rfl rfl ?_ | refine RX.ld 4 (.none rfl) rfl rfl na_102 rfl rfl ?_ | refine RX.ld 5 (.none rfl) rfl rfl na_102 rfl rfl ?_)
      refine RX.pure (.none rfl) rfl rfl (p_lenSlice rfl Tryd.underlying102) ?_
      refine RX.pure (.none rfl) rfl rfl (p_sub rfl rfl (r := ((r0.length : Nat) : Int) - 1) ((wr_i64 (by omega) (by omega)).trans (by omega))) ?_
      refine RX.pure (.none rfl) rfl rfl (p_assign rfl) ?_
      refine RX.nil ?_
      refine WP.block ?_
      refine WP.loop (fun m ρ S => ∃ (pre post : List Tr) (acc : H32), m = post.length ∧ r0 = pre ++ post ∧ foldR (nodeH K) acc post = foldR (nodeH K) y.h r0 ∧ Sub [(0, .pointer (some ⟨r, 0, none⟩)), (2, .pointer (some ⟨n2, 0, none⟩)), (4, .pointer (some ⟨n4, 0, none⟩)), (5, .int .i64 ((post.length : Nat) - 1))] ρ ∧ S = [[(r, row [.bool true, cu64 0, cu64 e, .slice (some a0) (r0.length + 1) c] 104)], Hr, [(n2, row [.int .u8 0, .int .u8 0, .int .u8 0, .int .u8 0, .int .u8 0, .int .u8 0, .int .u8 0, .int .u8 0, .int .u8 0, .int .u8 0, .int .u8 0, .int .u8 0, .int .u8 0, .int .u8 0, .int .u8 0, .int .u8 0, .int .u8 0, .int .u8 0, .int .u8 0, .int .u8 0, .int .u8 0, .int .u8 0, .int .u8 0, .int .u8 0, .int .u8 0, .int .u8 0, .int .u8 0, .int .u8 0, .int .u8 0, .int .u8 0, .int .u8 0, .int .u8 0] 32)], [(n4, row (hC acc) 32)]]) r0.length ?_ ?_
      · refine ⟨[], r0, y.h, rfl, rfl, rfl, ?_, rfl⟩
        repeat (first | exact Sub.nil | refine Sub.cons rfl ?_)
      rintro m ρ S ⟨pre, post, acc, rfl, hr0, hfold, hρ, rfl⟩
      refine WP.sub hρ ?_
      clear hρ
      have hpl : post.length ≤ r0.length := by rw [hr0]; simp
      cases post with
      | nil =>
        refine WP.seq (WP.sregion ?_)
        refine RX.pure (.none rfl) rfl rfl (p_move rfl) ?_
        refine RX.pure (.none rfl) rfl rfl (p_geq rfl rfl) ?_
        refine RX.say (t := 46) rfl (.bool false) (by rw [decide_eq_false]; simp) ?_
        refine RX.nil ?_
        refine WP.condF rfl ?_
        refine WP.exit ?_
        repeat (first | refine sq_exit ?_ | refine bk_exit ?_ | refine lq_exit ?_ | refine cq_exit ?_ | refine bk_exit' rfl ?_)
        refine ⟨?_, by rw [← hfold]; rfl⟩
        repeat (first | exact Sub.nil | refine Sub.cons rfl ?_)
      | cons x post =>
        simp only [List.length_cons] at hpl
        have hx : (y :: r0).reverse[post.length]? = some x := by
          rw [hr0]
          simp [List.reverse_append, List.append_assoc]
        refine WP.seq (WP.sregion ?_)
        refine RX.pure (.none rfl) rfl rfl (p_move rfl) ?_; refine RX.say (t := 45) rfl (.int .i64 (post.length : Nat)) (by simp) ?_
        refine RX.pure (.none rfl) rfl rfl (p_geq rfl rfl) ?_
        refine RX.say (t := 46) rfl (.bool true) (by rw [decide_eq_true]; omega) ?_
        refine RX.nil ?_
        refine WP.condT rfl (WP.skip ?_)
        refine WP.seq (WP.block ?_)
        refine WP.draw mixed (by kernel_rfl) ?_
        refine RX.pure (.none rfl) rfl rfl (p_move rfl) ?_
        refine RX.pure (.none rfl) rfl rfl (p_nilCheck rfl) ?_
        refine RX.pure (.none rfl) rfl rfl (p_fieldAddr rfl fa_104_2) ?_
        (first | refine RX.ld 0 (.none rfl) rfl rfl na_102 rfl rfl ?_ | refine RX.ld 1 (.none rfl) rfl rfl na_102 rfl rfl ?_ | refine RX.ld 2 (.none rfl) rfl rfl na_102 rfl rfl ?_ | refine RX.ld 3 (.none rfl) rfl rfl na_102 rfl rfl ?_ | refine RX.ld 4 (.none rfl) rfl rfl na_102 rfl rfl ?_ | refine RX.ld 5 (.none rfl) rfl rfl na_102 rfl rfl ?_)
        refine RX.pure (.none rfl) rfl rfl (p_move rfl) ?_; refine RX.say (t := 53) rfl (.int .i64 (post.length : Nat)) (by simp) ?_
        refine RX.pure (.none rfl) rfl rfl (p_idxS rfl rfl sl_102 (by omega) (by omega)) ?_
        refine RX.pure (.none rfl) rfl rfl (p_faddr rfl fa_106_1) ?_
        refine RX.read (.none rfl) rfl rfl rfl (r_loadA rfl ag_32 (top_hash (i := 1) hV hx rfl) (hC_len x.h)) ?_
        refine RX.lda 3 (.none rfl) rfl rfl ag_32 rfl (hC_all acc) (hC_len acc) ?_
        refine RX.eff (.none rfl) rfl rfl rfl (e_call [] rfl call_46 rfl rfl (nodeH_tri K hK x.h acc)) ?_
        rintro _ _ ⟨_, ⟨rfl, rfl⟩, rfl⟩
        refine RX.sta 3 (.none rfl) rfl rfl sz_32 (hC_len _) (hC_ones _) rfl (ble_all (hC_len acc)) (hC (nodeH K x.h acc)) (put_all (hC_len acc)) ?_
        refine RX.nil ?_
        refine sq_normal ?_
        refine WP.region ?_
        refine RX.pure (.none rfl) rfl rfl (p_move rfl) ?_; refine RX.say (t := 47) rfl (.int .i64 (post.length : Nat)) (by simp) ?_
        refine RX.pure (.none rfl) rfl rfl (p_sub rfl rfl (r := ((post.length : Nat) : Int) - 1) (wr_i64 (by omega) (by omega))) ?_
        refine RX.pure (.none rfl) rfl rfl (p_assign rfl) ?_
        refine RX.nil ?_
        refine lq_normal post.length (by simp) ?_
        refine ⟨pre ++ [x], post, nodeH K x.h acc, rfl, by rw [hr0]; simp, hfold, ?_, rfl⟩
        repeat (first | exact Sub.nil | refine Sub.cons rfl ?_)
    rintro ρ S ⟨hρ, rfl⟩
    refine WP.sub hρ ?_
    clear hρ
    refine WP.sregion ?_
    refine RX.lda 3 (.none rfl) rfl rfl ag_32 rfl (hC_all _) (hC_len _) ?_
    refine RX.sta 2 (.none rfl) rfl rfl sz_32 (hC_len _) (hC_ones _) rfl rfl (hC (foldR (nodeH K) y.h r0)) (put_all rfl) ?_
    refine RX.pure (.none rfl) rfl rfl (p_assign rfl) ?_
    refine RX.nil ?_
    refine WP.close1 ?_
    refine WP.ret ?_
    repeat (first | refine sq_ret ?_ | refine bk_ret ?_ | refine lq_ret ?_ | refine cq_ret ?_)
    exact finC2' (vs := hC (foldR (nodeH K) y.h r0)) 1 rfl rfl rfl ldv_32 (RdN.own 1 rfl take_all') (hC_len _) rfl ⟨by rw [rootF, vC_eq], rfl⟩
set_option maxHeartbeats 1000000 in
theorem mth_tri (K : Nat → Int) (hK : Tab w0 K) : ∀ (n : Nat) (hs : List H32) (v : Value) (HP : Hp), hs.length = n → n ≤ 1000000 → Held w0 HP hC hs v → Tri Tryd.prog w0 19 #[v] [HP] (fun u S' => u = hV (mthF (nodeH K) (emptyH K) hs) ∧ S' = [HP]) := by
  intro n
  induction n using Nat.strongRecOn with
  | _ n ih =>
    intro hs v HP hn hbig hH
    obtain ⟨p, c, rfl, hc1, hc2⟩ := hH.len
    refine Tri.mk Tryd.func19 rfl rfl rfl ?_
    refine WP.sregion ?_
    refine RX.eff (.none rfl) rfl rfl rfl (e_alloc zr_32) ?_
    rintro _ _ ⟨n2, rfl, rfl⟩
    refine RX.nil ?_
    refine WP.sregion ?_
    refine RX.pure (.none rfl) rfl rfl (p_move rfl) ?_
    refine RX.pure (.none rfl) rfl rfl (p_lenSlice rfl Tryd.underlying24) ?_
    refine RX.pure (.none rfl) rfl rfl (p_assign rfl) ?_
    refine RX.nil ?_
    by_cases h0 : hs.length = 0
    · have hnil : hs = [] := List.eq_nil_of_length_eq_zero h0
      subst hnil
      refine WP.seq (WP.sregion ?_)
      refine RX.pure (.none rfl) rfl rfl (p_move rfl) ?_
      refine RX.pure (.none rfl) rfl rfl (p_eqInt rfl rfl) ?_
      refine RX.say (t := 8) rfl (.bool true) (by simp) ?_
      refine RX.nil ?_
      refine WP.condT rfl ?_
      refine WP.sregion ?_
      refine RX.eff (.none rfl) rfl rfl rfl (e_call [] rfl call_47 rfl rfl (emptyH_tri K hK)) ?_
      rintro _ _ ⟨_, ⟨rfl, rfl⟩, rfl⟩
      refine RX.sta 1 (.none rfl) rfl rfl sz_32 (hC_len _) (hC_ones _) rfl rfl (hC (emptyH K)) (put_all rfl) ?_
      refine RX.nil ?_
      refine WP.ret ?_
      repeat (first | refine sq_ret ?_ | refine bk_ret ?_ | refine lq_ret ?_ | refine cq_ret ?_)
      exact finC1' (vs := hC (emptyH K)) 1 rfl rfl rfl ldv_32 (RdN.own 1 rfl take_all') (hC_len _) ⟨by rw [vC_eq, mth_nil], rfl⟩
    · refine WP.seq (WP.sregion ?_)
      refine RX.pure (.none rfl) rfl rfl (p_move rfl) ?_
      refine RX.pure (.none rfl) rfl rfl (p_eqInt rfl rfl) ?_
      refine RX.say (t := 8) rfl (.bool false) (by rw [decide_eq_false]; omega) ?_
      refine RX.nil ?_
      refine WP.condF rfl (WP.skip ?_)
      obtain ⟨a0, c', e1, _, _⟩ := hH.addr (by intro e; rw [e] at h0; simp at h0)
      injection e1 with e1 _ e3
      subst e1; subst e3
      by_cases h1 : hs.length = 1
      · obtain ⟨x, rfl⟩ := List.length_eq_one_iff.1 h1
        have hrd : RdN w0 [HP, [(n2, row [.int .u8 0, .int .u8 0, .int .u8 0, .int .u8 0, .int .u8 0, .int .u8 0, .int .u8 0, .int .u8 0, .int .u8 0, .int .u8 0, .int .u8 0, .int .u8 0, .int .u8 0, .int .u8 0, .int .u8 0, .int .u8 0, .int .u8 0, .int .u8 0, .int .u8 0, .int .u8 0, .int .u8 0, .int .u8 0, .int .u8 0, .int .u8 0, .int .u8 0, .int .u8 0, .int .u8 0, .int .u8 0, .int .u8 0, .int .u8 0, .int .u8 0, .int .u8 0] 32)]] (a0.add ((0 : Int).toNat * 32)) (hC x) := by
          have := (hH.rd (S := [HP, [(n2, row [.int .u8 0, .int .u8 0, .int .u8 0, .int .u8 0, .int .u8 0, .int .u8 0, .int .u8 0, .int .u8 0, .int .u8 0, .int .u8 0, .int .u8 0, .int .u8 0, .int .u8 0, .int .u8 0, .int .u8 0, .int .u8 0, .int .u8 0, .int .u8 0, .int .u8 0, .int .u8 0, .int .u8 0, .int .u8 0, .int .u8 0, .int .u8 0, .int .u8 0, .int .u8 0, .int .u8 0, .int .u8 0, .int .u8 0, .int .u8 0, .int .u8 0, .int .u8 0] 32)]]) (i := 0) rfl).elems (uniH _) (i := 0) (o := 0) (n := 32) rfl (hC_all x) (by decide) (hC_len x)
          simpa using this
        refine WP.seq (WP.sregion ?_)
        refine RX.pure (.none rfl) rfl rfl (p_move rfl) ?_
        refine RX.pure (.none rfl) rfl rfl (p_eqInt rfl rfl) ?_
        refine RX.say (t := 11) rfl (.bool true) (by simp) ?_
        refine RX.nil ?_
        refine WP.condT rfl ?_
        refine WP.sregion ?_
        refine RX.pure (.none rfl) rfl rfl (p_move rfl) ?_
        refine RX.pure (.none rfl) rfl rfl (p_idxS rfl rfl sl_24 (by omega) (by simp)) ?_
        refine RX.read (.none rfl) rfl rfl rfl (r_loadA rfl ag_32 hrd (hC_len x)) ?_
        refine RX.sta 1 (.none rfl) rfl rfl sz_32 (hC_len _) (hC_ones _) rfl rfl (hC x) (put_all rfl) ?_
        refine RX.nil ?_
        refine WP.ret ?_
        repeat (first | refine sq_ret ?_ | refine bk_ret ?_ | refine lq_ret ?_ | refine cq_ret ?_)
        exact finC1' (vs := hC x) 1 rfl rfl rfl ldv_32 (RdN.own 1 rfl take_all') (hC_len _) ⟨by rw [vC_eq, mth_one], rfl⟩
      · refine WP.seq (WP.sregion ?_)
        refine RX.pure (.none rfl) rfl rfl (p_move rfl) ?_
        refine RX.pure (.none rfl) rfl rfl (p_eqInt rfl rfl) ?_
        refine RX.say (t := 11) rfl (.bool false) (by rw [decide_eq_false]; omega) ?_
        refine RX.nil ?_
        refine WP.condF rfl (WP.skip ?_)
        have h2 : 2 ≤ hs.length := by omega
        have hhl := half_lt h2
        have hhp := half_pos hs.length
        have hmore := mth_more (nodeH K) (emptyH K) h2
        have hhalf : ∀ j : Nat, 2 ^ j < hs.length → ¬ 2 * 2 ^ j < hs.length → 2 ^ j = half hs.length := fun j h3 h4 => by
          rw [half]
          congr 1
          symm
          rw [Nat.log2_eq_iff (by omega), Nat.pow_succ]
          omega
        generalize half hs.length = kk at *
        refine WP.sregion ?_
        refine RX.pure (.none rfl) rfl rfl (p_assign rfl) ?_
        refine RX.nil ?_
        refine WP.cut (fun ρ S => Sub [(0, .slice (some a0) hs.length c), (2, .pointer (some ⟨n2, 0, none⟩)), (4, .int .i64 (kk : Nat))] ρ ∧ S = [HP, [(n2, row [.int .u8 0, .int .u8 0, .int .u8 0, .int .u8 0, .int .u8 0, .int .u8 0, .int .u8 0, .int .u8 0, .int .u8 0, .int .u8 0, .int .u8 0, .int .u8 0, .int .u8 0, .int .u8 0, .int .u8 0, .int .u8 0, .int .u8 0, .int .u8 0, .int .u8 0, .int .u8 0, .int .u8 0, .int .u8 0, .int .u8 0, .int .u8 0, .int .u8 0, .int .u8 0, .int .u8 0, .int .u8 0, .int .u8 0, .int .u8 0, .int .u8 0, .int .u8 0] 32)]]) ?_ ?_
        · refine WP.block ?_
          refine WP.loop (fun m ρ S => ∃ j k : Nat, k = 2 ^ j ∧ k < hs.length ∧ m = hs.length - k ∧ Sub [(0, .slice (some a0) hs.length c), (2, .pointer (some ⟨n2, 0, none⟩)), (3, .int .i64 (hs.length : Nat)), (4, .int .i64 (k : Nat))] ρ ∧ S = [HP, [(n2, row [.int .u8 0, .int .u8 0, .int .u8 0, .int .u8 0, .int .u8 0, .int .u8 0, .int .u8 0, .int .u8 0, .int .u8 0, .int .u8 0, .int .u8 0, .int .u8 0, .int .u8 0, .int .u8 0, .int .u8 0, .int .u8 0, .int .u8 0, .int .u8 0, .int .u8 0, .int .u8 0, .int .u8 0, .int .u8 0, .int .u8 0, .int .u8 0, .int .u8 0, .int .u8 0, .int .u8 0, .int .u8 0, .int .u8 0, .int .u8 0, .int .u8 0, .int .u8 0] 32)]]) (hs.length - 1) ?_ ?_
          · refine ⟨0, 1, rfl, by omega, rfl, ?_, rfl⟩
            repeat (first | exact Sub.nil | refine Sub.cons rfl ?_)
          rintro m ρ S ⟨j, k, hk, hkl, rfl, hρ, rfl⟩
          refine WP.sub hρ ?_
          clear hρ
          have hkp : 0 < k := by rw [hk]; exact pos2 _
          by_cases hlt : 2 * k < hs.length
          · refine WP.seq (WP.sregion ?_)
            refine RX.pure (.none rfl) rfl rfl (p_move rfl) ?_
            refine RX.pure (.none rfl) rfl rfl (p_mul rfl rfl (r := ((2 * k : Nat) : Int)) ((wr_i64 (by omega) (by omega)).trans (by omega))) ?_
            refine RX.pure (.none rfl) rfl rfl (p_move rfl) ?_
            refine RX.pure (.none rfl) rfl rfl (p_lss rfl rfl) ?_
            refine RX.say (t := 18) rfl (.bool true) (by rw [decide_eq_true]; omega) ?_
            refine RX.nil ?_
            refine WP.condT rfl (WP.skip ?_)
            refine WP.block ?_
            refine WP.region ?_
            refine RX.pure (.none rfl) rfl rfl (p_move rfl) ?_
            refine RX.pure (.none rfl) rfl rfl (p_mul rfl rfl (r := ((2 * k : Nat) : Int)) ((wr_i64 (by omega) (by omega)).trans (by omega))) ?_
            refine RX.pure (.none rfl) rfl rfl (p_assign rfl) ?_
            refine RX.nil ?_
            refine bk_normal ?_
            refine lq_normal (hs.length - 2 * k) (by omega) ?_
            refine ⟨j + 1, 2 * k, by rw [hk, Nat.pow_succ, Nat.mul_comm], hlt, rfl, ?_, rfl⟩
            repeat (first | exact Sub.nil | refine Sub.cons rfl ?_)
          · refine WP.seq (WP.sregion ?_)
            refine RX.pure (.none rfl) rfl rfl (p_move rfl) ?_
            refine RX.pure (.none rfl) rfl rfl (p_mul rfl rfl (r := ((2 * k : Nat) : Int)) ((wr_i64 (by omega) (by omega)).trans (by omega))) ?_
            refine RX.pure (.none rfl) rfl rfl (p_move rfl) ?_
            refine RX.pure (.none rfl) rfl rfl (p_lss rfl rfl) ?_
            refine RX.say (t := 18) rfl (.bool false) (by rw [decide_eq_false]; omega) ?_
            refine RX.nil ?_
            refine WP.condF rfl ?_
            refine WP.exit ?_
            repeat (first | refine sq_exit ?_ | refine bk_exit ?_ | refine lq_exit ?_ | refine cq_exit ?_ | refine bk_exit' rfl ?_)
            have hkk : k = kk := by rw [hk]; exact hhalf j (by omega) (by omega)
            subst hkk
            refine ⟨?_, rfl⟩
            repeat (first | exact Sub.nil | refine Sub.cons rfl ?_)
        rintro ρ S ⟨hρ, rfl⟩
        refine WP.sub hρ ?_
        clear hρ
        have ih1 := ih kk (by omega) (hs.take kk) (.slice (some a0) kk c) HP (by rw [List.length_take]; omega) (by omega) (hH.take uniH kk (by omega))
        have ih2 := ih (hs.length - kk) (by omega) (hs.drop kk) _ HP (by rw [List.length_drop]) (by omega) (hH.drop uniH kk (by omega))
        refine WP.sdraw mixed (by kernel_rfl) ?_
        refine RX.pure (.none rfl) rfl rfl (p_move rfl) ?_
        refine RX.pure (.none rfl) rfl rfl (p_move rfl) ?_
        refine RX.pure (.none rfl) rfl rfl (p_sliceToG rfl sl_24 rfl (by omega) (by omega)) ?_
        refine RX.say (t := 23) rfl (.slice (some a0) kk c) (by rw [Int.toNat_natCast]) ?_
        refine RX.eff (.none rfl) rfl rfl rfl (e_call [0] rfl call_19 rfl rfl ih1) ?_
        rintro _ _ ⟨_, ⟨rfl, rfl⟩, rfl⟩
        refine RX.pure (.none rfl) rfl rfl (p_move rfl) ?_
        refine RX.pure (.none rfl) rfl rfl (p_move rfl) ?_
        refine RX.pure (.none rfl) rfl rfl (p_sliceFromG rfl sl_24 rfl (by omega) (by omega) (by omega)) ?_
        refine RX.say (t := 27) rfl (.slice (some (if c = kk then a0 else a0.add (kk * 32))) (hs.length - kk) (c - kk)) (by rw [Int.toNat_natCast]) ?_
        refine RX.eff (.none rfl) rfl rfl rfl (e_call [0] rfl call_19 rfl rfl ih2) ?_
        rintro _ _ ⟨_, ⟨rfl, rfl⟩, rfl⟩
        refine RX.eff (.none rfl) rfl rfl rfl (e_call [] rfl call_46 rfl rfl (nodeH_tri K hK _ _)) ?_
        rintro _ _ ⟨_, ⟨rfl, rfl⟩, rfl⟩
        refine RX.sta 1 (.none rfl) rfl rfl sz_32 (hC_len _) (hC_ones _) rfl rfl _ (put_all rfl) ?_
        refine RX.nil ?_
        rw [hmore]
        refine WP.ret ?_
        repeat (first | refine sq_ret ?_ | refine bk_ret ?_ | refine lq_ret ?_ | refine cq_ret ?_)
        exact finC1' (vs := hC (nodeH K (mthF (nodeH K) (emptyH K) (hs.take kk)) (mthF (nodeH K) (emptyH K) (hs.drop kk)))) 1 rfl rfl rfl ldv_32 (RdN.own 1 rfl take_all') (hC_len _) ⟨by rw [vC_eq], rfl⟩
end
end Go.Proofs.YtigjnfmbellpjaaDoor.Cmp
