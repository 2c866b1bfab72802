/- compact: Join, Load. -/
import Derived.Test.YtigjnfmbellpjaaDoorCUT1
set_option maxRecDepth 100000
namespace Go.Proofs.YtigjnfmbellpjaaDoor.Cmp
open Go Go.EL Go.EL.Cpt Sha Coo
theorem good_drop {K : Nat → Int} {f : Nat → H32} {m : Nat} : ∀ (j : Nat) {os : List Tr} {e : Nat}, Cpt.Good (nodeH K) (emptyH K) f m e os → ∃ e', e' ≤ e ∧ Cpt.Good (nodeH K) (emptyH K) f m e' (os.drop j)
  | 0, _, e, h => ⟨e, Nat.le_refl _, h⟩
  | j + 1, [], e, h => ⟨e, Nat.le_refl _, h⟩
  | j + 1, x :: os, e, h => by
    obtain ⟨e', h1, h2⟩ := good_drop j (os := os) ⟨h.row.2, h.free.tail, fun y hy => h.hashed y (List.mem_cons_of_mem _ hy)⟩
    have := x.e_eq
    have := pos2 x.lv
    have := h.row.1
    exact ⟨e', by omega, h2⟩
/-- rows joined, the first i trees of the second -/
def joinF (K : Nat → Int) (rs os : List Tr) (i : Nat) : List Tr := (os.reverse.take i).foldl (pushR (nodeH K)) rs
theorem joinF_good {K : Nat → Int} {f : Nat → H32} {b m e : Nat} {rs os : List Tr} (h : Cpt.Good (nodeH K) (emptyH K) f b m rs) (ho : Cpt.Good (nodeH K) (emptyH K) f m e os) (i : Nat) : ∃ e', e' ≤ e ∧ Cpt.Good (nodeH K) (emptyH K) f b e' (joinF K rs os i) := by
  obtain ⟨e', h1, h2⟩ := good_drop (os.length - i) ho
  refine ⟨e', h1, ?_⟩
  rw [joinF, List.take_reverse]
  exact h.join h2
theorem joinF_all (K : Nat → Int) (rs os : List Tr) : joinF K rs os os.reverse.length = os.reverse.foldl (pushR (nodeH K)) rs := by rw [joinF, List.take_length]
theorem joinF_succ (K : Nat → Int) (rs os : List Tr) {i : Nat} {x : Tr} (hx : os.reverse[i]? = some x) : joinF K rs os (i + 1) = pushR (nodeH K) (joinF K rs os i) x := by
  rw [joinF, List.take_add_one, hx, List.foldl_append]
  rfl
/-- trees of these places, with these hashes -/
def loadF (cs : List (Nat × Nat)) (hs : List H32) : List Tr := List.zipWith (fun c h => ⟨c.1, c.2, h⟩) cs hs
section
variable {w0 : World}
set_option maxHeartbeats 1000000 in
theorem join_tri (K : Nat → Int) (hK : Tab w0 K) (f : Nat → H32) (b m e : Nat) (rs os : List Tr) (r o : Nat) (H HO : Hp) (hR : RAt b m rs r H) (hO : RAt m e os o HO) (hg : Cpt.Good (nodeH K) (emptyH K) f b m rs) (hgo : Cpt.Good (nodeH K) (emptyH K) f m e os) (he : e ≤ 9223372036854775808) :
    Tri Tryd.prog w0 27 #[.pointer (some ⟨r, 0, none⟩), .pointer (some ⟨o, 0, none⟩)] [H, HO] (fun v S' => v = .nilIface ∧ ∃ H', S' = [H', HO] ∧ RAt b e (os.reverse.foldl (pushR (nodeH K)) rs) r H') := by
  obtain ⟨v, Hr, rfl, hV⟩ := hR
  obtain ⟨vo, Ho, rfl, hVo⟩ := hO
  obtain ⟨po, co, rfl⟩ := hVo.slice
  have hol : os.reverse.length ≤ 1000000 := by have := good_len hgo he; simpa using this
  refine Tri.mk Tryd.func27 rfl rfl rfl ?_
  refine WP.sregion ?_
  refine RX.pure (.none rfl) rfl rfl (p_assign rfl) ?_
  refine RX.nil ?_
  refine WP.perm (T := [[(r, row [.bool true, cu64 b, cu64 m, v] 104)], Hr, [(o, row [.bool true, cu64 m, cu64 e, .slice po os.reverse.length co] 104)], Ho]) ?_ ?_
  · simp
  refine WP.seq (WP.sregion ?_)
  refine RX.pure (.none rfl) rfl rfl (p_move rfl) ?_
  refine RX.eff (.none rfl) rfl rfl rfl (e_call [0] rfl call_48 rfl rfl (there_tri r _)) ?_
  rintro _ _ ⟨_, ⟨rfl, rfl⟩, rfl⟩
  refine RX.pure (.none rfl) rfl rfl (p_not rfl) ?_
  refine RX.pure (.none rfl) rfl rfl (p_move rfl) ?_
  (first | refine RX.skip (.no rfl rfl rfl rfl) rfl rfl ?_ | refine RX.pure (.yes rfl rfl rfl) rfl rfl (p_move rfl) ?_)
  (first | refine RX.skip (.no rfl rfl rfl rfl) rfl rfl ?_ | (refine RX.eff (.yes rfl rfl rfl) rfl rfl rfl (e_call [2] rfl call_48 rfl rfl (there_tri o _)) ?_; rintro _ _ ⟨_, ⟨rfl, rfl⟩, rfl⟩))
  (first | refine RX.skip (.no rfl rfl rfl rfl) rfl rfl ?_ | refine RX.pure (.yes rfl rfl rfl) rfl rfl (p_not rfl) ?_)
  (first | refine RX.pure (.none rfl) rfl rfl (p_pickT rfl rfl) ?_ | refine RX.pure (.none rfl) rfl rfl (p_pickF rfl rfl) ?_)
  refine RX.nil ?_
  refine WP.condF rfl (WP.skip ?_)
  refine WP.only [1, 2, 0, 3] rfl rfl ?_
  refine WP.seq (WP.sdraw mixed (by kernel_rfl) ?_)
  refine RX.pure (.none rfl) rfl rfl (p_move rfl) ?_
  refine RX.pure (.none rfl) rfl rfl (p_nilCheck rfl) ?_
  refine RX.pure (.none rfl) rfl rfl (p_fieldAddr rfl fa_104_1) ?_
  refine RX.pure (.none rfl) rfl rfl (p_fieldAddr rfl fa_53_0) ?_
  (first | refine RX.ld 0 (.none rfl) rfl rfl na_23 rfl rfl ?_ | refine RX.ld 1 (.none rfl) rfl rfl na_23 rfl rfl ?_ | refine RX.ld 2 (.none rfl) rfl rfl na_23 rfl rfl ?_ | refine RX.ld 3 (.none rfl) rfl rfl na_23 rfl rfl ?_ | refine RX.ld 4 (.none rfl) rfl rfl na_23 rfl rfl ?_ | refine RX.ld 5 (.none rfl) rfl rfl na_23 rfl rfl ?_)
  refine RX.pure (.none rfl) rfl rfl (p_move rfl) ?_
  refine RX.pure (.none rfl) rfl rfl (p_nilCheck rfl) ?_
  refine RX.pure (.none rfl) rfl rfl (p_fieldAddr rfl fa_104_1) ?_
  refine RX.pure (.none rfl) rfl rfl (p_fieldAddr rfl fa_53_1) ?_
  (first | refine RX.ld 0 (.none rfl) rfl rfl na_23 rfl rfl ?_ | refine RX.ld 1 (.none rfl) rfl rfl na_23 rfl rfl ?_ | refine RX.ld 2 (.none rfl) rfl rfl na_23 rfl rfl ?_ | refine RX.ld 3 (.none rfl) rfl rfl na_23 rfl rfl ?_ | refine RX.ld 4 (.none rfl) rfl rfl na_23 rfl rfl ?_ | refine RX.ld 5 (.none rfl) rfl rfl na_23 rfl rfl ?_)
  refine RX.pure (.none rfl) rfl rfl (p_neInt rfl rfl) ?_
  refine RX.say (t := 26) rfl (.bool false) (by simp) ?_
  refine RX.nil ?_
  refine WP.condF rfl (WP.skip ?_)
  refine WP.close1 ?_
  refine WP.heap [(r, row [.bool true, cu64 b, cu64 m, v] 104) :: Hr, [(o, row [.bool true, cu64 m, cu64 e, .slice po os.reverse.length co] 104)], Ho] rfl ?_
  refine WP.cut (fun ρ S => ∃ H', RAt b m (os.reverse.foldl (pushR (nodeH K)) rs) r H' ∧ Sub [(0, .pointer (some ⟨r, 0, none⟩)), (1, .pointer (some ⟨o, 0, none⟩))] ρ ∧ S = [H', [(o, row [.bool true, cu64 m, cu64 e, .slice po os.reverse.length co] 104)], Ho]) ?_ ?_
  · refine WP.sregion ?_
    refine RX.pure (.none rfl) rfl rfl (p_move rfl) ?_
    refine RX.pure (.none rfl) rfl rfl (p_nilCheck rfl) ?_
    refine RX.pure (.none rfl) rfl rfl (p_fieldAddr rfl fa_104_2) ?_
    (first | refine RX.ld 0 (.none rfl) rfl rfl na_102 rfl rfl ?_ | refine RX.ld 1 (.none rfl) rfl rfl na_102 rfl rfl ?_ | refine RX.ld 2 (.none rfl) rfl rfl na_102 rfl rfl ?_ | refine RX.ld 3 (.none rfl) rfl rfl na_102 rfl rfl ?_ | refine RX.ld 4 (.none rfl) rfl rfl na_102 rfl rfl ?_ | refine RX.ld 5 (.none rfl) rfl rfl na_102 rfl rfl ?_)
    refine RX.pure (.none rfl) rfl rfl (p_lenSlice rfl Tryd.underlying102) ?_
    refine RX.pure (.none rfl) rfl rfl (p_move rfl) ?_
    refine RX.nil ?_
    refine WP.block ?_
    refine WP.loop (fun k ρ S => ∃ (i : Nat) (H' : Hp), i ≤ os.reverse.length ∧ k = os.reverse.length - i ∧ RAt b m (joinF K rs os i) r H' ∧ Sub [(0, .pointer (some ⟨r, 0, none⟩)), (1, .pointer (some ⟨o, 0, none⟩)), (31, .slice po os.reverse.length co), (32, .int .i64 (os.reverse.length : Nat)), (33, .int .i64 (i : Nat))] ρ ∧ S = [H', [(o, row [.bool true, cu64 m, cu64 e, .slice po os.reverse.length co] 104)], Ho]) os.reverse.length ?_ ?_
    · refine ⟨0, _, by omega, by omega, ⟨v, Hr, rfl, by simpa [joinF] using hV⟩, ?_, rfl⟩
      repeat (first | exact Sub.nil | refine Sub.cons rfl ?_)
    clear hV v Hr
    rintro k ρ S ⟨i, H', hi, rfl, hR, hρ, rfl⟩
    refine WP.sub hρ ?_
    clear hρ
    by_cases hlt : i < os.reverse.length
    · obtain ⟨x, hx⟩ : ∃ x, os.reverse[i]? = some x := ⟨_, List.getElem?_eq_getElem hlt⟩
      obtain ⟨a0, c0, e1⟩ := (hVo.rd (w0 := w0) (S := [Ho]) (i := 0) rfl).some (by intro e; rw [e] at hlt; simp at hlt)
      injection e1 with e1 _ e3
      subst e1; subst e3
      have hrd := held_at (S := [H', [(o, row [.bool true, cu64 m, cu64 e, .slice (some a0) os.reverse.length co] 104)], Ho]) (i := 2) uniN (hVo.held (w0 := w0)) hx rfl (encN_len x)
      obtain ⟨e', he', hgi⟩ := joinF_good hg hgo i
      have hxm : x.may := good_may hgo he x (List.mem_reverse.1 (List.mem_of_getElem? hx))
      refine WP.sregion ?_
      refine RX.pure (.none rfl) rfl rfl (p_lss rfl rfl) ?_
      refine RX.say (t := 34) rfl (.bool true) (by rw [decide_eq_true]; omega) ?_
      refine RX.nil ?_
      refine WP.seq (WP.condT rfl (WP.skip ?_))
      refine sq_normal ?_
      refine WP.seq (WP.block ?_)
      refine WP.sregion ?_
      refine RX.pure (.none rfl) rfl rfl (p_idxS rfl rfl sl_102 (by omega) (by omega)) ?_
      refine RX.read (.none rfl) rfl rfl rfl (r_loadA rfl ag_106 hrd (encN_len x)) ?_
      refine RX.eff (.none rfl) rfl rfl rfl (e_alloc zr_106) ?_
      rintro _ _ ⟨n6, rfl, rfl⟩
      refine RX.sta 3 (.none rfl) rfl rfl sz_106 (encN_len x) (encN_ones x) rfl rfl (encN x) (put_all rfl) ?_
      refine RX.nil ?_
      refine WP.region ?_
      refine RX.pure (.none rfl) rfl rfl (p_move rfl) ?_
      refine RX.lda 3 (.none rfl) rfl rfl ag_106 rfl (encN_all x) (encN_len x) ?_
      refine RX.eff (.none rfl) rfl rfl rfl (e_call [0] rfl call_49 rfl rfl (push_tri K hK b m _ x r H' hR (good_may hgi (by omega)) hxm (good_len hgi (by omega)))) ?_
      rintro _ _ ⟨_, ⟨H2, rfl, hR2⟩, rfl⟩
      refine RX.nil ?_
      refine sq_normal ?_
      refine WP.take 3 ?_
      refine WP.region ?_
      (first | refine RX.pure (.none rfl) rfl rfl (p_add rfl rfl (wr_i64 (by omega) (by omega))) ?_ | refine RX.pure (.none rfl) rfl rfl (p_add rfl rfl rfl) ?_)
      refine RX.pure (.none rfl) rfl rfl (p_move rfl) ?_
      refine RX.nil ?_
      refine lq_normal (os.reverse.length - (i + 1)) (by omega) ?_
      refine ⟨i + 1, H2, by omega, rfl, by rw [joinF_succ K rs os hx]; exact hR2, ?_, rfl⟩
      repeat (first | exact Sub.nil | refine Sub.cons rfl ?_)
    · refine WP.sregion ?_
      refine RX.pure (.none rfl) rfl rfl (p_lss rfl rfl) ?_
      refine RX.say (t := 34) rfl (.bool false) (by rw [decide_eq_false]; omega) ?_
      refine RX.nil ?_
      refine WP.seq (WP.condF rfl ?_)
      refine WP.exit ?_
      repeat (first | refine sq_exit ?_ | refine bk_exit ?_ | refine lq_exit ?_ | refine cq_exit ?_ | refine bk_exit' rfl ?_)
      obtain rfl : i = os.reverse.length := by omega
      rw [joinF_all] at hR
      refine ⟨H', hR, ?_, rfl⟩
      repeat (first | exact Sub.nil | refine Sub.cons rfl ?_)
  clear hV v Hr
  rintro ρ S ⟨H', hR, hρ, rfl⟩
  refine WP.sub hρ ?_
  clear hρ
  obtain ⟨v', Hr', rfl, hV'⟩ := hR
  refine WP.open1 ?_
  refine WP.sregion ?_
  refine RX.pure (.none rfl) rfl rfl (p_move rfl) ?_
  refine RX.pure (.none rfl) rfl rfl (p_move rfl) ?_
  refine RX.pure (.none rfl) rfl rfl (p_nilCheck rfl) ?_
  refine RX.pure (.none rfl) rfl rfl (p_fieldAddr rfl fa_104_1) ?_
  refine RX.pure (.none rfl) rfl rfl (p_fieldAddr rfl fa_53_1) ?_
  (first | refine RX.ld 0 (.none rfl) rfl rfl na_23 rfl rfl ?_ | refine RX.ld 1 (.none rfl) rfl rfl na_23 rfl rfl ?_ | refine RX.ld 2 (.none rfl) rfl rfl na_23 rfl rfl ?_ | refine RX.ld 3 (.none rfl) rfl rfl na_23 rfl rfl ?_ | refine RX.ld 4 (.none rfl) rfl rfl na_23 rfl rfl ?_ | refine RX.ld 5 (.none rfl) rfl rfl na_23 rfl rfl ?_)
  refine RX.pure (.none rfl) rfl rfl (p_nilCheck rfl) ?_
  refine RX.pure (.none rfl) rfl rfl (p_fieldAddr rfl fa_104_1) ?_
  refine RX.pure (.none rfl) rfl rfl (p_fieldAddr rfl fa_53_1) ?_
  (first | refine RX.st 0 (.none rfl) rfl rfl sz_23 rfl rfl rfl _ rfl ?_ | refine RX.st 1 (.none rfl) rfl rfl sz_23 rfl rfl rfl _ rfl ?_ | refine RX.st 2 (.none rfl) rfl rfl sz_23 rfl rfl rfl _ rfl ?_ | refine RX.st 3 (.none rfl) rfl rfl sz_23 rfl rfl rfl _ rfl ?_ | refine RX.st 4 (.none rfl) rfl rfl sz_23 rfl rfl rfl _ rfl ?_ | refine RX.st 5 (.none rfl) rfl rfl sz_23 rfl rfl rfl _ rfl ?_)
  refine RX.nil ?_
  refine WP.sregion ?_
  refine RX.pure (.none rfl) rfl rfl (p_assign rfl) ?_
  refine RX.nil ?_
  refine WP.perm (T := [(r, row [.bool true, cu64 b, cu64 e, v'] 104) :: Hr', (o, row [.bool true, cu64 m, cu64 e, .slice po os.reverse.length co] 104) :: Ho]) ?_ ?_
  · simp [row]
  refine WP.ret ?_
  repeat (first | refine sq_ret ?_ | refine bk_ret ?_ | refine lq_ret ?_ | refine cq_ret ?_)
  exact fin1' 2 rfl rfl rfl ⟨rfl, _, rfl, v', Hr', rfl, hV'⟩
set_option maxHeartbeats 1000000 in
theorem load_tri (hD : DeB w0) (b e : Nat) (hs : List H32) (v : Value) (HP : Hp) (hH : Held w0 HP hC hs v) (hbe : b ≤ e) (he : e ≤ 9223372036854775808) (hl : hs.length = (coverF b e).length) :
    Tri Tryd.prog w0 28 #[sAgg b e, v] [HP] (fun u S' => ∃ r H, u = .tuple #[.pointer (some ⟨r, 0, none⟩), .nilIface] ∧ S' = [H, HP] ∧ RAt b e (loadF (coverF b e) hs).reverse r H) := by
  obtain ⟨p, c, rfl, hc1, hc2⟩ := hH.len
  unfold maxLen at hc2
  have hcl := cover_len hbe he
  refine Tri.mk Tryd.func28 rfl rfl rfl ?_
  refine WP.sregion ?_
  refine RX.eff (.none rfl) rfl rfl rfl (e_box rfl rfl) ?_
  rintro _ _ ⟨n2, rfl, rfl⟩
  refine RX.pure (.none rfl) rfl rfl (p_assign rfl) ?_
  refine RX.pure (.none rfl) rfl rfl (p_assign rfl) ?_
  refine RX.nil ?_
  refine WP.sregion ?_
  (first | refine RX.lda 0 (.none rfl) rfl rfl ag_53 rfl rfl rfl ?_ | refine RX.lda 1 (.none rfl) rfl rfl ag_53 rfl rfl rfl ?_ | refine RX.lda 2 (.none rfl) rfl rfl ag_53 rfl rfl rfl ?_ | refine RX.lda 3 (.none rfl) rfl rfl ag_53 rfl rfl rfl ?_ | refine RX.lda 4 (.none rfl) rfl rfl ag_53 rfl rfl rfl ?_ | refine RX.lda 5 (.none rfl) rfl rfl ag_53 rfl rfl rfl ?_)
  refine RX.eff (.none rfl) rfl rfl rfl (e_call [] rfl call_21 rfl rfl (cover_tri hD b e hbe he)) ?_
  rintro _ _ ⟨_, ⟨vC, HC, rfl, rfl, hVC⟩, rfl⟩; obtain ⟨pC, cC, rfl⟩ := hVC.slice
  refine RX.pure (.none rfl) rfl rfl (p_move rfl) ?_
  refine RX.pure (.none rfl) rfl rfl (p_extract rfl rfl) ?_
  refine RX.pure (.none rfl) rfl rfl (p_extract rfl rfl) ?_
  refine RX.pure (.none rfl) rfl rfl (p_assign rfl) ?_
  refine RX.pure (.none rfl) rfl rfl (p_assign rfl) ?_
  refine RX.nil ?_
  refine WP.seq (WP.sregion ?_)
  refine RX.pure (.none rfl) rfl rfl (p_move rfl) ?_
  refine RX.pure (.none rfl) rfl rfl (p_neNilIface rfl (by first | exact .inl rfl | exact .inr ⟨_, _, rfl⟩ | assumption) Tryd.underlying34) ?_
  refine RX.nil ?_
  refine WP.condF rfl (WP.skip ?_)
  refine WP.seq (WP.sregion ?_)
  refine RX.pure (.none rfl) rfl rfl (p_move rfl) ?_
  refine RX.pure (.none rfl) rfl rfl (p_lenSlice rfl Tryd.underlying49) ?_
  refine RX.pure (.none rfl) rfl rfl (p_move rfl) ?_
  refine RX.pure (.none rfl) rfl rfl (p_lenSlice rfl Tryd.underlying24) ?_
  refine RX.pure (.none rfl) rfl rfl (p_neInt rfl rfl) ?_
  refine RX.say (t := 23) rfl (.bool false) (by rw [hl]; simp) ?_
  refine RX.nil ?_
  refine WP.condF rfl (WP.skip ?_)
  refine WP.sregion ?_
  (first | refine RX.lda 0 (.none rfl) rfl rfl ag_53 rfl rfl rfl ?_ | refine RX.lda 1 (.none rfl) rfl rfl ag_53 rfl rfl rfl ?_ | refine RX.lda 2 (.none rfl) rfl rfl ag_53 rfl rfl rfl ?_ | refine RX.lda 3 (.none rfl) rfl rfl ag_53 rfl rfl rfl ?_ | refine RX.lda 4 (.none rfl) rfl rfl ag_53 rfl rfl rfl ?_ | refine RX.lda 5 (.none rfl) rfl rfl ag_53 rfl rfl rfl ?_)
  refine RX.pure (.none rfl) rfl rfl (p_buildS zr_104 pl_104 rfl rfl) ?_
  refine RX.eff (.none rfl) rfl rfl rfl (e_box rfl rfl) ?_
  rintro _ _ ⟨n27, rfl, rfl⟩
  refine RX.pure (.none rfl) rfl rfl (p_assign rfl) ?_
  refine RX.nil ?_
  refine WP.nilChunk (T := [HC, HP, [(n2, row [cu64 b, cu64 e] 53)], [(n27, row [.bool true, cu64 b, cu64 e, .slice none 0 0] 104)], []]) rfl ?_
  refine WP.cut (fun ρ S => ∃ vT HT, Vec 106 34 encN (loadF (coverF b e) hs) vT HT ∧ Sub [(8, .pointer (some ⟨n27, 0, none⟩))] ρ ∧ S = [HC, HP, [(n2, row [cu64 b, cu64 e] 53)], [(n27, row [.bool true, cu64 b, cu64 e, vT] 104)], HT]) ?_ ?_
  · refine WP.sregion ?_
    refine RX.pure (.none rfl) rfl rfl (p_move rfl) ?_
    refine RX.pure (.none rfl) rfl rfl (p_lenSlice rfl Tryd.underlying49) ?_
    refine RX.pure (.none rfl) rfl rfl (p_move rfl) ?_
    refine RX.nil ?_
    refine WP.block ?_
    refine WP.loop (fun k ρ S => ∃ (i : Nat) (vT : Value) (HT : Hp), i ≤ (coverF b e).length ∧ k = (coverF b e).length - i ∧ Vec 106 34 encN ((loadF (coverF b e) hs).take i) vT HT ∧ Sub [(1, .slice p hs.length c), (8, .pointer (some ⟨n27, 0, none⟩)), (28, .slice pC (coverF b e).length cC), (29, .int .i64 ((coverF b e).length : Nat)), (30, .int .i64 (i : Nat))] ρ ∧ S = [HC, HP, [(n2, row [cu64 b, cu64 e] 53)], [(n27, row [.bool true, cu64 b, cu64 e, vT] 104)], HT]) (coverF b e).length ?_ ?_
    · refine ⟨0, .slice none 0 0, [], by omega, by omega, .nil .., ?_, rfl⟩
      repeat (first | exact Sub.nil | refine Sub.cons rfl ?_)
    rintro k ρ S ⟨i, vT, HT, hi, rfl, hVT, hρ, rfl⟩
    refine WP.sub hρ ?_
    clear hρ
    by_cases hlt : i < (coverF b e).length
    · obtain ⟨x, hx⟩ : ∃ x, (coverF b e)[i]? = some x := ⟨_, List.getElem?_eq_getElem hlt⟩
      obtain ⟨h, hh⟩ : ∃ h, hs[i]? = some h := ⟨_, List.getElem?_eq_getElem (by omega)⟩
      obtain ⟨a0, c0, e1, _, _⟩ := hH.addr (by intro e; rw [e] at hh; simp at hh)
      injection e1 with e1 _ e3
      subst e1; subst e3
      obtain ⟨aC, dC, e1, _, _⟩ := (hVC.held (w0 := w0)).addr (by intro e; rw [e] at hlt; simp at hlt)
      injection e1 with e1 _ e3
      subst e1; subst e3
      obtain ⟨pT, cT, rfl⟩ := hVT.slice
      have hTl : ((loadF (coverF b e) hs).take i).length = i := by
        rw [List.length_take, loadF, List.length_zipWith]
        omega
      have hin := cover_in hbe (List.mem_of_getElem? hx)
      have hx1 : x.1 ≤ 63 := (Nd.may_of (n := (⟨x.1, x.2, h⟩ : Tr)) (show (x.2 + 1) * 2 ^ x.1 ≤ 2 ^ 63 by omega)).1
      have hrc := held_at (S := [HC, HP, [(n2, row [cu64 b, cu64 e] 53)], [(n27, row [.bool true, cu64 b, cu64 e, .slice pT ((loadF (coverF b e) hs).take i).length cT] 104)], HT]) (i := 0) (k := 2) (fun _ _ _ => rfl) (hVC.held (w0 := w0)) hx rfl rfl
      refine WP.sregion ?_
      refine RX.pure (.none rfl) rfl rfl (p_lss rfl rfl) ?_
      refine RX.say (t := 31) rfl (.bool true) (by rw [decide_eq_true]; omega) ?_
      refine RX.nil ?_
      refine WP.seq (WP.condT rfl (WP.skip ?_))
      refine sq_normal ?_
      refine WP.seq (WP.block ?_)
      refine WP.sregion ?_
      refine RX.pure (.none rfl) rfl rfl (p_move rfl) ?_
      refine RX.pure (.none rfl) rfl rfl (p_idxS rfl rfl sl_49 (by omega) (by omega)) ?_
      refine RX.read (.none rfl) rfl rfl rfl (r_loadA (vs := encC x) rfl ag_58 hrc rfl) ?_
      refine RX.eff (.none rfl) rfl rfl rfl (e_alloc zr_58) ?_
      rintro _ _ ⟨n10, rfl, rfl⟩
      refine RX.pure (.none rfl) rfl rfl (p_assign rfl) ?_
      (first | refine RX.sta 0 (.none rfl) rfl rfl sz_58 rfl rfl rfl rfl _ rfl ?_ | refine RX.sta 1 (.none rfl) rfl rfl sz_58 rfl rfl rfl rfl _ rfl ?_ | refine RX.sta 2 (.none rfl) rfl rfl sz_58 rfl rfl rfl rfl _ rfl ?_ | refine RX.sta 3 (.none rfl) rfl rfl sz_58 rfl rfl rfl rfl _ rfl ?_ | refine RX.sta 4 (.none rfl) rfl rfl sz_58 rfl rfl rfl rfl _ rfl ?_ | refine RX.sta 5 (.none rfl) rfl rfl sz_58 rfl rfl rfl rfl _ rfl ?_)
      refine RX.nil ?_
      refine WP.heap [HC, HP, [(n2, row [cu64 b, cu64 e] 53)], [(n27, row [.bool true, cu64 b, cu64 e, .slice pT ((loadF (coverF b e) hs).take i).length cT] 104)], HT, [(n10, row (encC x) 58)]] rfl ?_
      have hrh := held_at (S := [HC, HP, [(n2, row [cu64 b, cu64 e] 53)], HT, [(n10, row (encC x) 58)]]) (i := 1) uniH hH hh rfl (hC_len h)
      refine WP.drawT ([4], []) [3] 13 rfl rfl mixed (by kernel_rfl) rfl rfl rfl rfl ?_
      refine RJ.pure (.none rfl) rfl rfl (p_move rfl) ?_
      refine RJ.pure (.none rfl) rfl rfl (p_move rfl) ?_
      refine RJ.pure (.none rfl) rfl rfl (p_nilCheck rfl) ?_
      refine RJ.pure (.none rfl) rfl rfl (p_fieldAddr rfl fa_104_2) ?_
      (first | refine RJ.stab (.none rfl) rfl rfl (r_load rfl na_102 (Rd.own 0 rfl rfl)) ?_ | refine RJ.stab (.none rfl) rfl rfl (r_load rfl na_102 (Rd.own 1 rfl rfl)) ?_ | refine RJ.stab (.none rfl) rfl rfl (r_load rfl na_102 (Rd.own 2 rfl rfl)) ?_ | refine RJ.stab (.none rfl) rfl rfl (r_load rfl na_102 (Rd.own 3 rfl rfl)) ?_ | refine RJ.stab (.none rfl) rfl rfl (r_load rfl na_102 (Rd.own 4 rfl rfl)) ?_ | refine RJ.stab (.none rfl) rfl rfl (r_load rfl na_102 (Rd.own 5 rfl rfl)) ?_)
      refine RJ.read (.none rfl) rfl rfl rfl rfl (r_loadA (vs := encC x) rfl ag_58 (RdN.own 4 rfl rfl) rfl) ?_
      refine RJ.pure (.none rfl) rfl rfl (p_move rfl) ?_
      refine RJ.pure (.none rfl) rfl rfl (p_move rfl) ?_
      refine RJ.pure (.none rfl) rfl rfl (p_idxS rfl rfl sl_24 (by omega) (by omega)) ?_
      refine RJ.read (.none rfl) rfl rfl rfl rfl (r_loadA rfl ag_32 hrh (hC_len h)) ?_
      refine RJ.pure (.none rfl) rfl rfl (p_buildS zr_106 pl_106 rfl (fillN x.1 x.2 h _ rfl)) ?_
      refine RJ.eff (.none rfl) rfl rfl rfl rfl (e_buildSlice sl_102 zr_106 rfl (by decide) (by decide) rfl rfl (fill_one rfl (encN_len ⟨x.1, x.2, h⟩))) ?_
      rintro _ _ ⟨n46, rfl, rfl⟩
      refine RJ.eff (.none rfl) rfl rfl rfl rfl (e_append (enc := encN) (ys := [⟨x.1, x.2, h⟩]) 3 rfl rfl sl_102 zr_106 rfl (by decide) by_106 (uniN _) (uniN _) (fun y _ => encN_ones y) hVT rfl (.inr ⟨_, _, rfl, RdN.own 5 rfl (by rw [List.flatMap_singleton]; exact take_all')⟩) (by rw [hTl]; simp; omega) (by rw [hTl]; simp [maxLen]; omega)) ?_
      rintro _ _ ⟨HT', hVT', rfl⟩; obtain ⟨pE', cE', rfl⟩ := hVT'.slice
      refine RJ.nil ?_
      refine RX.pure (.none rfl) rfl rfl (p_nilCheck rfl) ?_
      refine RX.pure (.none rfl) rfl rfl (p_fieldAddr rfl fa_104_2) ?_
      refine RX.st 6 (.none rfl) rfl rfl sz_102 rfl rfl rfl _ rfl ?_
      refine RX.only [0, 1, 2, 6, 3] rfl rfl ?_
      refine RX.nil ?_
      refine sq_normal ?_
      refine WP.region ?_
      (first | refine RX.pure (.none rfl) rfl rfl (p_add rfl rfl (wr_i64 (by omega) (by omega))) ?_ | refine RX.pure (.none rfl) rfl rfl (p_add rfl rfl rfl) ?_)
      refine RX.pure (.none rfl) rfl rfl (p_move rfl) ?_
      refine RX.nil ?_
      refine lq_normal ((coverF b e).length - (i + 1)) (by omega) ?_
      refine ⟨i + 1, .slice pE' ((loadF (coverF b e) hs).take i ++ [(⟨x.1, x.2, h⟩ : Tr)]).length cE', HT', by omega, rfl, ?_, ?_, rfl⟩
      · rw [List.take_add_one, show (loadF (coverF b e) hs)[i]? = some ⟨x.1, x.2, h⟩ by simp [loadF, List.getElem?_zipWith, hx, hh]]
        exact hVT'
      · repeat (first | exact Sub.nil | refine Sub.cons rfl ?_)
    · refine WP.sregion ?_
      refine RX.pure (.none rfl) rfl rfl (p_lss rfl rfl) ?_
      refine RX.say (t := 31) rfl (.bool false) (by rw [decide_eq_false]; omega) ?_
      refine RX.nil ?_
      refine WP.seq (WP.condF rfl ?_)
      refine WP.exit ?_
      repeat (first | refine sq_exit ?_ | refine bk_exit ?_ | refine lq_exit ?_ | refine cq_exit ?_ | refine bk_exit' rfl ?_)
      obtain rfl : i = (coverF b e).length := by omega
      rw [List.take_of_length_le (by rw [loadF, List.length_zipWith]; omega)] at hVT
      refine ⟨vT, HT, hVT, ?_, rfl⟩
      repeat (first | exact Sub.nil | refine Sub.cons rfl ?_)
  rintro ρ S ⟨vT, HT, hVT, hρ, rfl⟩
  refine WP.sub hρ ?_
  clear hρ
  refine WP.sregion ?_
  refine RX.pure (.none rfl) rfl rfl (p_move rfl) ?_
  refine RX.pure (.none rfl) rfl rfl (p_assign rfl) ?_
  refine RX.pure (.none rfl) rfl rfl (p_assign rfl) ?_
  refine RX.nil ?_
  refine WP.only [3, 4, 1] rfl rfl ?_
  refine WP.close1 ?_
  refine WP.ret ?_
  repeat (first | refine sq_ret ?_ | refine bk_ret ?_ | refine lq_ret ?_ | refine cq_ret ?_)
  exact fin2' (v := .pointer (some ⟨n27, 0, none⟩)) (x := .nilIface) 2 rfl rfl rfl rfl ⟨n27, _, rfl, rfl, vT, HT, rfl, by rw [List.reverse_reverse]; exact hVT⟩
end
end Go.Proofs.YtigjnfmbellpjaaDoor.Cmp

/- Plain: a stretch cut at two places: its rows, joined either way, are the whole's. -/
set_option maxRecDepth 100000
namespace Go.Proofs.YtigjnfmbellpjaaDoor.Cmp
open Go Go.EL Go.EL.Cpt Sha Coo
theorem good_congr {K : Nat → Int} {f g : Nat → H32} {b : Nat} : ∀ {rs : List Tr} {e : Nat}, Cpt.Good (nodeH K) (emptyH K) f b e rs → (∀ m, b ≤ m → m < e → f m = g m) → Cpt.Good (nodeH K) (emptyH K) g b e rs := by
  intro rs e h hfg
  refine ⟨h.row, h.free, fun x hx => ?_⟩
  have key : ∀ (rs : List Tr) (e : Nat), RowR b rs e → ∀ x, x ∈ rs → b ≤ x.b ∧ x.e ≤ e := by
    intro rs
    induction rs with
    | nil => intro e _ x hx; cases hx
    | cons y rs ih =>
      intro e hr x hx
      have h2 := y.e_eq
      have h3 := hr.1
      rcases List.mem_cons.1 hx with rfl | hx
      · exact ⟨RowR.le hr.2, by omega⟩
      · have h1 := ih _ hr.2 x hx
        have := pos2 y.lv
        omega
  obtain ⟨h1, h2⟩ := key rs e h.row x hx
  have h3 := h.hashed x hx
  have h4 := x.e_eq
  simp only [Hashed] at h3 ⊢
  rw [h3]
  congr 1
  simp only [seg]
  refine List.map_congr_left fun i hi => ?_
  have := List.mem_range.1 hi
  exact hfg _ (by omega) (by omega)
/-- the row of a part -/
theorem part_good (K : Nat → Int) (n : Nat) (hs : List H32) (s l : Nat) (part : List H32) (hp : ∀ j, j < l → part.getD j (emptyH K) = hs.getD (s + j) (emptyH K)) : Cpt.Good (nodeH K) (emptyH K) (leafAt K n hs) (n + s) (n + s + l) (rows K (n + s) part l) := by
  refine good_congr (rows_good K (n + s) part l) fun m h1 h2 => ?_
  rw [leafAt, leafAt, hp (m - (n + s)) (by omega)]
  congr 1
  omega
theorem load_at (cs : List (Nat × Nat)) (rs : List Tr) (h : rs.map Nd.at = cs) : loadF cs (rs.map (·.h)) = rs := by
  subst h
  induction rs with
  | nil => rfl
  | cons x rs ih =>
    simp only [List.map_cons, loadF, List.zipWith_cons_cons] at ih ⊢
    rw [ih]
    rfl
theorem good_at {K : Nat → Int} {f : Nat → H32} {b e : Nat} {rs : List Tr} (h : Cpt.Good (nodeH K) (emptyH K) f b e rs) (he : e ≤ 9223372036854775808) : rs.reverse.map Nd.at = coverF b e := by
  have hle := RowR.le h.row
  have h2 := cover_good (nodeH K) (emptyH K) f hle
  rw [h.one h2 he, List.reverse_reverse]
  exact coverNd_at ..
theorem good_load {K : Nat → Int} {f : Nat → H32} {b e : Nat} {rs : List Tr} (h : Cpt.Good (nodeH K) (emptyH K) f b e rs) (he : e ≤ 9223372036854775808) : (loadF (coverF b e) (rs.reverse.map (·.h))).reverse = rs := by
  rw [load_at _ _ (good_at h he), List.reverse_reverse]
theorem good_cl {K : Nat → Int} {f : Nat → H32} {b e : Nat} {rs : List Tr} (h : Cpt.Good (nodeH K) (emptyH K) f b e rs) (he : e ≤ 9223372036854775808) : (rs.reverse.map (fun x : Tr => x.h)).length = (coverF b e).length := by
  rw [← good_at h he, List.length_map, List.length_map]
end Go.Proofs.YtigjnfmbellpjaaDoor.Cmp
