/- CacheNone, walked: what a cache that no call made answers. -/
import Derived.Test.YtpakklmkajjodaaDoorCAXS
import Derived.Test.YtpakklmkajjodaaDoorEL10
set_option maxRecDepth 100000
namespace Go.Proofs.YtpakklmkajjodaaDoor
open Go Go.EL Go.EL.Cache CSI
variable {w0 : World}
theorem same_tri (xs : List ByteArray) (v1 v2 : Value) (S : HS) (h1 : RdS w0 S (fun s => [Value.string s]) xs v1) (h2 : RdS w0 S (fun s => [Value.string s]) xs v2) (hbig : xs.length ≤ 1000000) :
    Tri Tryd.prog w0 20 #[v1, v2] S (fun v S' => v = .bool true ∧ S' = S) := by
  obtain ⟨p1, c1, rfl⟩ := h1.len
  obtain ⟨p2, c2, rfl⟩ := h2.len
  have hu : Uni (fun s => [Value.string s]) 1 xs := fun _ _ => rfl
  refine Tri.mk Tryd.func20 rfl rfl rfl ?_
  refine WP.sregion ?_
  refine RX.pure (.none rfl) rfl rfl (p_assign rfl) ?_
  refine RX.nil ?_
  refine WP.seq (WP.sregion ?_)
  refine RX.pure (.none rfl) rfl rfl (p_move rfl) ?_
  refine RX.pure (.none rfl) rfl rfl (p_lenSlice rfl Tryd.underlying62) ?_
  refine RX.pure (.none rfl) rfl rfl (p_move rfl) ?_
  refine RX.pure (.none rfl) rfl rfl (p_lenSlice rfl Tryd.underlying62) ?_
  refine RX.pure (.none rfl) rfl rfl (p_neInt rfl rfl) ?_
  refine RX.say (t := 10) rfl (.bool false) (by simp) ?_
  refine RX.nil ?_
  refine WP.condF rfl (WP.skip ?_)
  refine WP.seq (WP.sregion ?_)
  refine RX.pure (.none rfl) rfl rfl (p_assign rfl) ?_
  refine RX.nil ?_
  refine WP.block ?_
  refine WP.loop (fun n ρ T => ∃ i, i ≤ xs.length ∧ n = xs.length - i ∧ Sub [(0, .slice p1 xs.length c1), (1, .slice p2 xs.length c2), (5, .int .i64 (i : Nat))] ρ ∧ T = S) xs.length ?_ ?_
  · exact ⟨0, by omega, rfl, .cons rfl (.cons rfl (.cons rfl .nil)), rfl⟩
  rintro n ρ T ⟨i, hi, rfl, hρ, rfl⟩
  refine WP.sub hρ ?_
  clear hρ
  by_cases hlt : i < xs.length
  · have hne : xs ≠ [] := by intro e; subst e; simp at hlt
    obtain ⟨a1, d1, e1⟩ := h1.some hne
    obtain ⟨a2, d2, e2⟩ := h2.some hne
    injection e1 with e1 _ _
    injection e2 with e2 _ _
    subst e1
    subst e2
    obtain ⟨s, hs⟩ : ∃ s, xs[i]? = some s := ⟨_, List.getElem?_eq_getElem hlt⟩
    refine WP.seq (WP.sregion ?_)
    refine RX.pure (.none rfl) rfl rfl (p_move rfl) ?_
    refine RX.pure (.none rfl) rfl rfl (p_move rfl) ?_
    refine RX.pure (.none rfl) rfl rfl (p_lenSlice rfl Tryd.underlying62) ?_
    refine RX.pure (.none rfl) rfl rfl (p_lss rfl rfl) ?_
    refine RX.say (t := 14) rfl (.bool true) (by rw [decide_eq_true]; omega) ?_
    refine RX.nil ?_
    refine WP.condT rfl (WP.skip ?_)
    refine WP.seq (WP.block ?_)
    refine WP.sdraw mixed (by kernel_rfl) ?_
    refine RX.pure (.none rfl) rfl rfl (p_move rfl) ?_
    refine RX.pure (.none rfl) rfl rfl (p_move rfl) ?_
    refine RX.pure (.none rfl) rfl rfl (p_idxS rfl rfl sl_62 (by omega) (by omega)) ?_
    refine RX.read (.none rfl) rfl rfl rfl (r_load rfl na_9 (h1.elem hu (o := 0) hs rfl)) ?_
    refine RX.pure (.none rfl) rfl rfl (p_move rfl) ?_
    refine RX.pure (.none rfl) rfl rfl (p_move rfl) ?_
    refine RX.pure (.none rfl) rfl rfl (p_idxS rfl rfl sl_62 (by omega) (by omega)) ?_
    refine RX.read (.none rfl) rfl rfl rfl (r_load rfl na_9 (h2.elem hu (o := 0) hs rfl)) ?_
    refine RX.pure (.none rfl) rfl rfl (p_neStr rfl rfl) ?_
    refine RX.say (t := 25) rfl (.bool false) (by simp) ?_
    refine RX.nil ?_
    refine WP.condF rfl (WP.skip ?_)
    refine sq_normal ?_
    refine WP.region ?_
    refine RX.pure (.none rfl) rfl rfl (p_move rfl) ?_
    (first | refine RX.pure (.none rfl) rfl rfl (p_add rfl rfl (wr_i64 (by omega) (by omega))) ?_ | refine RX.pure (.none rfl) rfl rfl (p_add rfl rfl rfl) ?_)
    refine RX.pure (.none rfl) rfl rfl (p_assign rfl) ?_
    refine RX.nil ?_
    refine lq_normal (xs.length - (i + 1)) (by omega) ?_
    exact ⟨i + 1, by omega, rfl, .cons rfl (.cons rfl (.cons rfl .nil)), rfl⟩
  · refine WP.seq (WP.sregion ?_)
    refine RX.pure (.none rfl) rfl rfl (p_move rfl) ?_
    refine RX.pure (.none rfl) rfl rfl (p_move rfl) ?_
    refine RX.pure (.none rfl) rfl rfl (p_lenSlice rfl Tryd.underlying62) ?_
    refine RX.pure (.none rfl) rfl rfl (p_lss rfl rfl) ?_
    refine RX.say (t := 14) rfl (.bool false) (by rw [decide_eq_false]; omega) ?_
    refine RX.nil ?_
    refine WP.condF rfl ?_
    refine WP.exit ?_
    repeat (first | refine sq_exit ?_ | refine bk_exit ?_ | refine lq_exit ?_ | refine cq_exit ?_ | refine bk_exit' rfl ?_)
    refine sq_normal ?_
    refine WP.sregion ?_
    refine RX.pure (.none rfl) rfl rfl (p_assign rfl) ?_
    refine RX.nil ?_
    refine WP.ret ?_
    repeat (first | refine sq_ret ?_ | refine bk_ret ?_ | refine lq_ret ?_ | refine cq_ret ?_)
    exact fin1 rfl rfl rfl ⟨rfl, rfl⟩

abbrev DS : Value → Prop := fun v => ∃ s, v = .string s
theorem hKS : KeyTy Tryd.prog 9 DS := key_string Tryd.underlying9
abbrev sA : List Value := [.string ⟨#[97]⟩]
abbrev sB : List Value := [.string ⟨#[98]⟩]
abbrev sC : List Value := [.string ⟨#[99]⟩]
theorem ab : sA ≠ sB := by simp
theorem ac : sA ≠ sC := by simp
theorem bc : sB ≠ sC := by simp
theorem alive_tri : Tri Tryd.prog w0 8 #[] [] (fun v S' => v = .bool true ∧ S' = []) := by
  refine Tri.mk Tryd.func8 rfl rfl rfl ?_
  refine WP.sregion ?_
  refine RX.pure (.none rfl) rfl rfl (p_assign rfl) ?_
  refine RX.nil ?_
  refine WP.sregion ?_
  refine RX.eff (.none rfl) rfl rfl rfl (e_call [] rfl call_18 rfl rfl (new_api (D := DS) 2 (by decide) (by decide))) ?_
  rintro _ _ ⟨_, ⟨c, H1, rfl, rfl, h1⟩, rfl⟩
  refine RX.pure (.none rfl) rfl rfl (p_move rfl) ?_
  refine RX.pure (.none rfl) rfl rfl (p_extract rfl rfl) ?_
  refine RX.pure (.none rfl) rfl rfl (p_extract rfl rfl) ?_
  refine RX.pure (.none rfl) rfl rfl (p_assign rfl) ?_
  refine RX.pure (.none rfl) rfl rfl (p_assign rfl) ?_
  refine RX.nil ?_
  refine WP.seq (WP.sregion ?_)
  refine RX.pure (.none rfl) rfl rfl (p_move rfl) ?_
  refine RX.pure (.none rfl) rfl rfl (p_neNilIface rfl (by first | exact .inl rfl | exact .inr ⟨_, _, rfl⟩ | assumption) Tryd.underlying25) ?_
  refine RX.pure (.none rfl) rfl rfl (p_move rfl) ?_
  (first | refine RX.skip (.no rfl rfl rfl rfl) rfl rfl ?_ | refine RX.pure (.yes rfl rfl rfl) rfl rfl (p_move rfl) ?_)
  (first | refine RX.skip (.no rfl rfl rfl rfl) rfl rfl ?_ | refine RX.pure (.yes rfl rfl rfl) rfl rfl (p_eqNilPtr rfl rfl Tryd.underlying49) ?_)
  (first | refine RX.pure (.none rfl) rfl rfl (p_pickT rfl rfl) ?_ | refine RX.pure (.none rfl) rfl rfl (p_pickF rfl rfl) ?_)
  refine RX.nil ?_
  refine WP.condF rfl (WP.skip ?_)
  refine WP.sregion ?_
  refine RX.pure (.none rfl) rfl rfl (p_move rfl) ?_
  refine RX.eff (.none rfl) rfl rfl rfl (e_call [0] rfl call_13 rfl rfl (put_new hKS h1 (ks := sA) (vs := [.int .i64 1]) ⟨_, rfl⟩ rfl rfl rfl rfl (lk_nil _) (by decide))) ?_
  rintro _ _ ⟨_, ⟨H2, rfl, rfl, h2⟩, rfl⟩
  refine RX.pure (.none rfl) rfl rfl (p_move rfl) ?_
  refine RX.pure (.none rfl) rfl rfl (p_extract rfl rfl) ?_
  refine RX.pure (.none rfl) rfl rfl (p_extract rfl rfl) ?_
  refine RX.pure (.none rfl) rfl rfl (p_assign rfl) ?_
  refine RX.pure (.none rfl) rfl rfl (p_assign rfl) ?_
  refine RX.nil ?_
  refine WP.sregion ?_
  refine RX.pure (.none rfl) rfl rfl (p_move rfl) ?_
  refine RX.eff (.none rfl) rfl rfl rfl (e_call [0] rfl call_13 rfl rfl (put_new hKS h2 (ks := sB) (vs := [.int .i64 2]) ⟨_, rfl⟩ rfl rfl rfl rfl (by rw [lk_ne ab, lk_nil]) (by decide))) ?_
  rintro _ _ ⟨_, ⟨H3, rfl, rfl, h3⟩, rfl⟩
  refine RX.pure (.none rfl) rfl rfl (p_move rfl) ?_
  refine RX.pure (.none rfl) rfl rfl (p_extract rfl rfl) ?_
  refine RX.pure (.none rfl) rfl rfl (p_extract rfl rfl) ?_
  refine RX.pure (.none rfl) rfl rfl (p_assign rfl) ?_
  refine RX.pure (.none rfl) rfl rfl (p_assign rfl) ?_
  refine RX.nil ?_
  refine WP.sregion ?_
  refine RX.pure (.none rfl) rfl rfl (p_move rfl) ?_
  refine RX.eff (.none rfl) rfl rfl rfl (e_call [0] rfl call_14 rfl rfl (get_hit hKS h3 (ks := sA) (vs := [.int .i64 1]) ⟨_, rfl⟩ rfl rfl (by rw [lk_ne ab.symm, lk_eq]))) ?_
  rintro _ _ ⟨_, ⟨H4, rfl, rfl, h4⟩, rfl⟩
  refine RX.pure (.none rfl) rfl rfl (p_move rfl) ?_
  refine RX.pure (.none rfl) rfl rfl (p_extract rfl rfl) ?_
  refine RX.pure (.none rfl) rfl rfl (p_extract rfl rfl) ?_
  refine RX.pure (.none rfl) rfl rfl (p_assign rfl) ?_
  refine RX.pure (.none rfl) rfl rfl (p_assign rfl) ?_
  refine RX.nil ?_
  rw [del_ne ab.symm, del_eq, del_nil] at h4
  refine WP.sregion ?_
  refine RX.pure (.none rfl) rfl rfl (p_move rfl) ?_
  refine RX.eff (.none rfl) rfl rfl rfl (e_call [0] rfl call_13 rfl rfl (put_full hKS (tl := [(sA, [.int .i64 1])]) (k0 := sB) (v0 := [.int .i64 2]) h4 (ks := sC) (vs := [.int .i64 3]) ⟨_, rfl⟩ rfl rfl rfl rfl (by show lk sC [(sA, [.int .i64 1]), (sB, [.int .i64 2])] = none; rw [lk_ne ac, lk_ne bc, lk_nil]) (by decide))) ?_
  rintro _ _ ⟨_, ⟨H5, rfl, rfl, h5⟩, rfl⟩
  refine RX.pure (.none rfl) rfl rfl (p_move rfl) ?_
  refine RX.pure (.none rfl) rfl rfl (p_extract rfl rfl) ?_
  refine RX.pure (.none rfl) rfl rfl (p_extract rfl rfl) ?_
  refine RX.pure (.none rfl) rfl rfl (p_assign rfl) ?_
  refine RX.pure (.none rfl) rfl rfl (p_assign rfl) ?_
  refine RX.nil ?_
  refine WP.sregion ?_
  refine RX.pure (.none rfl) rfl rfl (p_move rfl) ?_
  refine RX.pure (.none rfl) rfl rfl (p_not rfl) ?_
  refine RX.pure (.none rfl) rfl rfl (p_move rfl) ?_
  (first | refine RX.skip (.no rfl rfl rfl rfl) rfl rfl ?_ | refine RX.pure (.yes rfl rfl rfl) rfl rfl (p_move rfl) ?_)
  (first | refine RX.skip (.no rfl rfl rfl rfl) rfl rfl ?_ | refine RX.pure (.yes rfl rfl rfl) rfl rfl (p_not rfl) ?_)
  (first | refine RX.pure (.none rfl) rfl rfl (p_pickT rfl rfl) ?_ | refine RX.pure (.none rfl) rfl rfl (p_pickF rfl rfl) ?_)
  refine RX.pure (.none rfl) rfl rfl (p_move rfl) ?_
  (first | refine RX.skip (.no rfl rfl rfl rfl) rfl rfl ?_ | refine RX.pure (.yes rfl rfl rfl) rfl rfl (p_move rfl) ?_)
  (first | refine RX.skip (.no rfl rfl rfl rfl) rfl rfl ?_ | refine RX.pure (.yes rfl rfl rfl) rfl rfl (p_eqInt rfl rfl) ?_)
  (first | refine RX.pure (.none rfl) rfl rfl (p_pickT rfl rfl) ?_ | refine RX.pure (.none rfl) rfl rfl (p_pickF rfl rfl) ?_)
  refine RX.pure (.none rfl) rfl rfl (p_move rfl) ?_
  (first | refine RX.skip (.no rfl rfl rfl rfl) rfl rfl ?_ | refine RX.pure (.yes rfl rfl rfl) rfl rfl (p_move rfl) ?_)
  (first | refine RX.pure (.none rfl) rfl rfl (p_pickT rfl rfl) ?_ | refine RX.pure (.none rfl) rfl rfl (p_pickF rfl rfl) ?_)
  refine RX.pure (.none rfl) rfl rfl (p_move rfl) ?_
  (first | refine RX.skip (.no rfl rfl rfl rfl) rfl rfl ?_ | refine RX.pure (.yes rfl rfl rfl) rfl rfl (p_move rfl) ?_)
  (first | refine RX.skip (.no rfl rfl rfl rfl) rfl rfl ?_ | refine RX.pure (.yes rfl rfl rfl) rfl rfl (p_eqStr rfl rfl) ?_)
  (first | refine RX.pure (.none rfl) rfl rfl (p_pickT rfl rfl) ?_ | refine RX.pure (.none rfl) rfl rfl (p_pickF rfl rfl) ?_)
  refine RX.pure (.none rfl) rfl rfl (p_move rfl) ?_
  (first | refine RX.skip (.no rfl rfl rfl rfl) rfl rfl ?_ | refine RX.pure (.yes rfl rfl rfl) rfl rfl (p_move rfl) ?_)
  (first | refine RX.pure (.none rfl) rfl rfl (p_pickT rfl rfl) ?_ | refine RX.pure (.none rfl) rfl rfl (p_pickF rfl rfl) ?_)
  refine RX.pure (.none rfl) rfl rfl (p_move rfl) ?_
  (first | refine RX.skip (.no rfl rfl rfl rfl) rfl rfl ?_ | refine RX.pure (.yes rfl rfl rfl) rfl rfl (p_move rfl) ?_)
  (first | refine RX.skip (.no rfl rfl rfl rfl) rfl rfl ?_ | (refine RX.eff (.yes rfl rfl rfl) rfl rfl rfl (e_call [0] rfl call_17 rfl rfl (keys_api h5)) ?_; rintro _ _ ⟨_, ⟨H6, h6, rfl⟩, rfl⟩))
  (first | refine RX.skip (.no rfl rfl rfl rfl) rfl rfl ?_ | (refine RX.eff (.yes rfl rfl rfl) rfl rfl rfl (e_buildSlice sl_62 zr_9 rfl (by decide) (by decide) rfl rfl rfl) ?_; rintro _ _ ⟨n64, rfl, rfl⟩))
  (first | refine RX.skip (.no rfl rfl rfl rfl) rfl rfl ?_ | (refine RX.eff (.yes rfl rfl rfl) rfl rfl rfl (e_call [0, 1, 2] rfl call_20 rfl rfl (same_tri [⟨#[99]⟩, ⟨#[97]⟩] _ _ [_, _, _] ((h6.rd (i := 1) rfl).conv rfl) (.inr ⟨_, _, rfl, RdN.own 2 rfl rfl⟩) (by decide))) ?_; rintro _ _ ⟨_, ⟨rfl, rfl⟩, rfl⟩))
  (first | refine RX.pure (.none rfl) rfl rfl (p_pickT rfl rfl) ?_ | refine RX.pure (.none rfl) rfl rfl (p_pickF rfl rfl) ?_)
  refine RX.pure (.none rfl) rfl rfl (p_move rfl) ?_
  (first | refine RX.skip (.no rfl rfl rfl rfl) rfl rfl ?_ | refine RX.pure (.yes rfl rfl rfl) rfl rfl (p_move rfl) ?_)
  (first | refine RX.skip (.no rfl rfl rfl rfl) rfl rfl ?_ | (refine RX.eff (.yes rfl rfl rfl) rfl rfl rfl (e_call [0] rfl call_16 rfl rfl (len_api h5)) ?_; rintro _ _ ⟨_, ⟨rfl, rfl⟩, rfl⟩))
  (first | refine RX.skip (.no rfl rfl rfl rfl) rfl rfl ?_ | refine RX.pure (.yes rfl rfl rfl) rfl rfl (p_eqInt rfl rfl) ?_)
  (first | refine RX.pure (.none rfl) rfl rfl (p_pickT rfl rfl) ?_ | refine RX.pure (.none rfl) rfl rfl (p_pickF rfl rfl) ?_)
  refine RX.pure (.none rfl) rfl rfl (p_assign rfl) ?_
  refine RX.nil ?_
  refine WP.ret ?_
  repeat (first | refine sq_ret ?_ | refine bk_ret ?_ | refine lq_ret ?_ | refine cq_ret ?_)
  exact fin1' 0 rfl rfl rfl ⟨rfl, rfl⟩
theorem none_tri (name : ByteArray) (k : Int) : Tri Tryd.prog w0 4 #[.string name, .int .i64 k] [] (fun v S' => v = .bool true ∧ S' = []) := by
  refine Tri.mk Tryd.func4 rfl rfl rfl ?_
  refine WP.sregion ?_
  refine RX.pure (.none rfl) rfl rfl (p_assign rfl) ?_
  refine RX.nil ?_
  refine WP.seq (WP.sregion ?_)
  refine RX.eff (.none rfl) rfl rfl rfl (e_call [] rfl call_8 rfl rfl alive_tri) ?_
  rintro _ _ ⟨_, ⟨rfl, rfl⟩, rfl⟩
  refine RX.pure (.none rfl) rfl rfl (p_not rfl) ?_
  refine RX.nil ?_
  refine WP.condF rfl (WP.skip ?_)
  refine WP.sregion ?_
  refine RX.pure (.none rfl) rfl rfl (p_assign rfl) ?_
  refine RX.nil ?_
  refine WP.sregion ?_
  refine RX.pure (.none rfl) rfl rfl (p_move rfl) ?_
  refine RX.pure (.none rfl) rfl rfl (p_buildS zr_54 pl_54 rfl rfl) ?_
  refine RX.eff (.none rfl) rfl rfl rfl (e_box rfl rfl) ?_
  rintro _ _ ⟨n16, rfl, rfl⟩
  refine RX.pure (.none rfl) rfl rfl (p_buildA zr_55 ar_55 rfl rfl) ?_
  refine RX.eff (.none rfl) rfl rfl rfl (e_alloc zr_55) ?_
  rintro _ _ ⟨n6, rfl, rfl⟩
  (first | refine RX.sta 0 (.none rfl) rfl rfl sz_55 rfl rfl rfl rfl _ rfl ?_ | refine RX.sta 1 (.none rfl) rfl rfl sz_55 rfl rfl rfl rfl _ rfl ?_ | refine RX.sta 2 (.none rfl) rfl rfl sz_55 rfl rfl rfl rfl _ rfl ?_ | refine RX.sta 3 (.none rfl) rfl rfl sz_55 rfl rfl rfl rfl _ rfl ?_ | refine RX.sta 4 (.none rfl) rfl rfl sz_55 rfl rfl rfl rfl _ rfl ?_ | refine RX.sta 5 (.none rfl) rfl rfl sz_55 rfl rfl rfl rfl _ rfl ?_ | refine RX.sta 6 (.none rfl) rfl rfl sz_55 rfl rfl rfl rfl _ rfl ?_ | refine RX.sta 7 (.none rfl) rfl rfl sz_55 rfl rfl rfl rfl _ rfl ?_)
  refine RX.nil ?_
  refine WP.seq (WP.sregion ?_)
  refine RX.pure (.none rfl) rfl rfl (p_assign rfl) ?_
  refine RX.nil ?_
  refine WP.block ?_
  refine WP.loop (fun n ρ T => ∃ i : Int, 0 ≤ i ∧ i ≤ 2 ∧ n = (2 - i).toNat ∧ Sub [(0, .string name), (1, .int .i64 k), (6, .pointer (some ⟨n6, 0, none⟩)), (7, .int .i64 i)] ρ ∧ T = [[(n16, zc)], [(n6, row [.pointer none, .pointer (some ⟨n16, 0, none⟩)] 55)]]) 2 ?_ ?_
  · exact ⟨0, by omega, by omega, rfl, .cons rfl (.cons rfl (.cons rfl (.cons rfl .nil))), rfl⟩
  rintro n ρ T ⟨i, h0, h2, rfl, hρ, rfl⟩
  refine WP.sub hρ ?_
  clear hρ
  have hcase : i = 0 ∨ i = 1 ∨ i = 2 := by omega
  rcases hcase with rfl | rfl | rfl
  · refine WP.seq (WP.sregion ?_)
    refine RX.pure (.none rfl) rfl rfl (p_move rfl) ?_
    refine RX.pure (.none rfl) rfl rfl (p_lss rfl rfl) ?_
    refine RX.nil ?_
    refine WP.condT rfl (WP.skip ?_)
    refine WP.seq (WP.block ?_)
    refine WP.sregion ?_
    refine RX.pure (.none rfl) rfl rfl (p_move rfl) ?_
    (first | refine RX.pure (.none rfl) rfl rfl (p_idxArr0 rfl rfl ar_55 (by omega) (by omega)) ?_ | refine RX.pure (.none rfl) rfl rfl (p_idxArr rfl rfl ar_55 (by omega) (by omega)) ?_)
    (first | refine RX.ld 0 (.none rfl) rfl rfl na_49 rfl rfl ?_ | refine RX.ld 1 (.none rfl) rfl rfl na_49 rfl rfl ?_ | refine RX.ld 2 (.none rfl) rfl rfl na_49 rfl rfl ?_ | refine RX.ld 3 (.none rfl) rfl rfl na_49 rfl rfl ?_ | refine RX.ld 4 (.none rfl) rfl rfl na_49 rfl rfl ?_ | refine RX.ld 5 (.none rfl) rfl rfl na_49 rfl rfl ?_ | refine RX.ld 6 (.none rfl) rfl rfl na_49 rfl rfl ?_ | refine RX.ld 7 (.none rfl) rfl rfl na_49 rfl rfl ?_)
    refine RX.pure (.none rfl) rfl rfl (p_move rfl) ?_
    refine RX.pure (.none rfl) rfl rfl (p_move rfl) ?_
    refine RX.eff (.none rfl) rfl rfl rfl (e_call [] rfl call_13 rfl rfl (putNil_tri [.string name] [.int .i64 k])) ?_
    rintro _ _ ⟨_, ⟨rfl, rfl⟩, rfl⟩
    refine RX.pure (.none rfl) rfl rfl (p_move rfl) ?_
    refine RX.pure (.none rfl) rfl rfl (p_extract rfl rfl) ?_
    refine RX.pure (.none rfl) rfl rfl (p_extract rfl rfl) ?_
    refine RX.pure (.none rfl) rfl rfl (p_assign rfl) ?_
    refine RX.pure (.none rfl) rfl rfl (p_assign rfl) ?_
    refine RX.nil ?_
    refine WP.sregion ?_
    refine RX.pure (.none rfl) rfl rfl (p_move rfl) ?_
    (first | refine RX.pure (.none rfl) rfl rfl (p_idxArr0 rfl rfl ar_55 (by omega) (by omega)) ?_ | refine RX.pure (.none rfl) rfl rfl (p_idxArr rfl rfl ar_55 (by omega) (by omega)) ?_)
    (first | refine RX.ld 0 (.none rfl) rfl rfl na_49 rfl rfl ?_ | refine RX.ld 1 (.none rfl) rfl rfl na_49 rfl rfl ?_ | refine RX.ld 2 (.none rfl) rfl rfl na_49 rfl rfl ?_ | refine RX.ld 3 (.none rfl) rfl rfl na_49 rfl rfl ?_ | refine RX.ld 4 (.none rfl) rfl rfl na_49 rfl rfl ?_ | refine RX.ld 5 (.none rfl) rfl rfl na_49 rfl rfl ?_ | refine RX.ld 6 (.none rfl) rfl rfl na_49 rfl rfl ?_ | refine RX.ld 7 (.none rfl) rfl rfl na_49 rfl rfl ?_)
    refine RX.pure (.none rfl) rfl rfl (p_move rfl) ?_
    refine RX.eff (.none rfl) rfl rfl rfl (e_call [] rfl call_14 rfl rfl (getNil_tri [.string name])) ?_
    rintro _ _ ⟨_, ⟨rfl, rfl⟩, rfl⟩
    refine RX.pure (.none rfl) rfl rfl (p_move rfl) ?_
    refine RX.pure (.none rfl) rfl rfl (p_extract rfl rfl) ?_
    refine RX.pure (.none rfl) rfl rfl (p_extract rfl rfl) ?_
    refine RX.pure (.none rfl) rfl rfl (p_assign rfl) ?_
    refine RX.pure (.none rfl) rfl rfl (p_assign rfl) ?_
    refine RX.nil ?_
    refine WP.sregion ?_
    refine RX.pure (.none rfl) rfl rfl (p_move rfl) ?_
    refine RX.pure (.none rfl) rfl rfl (p_move rfl) ?_
    (first | refine RX.skip (.no rfl rfl rfl rfl) rfl rfl ?_ | refine RX.pure (.yes rfl rfl rfl) rfl rfl (p_move rfl) ?_)
    (first | refine RX.skip (.no rfl rfl rfl rfl) rfl rfl ?_ | refine RX.pure (.yes rfl rfl rfl) rfl rfl (p_neStr rfl rfl) ?_)
    (first | refine RX.pure (.none rfl) rfl rfl (p_pickT rfl rfl) ?_ | refine RX.pure (.none rfl) rfl rfl (p_pickF rfl rfl) ?_)
    refine RX.pure (.none rfl) rfl rfl (p_move rfl) ?_
    (first | refine RX.skip (.no rfl rfl rfl rfl) rfl rfl ?_ | refine RX.pure (.yes rfl rfl rfl) rfl rfl (p_move rfl) ?_)
    (first | refine RX.pure (.none rfl) rfl rfl (p_pickT rfl rfl) ?_ | refine RX.pure (.none rfl) rfl rfl (p_pickF rfl rfl) ?_)
    refine RX.pure (.none rfl) rfl rfl (p_move rfl) ?_
    (first | refine RX.skip (.no rfl rfl rfl rfl) rfl rfl ?_ | refine RX.pure (.yes rfl rfl rfl) rfl rfl (p_move rfl) ?_)
    (first | refine RX.skip (.no rfl rfl rfl rfl) rfl rfl ?_ | refine RX.pure (.yes rfl rfl rfl) rfl rfl (p_neInt rfl rfl) ?_)
    (first | refine RX.pure (.none rfl) rfl rfl (p_pickT rfl rfl) ?_ | refine RX.pure (.none rfl) rfl rfl (p_pickF rfl rfl) ?_)
    refine RX.pure (.none rfl) rfl rfl (p_move rfl) ?_
    (first | refine RX.skip (.no rfl rfl rfl rfl) rfl rfl ?_ | refine RX.pure (.yes rfl rfl rfl) rfl rfl (p_move rfl) ?_)
    (first | refine RX.skip (.no rfl rfl rfl rfl) rfl rfl ?_ | refine RX.pure (.yes rfl rfl rfl) rfl rfl (p_idxArr0 rfl rfl ar_55 (by omega) (by omega)) ?_ | refine RX.pure (.yes rfl rfl rfl) rfl rfl (p_idxArr rfl rfl ar_55 (by omega) (by omega)) ?_)
    (first | refine RX.skip (.no rfl rfl rfl rfl) rfl rfl ?_ | refine RX.ld 0 (.yes rfl rfl rfl) rfl rfl na_49 rfl rfl ?_ | refine RX.ld 1 (.yes rfl rfl rfl) rfl rfl na_49 rfl rfl ?_ | refine RX.ld 2 (.yes rfl rfl rfl) rfl rfl na_49 rfl rfl ?_ | refine RX.ld 3 (.yes rfl rfl rfl) rfl rfl na_49 rfl rfl ?_ | refine RX.ld 4 (.yes rfl rfl rfl) rfl rfl na_49 rfl rfl ?_ | refine RX.ld 5 (.yes rfl rfl rfl) rfl rfl na_49 rfl rfl ?_ | refine RX.ld 6 (.yes rfl rfl rfl) rfl rfl na_49 rfl rfl ?_ | refine RX.ld 7 (.yes rfl rfl rfl) rfl rfl na_49 rfl rfl ?_)
    (first | refine RX.skip (.no rfl rfl rfl rfl) rfl rfl ?_ | refine RX.pure (.yes rfl rfl rfl) rfl rfl (p_move rfl) ?_)
    (first | refine RX.skip (.no rfl rfl rfl rfl) rfl rfl ?_ | (refine RX.eff (.yes rfl rfl rfl) rfl rfl rfl (e_call [] rfl call_15 rfl rfl (dropNil_tri [.string name])) ?_; rintro _ _ ⟨_, ⟨rfl, rfl⟩, rfl⟩))
    (first | refine RX.pure (.none rfl) rfl rfl (p_pickT rfl rfl) ?_ | refine RX.pure (.none rfl) rfl rfl (p_pickF rfl rfl) ?_)
    refine RX.pure (.none rfl) rfl rfl (p_move rfl) ?_
    (first | refine RX.skip (.no rfl rfl rfl rfl) rfl rfl ?_ | refine RX.pure (.yes rfl rfl rfl) rfl rfl (p_move rfl) ?_)
    (first | refine RX.skip (.no rfl rfl rfl rfl) rfl rfl ?_ | refine RX.pure (.yes rfl rfl rfl) rfl rfl (p_idxArr0 rfl rfl ar_55 (by omega) (by omega)) ?_ | refine RX.pure (.yes rfl rfl rfl) rfl rfl (p_idxArr rfl rfl ar_55 (by omega) (by omega)) ?_)
    (first | refine RX.skip (.no rfl rfl rfl rfl) rfl rfl ?_ | refine RX.ld 0 (.yes rfl rfl rfl) rfl rfl na_49 rfl rfl ?_ | refine RX.ld 1 (.yes rfl rfl rfl) rfl rfl na_49 rfl rfl ?_ | refine RX.ld 2 (.yes rfl rfl rfl) rfl rfl na_49 rfl rfl ?_ | refine RX.ld 3 (.yes rfl rfl rfl) rfl rfl na_49 rfl rfl ?_ | refine RX.ld 4 (.yes rfl rfl rfl) rfl rfl na_49 rfl rfl ?_ | refine RX.ld 5 (.yes rfl rfl rfl) rfl rfl na_49 rfl rfl ?_ | refine RX.ld 6 (.yes rfl rfl rfl) rfl rfl na_49 rfl rfl ?_ | refine RX.ld 7 (.yes rfl rfl rfl) rfl rfl na_49 rfl rfl ?_)
    (first | refine RX.skip (.no rfl rfl rfl rfl) rfl rfl ?_ | (refine RX.eff (.yes rfl rfl rfl) rfl rfl rfl (e_call [] rfl call_16 rfl rfl lenNil_tri) ?_; rintro _ _ ⟨_, ⟨rfl, rfl⟩, rfl⟩))
    (first | refine RX.skip (.no rfl rfl rfl rfl) rfl rfl ?_ | refine RX.pure (.yes rfl rfl rfl) rfl rfl (p_neInt rfl rfl) ?_)
    (first | refine RX.pure (.none rfl) rfl rfl (p_pickT rfl rfl) ?_ | refine RX.pure (.none rfl) rfl rfl (p_pickF rfl rfl) ?_)
    refine RX.pure (.none rfl) rfl rfl (p_move rfl) ?_
    (first | refine RX.skip (.no rfl rfl rfl rfl) rfl rfl ?_ | refine RX.pure (.yes rfl rfl rfl) rfl rfl (p_move rfl) ?_)
    (first | refine RX.skip (.no rfl rfl rfl rfl) rfl rfl ?_ | refine RX.pure (.yes rfl rfl rfl) rfl rfl (p_idxArr0 rfl rfl ar_55 (by omega) (by omega)) ?_ | refine RX.pure (.yes rfl rfl rfl) rfl rfl (p_idxArr rfl rfl ar_55 (by omega) (by omega)) ?_)
    (first | refine RX.skip (.no rfl rfl rfl rfl) rfl rfl ?_ | refine RX.ld 0 (.yes rfl rfl rfl) rfl rfl na_49 rfl rfl ?_ | refine RX.ld 1 (.yes rfl rfl rfl) rfl rfl na_49 rfl rfl ?_ | refine RX.ld 2 (.yes rfl rfl rfl) rfl rfl na_49 rfl rfl ?_ | refine RX.ld 3 (.yes rfl rfl rfl) rfl rfl na_49 rfl rfl ?_ | refine RX.ld 4 (.yes rfl rfl rfl) rfl rfl na_49 rfl rfl ?_ | refine RX.ld 5 (.yes rfl rfl rfl) rfl rfl na_49 rfl rfl ?_ | refine RX.ld 6 (.yes rfl rfl rfl) rfl rfl na_49 rfl rfl ?_ | refine RX.ld 7 (.yes rfl rfl rfl) rfl rfl na_49 rfl rfl ?_)
    (first | refine RX.skip (.no rfl rfl rfl rfl) rfl rfl ?_ | (refine RX.eff (.yes rfl rfl rfl) rfl rfl rfl (e_call [] rfl call_17 rfl rfl keysNil_tri) ?_; rintro _ _ ⟨_, ⟨rfl, rfl⟩, rfl⟩))
    (first | refine RX.skip (.no rfl rfl rfl rfl) rfl rfl ?_ | refine RX.pure (.yes rfl rfl rfl) rfl rfl (p_lenSlice rfl Tryd.underlying62) ?_)
    (first | refine RX.skip (.no rfl rfl rfl rfl) rfl rfl ?_ | refine RX.pure (.yes rfl rfl rfl) rfl rfl (p_neInt rfl rfl) ?_)
    (first | refine RX.pure (.none rfl) rfl rfl (p_pickT rfl rfl) ?_ | refine RX.pure (.none rfl) rfl rfl (p_pickF rfl rfl) ?_)
    refine RX.nil ?_
    refine WP.condF rfl (WP.skip ?_)
    refine sq_normal ?_
    refine WP.region ?_
    refine RX.pure (.none rfl) rfl rfl (p_move rfl) ?_
    (first | refine RX.pure (.none rfl) rfl rfl (p_add rfl rfl (wr_i64 (by omega) (by omega))) ?_ | refine RX.pure (.none rfl) rfl rfl (p_add rfl rfl rfl) ?_)
    refine RX.pure (.none rfl) rfl rfl (p_assign rfl) ?_
    refine RX.nil ?_
    refine lq_normal 1 (by decide) ?_
    exact ⟨1, by omega, by omega, rfl, .cons rfl (.cons rfl (.cons rfl (.cons rfl .nil))), rfl⟩
  · refine WP.seq (WP.sregion ?_)
    refine RX.pure (.none rfl) rfl rfl (p_move rfl) ?_
    refine RX.pure (.none rfl) rfl rfl (p_lss rfl rfl) ?_
    refine RX.nil ?_
    refine WP.condT rfl (WP.skip ?_)
    refine WP.seq (WP.block ?_)
    refine WP.sregion ?_
    refine RX.pure (.none rfl) rfl rfl (p_move rfl) ?_
    (first | refine RX.pure (.none rfl) rfl rfl (p_idxArr0 rfl rfl ar_55 (by omega) (by omega)) ?_ | refine RX.pure (.none rfl) rfl rfl (p_idxArr rfl rfl ar_55 (by omega) (by omega)) ?_)
    (first | refine RX.ld 0 (.none rfl) rfl rfl na_49 rfl rfl ?_ | refine RX.ld 1 (.none rfl) rfl rfl na_49 rfl rfl ?_ | refine RX.ld 2 (.none rfl) rfl rfl na_49 rfl rfl ?_ | refine RX.ld 3 (.none rfl) rfl rfl na_49 rfl rfl ?_ | refine RX.ld 4 (.none rfl) rfl rfl na_49 rfl rfl ?_ | refine RX.ld 5 (.none rfl) rfl rfl na_49 rfl rfl ?_ | refine RX.ld 6 (.none rfl) rfl rfl na_49 rfl rfl ?_ | refine RX.ld 7 (.none rfl) rfl rfl na_49 rfl rfl ?_)
    refine RX.pure (.none rfl) rfl rfl (p_move rfl) ?_
    refine RX.pure (.none rfl) rfl rfl (p_move rfl) ?_
    refine RX.eff (.none rfl) rfl rfl rfl (e_call [0] rfl call_13 rfl rfl (putZ_tri n16 [.string name] [.int .i64 k])) ?_
    rintro _ _ ⟨_, ⟨rfl, rfl⟩, rfl⟩
    refine RX.pure (.none rfl) rfl rfl (p_move rfl) ?_
    refine RX.pure (.none rfl) rfl rfl (p_extract rfl rfl) ?_
    refine RX.pure (.none rfl) rfl rfl (p_extract rfl rfl) ?_
    refine RX.pure (.none rfl) rfl rfl (p_assign rfl) ?_
    refine RX.pure (.none rfl) rfl rfl (p_assign rfl) ?_
    refine RX.nil ?_
    refine WP.sregion ?_
    refine RX.pure (.none rfl) rfl rfl (p_move rfl) ?_
    (first | refine RX.pure (.none rfl) rfl rfl (p_idxArr0 rfl rfl ar_55 (by omega) (by omega)) ?_ | refine RX.pure (.none rfl) rfl rfl (p_idxArr rfl rfl ar_55 (by omega) (by omega)) ?_)
    (first | refine RX.ld 0 (.none rfl) rfl rfl na_49 rfl rfl ?_ | refine RX.ld 1 (.none rfl) rfl rfl na_49 rfl rfl ?_ | refine RX.ld 2 (.none rfl) rfl rfl na_49 rfl rfl ?_ | refine RX.ld 3 (.none rfl) rfl rfl na_49 rfl rfl ?_ | refine RX.ld 4 (.none rfl) rfl rfl na_49 rfl rfl ?_ | refine RX.ld 5 (.none rfl) rfl rfl na_49 rfl rfl ?_ | refine RX.ld 6 (.none rfl) rfl rfl na_49 rfl rfl ?_ | refine RX.ld 7 (.none rfl) rfl rfl na_49 rfl rfl ?_)
    refine RX.pure (.none rfl) rfl rfl (p_move rfl) ?_
    refine RX.eff (.none rfl) rfl rfl rfl (e_call [0] rfl call_14 rfl rfl (getZ_tri n16 [.string name])) ?_
    rintro _ _ ⟨_, ⟨rfl, rfl⟩, rfl⟩
    refine RX.pure (.none rfl) rfl rfl (p_move rfl) ?_
    refine RX.pure (.none rfl) rfl rfl (p_extract rfl rfl) ?_
    refine RX.pure (.none rfl) rfl rfl (p_extract rfl rfl) ?_
    refine RX.pure (.none rfl) rfl rfl (p_assign rfl) ?_
    refine RX.pure (.none rfl) rfl rfl (p_assign rfl) ?_
    refine RX.nil ?_
    refine WP.sregion ?_
    refine RX.pure (.none rfl) rfl rfl (p_move rfl) ?_
    refine RX.pure (.none rfl) rfl rfl (p_move rfl) ?_
    (first | refine RX.skip (.no rfl rfl rfl rfl) rfl rfl ?_ | refine RX.pure (.yes rfl rfl rfl) rfl rfl (p_move rfl) ?_)
    (first | refine RX.skip (.no rfl rfl rfl rfl) rfl rfl ?_ | refine RX.pure (.yes rfl rfl rfl) rfl rfl (p_neStr rfl rfl) ?_)
    (first | refine RX.pure (.none rfl) rfl rfl (p_pickT rfl rfl) ?_ | refine RX.pure (.none rfl) rfl rfl (p_pickF rfl rfl) ?_)
    refine RX.pure (.none rfl) rfl rfl (p_move rfl) ?_
    (first | refine RX.skip (.no rfl rfl rfl rfl) rfl rfl ?_ | refine RX.pure (.yes rfl rfl rfl) rfl rfl (p_move rfl) ?_)
    (first | refine RX.pure (.none rfl) rfl rfl (p_pickT rfl rfl) ?_ | refine RX.pure (.none rfl) rfl rfl (p_pickF rfl rfl) ?_)
    refine RX.pure (.none rfl) rfl rfl (p_move rfl) ?_
    (first | refine RX.skip (.no rfl rfl rfl rfl) rfl rfl ?_ | refine RX.pure (.yes rfl rfl rfl) rfl rfl (p_move rfl) ?_)
    (first | refine RX.skip (.no rfl rfl rfl rfl) rfl rfl ?_ | refine RX.pure (.yes rfl rfl rfl) rfl rfl (p_neInt rfl rfl) ?_)
    (first | refine RX.pure (.none rfl) rfl rfl (p_pickT rfl rfl) ?_ | refine RX.pure (.none rfl) rfl rfl (p_pickF rfl rfl) ?_)
    refine RX.pure (.none rfl) rfl rfl (p_move rfl) ?_
    (first | refine RX.skip (.no rfl rfl rfl rfl) rfl rfl ?_ | refine RX.pure (.yes rfl rfl rfl) rfl rfl (p_move rfl) ?_)
    (first | refine RX.skip (.no rfl rfl rfl rfl) rfl rfl ?_ | refine RX.pure (.yes rfl rfl rfl) rfl rfl (p_idxArr0 rfl rfl ar_55 (by omega) (by omega)) ?_ | refine RX.pure (.yes rfl rfl rfl) rfl rfl (p_idxArr rfl rfl ar_55 (by omega) (by omega)) ?_)
    (first | refine RX.skip (.no rfl rfl rfl rfl) rfl rfl ?_ | refine RX.ld 0 (.yes rfl rfl rfl) rfl rfl na_49 rfl rfl ?_ | refine RX.ld 1 (.yes rfl rfl rfl) rfl rfl na_49 rfl rfl ?_ | refine RX.ld 2 (.yes rfl rfl rfl) rfl rfl na_49 rfl rfl ?_ | refine RX.ld 3 (.yes rfl rfl rfl) rfl rfl na_49 rfl rfl ?_ | refine RX.ld 4 (.yes rfl rfl rfl) rfl rfl na_49 rfl rfl ?_ | refine RX.ld 5 (.yes rfl rfl rfl) rfl rfl na_49 rfl rfl ?_ | refine RX.ld 6 (.yes rfl rfl rfl) rfl rfl na_49 rfl rfl ?_ | refine RX.ld 7 (.yes rfl rfl rfl) rfl rfl na_49 rfl rfl ?_)
    (first | refine RX.skip (.no rfl rfl rfl rfl) rfl rfl ?_ | refine RX.pure (.yes rfl rfl rfl) rfl rfl (p_move rfl) ?_)
    (first | refine RX.skip (.no rfl rfl rfl rfl) rfl rfl ?_ | (refine RX.eff (.yes rfl rfl rfl) rfl rfl rfl (e_call [0] rfl call_15 rfl rfl (dropZ_tri n16 [.string name])) ?_; rintro _ _ ⟨_, ⟨rfl, rfl⟩, rfl⟩))
    (first | refine RX.pure (.none rfl) rfl rfl (p_pickT rfl rfl) ?_ | refine RX.pure (.none rfl) rfl rfl (p_pickF rfl rfl) ?_)
    refine RX.pure (.none rfl) rfl rfl (p_move rfl) ?_
    (first | refine RX.skip (.no rfl rfl rfl rfl) rfl rfl ?_ | refine RX.pure (.yes rfl rfl rfl) rfl rfl (p_move rfl) ?_)
    (first | refine RX.skip (.no rfl rfl rfl rfl) rfl rfl ?_ | refine RX.pure (.yes rfl rfl rfl) rfl rfl (p_idxArr0 rfl rfl ar_55 (by omega) (by omega)) ?_ | refine RX.pure (.yes rfl rfl rfl) rfl rfl (p_idxArr rfl rfl ar_55 (by omega) (by omega)) ?_)
    (first | refine RX.skip (.no rfl rfl rfl rfl) rfl rfl ?_ | refine RX.ld 0 (.yes rfl rfl rfl) rfl rfl na_49 rfl rfl ?_ | refine RX.ld 1 (.yes rfl rfl rfl) rfl rfl na_49 rfl rfl ?_ | refine RX.ld 2 (.yes rfl rfl rfl) rfl rfl na_49 rfl rfl ?_ | refine RX.ld 3 (.yes rfl rfl rfl) rfl rfl na_49 rfl rfl ?_ | refine RX.ld 4 (.yes rfl rfl rfl) rfl rfl na_49 rfl rfl ?_ | refine RX.ld 5 (.yes rfl rfl rfl) rfl rfl na_49 rfl rfl ?_ | refine RX.ld 6 (.yes rfl rfl rfl) rfl rfl na_49 rfl rfl ?_ | refine RX.ld 7 (.yes rfl rfl rfl) rfl rfl na_49 rfl rfl ?_)
    (first | refine RX.skip (.no rfl rfl rfl rfl) rfl rfl ?_ | (refine RX.eff (.yes rfl rfl rfl) rfl rfl rfl (e_call [0] rfl call_16 rfl rfl (lenZ_tri n16)) ?_; rintro _ _ ⟨_, ⟨rfl, rfl⟩, rfl⟩))
    (first | refine RX.skip (.no rfl rfl rfl rfl) rfl rfl ?_ | refine RX.pure (.yes rfl rfl rfl) rfl rfl (p_neInt rfl rfl) ?_)
    (first | refine RX.pure (.none rfl) rfl rfl (p_pickT rfl rfl) ?_ | refine RX.pure (.none rfl) rfl rfl (p_pickF rfl rfl) ?_)
    refine RX.pure (.none rfl) rfl rfl (p_move rfl) ?_
    (first | refine RX.skip (.no rfl rfl rfl rfl) rfl rfl ?_ | refine RX.pure (.yes rfl rfl rfl) rfl rfl (p_move rfl) ?_)
    (first | refine RX.skip (.no rfl rfl rfl rfl) rfl rfl ?_ | refine RX.pure (.yes rfl rfl rfl) rfl rfl (p_idxArr0 rfl rfl ar_55 (by omega) (by omega)) ?_ | refine RX.pure (.yes rfl rfl rfl) rfl rfl (p_idxArr rfl rfl ar_55 (by omega) (by omega)) ?_)
    (first | refine RX.skip (.no rfl rfl rfl rfl) rfl rfl ?_ | refine RX.ld 0 (.yes rfl rfl rfl) rfl rfl na_49 rfl rfl ?_ | refine RX.ld 1 (.yes rfl rfl rfl) rfl rfl na_49 rfl rfl ?_ | refine RX.ld 2 (.yes rfl rfl rfl) rfl rfl na_49 rfl rfl ?_ | refine RX.ld 3 (.yes rfl rfl rfl) rfl rfl na_49 rfl rfl ?_ | refine RX.ld 4 (.yes rfl rfl rfl) rfl rfl na_49 rfl rfl ?_ | refine RX.ld 5 (.yes rfl rfl rfl) rfl rfl na_49 rfl rfl ?_ | refine RX.ld 6 (.yes rfl rfl rfl) rfl rfl na_49 rfl rfl ?_ | refine RX.ld 7 (.yes rfl rfl rfl) rfl rfl na_49 rfl rfl ?_)
    (first | refine RX.skip (.no rfl rfl rfl rfl) rfl rfl ?_ | (refine RX.eff (.yes rfl rfl rfl) rfl rfl rfl (e_call [0] rfl call_17 rfl rfl (keysZ_tri n16)) ?_; rintro _ _ ⟨_, ⟨rfl, rfl⟩, rfl⟩))
    (first | refine RX.skip (.no rfl rfl rfl rfl) rfl rfl ?_ | refine RX.pure (.yes rfl rfl rfl) rfl rfl (p_lenSlice rfl Tryd.underlying62) ?_)
    (first | refine RX.skip (.no rfl rfl rfl rfl) rfl rfl ?_ | refine RX.pure (.yes rfl rfl rfl) rfl rfl (p_neInt rfl rfl) ?_)
    (first | refine RX.pure (.none rfl) rfl rfl (p_pickT rfl rfl) ?_ | refine RX.pure (.none rfl) rfl rfl (p_pickF rfl rfl) ?_)
    refine RX.nil ?_
    refine WP.condF rfl (WP.skip ?_)
    refine sq_normal ?_
    refine WP.region ?_
    refine RX.pure (.none rfl) rfl rfl (p_move rfl) ?_
    (first | refine RX.pure (.none rfl) rfl rfl (p_add rfl rfl (wr_i64 (by omega) (by omega))) ?_ | refine RX.pure (.none rfl) rfl rfl (p_add rfl rfl rfl) ?_)
    refine RX.pure (.none rfl) rfl rfl (p_assign rfl) ?_
    refine RX.nil ?_
    refine lq_normal 0 (by decide) ?_
    exact ⟨2, by omega, by omega, rfl, .cons rfl (.cons rfl (.cons rfl (.cons rfl .nil))), rfl⟩
  · refine WP.seq (WP.sregion ?_)
    refine RX.pure (.none rfl) rfl rfl (p_move rfl) ?_
    refine RX.pure (.none rfl) rfl rfl (p_lss rfl rfl) ?_
    refine RX.nil ?_
    refine WP.condF rfl ?_
    refine WP.exit ?_
    repeat (first | refine sq_exit ?_ | refine bk_exit ?_ | refine lq_exit ?_ | refine cq_exit ?_ | refine bk_exit' rfl ?_)
    refine sq_normal ?_
    refine WP.sregion ?_
    refine RX.pure (.none rfl) rfl rfl (p_assign rfl) ?_
    refine RX.nil ?_
    refine WP.ret ?_
    repeat (first | refine sq_ret ?_ | refine bk_ret ?_ | refine lq_ret ?_ | refine cq_ret ?_)
    exact fin1' 0 rfl rfl rfl ⟨rfl, rfl⟩
end Go.Proofs.YtpakklmkajjodaaDoor
