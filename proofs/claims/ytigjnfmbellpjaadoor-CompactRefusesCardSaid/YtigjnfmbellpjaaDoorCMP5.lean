/- The law's alive; lists of hashes compared. -/
import Derived.Test.YtigjnfmbellpjaaDoorCMP4
set_option maxRecDepth 100000
namespace Go.Proofs.YtigjnfmbellpjaaDoor.Cmp
open Go Go.EL Go.EL.Cpt Sha Coo
/-- a literal of two elements -/
theorem fill_two {k : Nat} {zs cs ds : List Value} (hz : zs.length = k) (hc : cs.length = k) (hd : ds.length = k) : fillL (fun i => some (i * k, k)) ((List.replicate 2 zs).flatten) [(0, .agg ⟨cs⟩), (1, .agg ⟨ds⟩)] = some (cs ++ ds) := by
  have e : (List.replicate 2 zs).flatten = zs ++ zs := by simp [List.replicate]
  have hb : ∀ n : Nat, Nat.blt (n + k) n = false := fun n => by
    cases h : Nat.blt (n + k) n with
    | false => rfl
    | true => rw [Nat.blt_eq] at h; omega
  have hb2 : Nat.blt (k + k) k = false := hb k
  have hb3 : Nat.blt (k + k) (k + k) = false := by
    cases h : Nat.blt (k + k) (k + k) with
    | false => rfl
    | true => rw [Nat.blt_eq] at h; omega
  rw [e]
  simp [fillL, Value.cells, hz, hc, hd, hb2, hb3]
theorem sp_wide : wideKey Tryd.prog 53 = true := by kernel_rfl
theorem sp_guard : Tryd.prog.eqGuardType Tryd.prog.depth 53 = false := by kernel_rfl
theorem sp_dk (b e : Nat) (h1 : b ≤ 18446744073709551615) (h2 : e ≤ 18446744073709551615) : Dk Tryd.prog 53 (sAgg b e) :=
  dk_two (by kernel_rfl) Tryd.underlying53 rfl (by kernel_rfl) rfl rfl rfl rfl (by kernel_rfl) Tryd.underlying23 Tryd.underlying23 (by kernel_rfl) (by kernel_rfl) size_ne
    (by simp [Lit.wf, IntKind.min, IntKind.max, IntKind.signed, IntKind.bits]; omega) (by simp [Lit.wf, IntKind.min, IntKind.max, IntKind.signed, IntKind.bits]; omega)
section
variable {w0 : World}
theorem held_at {α : Type} {enc : α → List Value} {k : Nat} (hu : ∀ ys, Uni enc k ys) {ys : List α} {a : Addr} {n c i j : Nat} {HP : Hp} {S : HS} {x : α} (hH : Held w0 HP enc ys (.slice (some a) n c)) (hx : ys[j]? = some x) (hi : S[i]? = some HP) (hk : (enc x).length = k) : RdN w0 S (a.add (((j : Nat) : Int).toNat * k)) (enc x) := by
  have := (hH.rd (S := S) hi).elems (hu _) (o := 0) (n := k) hx (take_all hk) (by omega) hk
  simpa using this
open Classical in
theorem same_tri (xs : List H32) (v1 v2 : Value) (H1 H2 : Hp) (h1 : Held w0 H1 hC xs v1) (h2 : Held w0 H2 hC xs v2) :
    Tri Tryd.prog w0 30 #[v1, v2] [H1, H2] (fun v S' => v = .bool true ∧ S' = [H1, H2]) := by
  obtain ⟨p1, c1, rfl, _, hm1⟩ := h1.len
  obtain ⟨p2, c2, rfl, hl2, hm2⟩ := h2.len
  unfold maxLen at hm2
  refine Tri.mk Tryd.func30 rfl rfl rfl ?_
  refine WP.sregion ?_
  refine RX.pure (.none rfl) rfl rfl (p_assign rfl) ?_
  refine RX.nil ?_
  refine WP.seq (WP.sregion ?_)
  refine RX.pure (.none rfl) rfl rfl (p_move rfl) ?_
  refine RX.pure (.none rfl) rfl rfl (p_lenSlice rfl Tryd.underlying24) ?_
  refine RX.pure (.none rfl) rfl rfl (p_move rfl) ?_
  refine RX.pure (.none rfl) rfl rfl (p_lenSlice rfl Tryd.underlying24) ?_
  refine RX.pure (.none rfl) rfl rfl (p_neInt rfl rfl) ?_
  refine RX.say (t := 10) rfl (.bool false) (by simp) ?_
  refine RX.nil ?_
  refine WP.condF rfl (WP.skip ?_)
  refine WP.cut (fun ρ S => Sub [] ρ ∧ S = [H1, H2]) ?_ ?_
  · refine WP.sregion ?_
    refine RX.pure (.none rfl) rfl rfl (p_assign rfl) ?_
    refine RX.nil ?_
    refine WP.block ?_
    refine WP.loop (fun m ρ S => ∃ i : Nat, i ≤ xs.length ∧ m = xs.length - i ∧ Sub [(0, .slice p1 xs.length c1), (1, .slice p2 xs.length c2), (5, .int .i64 (i : Nat))] ρ ∧ S = [H1, H2]) xs.length ?_ ?_
    · refine ⟨0, by omega, by omega, ?_, rfl⟩
      repeat (first | exact Sub.nil | refine Sub.cons rfl ?_)
    rintro m ρ S ⟨i, hi, rfl, hρ, rfl⟩
    refine WP.sub hρ ?_
    clear hρ
    by_cases hlt : i < xs.length
    · have hne : xs ≠ [] := by intro e; rw [e] at hlt; simp at hlt
      obtain ⟨x, hx⟩ : ∃ x, xs[i]? = some x := ⟨_, List.getElem?_eq_getElem hlt⟩
      obtain ⟨a1, d1, e1, _, _⟩ := h1.addr hne
      obtain ⟨a2, d2, e2, _, _⟩ := h2.addr hne
      injection e1 with e1 _ e3
      injection e2 with e2 _ e4
      subst e1; subst e2; subst e3; subst e4
      have hr1 := held_at (S := [H1, H2]) (i := 0) uniH h1 hx rfl (hC_len x)
      have hr2 := held_at (S := [H1, H2]) (i := 1) uniH h2 hx rfl (hC_len x)
      refine WP.seq (WP.sregion ?_)
      refine RX.pure (.none rfl) rfl rfl (p_move rfl) ?_
      refine RX.pure (.none rfl) rfl rfl (p_move rfl) ?_
      refine RX.pure (.none rfl) rfl rfl (p_lenSlice rfl Tryd.underlying24) ?_
      refine RX.pure (.none rfl) rfl rfl (p_lss rfl rfl) ?_
      refine RX.say (t := 14) rfl (.bool true) (by rw [decide_eq_true]; omega) ?_
      refine RX.nil ?_
      refine WP.condT rfl (WP.skip ?_)
      refine WP.seq (WP.block ?_)
      refine WP.sdraw mixed (by kernel_rfl) ?_
      refine RX.pure (.none rfl) rfl rfl (p_move rfl) ?_
      refine RX.pure (.none rfl) rfl rfl (p_move rfl) ?_
      refine RX.pure (.none rfl) rfl rfl (p_idxS rfl rfl sl_24 (by omega) (by omega)) ?_
      refine RX.read (.none rfl) rfl rfl rfl (r_loadA rfl ag_32 hr1 (hC_len x)) ?_
      refine RX.pure (.none rfl) rfl rfl (p_move rfl) ?_
      refine RX.pure (.none rfl) rfl rfl (p_move rfl) ?_
      refine RX.pure (.none rfl) rfl rfl (p_idxS rfl rfl sl_24 (by omega) (by omega)) ?_
      refine RX.read (.none rfl) rfl rfl rfl (r_loadA rfl ag_32 hr2 (hC_len x)) ?_
      refine RX.pure (.none rfl) rfl rfl (p_neDeep rfl rfl hash_wide (hash_dk x) (hash_dk x) hash_guard) ?_
      refine RX.say (t := 25) rfl (.bool false) (by simp) ?_
      refine RX.nil ?_
      refine WP.condF rfl (WP.skip ?_)
      refine sq_normal ?_
      refine WP.region ?_
      refine RX.pure (.none rfl) rfl rfl (p_move rfl) ?_
      (first | refine RX.pure (.none rfl) rfl rfl (p_add rfl rfl (wr_i64 (by omega) (by omega))) ?_ | refine RX.pure (.none rfl) rfl rfl (p_add rfl rfl rfl) ?_)
      refine RX.pure (.none rfl) rfl rfl (p_assign rfl) ?_
      refine RX.nil ?_
      refine lq_normal (xs.length - (i + 1)) (by omega) ?_
      refine ⟨i + 1, by omega, rfl, ?_, rfl⟩
      repeat (first | exact Sub.nil | refine Sub.cons rfl ?_)
    · refine WP.seq (WP.sregion ?_)
      refine RX.pure (.none rfl) rfl rfl (p_move rfl) ?_
      refine RX.pure (.none rfl) rfl rfl (p_move rfl) ?_
      refine RX.pure (.none rfl) rfl rfl (p_lenSlice rfl Tryd.underlying24) ?_
      refine RX.pure (.none rfl) rfl rfl (p_lss rfl rfl) ?_
      refine RX.say (t := 14) rfl (.bool false) (by rw [decide_eq_false]; omega) ?_
      refine RX.nil ?_
      refine WP.condF rfl ?_
      refine WP.exit ?_
      repeat (first | refine sq_exit ?_ | refine bk_exit ?_ | refine lq_exit ?_ | refine cq_exit ?_ | refine bk_exit' rfl ?_)
      exact ⟨Sub.nil, rfl⟩
  rintro ρ S ⟨hρ, rfl⟩
  refine WP.sub hρ ?_
  clear hρ
  refine WP.sregion ?_
  refine RX.pure (.none rfl) rfl rfl (p_assign rfl) ?_
  refine RX.nil ?_
  refine WP.ret ?_
  repeat (first | refine sq_ret ?_ | refine bk_ret ?_ | refine lq_ret ?_ | refine cq_ret ?_)
  exact fin1' 2 rfl rfl rfl ⟨rfl, rfl⟩
/-- a hash of one byte, then zeros -/
def u1 (n : Nat) (h : n ≤ 255) : H32 := ⟨(n : Int) :: List.replicate 31 0, by simp, fun x hx => by
  rcases List.mem_cons.1 hx with rfl | hx
  · omega
  · have := List.eq_of_mem_replicate hx; omega⟩
abbrev hA : H32 := u1 1 (by decide)
abbrev hB : H32 := u1 2 (by decide)
abbrev hD : H32 := u1 3 (by decide)
theorem three_rows (K : Nat → Int) (a b c : H32) : pushR (nodeH K) (pushR (nodeH K) (pushR (nodeH K) [] ⟨0, 0, a⟩) ⟨0, 1, b⟩) ⟨0, 2, c⟩ = [⟨0, 2, c⟩, ⟨1, 0, nodeH K a b⟩] := by
  simp [pushR, sib]
theorem two_rows (K : Nat → Int) (a b : H32) : pushR (nodeH K) (pushR (nodeH K) [] ⟨0, 0, a⟩) ⟨0, 1, b⟩ = [⟨1, 0, nodeH K a b⟩] := by
  simp [pushR, sib]
open Classical in
set_option maxHeartbeats 1000000 in
theorem alive_tri (K : Nat → Int) (hK : Tab w0 K) : Tri Tryd.prog w0 16 #[] [] (fun v S' => v = .bool true ∧ S' = []) := by
  refine Tri.mk Tryd.func16 rfl rfl rfl ?_
  refine WP.sregion ?_
  refine RX.pure (.none rfl) rfl rfl (p_assign rfl) ?_
  refine RX.nil ?_
  refine WP.sregion ?_
  refine RX.eff (.none rfl) rfl rfl rfl (e_call [] rfl call_17 rfl rfl (new_tri 0)) ?_
  rintro _ _ ⟨_, ⟨r, H, rfl, rfl, hR⟩, rfl⟩
  refine RX.pure (.none rfl) rfl rfl (p_assign rfl) ?_
  refine RX.nil ?_
  refine WP.seq (WP.sregion ?_)
  refine RX.pure (.none rfl) rfl rfl (p_move rfl) ?_
  refine RX.pure (.none rfl) rfl rfl (p_eqNilPtr rfl rfl Tryd.underlying44) ?_
  refine RX.nil ?_
  refine WP.condF rfl (WP.skip ?_)
  refine WP.sregion ?_
  refine RX.pure (.none rfl) rfl rfl (p_move rfl) ?_
  refine RX.eff (.none rfl) rfl rfl rfl (e_call [0] rfl call_18 rfl rfl (root_tri K hK 0 [] r H hR (by simp))) ?_
  rintro _ _ ⟨_, ⟨rfl, rfl⟩, rfl⟩
  refine RX.pure (.none rfl) rfl rfl (p_move rfl) ?_
  refine RX.pure (.none rfl) rfl rfl (p_extract rfl rfl) ?_
  refine RX.pure (.none rfl) rfl rfl (p_extract rfl rfl) ?_
  refine RX.eff (.none rfl) rfl rfl rfl (e_alloc zr_32) ?_
  rintro _ _ ⟨n2, rfl, rfl⟩
  refine RX.sta 1 (.none rfl) rfl rfl sz_32 (hC_len _) (hC_ones _) rfl rfl (hC (emptyH K)) (put_all rfl) ?_
  refine RX.pure (.none rfl) rfl rfl (p_assign rfl) ?_
  refine RX.nil ?_
  refine WP.seq (WP.sdrawJ ([3], []) [1] mixed (by kernel_rfl) rfl rfl rfl ?_)
  refine RJ.pure (.none rfl) rfl rfl (p_move rfl) ?_
  refine RJ.pure (.none rfl) rfl rfl (p_neNilIface rfl (by first | exact .inl rfl | exact .inr ⟨_, _, rfl⟩ | assumption) Tryd.underlying34) ?_
  refine RJ.pure (.none rfl) rfl rfl (p_move rfl) ?_
  (first | refine RJ.skip (.no rfl rfl rfl rfl) rfl rfl ?_ | refine RJ.stab (.yes rfl rfl rfl) rfl rfl (r_loadA (vs := hC (emptyH K)) rfl ag_32 (RdN.own 0 rfl take_all') (hC_len _)) ?_)
  (first | refine RJ.skip (.no rfl rfl rfl rfl) rfl rfl ?_ | (refine RJ.eff (.yes rfl rfl rfl) rfl rfl rfl rfl (e_call [] rfl call_47 rfl rfl (emptyH_tri K hK)) ?_; rintro _ _ ⟨_, ⟨rfl, rfl⟩, rfl⟩))
  (first | refine RJ.skip (.no rfl rfl rfl rfl) rfl rfl ?_ | (refine RJ.pure (.yes rfl rfl rfl) rfl rfl (p_neDeep rfl rfl hash_wide (hash_dk _) (hash_dk _) hash_guard) ?_; refine RJ.say (t := 21) rfl (.bool false) (by simp) ?_))
  (first | refine RJ.pure (.none rfl) rfl rfl (p_pickT rfl rfl) ?_ | refine RJ.pure (.none rfl) rfl rfl (p_pickF rfl rfl) ?_)
  refine RJ.nil ?_
  refine WP.condF rfl (WP.skip ?_)
  refine WP.sregion ?_
  refine RX.pure (.none rfl) rfl rfl (p_buildA zr_32 ar_32 rfl rfl) ?_
  refine RX.say (t := 23) rfl (hV hA) rfl ?_
  refine RX.eff (.none rfl) rfl rfl rfl (e_alloc zr_32) ?_
  rintro _ _ ⟨n4, rfl, rfl⟩
  refine RX.sta 2 (.none rfl) rfl rfl sz_32 (hC_len _) (hC_ones _) rfl rfl (hC hA) (put_all rfl) ?_
  refine RX.nil ?_
  refine WP.sregion ?_
  refine RX.pure (.none rfl) rfl rfl (p_buildA zr_32 ar_32 rfl rfl) ?_
  refine RX.say (t := 24) rfl (hV hB) rfl ?_
  refine RX.eff (.none rfl) rfl rfl rfl (e_alloc zr_32) ?_
  rintro _ _ ⟨n5, rfl, rfl⟩
  refine RX.sta 3 (.none rfl) rfl rfl sz_32 (hC_len _) (hC_ones _) rfl rfl (hC hB) (put_all rfl) ?_
  refine RX.nil ?_
  refine WP.sregion ?_
  refine RX.pure (.none rfl) rfl rfl (p_buildA zr_32 ar_32 rfl rfl) ?_
  refine RX.say (t := 25) rfl (hV hD) rfl ?_
  refine RX.eff (.none rfl) rfl rfl rfl (e_alloc zr_32) ?_
  rintro _ _ ⟨n6, rfl, rfl⟩
  refine RX.sta 4 (.none rfl) rfl rfl sz_32 (hC_len _) (hC_ones _) rfl rfl (hC hD) (put_all rfl) ?_
  refine RX.nil ?_
  refine WP.heap [H, [(n2, row (hC (emptyH K)) 32)], [(n4, row (hC hA) 32)], [(n5, row (hC hB) 32)], [(n6, row (hC hD) 32)]] rfl ?_
  have hm1 : ∀ x, x ∈ pushR (nodeH K) [] ⟨0, 0, hA⟩ → Nd.may x := by
    intro x hx
    obtain rfl : x = ⟨0, 0, hA⟩ := by simpa [pushR] using hx
    exact ⟨by decide, by decide⟩
  have hm2 : ∀ x, x ∈ pushR (nodeH K) (pushR (nodeH K) [] ⟨0, 0, hA⟩) ⟨0, 1, hB⟩ → Nd.may x := by
    intro x hx
    rw [two_rows] at hx
    obtain rfl : x = ⟨1, 0, nodeH K hA hB⟩ := by simpa using hx
    exact ⟨by simp, by simp⟩
  refine WP.seq (WP.sregion ?_)
  refine RX.pure (.none rfl) rfl rfl (p_move rfl) ?_
  refine RX.lda 2 (.none rfl) rfl rfl ag_32 rfl (hC_all _) (hC_len _) ?_
  refine RX.eff (.none rfl) rfl rfl rfl (e_call [0] rfl call_20 rfl rfl (append_tri K hK 0 0 [] hA r H hR (by simp) (by decide) (by simp))) ?_
  rintro _ _ ⟨_, ⟨rfl, H1, rfl, hR1⟩, rfl⟩
  refine RX.pure (.none rfl) rfl rfl (p_neNilIface rfl (by first | exact .inl rfl | exact .inr ⟨_, _, rfl⟩ | assumption) Tryd.underlying34) ?_
  refine RX.pure (.none rfl) rfl rfl (p_move rfl) ?_
  (first | refine RX.skip (.no rfl rfl rfl rfl) rfl rfl ?_ | refine RX.pure (.yes rfl rfl rfl) rfl rfl (p_move rfl) ?_)
  (first | refine RX.skip (.no rfl rfl rfl rfl) rfl rfl ?_ | refine RX.lda 3 (.yes rfl rfl rfl) rfl rfl ag_32 rfl (hC_all _) (hC_len _) ?_)
  (first | refine RX.skip (.no rfl rfl rfl rfl) rfl rfl ?_ | (refine RX.eff (.yes rfl rfl rfl) rfl rfl rfl (e_call [0] rfl call_20 rfl rfl (append_tri K hK 0 1 _ hB r H1 hR1 hm1 (by decide) (by simp [pushR]))) ?_; rintro _ _ ⟨_, ⟨rfl, H2, rfl, hR2⟩, rfl⟩))
  (first | refine RX.skip (.no rfl rfl rfl rfl) rfl rfl ?_ | refine RX.pure (.yes rfl rfl rfl) rfl rfl (p_neNilIface rfl (by first | exact .inl rfl | exact .inr ⟨_, _, rfl⟩ | assumption) Tryd.underlying34) ?_)
  (first | refine RX.pure (.none rfl) rfl rfl (p_pickT rfl rfl) ?_ | refine RX.pure (.none rfl) rfl rfl (p_pickF rfl rfl) ?_)
  refine RX.pure (.none rfl) rfl rfl (p_move rfl) ?_
  (first | refine RX.skip (.no rfl rfl rfl rfl) rfl rfl ?_ | refine RX.pure (.yes rfl rfl rfl) rfl rfl (p_move rfl) ?_)
  (first | refine RX.skip (.no rfl rfl rfl rfl) rfl rfl ?_ | refine RX.lda 4 (.yes rfl rfl rfl) rfl rfl ag_32 rfl (hC_all _) (hC_len _) ?_)
  (first | refine RX.skip (.no rfl rfl rfl rfl) rfl rfl ?_ | (refine RX.eff (.yes rfl rfl rfl) rfl rfl rfl (e_call [0] rfl call_20 rfl rfl (append_tri K hK 0 2 _ hD r H2 hR2 hm2 (by decide) (by rw [two_rows]; simp))) ?_; rintro _ _ ⟨_, ⟨rfl, H3, rfl, hR3⟩, rfl⟩))
  (first | refine RX.skip (.no rfl rfl rfl rfl) rfl rfl ?_ | refine RX.pure (.yes rfl rfl rfl) rfl rfl (p_neNilIface rfl (by first | exact .inl rfl | exact .inr ⟨_, _, rfl⟩ | assumption) Tryd.underlying34) ?_)
  (first | refine RX.pure (.none rfl) rfl rfl (p_pickT rfl rfl) ?_ | refine RX.pure (.none rfl) rfl rfl (p_pickF rfl rfl) ?_)
  refine RX.nil ?_
  refine WP.condF rfl (WP.skip ?_)
  rw [three_rows] at hR3
  refine WP.sregion ?_
  refine RX.pure (.none rfl) rfl rfl (p_move rfl) ?_
  refine RX.eff (.none rfl) rfl rfl rfl (e_call [0] rfl call_18 rfl rfl (root_tri K hK 3 _ r H3 hR3 (by simp))) ?_
  rintro _ _ ⟨_, ⟨rfl, rfl⟩, rfl⟩
  refine RX.pure (.none rfl) rfl rfl (p_move rfl) ?_
  refine RX.pure (.none rfl) rfl rfl (p_extract rfl rfl) ?_
  refine RX.pure (.none rfl) rfl rfl (p_extract rfl rfl) ?_
  refine RX.sta 1 (.none rfl) rfl rfl sz_32 (hC_len _) (hC_ones _) rfl (ble_all (hC_len _)) (hC (nodeH K (nodeH K hA hB) hD)) (put_all (hC_len _)) ?_
  refine RX.pure (.none rfl) rfl rfl (p_assign rfl) ?_
  refine RX.nil ?_
  refine WP.sregion ?_
  refine RX.pure (.none rfl) rfl rfl (p_move rfl) ?_
  refine RX.eff (.none rfl) rfl rfl rfl (e_call [0] rfl call_22 rfl rfl (hashes_tri 0 3 _ r H3 hR3 (by simp))) ?_
  rintro _ _ ⟨_, ⟨HV, rfl, hVH⟩, rfl⟩
  refine RX.pure (.none rfl) rfl rfl (p_assign rfl) ?_
  refine RX.nil ?_
  obtain ⟨pH, cH, rfl⟩ := hVH.slice
  have hVH' : Vec 32 32 hC [nodeH K hA hB, hD] (.slice pH 2 cH) HV := hVH
  refine WP.heap [H3, HV, [(n2, row (hC (nodeH K (nodeH K hA hB) hD)) 32)], [(n4, row (hC hA) 32)], [(n5, row (hC hB) 32)], [(n6, row (hC hD) 32)]] rfl ?_
  refine WP.sdrawJ ([13, 18, 22], []) [2, 5] mixed (by kernel_rfl) rfl rfl rfl ?_
  refine RJ.pure (.none rfl) rfl rfl (p_move rfl) ?_
  refine RJ.pure (.none rfl) rfl rfl (p_eqNilIface rfl (by first | exact .inl rfl | exact .inr ⟨_, _, rfl⟩ | assumption) Tryd.underlying34) ?_
  refine RJ.pure (.none rfl) rfl rfl (p_move rfl) ?_
  (first | refine RJ.skip (.no rfl rfl rfl rfl) rfl rfl ?_ | refine RJ.pure (.yes rfl rfl rfl) rfl rfl (p_move rfl) ?_)
  (first | refine RJ.skip (.no rfl rfl rfl rfl) rfl rfl ?_ | (refine RJ.eff (.yes rfl rfl rfl) rfl rfl rfl rfl (e_call [0] rfl call_29 rfl rfl (rspan_tri 0 3 _ r H3 hR3)) ?_; rintro _ _ ⟨_, ⟨rfl, rfl⟩, rfl⟩))
  (first | refine RJ.skip (.no rfl rfl rfl rfl) rfl rfl ?_ | (refine RJ.pure (.yes rfl rfl rfl) rfl rfl (p_buildS zr_53 pl_53 rfl rfl) ?_; refine RJ.say (t := 54) rfl (sAgg 0 3) rfl ?_))
  (first | refine RJ.skip (.no rfl rfl rfl rfl) rfl rfl ?_ | (refine RJ.pure (.yes rfl rfl rfl) rfl rfl (p_eqDeep rfl rfl sp_wide (sp_dk 0 3 (by decide) (by decide)) (sp_dk 0 3 (by decide) (by decide)) sp_guard) ?_; refine RJ.say (t := 55) rfl (.bool true) (by simp) ?_))
  (first | refine RJ.pure (.none rfl) rfl rfl (p_pickT rfl rfl) ?_ | refine RJ.pure (.none rfl) rfl rfl (p_pickF rfl rfl) ?_)
  refine RJ.pure (.none rfl) rfl rfl (p_move rfl) ?_
  (first | refine RJ.skip (.no rfl rfl rfl rfl) rfl rfl ?_ | refine RJ.pure (.yes rfl rfl rfl) rfl rfl (p_move rfl) ?_)
  (first | refine RJ.skip (.no rfl rfl rfl rfl) rfl rfl ?_ | refine RJ.read (.yes rfl rfl rfl) rfl rfl rfl rfl (r_loadA (vs := hC hA) rfl ag_32 (RdN.own 2 rfl take_all') (hC_len _)) ?_)
  (first | refine RJ.skip (.no rfl rfl rfl rfl) rfl rfl ?_ | refine RJ.read (.yes rfl rfl rfl) rfl rfl rfl rfl (r_loadA (vs := hC hB) rfl ag_32 (RdN.own 3 rfl take_all') (hC_len _)) ?_)
  (first | refine RJ.skip (.no rfl rfl rfl rfl) rfl rfl ?_ | (refine RJ.eff (.yes rfl rfl rfl) rfl rfl rfl rfl (e_call [] rfl call_46 rfl rfl (nodeH_tri K hK hA hB)) ?_; rintro _ _ ⟨_, ⟨rfl, rfl⟩, rfl⟩))
  (first | refine RJ.skip (.no rfl rfl rfl rfl) rfl rfl ?_ | refine RJ.stab (.yes rfl rfl rfl) rfl rfl (r_loadA (vs := hC hD) rfl ag_32 (RdN.own 1 rfl take_all') (hC_len _)) ?_)
  (first | refine RJ.skip (.no rfl rfl rfl rfl) rfl rfl ?_ | (refine RJ.eff (.yes rfl rfl rfl) rfl rfl rfl rfl (e_buildSlice sl_24 zr_32 rfl (by decide) (by decide) rfl rfl (fill_two rfl (hC_len (nodeH K hA hB)) (hC_len hD))) ?_; rintro _ _ ⟨n63, rfl, rfl⟩))
  (first | refine RJ.skip (.no rfl rfl rfl rfl) rfl rfl ?_ | (refine RJ.eff (.yes rfl rfl rfl) rfl rfl rfl rfl (e_call [1, 4] rfl call_30 rfl rfl (same_tri [nodeH K hA hB, hD] _ _ HV _ hVH'.held (.inr ⟨_, 2, rfl, Nat.le_refl 2, by decide, fun S i hi => RdN.own i hi (by rw [List.flatMap_cons, List.flatMap_singleton]; exact take_all')⟩))) ?_; rintro _ _ ⟨_, ⟨rfl, rfl⟩, rfl⟩))
  (first | refine RJ.pure (.none rfl) rfl rfl (p_pickT rfl rfl) ?_ | refine RJ.pure (.none rfl) rfl rfl (p_pickF rfl rfl) ?_)
  refine RJ.pure (.none rfl) rfl rfl (p_move rfl) ?_
  (first | refine RJ.skip (.no rfl rfl rfl rfl) rfl rfl ?_ | refine RJ.stab (.yes rfl rfl rfl) rfl rfl (r_loadA (vs := hC (nodeH K (nodeH K hA hB) hD)) rfl ag_32 (RdN.own 0 rfl take_all') (hC_len _)) ?_)
  (first | refine RJ.skip (.no rfl rfl rfl rfl) rfl rfl ?_ | refine RJ.read (.yes rfl rfl rfl) rfl rfl rfl rfl (r_loadA (vs := hC hA) rfl ag_32 (RdN.own 3 rfl take_all') (hC_len _)) ?_)
  (first | refine RJ.skip (.no rfl rfl rfl rfl) rfl rfl ?_ | refine RJ.read (.yes rfl rfl rfl) rfl rfl rfl rfl (r_loadA (vs := hC hB) rfl ag_32 (RdN.own 4 rfl take_all') (hC_len _)) ?_)
  (first | refine RJ.skip (.no rfl rfl rfl rfl) rfl rfl ?_ | (refine RJ.eff (.yes rfl rfl rfl) rfl rfl rfl rfl (e_call [] rfl call_46 rfl rfl (nodeH_tri K hK hA hB)) ?_; rintro _ _ ⟨_, ⟨rfl, rfl⟩, rfl⟩))
  (first | refine RJ.skip (.no rfl rfl rfl rfl) rfl rfl ?_ | refine RJ.stab (.yes rfl rfl rfl) rfl rfl (r_loadA (vs := hC hD) rfl ag_32 (RdN.own 1 rfl take_all') (hC_len _)) ?_)
  (first | refine RJ.skip (.no rfl rfl rfl rfl) rfl rfl ?_ | (refine RJ.eff (.yes rfl rfl rfl) rfl rfl rfl rfl (e_call [] rfl call_46 rfl rfl (nodeH_tri K hK _ hD)) ?_; rintro _ _ ⟨_, ⟨rfl, rfl⟩, rfl⟩))
  (first | refine RJ.skip (.no rfl rfl rfl rfl) rfl rfl ?_ | (refine RJ.pure (.yes rfl rfl rfl) rfl rfl (p_eqDeep rfl rfl hash_wide (hash_dk _) (hash_dk _) hash_guard) ?_; refine RJ.say (t := 73) rfl (.bool true) (by simp) ?_))
  (first | refine RJ.pure (.none rfl) rfl rfl (p_pickT rfl rfl) ?_ | refine RJ.pure (.none rfl) rfl rfl (p_pickF rfl rfl) ?_)
  refine RJ.pure (.none rfl) rfl rfl (p_assign rfl) ?_
  refine RJ.nil ?_
  refine WP.ret ?_
  repeat (first | refine sq_ret ?_ | refine bk_ret ?_ | refine lq_ret ?_ | refine cq_ret ?_)
  exact fin1' 0 rfl rfl rfl ⟨rfl, rfl⟩
end
end Go.Proofs.YtigjnfmbellpjaaDoor.Cmp
