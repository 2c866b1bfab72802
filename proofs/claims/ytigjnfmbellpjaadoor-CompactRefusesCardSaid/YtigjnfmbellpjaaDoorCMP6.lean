/- CompactRoot, walked. -/
import Derived.Test.YtigjnfmbellpjaaDoorCMP5
import Derived.Test.YtigjnfmbellpjaaDoorEL26
set_option maxRecDepth 100000
namespace Go.Proofs.YtigjnfmbellpjaaDoor.Cmp
open Go Go.EL Go.EL.Cpt Sha Coo
/-- the rows, leaf by leaf -/
def rows (K : Nat → Int) (b : Nat) (hs : List H32) : Nat → List Tr
  | 0 => []
  | i + 1 => pushR (nodeH K) (rows K b hs i) ⟨0, b + i, hs.getD i (emptyH K)⟩
/-- the leaf at a number -/
def leafAt (K : Nat → Int) (b : Nat) (hs : List H32) (n : Nat) : H32 := hs.getD (n - b) (emptyH K)
theorem rows_good (K : Nat → Int) (b : Nat) (hs : List H32) : ∀ i, Cpt.Good (nodeH K) (emptyH K) (leafAt K b hs) b (b + i) (rows K b hs i)
  | 0 => Cpt.Good.nil ..
  | i + 1 => by
    have h := (rows_good K b hs i).leaf
    have e : leafAt K b hs (b + i) = hs.getD i (emptyH K) := by rw [leafAt, Nat.add_sub_cancel_left]
    rw [e] at h
    exact h
theorem good_may {K : Nat → Int} {f : Nat → H32} {b e : Nat} {rs : List Tr} (h : Cpt.Good (nodeH K) (emptyH K) f b e rs) (he : e ≤ 9223372036854775808) : ∀ x, x ∈ rs → Nd.may x := RowR.may he h.row (Nat.le_refl _)
theorem good_len {K : Nat → Int} {f : Nat → H32} {b e : Nat} {rs : List Tr} (h : Cpt.Good (nodeH K) (emptyH K) f b e rs) (he : e ≤ 9223372036854775808) : rs.length ≤ 1000000 := by
  have := row_len h.row h.free he
  omega
theorem leafAt0 (K : Nat → Int) (hs : List H32) (b n : Nat) (h : b + n ≤ hs.length) : seg (leafAt K 0 hs) b n = (hs.drop b).take n := seg_list hs (emptyH K) b n h
theorem root_is (K : Nat → Int) (hs : List H32) (i : Nat) (hi : i ≤ hs.length) (hb : hs.length ≤ 300) : rootF K (rows K 0 hs i) = mthF (nodeH K) (emptyH K) (hs.take i) := by
  have hg := rows_good K 0 hs i
  rw [Nat.zero_add] at hg
  have hseg := leafAt0 K hs 0 i (by omega)
  rw [List.drop_zero] at hseg
  cases hr : rows K 0 hs i with
  | nil =>
    rw [hr] at hg
    rw [← hseg, hg.root0, rootF]
  | cons y r =>
    rw [hr] at hg
    rw [← hseg, rootF, hg.root (by omega)]
/-- its trees, one by one, are the cover's -/
theorem rows_cover (K : Nat → Int) (hs : List H32) (hb : hs.length ≤ 300) : (rows K 0 hs hs.length).reverse = coverNd (fun a i => mthF (nodeH K) (emptyH K) (seg (leafAt K 0 hs) (i * 2 ^ a) (2 ^ a))) 0 hs.length := by
  have h1 := rows_good K 0 hs hs.length
  rw [Nat.zero_add] at h1
  have h2 := cover_good (nodeH K) (emptyH K) (leafAt K 0 hs) (Nat.zero_le hs.length)
  have := h1.one h2 (by omega)
  rw [this, List.reverse_reverse]
theorem cover_in {b e : Nat} (h : b ≤ e) {p : Nat × Nat} (hp : p ∈ coverF b e) : (p.2 + 1) * 2 ^ p.1 ≤ e := by
  have hg := cover_good (fun _ _ => ()) () (fun _ => ()) h
  have key : ∀ (r : List (Nd Unit)) (m : Nat), RowR b r m → ∀ x, x ∈ r → x.e ≤ m := by
    intro r
    induction r with
    | nil => intro m _ x hx; cases hx
    | cons y r ih =>
      intro m hr x hx
      rcases List.mem_cons.1 hx with rfl | hx
      · exact Nat.le_of_eq hr.1
      · have h1 := ih _ hr.2 x hx
        have h2 := y.e_eq
        have h3 := hr.1
        have := pos2 y.lv
        omega
  exact key _ _ hg.row ⟨p.1, p.2, mthF (fun _ _ => ()) () (seg (fun _ => ()) (p.2 * 2 ^ p.1) (2 ^ p.1))⟩ (by
    simp only [coverNd, List.mem_reverse, List.mem_map]
    exact ⟨p, hp, rfl⟩)
section
variable {w0 : World}
open Classical in
set_option maxHeartbeats 2000000 in
theorem croot_tri (K : Nat → Int) (hK : Tab w0 K) (hD : DeB w0) (hs : List H32) (v : Value) (hH : Held w0 [] hC hs v) : Tri Tryd.prog w0 4 #[v] [] (fun v S' => v = .bool true ∧ S' = []) := by
  obtain ⟨p, c, rfl, hc1, hc2⟩ := hH.len
  unfold maxLen at hc2
  refine Tri.mk Tryd.func4 rfl rfl rfl ?_
  refine WP.sregion ?_
  refine RX.pure (.none rfl) rfl rfl (p_assign rfl) ?_
  refine RX.nil ?_
  by_cases hbig : 300 < hs.length
  · refine WP.seq (WP.sregion ?_)
    refine RX.pure (.none rfl) rfl rfl (p_move rfl) ?_
    refine RX.pure (.none rfl) rfl rfl (p_lenSlice rfl Tryd.underlying24) ?_
    refine RX.pure (.none rfl) rfl rfl (p_gtr rfl rfl) ?_
    refine RX.say (t := 15) rfl (.bool true) (by rw [decide_eq_true]; omega) ?_
    refine RX.nil ?_
    refine WP.condT rfl ?_
    refine WP.sregion ?_
    refine RX.eff (.none rfl) rfl rfl rfl (e_call [] rfl call_16 rfl rfl (alive_tri K hK)) ?_
    rintro _ _ ⟨_, ⟨rfl, rfl⟩, rfl⟩
    refine RX.pure (.none rfl) rfl rfl (p_assign rfl) ?_
    refine RX.nil ?_
    refine WP.ret ?_
    repeat (first | refine sq_ret ?_ | refine bk_ret ?_ | refine lq_ret ?_ | refine cq_ret ?_)
    exact fin1' 0 rfl rfl rfl ⟨rfl, rfl⟩
  have hb : hs.length ≤ 300 := by omega
  clear hbig
  refine WP.seq (WP.sregion ?_)
  refine RX.pure (.none rfl) rfl rfl (p_move rfl) ?_
  refine RX.pure (.none rfl) rfl rfl (p_lenSlice rfl Tryd.underlying24) ?_
  refine RX.pure (.none rfl) rfl rfl (p_gtr rfl rfl) ?_
  refine RX.say (t := 15) rfl (.bool false) (by rw [decide_eq_false]; omega) ?_
  refine RX.nil ?_
  refine WP.condF rfl (WP.skip ?_)
  refine WP.sregion ?_
  refine RX.eff (.none rfl) rfl rfl rfl (e_call [] rfl call_17 rfl rfl (new_tri 0)) ?_
  rintro _ _ ⟨_, ⟨r, H, rfl, rfl, hR⟩, rfl⟩
  refine RX.pure (.none rfl) rfl rfl (p_assign rfl) ?_
  refine RX.nil ?_
  refine WP.seq (WP.sregion ?_)
  refine RX.pure (.none rfl) rfl rfl (p_move rfl) ?_
  refine RX.pure (.none rfl) rfl rfl (p_eqNilPtr rfl rfl Tryd.underlying44) ?_
  refine RX.nil ?_
  refine WP.condF rfl (WP.skip ?_)
  refine WP.nilChunk (T := [H, []]) rfl ?_
  have hg := rows_good K 0 hs
  simp only [Nat.zero_add] at hg
  refine WP.cut (fun ρ S => ∃ H, RAt 0 hs.length (rows K 0 hs hs.length) r H ∧ Sub [(0, .slice p hs.length c), (3, .pointer (some ⟨r, 0, none⟩))] ρ ∧ S = [H, []]) ?_ ?_
  · refine WP.sregion ?_
    refine RX.pure (.none rfl) rfl rfl (p_assign rfl) ?_
    refine RX.nil ?_
    refine WP.block ?_
    refine WP.loop (fun m ρ S => ∃ (i : Nat) (H : Hp), i ≤ hs.length + 1 ∧ m = hs.length + 1 - i ∧ RAt 0 (min i hs.length) (rows K 0 hs (min i hs.length)) r H ∧ Sub [(0, .slice p hs.length c), (3, .pointer (some ⟨r, 0, none⟩)), (4, .int .i64 (i : Nat))] ρ ∧ S = [H, []]) (hs.length + 1) ?_ ?_
    · refine ⟨0, H, by omega, by omega, by rw [Nat.zero_min]; exact hR, ?_, rfl⟩
      repeat (first | exact Sub.nil | refine Sub.cons rfl ?_)
    clear hR H
    rintro m ρ S ⟨i, H, hi, rfl, hR, hρ, rfl⟩
    refine WP.sub hρ ?_
    clear hρ
    by_cases hlt : i ≤ hs.length
    · rw [Nat.min_eq_left hlt] at hR
      have hgi := hg i
      have hroot := root_is K hs i hlt hb
      refine WP.seq (WP.sregion ?_)
      refine RX.pure (.none rfl) rfl rfl (p_move rfl) ?_
      refine RX.pure (.none rfl) rfl rfl (p_move rfl) ?_
      refine RX.pure (.none rfl) rfl rfl (p_lenSlice rfl Tryd.underlying24) ?_
      refine RX.pure (.none rfl) rfl rfl (p_leq rfl rfl) ?_
      refine RX.say (t := 23) rfl (.bool true) (by rw [decide_eq_true]; omega) ?_
      refine RX.nil ?_
      refine WP.condT rfl (WP.skip ?_)
      refine WP.seq (WP.block ?_)
      refine WP.sregion ?_
      refine RX.pure (.none rfl) rfl rfl (p_move rfl) ?_
      refine RX.eff (.none rfl) rfl rfl rfl (e_call [0] rfl call_18 rfl rfl (root_tri K hK i _ r H hR (good_len hgi (by omega)))) ?_
      rintro _ _ ⟨_, ⟨rfl, rfl⟩, rfl⟩
      refine RX.pure (.none rfl) rfl rfl (p_move rfl) ?_
      refine RX.pure (.none rfl) rfl rfl (p_extract rfl rfl) ?_
      refine RX.pure (.none rfl) rfl rfl (p_extract rfl rfl) ?_
      refine RX.eff (.none rfl) rfl rfl rfl (e_alloc zr_32) ?_
      rintro _ _ ⟨n5, rfl, rfl⟩
      refine RX.sta 2 (.none rfl) rfl rfl sz_32 (hC_len _) (hC_ones _) rfl rfl (hC (rootF K (rows K 0 hs i))) (put_all rfl) ?_
      refine RX.pure (.none rfl) rfl rfl (p_assign rfl) ?_
      refine RX.nil ?_
      have hmth := mth_tri K hK i (hs.take i) (.slice p i c) [] (by rw [List.length_take]; omega) (by omega) (hH.takeP uniH i hlt)
      refine WP.seq (WP.sdrawJ ([3], []) [2] mixed (by kernel_rfl) rfl rfl rfl ?_)
      refine RJ.pure (.none rfl) rfl rfl (p_move rfl) ?_
      refine RJ.pure (.none rfl) rfl rfl (p_neNilIface rfl (by first | exact .inl rfl | exact .inr ⟨_, _, rfl⟩ | assumption) Tryd.underlying34) ?_
      refine RJ.pure (.none rfl) rfl rfl (p_move rfl) ?_
      (first | refine RJ.skip (.no rfl rfl rfl rfl) rfl rfl ?_ | refine RJ.stab (.yes rfl rfl rfl) rfl rfl (r_loadA (vs := hC (rootF K (rows K 0 hs i))) rfl ag_32 (RdN.own 0 rfl take_all') (hC_len _)) ?_)
      (first | refine RJ.skip (.no rfl rfl rfl rfl) rfl rfl ?_ | refine RJ.pure (.yes rfl rfl rfl) rfl rfl (p_move rfl) ?_)
      (first | refine RJ.skip (.no rfl rfl rfl rfl) rfl rfl ?_ | refine RJ.pure (.yes rfl rfl rfl) rfl rfl (p_move rfl) ?_)
      (first | refine RJ.skip (.no rfl rfl rfl rfl) rfl rfl ?_ | refine RJ.pure (.yes rfl rfl rfl) rfl rfl (p_sliceToH hH rfl sl_24 rfl hlt) ?_)
      (first | refine RJ.skip (.no rfl rfl rfl rfl) rfl rfl ?_ | (refine RJ.eff (.yes rfl rfl rfl) rfl rfl rfl rfl (e_call [1] rfl call_19 rfl rfl hmth) ?_; rintro _ _ ⟨_, ⟨rfl, rfl⟩, rfl⟩))
      (first | refine RJ.skip (.no rfl rfl rfl rfl) rfl rfl ?_ | (refine RJ.pure (.yes rfl rfl rfl) rfl rfl (p_neDeep rfl rfl hash_wide (hash_dk _) (hash_dk _) hash_guard) ?_; refine RJ.say (t := 39) rfl (.bool false) (by rw [hroot]; simp) ?_))
      (first | refine RJ.pure (.none rfl) rfl rfl (p_pickT rfl rfl) ?_ | refine RJ.pure (.none rfl) rfl rfl (p_pickF rfl rfl) ?_)
      refine RJ.nil ?_
      refine WP.condF rfl (WP.skip ?_)
      refine WP.only [1, 0] rfl rfl ?_
      by_cases hlt' : i < hs.length
      · obtain ⟨x, hx⟩ : ∃ x, hs[i]? = some x := ⟨_, List.getElem?_eq_getElem hlt'⟩
        obtain ⟨a0, c0, e1, _, _⟩ := hH.addr (by intro e; rw [e] at hlt'; simp at hlt')
        injection e1 with e1 _ e3
        subst e1; subst e3
        have hrd := held_at (S := [H, []]) (i := 1) uniH hH hx rfl (hC_len x)
        refine WP.sregion ?_
        refine RX.pure (.none rfl) rfl rfl (p_move rfl) ?_
        refine RX.pure (.none rfl) rfl rfl (p_move rfl) ?_
        refine RX.pure (.none rfl) rfl rfl (p_lenSlice rfl Tryd.underlying24) ?_
        refine RX.pure (.none rfl) rfl rfl (p_lss rfl rfl) ?_
        refine RX.say (t := 44) rfl (.bool true) (by rw [decide_eq_true]; omega) ?_
        refine RX.pure (.none rfl) rfl rfl (p_move rfl) ?_
        (first | refine RX.skip (.no rfl rfl rfl rfl) rfl rfl ?_ | refine RX.pure (.yes rfl rfl rfl) rfl rfl (p_move rfl) ?_)
        (first | refine RX.skip (.no rfl rfl rfl rfl) rfl rfl ?_ | refine RX.pure (.yes rfl rfl rfl) rfl rfl (p_move rfl) ?_)
        (first | refine RX.skip (.no rfl rfl rfl rfl) rfl rfl ?_ | refine RX.pure (.yes rfl rfl rfl) rfl rfl (p_move rfl) ?_)
        (first | refine RX.skip (.no rfl rfl rfl rfl) rfl rfl ?_ | refine RX.pure (.yes rfl rfl rfl) rfl rfl (p_idxS rfl rfl sl_24 (by omega) (by omega)) ?_)
        (first | refine RX.skip (.no rfl rfl rfl rfl) rfl rfl ?_ | refine RX.read (.yes rfl rfl rfl) rfl rfl rfl (r_loadA rfl ag_32 hrd (hC_len x)) ?_)
        (first | refine RX.skip (.no rfl rfl rfl rfl) rfl rfl ?_ | (refine RX.eff (.yes rfl rfl rfl) rfl rfl rfl (e_call [0] rfl call_20 rfl rfl (append_tri K hK 0 i _ x r H hR (good_may hgi (by omega)) (by omega) (good_len hgi (by omega)))) ?_; rintro _ _ ⟨_, ⟨rfl, H', rfl, hR'⟩, rfl⟩))
        (first | refine RX.skip (.no rfl rfl rfl rfl) rfl rfl ?_ | refine RX.pure (.yes rfl rfl rfl) rfl rfl (p_neNilIface rfl (by first | exact .inl rfl | exact .inr ⟨_, _, rfl⟩ | assumption) Tryd.underlying34) ?_)
        (first | refine RX.pure (.none rfl) rfl rfl (p_pickT rfl rfl) ?_ | refine RX.pure (.none rfl) rfl rfl (p_pickF rfl rfl) ?_)
        refine RX.nil ?_
        refine WP.condF rfl (WP.skip ?_)
        refine sq_normal ?_
        refine WP.region ?_
        refine RX.pure (.none rfl) rfl rfl (p_move rfl) ?_
        (first | refine RX.pure (.none rfl) rfl rfl (p_add rfl rfl (wr_i64 (by omega) (by omega))) ?_ | refine RX.pure (.none rfl) rfl rfl (p_add rfl rfl rfl) ?_)
        refine RX.pure (.none rfl) rfl rfl (p_assign rfl) ?_
        refine RX.nil ?_
        refine lq_normal (hs.length + 1 - (i + 1)) (by omega) ?_
        refine ⟨i + 1, H', by omega, rfl, ?_, ?_, rfl⟩
        · rw [Nat.min_eq_left hlt', rows, Nat.zero_add]
          have : hs.getD i (emptyH K) = x := by simp [List.getD, hx]
          rw [this]
          exact hR'
        · repeat (first | exact Sub.nil | refine Sub.cons rfl ?_)
      · obtain rfl : i = hs.length := by omega
        refine WP.sregion ?_
        refine RX.pure (.none rfl) rfl rfl (p_move rfl) ?_
        refine RX.pure (.none rfl) rfl rfl (p_move rfl) ?_
        refine RX.pure (.none rfl) rfl rfl (p_lenSlice rfl Tryd.underlying24) ?_
        refine RX.pure (.none rfl) rfl rfl (p_lss rfl rfl) ?_
        refine RX.say (t := 44) rfl (.bool false) (by rw [decide_eq_false]; omega) ?_
        refine RX.pure (.none rfl) rfl rfl (p_move rfl) ?_
        (first | refine RX.skip (.no rfl rfl rfl rfl) rfl rfl ?_ | refine RX.pure (.yes rfl rfl rfl) rfl rfl (p_move rfl) ?_)
        (first | refine RX.skip (.no rfl rfl rfl rfl) rfl rfl ?_ | refine RX.pure (.yes rfl rfl rfl) rfl rfl (p_move rfl) ?_)
        (first | refine RX.skip (.no rfl rfl rfl rfl) rfl rfl ?_ | refine RX.pure (.yes rfl rfl rfl) rfl rfl (p_move rfl) ?_)
        (first | refine RX.skip (.no rfl rfl rfl rfl) rfl rfl ?_ | refine RX.pure (.yes rfl rfl rfl) rfl rfl (p_idxS rfl rfl sl_24 (by omega) (by omega)) ?_)
        (first | refine RX.skip (.no rfl rfl rfl rfl) rfl rfl ?_ | refine RX.read (.yes rfl rfl rfl) rfl rfl rfl (True.intro) ?_)
        (first | refine RX.skip (.no rfl rfl rfl rfl) rfl rfl ?_ | refine RX.eff (.yes rfl rfl rfl) rfl rfl rfl (True.intro) ?_)
        (first | refine RX.skip (.no rfl rfl rfl rfl) rfl rfl ?_ | refine RX.pure (.yes rfl rfl rfl) rfl rfl (p_neNilIface rfl (by first | exact .inl rfl | exact .inr ⟨_, _, rfl⟩ | assumption) Tryd.underlying34) ?_)
        (first | refine RX.pure (.none rfl) rfl rfl (p_pickT rfl rfl) ?_ | refine RX.pure (.none rfl) rfl rfl (p_pickF rfl rfl) ?_)
        refine RX.nil ?_
        refine WP.condF rfl (WP.skip ?_)
        refine sq_normal ?_
        refine WP.region ?_
        refine RX.pure (.none rfl) rfl rfl (p_move rfl) ?_
        (first | refine RX.pure (.none rfl) rfl rfl (p_add rfl rfl (wr_i64 (by omega) (by omega))) ?_ | refine RX.pure (.none rfl) rfl rfl (p_add rfl rfl rfl) ?_)
        refine RX.pure (.none rfl) rfl rfl (p_assign rfl) ?_
        refine RX.nil ?_
        refine lq_normal 0 (by omega) ?_
        refine ⟨hs.length + 1, H, by omega, by omega, by rw [Nat.min_eq_right (by omega)]; exact hR, ?_, rfl⟩
        repeat (first | exact Sub.nil | refine Sub.cons rfl ?_)
    · refine WP.seq (WP.sregion ?_)
      refine RX.pure (.none rfl) rfl rfl (p_move rfl) ?_
      refine RX.pure (.none rfl) rfl rfl (p_move rfl) ?_
      refine RX.pure (.none rfl) rfl rfl (p_lenSlice rfl Tryd.underlying24) ?_
      refine RX.pure (.none rfl) rfl rfl (p_leq rfl rfl) ?_
      refine RX.say (t := 23) rfl (.bool false) (by rw [decide_eq_false]; omega) ?_
      refine RX.nil ?_
      refine WP.condF rfl ?_
      refine WP.exit ?_
      repeat (first | refine sq_exit ?_ | refine bk_exit ?_ | refine lq_exit ?_ | refine cq_exit ?_ | refine bk_exit' rfl ?_)
      rw [Nat.min_eq_right (by omega)] at hR
      refine ⟨H, hR, ?_, rfl⟩
      repeat (first | exact Sub.nil | refine Sub.cons rfl ?_)
  clear hR H
  rintro ρ S ⟨H, hR, hρ, rfl⟩
  refine WP.sub hρ ?_
  clear hρ
  have hcov := rows_cover K hs hb
  have hlen : ((rows K 0 hs hs.length).reverse.map (fun n : Tr => n.h)).length = (coverF 0 hs.length).length := by rw [hcov, List.length_map, coverNd, List.length_map]
  have hclen := cover_len (Nat.zero_le hs.length) (by omega)
  refine WP.sregion ?_
  refine RX.pure (.none rfl) rfl rfl (p_move rfl) ?_
  refine RX.pure (.none rfl) rfl rfl (p_lenSlice rfl Tryd.underlying24) ?_
  refine RX.pure (.none rfl) rfl rfl (p_convInt rfl Tryd.underlying3 Tryd.underlying23 (wr_u64 (by omega) (by omega))) ?_
  refine RX.pure (.none rfl) rfl rfl (p_buildS zr_53 pl_53 rfl rfl) ?_
  refine RX.say (t := 58) rfl (sAgg 0 hs.length) rfl ?_
  refine RX.eff (.none rfl) rfl rfl rfl (e_call [] rfl call_21 rfl rfl (cover_tri hD 0 hs.length (by omega) (by omega))) ?_
  rintro _ _ ⟨_, ⟨vC, HC, rfl, rfl, hVC⟩, rfl⟩; obtain ⟨pC, cC, rfl⟩ := hVC.slice
  refine RX.pure (.none rfl) rfl rfl (p_move rfl) ?_
  refine RX.pure (.none rfl) rfl rfl (p_extract rfl rfl) ?_
  refine RX.pure (.none rfl) rfl rfl (p_extract rfl rfl) ?_
  refine RX.pure (.none rfl) rfl rfl (p_assign rfl) ?_
  refine RX.pure (.none rfl) rfl rfl (p_assign rfl) ?_
  refine RX.nil ?_
  refine WP.sregion ?_
  refine RX.pure (.none rfl) rfl rfl (p_move rfl) ?_
  refine RX.eff (.none rfl) rfl rfl rfl (e_call [1] rfl call_22 rfl rfl (hashes_tri 0 hs.length _ r H hR (good_len (hg _) (by omega)))) ?_
  rintro _ _ ⟨_, ⟨HV, rfl, hVH⟩, rfl⟩; obtain ⟨pH, cH, rfl⟩ := hVH.slice
  refine RX.pure (.none rfl) rfl rfl (p_assign rfl) ?_
  refine RX.nil ?_
  refine WP.seq (WP.sregion ?_)
  refine RX.pure (.none rfl) rfl rfl (p_move rfl) ?_
  refine RX.pure (.none rfl) rfl rfl (p_neNilIface rfl (by first | exact .inl rfl | exact .inr ⟨_, _, rfl⟩ | assumption) Tryd.underlying34) ?_
  refine RX.pure (.none rfl) rfl rfl (p_move rfl) ?_
  (first | refine RX.skip (.no rfl rfl rfl rfl) rfl rfl ?_ | refine RX.pure (.yes rfl rfl rfl) rfl rfl (p_move rfl) ?_)
  (first | refine RX.skip (.no rfl rfl rfl rfl) rfl rfl ?_ | refine RX.pure (.yes rfl rfl rfl) rfl rfl (p_lenSlice rfl Tryd.underlying49) ?_)
  (first | refine RX.skip (.no rfl rfl rfl rfl) rfl rfl ?_ | refine RX.pure (.yes rfl rfl rfl) rfl rfl (p_move rfl) ?_)
  (first | refine RX.skip (.no rfl rfl rfl rfl) rfl rfl ?_ | refine RX.pure (.yes rfl rfl rfl) rfl rfl (p_lenSlice rfl Tryd.underlying24) ?_)
  (first | refine RX.skip (.no rfl rfl rfl rfl) rfl rfl ?_ | (refine RX.pure (.yes rfl rfl rfl) rfl rfl (p_neInt rfl rfl) ?_; refine RX.say (t := 71) rfl (.bool false) (by rw [hlen]; simp) ?_))
  (first | refine RX.pure (.none rfl) rfl rfl (p_pickT rfl rfl) ?_ | refine RX.pure (.none rfl) rfl rfl (p_pickF rfl rfl) ?_)
  refine RX.nil ?_
  refine WP.condF rfl (WP.skip ?_)
  refine WP.only [1, 2, 3] rfl rfl ?_
  refine WP.heap [HV, HC, []] rfl ?_
  refine WP.cut (fun ρ S => Sub [] ρ ∧ S = [HV, HC, []]) ?_ ?_
  · refine WP.sregion ?_
    refine RX.pure (.none rfl) rfl rfl (p_assign rfl) ?_
    refine RX.nil ?_
    refine WP.block ?_
    refine WP.loop (fun m ρ S => ∃ i : Nat, i ≤ (coverF 0 hs.length).length ∧ m = (coverF 0 hs.length).length - i ∧ Sub [(0, .slice p hs.length c), (7, .slice pC (coverF 0 hs.length).length cC), (9, .slice pH ((rows K 0 hs hs.length).reverse.map (fun n : Tr => n.h)).length cH), (10, .int .i64 (i : Nat))] ρ ∧ S = [HV, HC, []]) (coverF 0 hs.length).length ?_ ?_
    · refine ⟨0, by omega, by omega, ?_, rfl⟩
      repeat (first | exact Sub.nil | refine Sub.cons rfl ?_)
    rintro m ρ S ⟨i, hi, rfl, hρ, rfl⟩
    refine WP.sub hρ ?_
    clear hρ
    by_cases hlt : i < (coverF 0 hs.length).length
    · obtain ⟨x, hx⟩ : ∃ x, (coverF 0 hs.length)[i]? = some x := ⟨_, List.getElem?_eq_getElem hlt⟩
      have hin := cover_in (Nat.zero_le hs.length) (List.mem_of_getElem? hx)
      have hmay : (⟨x.1, x.2, emptyH K⟩ : Tr).may := Nd.may_of (show (x.2 + 1) * 2 ^ x.1 ≤ 2 ^ 63 by omega)
      have hle : x.2 * 2 ^ x.1 ≤ (x.2 + 1) * 2 ^ x.1 := Nat.mul_le_mul_right _ (by omega)
      have hne : hs ≠ [] := by
        intro e
        rw [e] at hin
        have := pos2 x.1
        have h5 : 1 * 2 ^ x.1 ≤ (x.2 + 1) * 2 ^ x.1 := Nat.mul_le_mul_right _ (by omega)
        simp only [List.length_nil] at hin
        omega
      obtain ⟨a0, c0, e1, _, _⟩ := hH.addr hne
      injection e1 with e1 _ e3
      subst e1; subst e3
      obtain ⟨aC, dC, e1, _, _⟩ := (hVC.held (w0 := w0)).addr (by intro e; rw [e] at hlt; simp at hlt)
      injection e1 with e1 _ e3
      subst e1; subst e3
      -- the hash of the tree
      have hh : ((rows K 0 hs hs.length).reverse.map (fun n : Tr => n.h))[i]? = some (mthF (nodeH K) (emptyH K) ((hs.take ((x.2 + 1) * 2 ^ x.1)).drop (x.2 * 2 ^ x.1))) := by
        rw [hcov, List.getElem?_map, coverNd, List.getElem?_map, hx]
        simp only [Option.map_some]
        rw [leafAt0 K hs _ _ (by have := Nd.e_eq (⟨x.1, x.2, emptyH K⟩ : Tr); simp only [Nd.e, Nd.b] at this; omega), List.drop_take]
        congr 4
        have := Nd.e_eq (⟨x.1, x.2, emptyH K⟩ : Tr)
        simp only [Nd.e, Nd.b] at this
        omega
      obtain ⟨aH, dH, e1, _, _⟩ := (hVH.held (w0 := w0)).addr (by intro e; rw [e] at hh; simp at hh)
      injection e1 with e1 _ e3
      subst e1; subst e3
      have hrc := held_at (S := [HV, HC, []]) (i := 1) (k := 2) (fun _ _ _ => rfl) (hVC.held (w0 := w0)) hx rfl rfl
      have hrh := held_at (S := [HV]) (i := 0) uniH (hVH.held (w0 := w0)) hh rfl (hC_len _)
      have hmth := mth_tri K hK _ ((hs.take ((x.2 + 1) * 2 ^ x.1)).drop (x.2 * 2 ^ x.1)) _ [] rfl (by simp; omega) ((hH.take uniH ((x.2 + 1) * 2 ^ x.1) hin).dropN uniH (by rw [List.length_take]; omega) (x.2 * 2 ^ x.1) hle)
      refine WP.seq (WP.sregion ?_)
      refine RX.pure (.none rfl) rfl rfl (p_move rfl) ?_
      refine RX.pure (.none rfl) rfl rfl (p_move rfl) ?_
      refine RX.pure (.none rfl) rfl rfl (p_lenSlice rfl Tryd.underlying49) ?_
      refine RX.pure (.none rfl) rfl rfl (p_lss rfl rfl) ?_
      refine RX.say (t := 76) rfl (.bool true) (by rw [decide_eq_true]; omega) ?_
      refine RX.nil ?_
      refine WP.condT rfl (WP.skip ?_)
      refine WP.seq (WP.block ?_)
      refine WP.sregion ?_
      refine RX.pure (.none rfl) rfl rfl (p_move rfl) ?_
      refine RX.pure (.none rfl) rfl rfl (p_move rfl) ?_
      refine RX.pure (.none rfl) rfl rfl (p_idxS rfl rfl sl_49 (by omega) (by omega)) ?_
      refine RX.read (.none rfl) rfl rfl rfl (r_loadA (vs := encC x) rfl ag_58 hrc rfl) ?_
      refine RX.eff (.none rfl) rfl rfl rfl (e_call [] rfl call_23 rfl rfl (span_tri x.1 x.2 hmay.1 hmay.2)) ?_
      rintro _ _ ⟨_, ⟨rfl, rfl⟩, rfl⟩
      refine RX.pure (.none rfl) rfl rfl (p_move rfl) ?_
      refine RX.pure (.none rfl) rfl rfl (p_extract rfl rfl) ?_
      refine RX.pure (.none rfl) rfl rfl (p_extract rfl rfl) ?_
      refine RX.eff (.none rfl) rfl rfl rfl (e_alloc zr_53) ?_
      rintro _ _ ⟨n11, rfl, rfl⟩
      (first | refine RX.sta 0 (.none rfl) rfl rfl sz_53 rfl rfl rfl rfl _ rfl ?_ | refine RX.sta 1 (.none rfl) rfl rfl sz_53 rfl rfl rfl rfl _ rfl ?_ | refine RX.sta 2 (.none rfl) rfl rfl sz_53 rfl rfl rfl rfl _ rfl ?_ | refine RX.sta 3 (.none rfl) rfl rfl sz_53 rfl rfl rfl rfl _ rfl ?_ | refine RX.sta 4 (.none rfl) rfl rfl sz_53 rfl rfl rfl rfl _ rfl ?_ | refine RX.sta 5 (.none rfl) rfl rfl sz_53 rfl rfl rfl rfl _ rfl ?_)
      refine RX.pure (.none rfl) rfl rfl (p_assign rfl) ?_
      refine RX.nil ?_
      refine WP.heap [HV, HC, [], [(n11, row [cu64 (x.2 * 2 ^ x.1), cu64 ((x.2 + 1) * 2 ^ x.1)] 53)]] rfl ?_
      generalize x.2 * 2 ^ x.1 = sB at *
      generalize (x.2 + 1) * 2 ^ x.1 = sE at *
      refine WP.sdrawJ ([6], []) [0] mixed (by kernel_rfl) rfl rfl rfl ?_
      refine RJ.pure (.none rfl) rfl rfl (p_move rfl) ?_
      refine RJ.pure (.none rfl) rfl rfl (p_not rfl) ?_
      refine RJ.pure (.none rfl) rfl rfl (p_move rfl) ?_
      (first | refine RJ.skip (.no rfl rfl rfl rfl) rfl rfl ?_ | refine RJ.pure (.yes rfl rfl rfl) rfl rfl (p_move rfl) ?_)
      (first | refine RJ.skip (.no rfl rfl rfl rfl) rfl rfl ?_ | refine RJ.pure (.yes rfl rfl rfl) rfl rfl (p_move rfl) ?_)
      (first | refine RJ.skip (.no rfl rfl rfl rfl) rfl rfl ?_ | refine RJ.pure (.yes rfl rfl rfl) rfl rfl (p_idxS rfl rfl sl_24 (by omega) (by rw [hlen]; omega)) ?_)
      (first | refine RJ.skip (.no rfl rfl rfl rfl) rfl rfl ?_ | refine RJ.stab (.yes rfl rfl rfl) rfl rfl (r_loadA rfl ag_32 hrh (hC_len _)) ?_)
      (first | refine RJ.skip (.no rfl rfl rfl rfl) rfl rfl ?_ | refine RJ.pure (.yes rfl rfl rfl) rfl rfl (p_move rfl) ?_)
      (first | refine RJ.skip (.no rfl rfl rfl rfl) rfl rfl ?_ | refine RJ.pure (.yes rfl rfl rfl) rfl rfl (p_fieldAddr rfl fa_53_0) ?_)
      (first | refine RJ.skip (.no rfl rfl rfl rfl) rfl rfl ?_ | refine RJ.read (.yes rfl rfl rfl) rfl rfl rfl rfl (r_load (v := cu64 sB) rfl na_23 (Rd.own 2 rfl rfl)) ?_)
      (first | refine RJ.skip (.no rfl rfl rfl rfl) rfl rfl ?_ | refine RJ.pure (.yes rfl rfl rfl) rfl rfl (p_fieldAddr rfl fa_53_1) ?_)
      (first | refine RJ.skip (.no rfl rfl rfl rfl) rfl rfl ?_ | refine RJ.read (.yes rfl rfl rfl) rfl rfl rfl rfl (r_load (v := cu64 sE) rfl na_23 (Rd.own 2 rfl rfl)) ?_)
      (first | refine RJ.skip (.no rfl rfl rfl rfl) rfl rfl ?_ | refine RJ.pure (.yes rfl rfl rfl) rfl rfl (p_sliceMid rfl sl_24 rfl rfl hle (by omega)) ?_)
      (first | refine RJ.skip (.no rfl rfl rfl rfl) rfl rfl ?_ | (refine RJ.eff (.yes rfl rfl rfl) rfl rfl rfl rfl (e_call [1] rfl call_19 rfl rfl hmth) ?_; rintro _ _ ⟨_, ⟨rfl, rfl⟩, rfl⟩))
      (first | refine RJ.skip (.no rfl rfl rfl rfl) rfl rfl ?_ | (refine RJ.pure (.yes rfl rfl rfl) rfl rfl (p_neDeep rfl rfl hash_wide (hash_dk _) (hash_dk _) hash_guard) ?_; refine RJ.say (t := 101) rfl (.bool false) (by simp) ?_))
      (first | refine RJ.pure (.none rfl) rfl rfl (p_pickT rfl rfl) ?_ | refine RJ.pure (.none rfl) rfl rfl (p_pickF rfl rfl) ?_)
      refine RJ.nil ?_
      refine WP.condF rfl (WP.skip ?_)
      refine sq_normal ?_
      refine WP.only [3, 1, 0] rfl rfl ?_
      refine WP.region ?_
      refine RX.pure (.none rfl) rfl rfl (p_move rfl) ?_
      (first | refine RX.pure (.none rfl) rfl rfl (p_add rfl rfl (wr_i64 (by omega) (by omega))) ?_ | refine RX.pure (.none rfl) rfl rfl (p_add rfl rfl rfl) ?_)
      refine RX.pure (.none rfl) rfl rfl (p_assign rfl) ?_
      refine RX.nil ?_
      refine lq_normal ((coverF 0 hs.length).length - (i + 1)) (by omega) ?_
      refine ⟨i + 1, by omega, rfl, ?_, rfl⟩
      repeat (first | exact Sub.nil | refine Sub.cons rfl ?_)
    · refine WP.seq (WP.sregion ?_)
      refine RX.pure (.none rfl) rfl rfl (p_move rfl) ?_
      refine RX.pure (.none rfl) rfl rfl (p_move rfl) ?_
      refine RX.pure (.none rfl) rfl rfl (p_lenSlice rfl Tryd.underlying49) ?_
      refine RX.pure (.none rfl) rfl rfl (p_lss rfl rfl) ?_
      refine RX.say (t := 76) rfl (.bool false) (by rw [decide_eq_false]; omega) ?_
      refine RX.nil ?_
      refine WP.condF rfl ?_
      refine WP.exit ?_
      repeat (first | refine sq_exit ?_ | refine bk_exit ?_ | refine lq_exit ?_ | refine cq_exit ?_ | refine bk_exit' rfl ?_)
      exact ⟨Sub.nil, rfl⟩
  rintro ρ S ⟨hρ, rfl⟩
  refine WP.sub hρ ?_
  clear hρ
  refine WP.sregion ?_
  refine RX.eff (.none rfl) rfl rfl rfl (e_call [] rfl call_16 rfl rfl (alive_tri K hK)) ?_
  rintro _ _ ⟨_, ⟨rfl, rfl⟩, rfl⟩
  refine RX.pure (.none rfl) rfl rfl (p_assign rfl) ?_
  refine RX.nil ?_
  refine WP.ret ?_
  repeat (first | refine sq_ret ?_ | refine bk_ret ?_ | refine lq_ret ?_ | refine cq_ret ?_)
  exact fin1' 0 rfl rfl rfl ⟨rfl, rfl⟩
end
end Go.Proofs.YtigjnfmbellpjaaDoor.Cmp
