/- compact: Copy, Join, Load; the law's start, appended. -/
import Derived.Test.YtigjnfmbellpjaaDoorCMP6
import Derived.Test.YtigjnfmbellpjaaDoorEL26
import Derived.Test.YtigjnfmbellpjaaDoorFactsU
set_option maxRecDepth 100000
namespace Go.Proofs.YtigjnfmbellpjaaDoor.Cmp
open Go Go.EL Go.EL.Cpt Sha Coo
/-- a leaf's number that leaves room -/
def startF (n room : Nat) : Nat := if 9223372036854775808 - room < n then 9223372036854775808 - room - n % 1000 else n
theorem startF_le (n room : Nat) (h : room ≤ 1000) : startF n room + room ≤ 9223372036854775808 := by
  unfold startF
  split <;> omega
section
variable {w0 : World}
theorem start_tri (n room : Nat) (hn : n ≤ 18446744073709551615) (hr : room ≤ 1000) : Tri Tryd.prog w0 24 #[cu64 n, .int .i64 (room : Nat)] [] (fun v S' => v = cu64 (startF n room) ∧ S' = []) := by
  refine Tri.mk Tryd.func24 rfl rfl rfl ?_
  refine WP.sregion ?_
  refine RX.pure (.none rfl) rfl rfl (p_assign rfl) ?_
  refine RX.nil ?_
  refine WP.sregion ?_
  refine RX.pure (.none rfl) rfl rfl (p_move rfl) ?_
  refine RX.pure (.none rfl) rfl rfl (p_convInt rfl Tryd.underlying3 Tryd.underlying23 (wr_u64 (by omega) (by omega))) ?_
  refine RX.pure (.none rfl) rfl rfl (p_sub rfl rfl (r := ((9223372036854775808 - room : Nat) : Int)) ((wr_u64 (by omega) (by omega)).trans (by omega))) ?_
  refine RX.pure (.none rfl) rfl rfl (p_assign rfl) ?_
  refine RX.nil ?_
  by_cases h : 9223372036854775808 - room < n
  · refine WP.seq (WP.sregion ?_)
    refine RX.pure (.none rfl) rfl rfl (p_move rfl) ?_
    refine RX.pure (.none rfl) rfl rfl (p_move rfl) ?_
    refine RX.pure (.none rfl) rfl rfl (p_gtr rfl rfl) ?_
    refine RX.say (t := 11) rfl (.bool true) (by rw [decide_eq_true]; omega) ?_
    refine RX.nil ?_
    refine WP.condT rfl ?_
    refine WP.sregion ?_
    refine RX.pure (.none rfl) rfl rfl (p_move rfl) ?_
    refine RX.pure (.none rfl) rfl rfl (p_move rfl) ?_
    refine RX.pure (.none rfl) rfl rfl (p_remN rfl rfl (by omega) (by decide)) ?_
    refine RX.pure (.none rfl) rfl rfl (p_sub rfl rfl (r := ((9223372036854775808 - room - n % 1000 : Nat) : Int)) ((wr_u64 (by omega) (by omega)).trans (by omega))) ?_
    refine RX.pure (.none rfl) rfl rfl (p_assign rfl) ?_
    refine RX.nil ?_
    refine WP.ret ?_
    repeat (first | refine sq_ret ?_ | refine bk_ret ?_ | refine lq_ret ?_ | refine cq_ret ?_)
    exact fin1' 0 rfl rfl rfl ⟨by rw [startF, if_pos h], rfl⟩
  · refine WP.seq (WP.sregion ?_)
    refine RX.pure (.none rfl) rfl rfl (p_move rfl) ?_
    refine RX.pure (.none rfl) rfl rfl (p_move rfl) ?_
    refine RX.pure (.none rfl) rfl rfl (p_gtr rfl rfl) ?_
    refine RX.say (t := 11) rfl (.bool false) (by rw [decide_eq_false]; omega) ?_
    refine RX.nil ?_
    refine WP.condF rfl (WP.skip ?_)
    refine WP.sregion ?_
    refine RX.pure (.none rfl) rfl rfl (p_move rfl) ?_
    refine RX.pure (.none rfl) rfl rfl (p_assign rfl) ?_
    refine RX.nil ?_
    refine WP.ret ?_
    repeat (first | refine sq_ret ?_ | refine bk_ret ?_ | refine lq_ret ?_ | refine cq_ret ?_)
    exact fin1' 0 rfl rfl rfl ⟨by rw [startF, if_neg h], rfl⟩
theorem appended_tri (K : Nat → Int) (hK : Tab w0 K) (b : Nat) (hs : List H32) (v : Value) (HP : Hp) (hH : Held w0 HP hC hs v) (hb : b + hs.length ≤ 9223372036854775808) (hl : hs.length ≤ 1000000) :
    Tri Tryd.prog w0 25 #[cu64 b, v] [HP] (fun v S' => ∃ r H, v = .pointer (some ⟨r, 0, none⟩) ∧ S' = [H, HP] ∧ RAt b (b + hs.length) (rows K b hs hs.length) r H) := by
  obtain ⟨p, c, rfl, hc1, hc2⟩ := hH.len
  refine Tri.mk Tryd.func25 rfl rfl rfl ?_
  refine WP.sregion ?_
  refine RX.pure (.none rfl) rfl rfl (p_assign rfl) ?_
  refine RX.nil ?_
  refine WP.sregion ?_
  refine RX.pure (.none rfl) rfl rfl (p_move rfl) ?_
  refine RX.eff (.none rfl) rfl rfl rfl (e_call [] rfl call_17 rfl rfl (new_tri b)) ?_
  rintro _ _ ⟨_, ⟨r, H, rfl, rfl, hR⟩, rfl⟩
  refine RX.pure (.none rfl) rfl rfl (p_assign rfl) ?_
  refine RX.nil ?_
  refine WP.seq (WP.sregion ?_)
  refine RX.pure (.none rfl) rfl rfl (p_move rfl) ?_
  refine RX.pure (.none rfl) rfl rfl (p_eqNilPtr rfl rfl Tryd.underlying44) ?_
  refine RX.nil ?_
  refine WP.condF rfl (WP.skip ?_)
  refine WP.heap [H, HP] rfl ?_
  refine WP.cut (fun ρ S => ∃ H, RAt b (b + hs.length) (rows K b hs hs.length) r H ∧ Sub [(5, .pointer (some ⟨r, 0, none⟩))] ρ ∧ S = [H, HP]) ?_ ?_
  · refine WP.sregion ?_
    refine RX.pure (.none rfl) rfl rfl (p_assign rfl) ?_
    refine RX.nil ?_
    refine WP.block ?_
    refine WP.loop (fun m ρ S => ∃ (i : Nat) (H : Hp), i ≤ hs.length ∧ m = hs.length - i ∧ RAt b (b + i) (rows K b hs i) r H ∧ Sub [(1, .slice p hs.length c), (5, .pointer (some ⟨r, 0, none⟩)), (6, .int .i64 (i : Nat))] ρ ∧ S = [H, HP]) hs.length ?_ ?_
    · refine ⟨0, H, by omega, by omega, hR, ?_, rfl⟩
      repeat (first | exact Sub.nil | refine Sub.cons rfl ?_)
    clear hR H
    rintro m ρ S ⟨i, H, hi, rfl, hR, hρ, rfl⟩
    refine WP.sub hρ ?_
    clear hρ
    by_cases hlt : i < hs.length
    · obtain ⟨x, hx⟩ : ∃ x, hs[i]? = some x := ⟨_, List.getElem?_eq_getElem hlt⟩
      obtain ⟨a0, c0, e1, _, _⟩ := hH.addr (by intro e; rw [e] at hlt; simp at hlt)
      injection e1 with e1 _ e3
      subst e1; subst e3
      have hrd := held_at (S := [H, HP]) (i := 1) uniH hH hx rfl (hC_len x)
      have hg := rows_good K b hs i
      refine WP.seq (WP.sregion ?_)
      refine RX.pure (.none rfl) rfl rfl (p_move rfl) ?_
      refine RX.pure (.none rfl) rfl rfl (p_move rfl) ?_
      refine RX.pure (.none rfl) rfl rfl (p_lenSlice rfl Tryd.underlying24) ?_
      refine RX.pure (.none rfl) rfl rfl (p_lss rfl rfl) ?_
      refine RX.say (t := 14) rfl (.bool true) (by rw [decide_eq_true]; omega) ?_
      refine RX.nil ?_
      refine WP.condT rfl (WP.skip ?_)
      refine WP.seq (WP.block ?_)
      refine WP.sregion ?_
      refine RX.pure (.none rfl) rfl rfl (p_move rfl) ?_
      refine RX.pure (.none rfl) rfl rfl (p_move rfl) ?_
      refine RX.pure (.none rfl) rfl rfl (p_move rfl) ?_
      refine RX.pure (.none rfl) rfl rfl (p_idxS rfl rfl sl_24 (by omega) (by omega)) ?_
      refine RX.read (.none rfl) rfl rfl rfl (r_loadA rfl ag_32 hrd (hC_len x)) ?_
      refine RX.eff (.none rfl) rfl rfl rfl (e_call [0] rfl call_20 rfl rfl (append_tri K hK b (b + i) _ x r H hR (good_may hg (by omega)) (by omega) (good_len hg (by omega)))) ?_
      rintro _ _ ⟨_, ⟨rfl, H', rfl, hR'⟩, rfl⟩
      refine RX.pure (.none rfl) rfl rfl (p_neNilIface rfl (by first | exact .inl rfl | exact .inr ⟨_, _, rfl⟩ | assumption) Tryd.underlying34) ?_
      refine RX.nil ?_
      refine WP.condF rfl (WP.skip ?_)
      refine sq_normal ?_
      refine WP.region ?_
      refine RX.pure (.none rfl) rfl rfl (p_move rfl) ?_
      (first | refine RX.pure (.none rfl) rfl rfl (p_add rfl rfl (wr_i64 (by omega) (by omega))) ?_ | refine RX.pure (.none rfl) rfl rfl (p_add rfl rfl rfl) ?_)
      refine RX.pure (.none rfl) rfl rfl (p_assign rfl) ?_
      refine RX.nil ?_
      refine lq_normal (hs.length - (i + 1)) (by omega) ?_
      refine ⟨i + 1, H', by omega, rfl, ?_, ?_, rfl⟩
      · have : hs.getD i (emptyH K) = x := by simp [List.getD, hx]
        rw [rows, this]
        exact hR'
      · repeat (first | exact Sub.nil | refine Sub.cons rfl ?_)
    · refine WP.seq (WP.sregion ?_)
      refine RX.pure (.none rfl) rfl rfl (p_move rfl) ?_
      refine RX.pure (.none rfl) rfl rfl (p_move rfl) ?_
      refine RX.pure (.none rfl) rfl rfl (p_lenSlice rfl Tryd.underlying24) ?_
      refine RX.pure (.none rfl) rfl rfl (p_lss rfl rfl) ?_
      refine RX.say (t := 14) rfl (.bool false) (by rw [decide_eq_false]; omega) ?_
      refine RX.nil ?_
      refine WP.condF rfl ?_
      refine WP.exit ?_
      repeat (first | refine sq_exit ?_ | refine bk_exit ?_ | refine lq_exit ?_ | refine cq_exit ?_ | refine bk_exit' rfl ?_)
      obtain rfl : i = hs.length := by omega
      refine ⟨H, hR, ?_, rfl⟩
      repeat (first | exact Sub.nil | refine Sub.cons rfl ?_)
  clear hR H
  rintro ρ S ⟨H, hR, hρ, rfl⟩
  refine WP.sub hρ ?_
  clear hρ
  refine WP.sregion ?_
  refine RX.pure (.none rfl) rfl rfl (p_move rfl) ?_
  refine RX.pure (.none rfl) rfl rfl (p_assign rfl) ?_
  refine RX.nil ?_
  refine WP.ret ?_
  repeat (first | refine sq_ret ?_ | refine bk_ret ?_ | refine lq_ret ?_ | refine cq_ret ?_)
  exact fin1' 2 rfl rfl rfl ⟨r, H, rfl, rfl, hR⟩
theorem clone_tri (xs : List Tr) (v : Value) (H : Hp) (hV : Vec 106 34 encN xs v H) (hl : xs.length ≤ 1000000) :
    Tri Tryd.prog w0 53 #[v] [H] (fun v' S' => ∃ H', S' = [H, H'] ∧ Vec 106 34 encN xs v' H') := by
  obtain ⟨p, c, rfl⟩ := hV.slice
  refine Tri.mk Tryd.func53 rfl rfl rfl ?_
  refine WP.sregion ?_
  refine RX.pure (.none rfl) rfl rfl (p_assign rfl) ?_
  refine RX.nil ?_
  cases p with
  | none =>
    have hnil : xs = [] := by
      rcases hV with ⟨_, e, _⟩ | ⟨b, cap, sp, e, _⟩
      · exact e
      · cases e
    subst hnil
    refine WP.nilChunk (T := [H, []]) rfl ?_
    refine WP.seq (WP.sregion ?_)
    refine RX.pure (.none rfl) rfl rfl (p_move rfl) ?_
    refine RX.pure (.none rfl) rfl rfl (p_eqNilSlice rfl rfl Tryd.underlying102) ?_
    refine RX.nil ?_
    refine WP.condT rfl ?_
    refine WP.sregion ?_
    refine RX.pure (.none rfl) rfl rfl (p_assign rfl) ?_
    refine RX.nil ?_
    refine WP.ret ?_
    repeat (first | refine sq_ret ?_ | refine bk_ret ?_ | refine lq_ret ?_ | refine cq_ret ?_)
    exact fin1' 2 rfl rfl rfl ⟨[], rfl, .nil ..⟩
  | some a =>
    refine WP.seq (WP.sregion ?_)
    refine RX.pure (.none rfl) rfl rfl (p_move rfl) ?_
    refine RX.pure (.none rfl) rfl rfl (p_eqNilSlice rfl rfl Tryd.underlying102) ?_
    refine RX.nil ?_
    refine WP.condF rfl (WP.skip ?_)
    refine WP.sregion ?_
    refine RX.eff (.none rfl) rfl rfl rfl (e_buildSlice0 sl_102) ?_
    rintro _ _ ⟨n5, rfl, rfl⟩
    refine RX.pure (.none rfl) rfl rfl (p_move rfl) ?_
    refine RX.eff (.none rfl) rfl rfl rfl (e_append (enc := encN) (xs := []) (ys := xs) 1 rfl rfl sl_102 zr_106 rfl (by decide) by_106 (uniN _) (uniN _) (fun y _ => encN_ones y) (.inr ⟨n5, 0, [], rfl, rfl, by simp, by simp, by simp⟩) rfl (hV.rd (i := 0) rfl) (by simp; omega) (by simp [maxLen]; omega)) ?_
    rintro _ _ ⟨H', hV', rfl⟩
    refine RX.pure (.none rfl) rfl rfl (p_assign rfl) ?_
    refine RX.nil ?_
    refine WP.ret ?_
    repeat (first | refine sq_ret ?_ | refine bk_ret ?_ | refine lq_ret ?_ | refine cq_ret ?_)
    exact fin1' 2 rfl rfl rfl ⟨H', rfl, hV'⟩
theorem copy_tri (b e : Nat) (rs : List Tr) (r : Nat) (H : Hp) (hR : RAt b e rs r H) (hl : rs.length ≤ 1000000) :
    Tri Tryd.prog w0 26 #[.pointer (some ⟨r, 0, none⟩)] [H] (fun v S' => ∃ r' H', v = .pointer (some ⟨r', 0, none⟩) ∧ S' = [H, H'] ∧ RAt b e rs r' H') := by
  obtain ⟨v, Hr, rfl, hV⟩ := hR
  refine Tri.mk Tryd.func26 rfl rfl rfl ?_
  refine WP.sregion ?_
  refine RX.pure (.none rfl) rfl rfl (p_assign rfl) ?_
  refine RX.nil ?_
  refine WP.open1 ?_
  refine WP.seq (WP.sregion ?_)
  refine RX.pure (.none rfl) rfl rfl (p_move rfl) ?_
  refine RX.eff (.none rfl) rfl rfl rfl (e_call [0] rfl call_48 rfl rfl (there_tri r _)) ?_
  rintro _ _ ⟨_, ⟨rfl, rfl⟩, rfl⟩
  refine RX.pure (.none rfl) rfl rfl (p_not rfl) ?_
  refine RX.nil ?_
  refine WP.condF rfl (WP.skip ?_)
  refine WP.sdrawJ ([3, 7], []) [0] mixed (by kernel_rfl) rfl rfl rfl ?_
  refine RJ.pure (.none rfl) rfl rfl (p_move rfl) ?_
  refine RJ.pure (.none rfl) rfl rfl (p_nilCheck rfl) ?_
  refine RJ.pure (.none rfl) rfl rfl (p_fieldAddr rfl fa_104_1) ?_
  refine RJ.stab (.none rfl) rfl rfl (r_loadA (vs := [cu64 b, cu64 e]) rfl ag_53 (RdN.own 0 rfl rfl) rfl) ?_
  refine RJ.pure (.none rfl) rfl rfl (p_move rfl) ?_
  refine RJ.pure (.none rfl) rfl rfl (p_nilCheck rfl) ?_
  refine RJ.pure (.none rfl) rfl rfl (p_fieldAddr rfl fa_104_2) ?_
  (first | refine RJ.stab (.none rfl) rfl rfl (r_load rfl na_102 (Rd.own 0 rfl rfl)) ?_ | refine RJ.stab (.none rfl) rfl rfl (r_load rfl na_102 (Rd.own 1 rfl rfl)) ?_ | refine RJ.stab (.none rfl) rfl rfl (r_load rfl na_102 (Rd.own 2 rfl rfl)) ?_ | refine RJ.stab (.none rfl) rfl rfl (r_load rfl na_102 (Rd.own 3 rfl rfl)) ?_ | refine RJ.stab (.none rfl) rfl rfl (r_load rfl na_102 (Rd.own 4 rfl rfl)) ?_ | refine RJ.stab (.none rfl) rfl rfl (r_load rfl na_102 (Rd.own 5 rfl rfl)) ?_)
  refine RJ.eff (.none rfl) rfl rfl rfl rfl (e_call [0] rfl call_53 rfl rfl (clone_tri rs.reverse v Hr hV (by simpa using hl))) ?_
  rintro v' _ ⟨_, ⟨H', rfl, hV'⟩, rfl⟩; obtain ⟨p', c', rfl⟩ := hV'.slice
  refine RJ.pure (.none rfl) rfl rfl (p_buildS zr_104 pl_104 rfl rfl) ?_
  refine RJ.eff (.none rfl) rfl rfl rfl rfl (e_box rfl rfl) ?_
  rintro _ _ ⟨n16, rfl, rfl⟩
  refine RJ.pure (.none rfl) rfl rfl (p_assign rfl) ?_
  refine RJ.nil ?_
  refine WP.heap [Hr, H', [(n16, row [.bool true, cu64 b, cu64 e, .slice p' rs.reverse.length c'] 104)], [(r, row [.bool true, cu64 b, cu64 e, v] 104)]] rfl ?_
  refine WP.only (T := [[(r, row [.bool true, cu64 b, cu64 e, v] 104)], Hr, [(n16, row [.bool true, cu64 b, cu64 e, .slice p' rs.reverse.length c'] 104)], H']) [3, 0, 2, 1] rfl rfl ?_
  refine WP.perm (T := [(r, row [.bool true, cu64 b, cu64 e, v] 104) :: Hr, (n16, row [.bool true, cu64 b, cu64 e, .slice p' rs.reverse.length c'] 104) :: H']) ?_ ?_
  · simp [row]
  refine WP.ret ?_
  repeat (first | refine sq_ret ?_ | refine bk_ret ?_ | refine lq_ret ?_ | refine cq_ret ?_)
  exact fin1' 2 rfl rfl rfl ⟨n16, _, rfl, rfl, _, H', rfl, hV'⟩
end
end Go.Proofs.YtigjnfmbellpjaaDoor.Cmp
