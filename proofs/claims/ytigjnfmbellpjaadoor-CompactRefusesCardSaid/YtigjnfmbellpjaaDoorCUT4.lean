/- CompactCuts, walked. -/
import Derived.Test.YtigjnfmbellpjaaDoorCUT2
set_option maxRecDepth 100000
namespace Go.Proofs.YtigjnfmbellpjaaDoor.Cmp
open Go Go.EL Go.EL.Cpt Sha Coo
/-- nine, then zeros -/
def u9 : H32 := u1 9 (by decide)
theorem push_len (K : Nat → Int) : ∀ (rs : List Tr) (n : Tr), (pushR (nodeH K) rs n).length ≤ rs.length + 1
  | [], _ => by simp [pushR]
  | x :: rs, n => by
    rw [pushR]
    split
    · have := push_len K rs ⟨x.lv + 1, x.ix / 2, nodeH K x.h n.h⟩
      simp only [List.length_cons]
      omega
    · simp
section
variable {w0 : World}
open Classical in
set_option maxHeartbeats 4000000 in
theorem cuts_tri (K : Nat → Int) (hK : Tab w0 K) (hD : DeB w0) (beg A B : Nat) (hs : List H32) (v : Value) (hH : Held w0 [] hC hs v) (hbeg : beg ≤ 18446744073709551615) (hA : A ≤ 255) (hB : B ≤ 255) :
    Tri Tryd.prog w0 5 #[.agg ⟨[cu64 beg, v, cu8 A, cu8 B]⟩] [] (fun v S' => v = .bool true ∧ S' = []) := by
  obtain ⟨p, c, rfl, hc1, hc2⟩ := hH.len
  unfold maxLen at hc2
  refine Tri.mk Tryd.func5 rfl rfl rfl ?_
  refine WP.sregion ?_
  refine RX.eff (.none rfl) rfl rfl rfl (e_box rfl rfl) ?_
  rintro _ _ ⟨n1, rfl, rfl⟩
  refine RX.pure (.none rfl) rfl rfl (p_assign rfl) ?_
  refine RX.nil ?_
  refine WP.nilChunk (T := [[(n1, row [cu64 beg, .slice p hs.length c, cu8 A, cu8 B] 61)], []]) rfl ?_
  refine WP.sregion ?_
  refine RX.pure (.none rfl) rfl rfl (p_fieldAddr rfl fa_61_1) ?_
  (first | refine RX.ld 0 (.none rfl) rfl rfl na_24 rfl rfl ?_ | refine RX.ld 1 (.none rfl) rfl rfl na_24 rfl rfl ?_ | refine RX.ld 2 (.none rfl) rfl rfl na_24 rfl rfl ?_ | refine RX.ld 3 (.none rfl) rfl rfl na_24 rfl rfl ?_ | refine RX.ld 4 (.none rfl) rfl rfl na_24 rfl rfl ?_ | refine RX.ld 5 (.none rfl) rfl rfl na_24 rfl rfl ?_)
  refine RX.pure (.none rfl) rfl rfl (p_assign rfl) ?_
  refine RX.nil ?_
  by_cases hbig : 300 < hs.length
  · refine WP.seq (WP.sregion ?_)
    refine RX.pure (.none rfl) rfl rfl (p_move rfl) ?_
    refine RX.pure (.none rfl) rfl rfl (p_lenSlice rfl Tryd.underlying24) ?_
    refine RX.pure (.none rfl) rfl rfl (p_gtr rfl rfl) ?_
    refine RX.say (t := 22) rfl (.bool true) (by rw [decide_eq_true]; omega) ?_
    refine RX.nil ?_
    refine WP.condT rfl ?_
    refine WP.sregion ?_
    refine RX.eff (.none rfl) rfl rfl rfl (e_call [] rfl call_16 rfl rfl (alive_tri K hK)) ?_
    rintro _ _ ⟨_, ⟨rfl, rfl⟩, rfl⟩
    refine RX.pure (.none rfl) rfl rfl (p_assign rfl) ?_
    refine RX.nil ?_
    refine WP.ret ?_
    repeat (first | refine sq_ret ?_ | refine bk_ret ?_ | refine lq_ret ?_ | refine cq_ret ?_)
    exact fin1' 0 rfl rfl rfl ⟨rfl, rfl⟩
  have hb : hs.length ≤ 300 := by omega
  clear hbig
  refine WP.seq (WP.sregion ?_)
  refine RX.pure (.none rfl) rfl rfl (p_move rfl) ?_
  refine RX.pure (.none rfl) rfl rfl (p_lenSlice rfl Tryd.underlying24) ?_
  refine RX.pure (.none rfl) rfl rfl (p_gtr rfl rfl) ?_
  refine RX.say (t := 22) rfl (.bool false) (by rw [decide_eq_false]; omega) ?_
  refine RX.nil ?_
  refine WP.condF rfl (WP.skip ?_)
  refine WP.sregion ?_
  refine RX.pure (.none rfl) rfl rfl (p_fieldAddr rfl fa_61_0) ?_
  (first | refine RX.ld 0 (.none rfl) rfl rfl na_23 rfl rfl ?_ | refine RX.ld 1 (.none rfl) rfl rfl na_23 rfl rfl ?_ | refine RX.ld 2 (.none rfl) rfl rfl na_23 rfl rfl ?_ | refine RX.ld 3 (.none rfl) rfl rfl na_23 rfl rfl ?_ | refine RX.ld 4 (.none rfl) rfl rfl na_23 rfl rfl ?_ | refine RX.ld 5 (.none rfl) rfl rfl na_23 rfl rfl ?_)
  refine RX.pure (.none rfl) rfl rfl (p_move rfl) ?_
  refine RX.pure (.none rfl) rfl rfl (p_lenSlice rfl Tryd.underlying24) ?_
  refine RX.pure (.none rfl) rfl rfl (p_add rfl rfl (r := ((hs.length + 1 : Nat) : Int)) (wr_i64 (by omega) (by omega))) ?_
  refine RX.eff (.none rfl) rfl rfl rfl (e_call [] rfl call_24 rfl rfl (start_tri beg (hs.length + 1) hbeg (by omega))) ?_
  rintro _ _ ⟨_, ⟨rfl, rfl⟩, rfl⟩
  refine RX.pure (.none rfl) rfl rfl (p_assign rfl) ?_
  refine RX.nil ?_
  have hnb := startF_le beg (hs.length + 1) (by omega)
  generalize startF beg (hs.length + 1) = n at *
  refine WP.sregion ?_
  refine RX.pure (.none rfl) rfl rfl (p_fieldAddr rfl fa_61_2) ?_
  (first | refine RX.ld 0 (.none rfl) rfl rfl na_5 rfl rfl ?_ | refine RX.ld 1 (.none rfl) rfl rfl na_5 rfl rfl ?_ | refine RX.ld 2 (.none rfl) rfl rfl na_5 rfl rfl ?_ | refine RX.ld 3 (.none rfl) rfl rfl na_5 rfl rfl ?_ | refine RX.ld 4 (.none rfl) rfl rfl na_5 rfl rfl ?_ | refine RX.ld 5 (.none rfl) rfl rfl na_5 rfl rfl ?_)
  refine RX.pure (.none rfl) rfl rfl (p_convInt rfl Tryd.underlying5 Tryd.underlying3 (wr_i64 (by omega) (by omega))) ?_
  refine RX.pure (.none rfl) rfl rfl (p_move rfl) ?_
  refine RX.pure (.none rfl) rfl rfl (p_lenSlice rfl Tryd.underlying24) ?_
  refine RX.pure (.none rfl) rfl rfl (p_add rfl rfl (r := ((hs.length + 1 : Nat) : Int)) (wr_i64 (by omega) (by omega))) ?_
  refine RX.pure (.none rfl) rfl rfl (p_remN rfl rfl (by omega) (by omega)) ?_
  refine RX.say (t := 36) rfl (.int .i64 ((A % (hs.length + 1) : Nat) : Int)) (by rw [Int.natCast_emod]) ?_
  refine RX.pure (.none rfl) rfl rfl (p_assign rfl) ?_
  refine RX.nil ?_
  refine WP.sregion ?_
  refine RX.pure (.none rfl) rfl rfl (p_fieldAddr rfl fa_61_3) ?_
  (first | refine RX.ld 0 (.none rfl) rfl rfl na_5 rfl rfl ?_ | refine RX.ld 1 (.none rfl) rfl rfl na_5 rfl rfl ?_ | refine RX.ld 2 (.none rfl) rfl rfl na_5 rfl rfl ?_ | refine RX.ld 3 (.none rfl) rfl rfl na_5 rfl rfl ?_ | refine RX.ld 4 (.none rfl) rfl rfl na_5 rfl rfl ?_ | refine RX.ld 5 (.none rfl) rfl rfl na_5 rfl rfl ?_)
  refine RX.pure (.none rfl) rfl rfl (p_convInt rfl Tryd.underlying5 Tryd.underlying3 (wr_i64 (by omega) (by omega))) ?_
  refine RX.pure (.none rfl) rfl rfl (p_move rfl) ?_
  refine RX.pure (.none rfl) rfl rfl (p_lenSlice rfl Tryd.underlying24) ?_
  refine RX.pure (.none rfl) rfl rfl (p_add rfl rfl (r := ((hs.length + 1 : Nat) : Int)) (wr_i64 (by omega) (by omega))) ?_
  refine RX.pure (.none rfl) rfl rfl (p_remN rfl rfl (by omega) (by omega)) ?_
  refine RX.say (t := 43) rfl (.int .i64 ((B % (hs.length + 1) : Nat) : Int)) (by rw [Int.natCast_emod]) ?_
  refine RX.pure (.none rfl) rfl rfl (p_assign rfl) ?_
  refine RX.nil ?_
  have hA' : A % (hs.length + 1) ≤ hs.length := by have := Nat.mod_lt A (show 0 < hs.length + 1 by omega); omega
  have hB' : B % (hs.length + 1) ≤ hs.length := by have := Nat.mod_lt B (show 0 < hs.length + 1 by omega); omega
  generalize A % (hs.length + 1) = a at *
  generalize B % (hs.length + 1) = b at *
  refine WP.cut (fun ρ S => ∃ i k : Nat, i ≤ k ∧ k ≤ hs.length ∧ Sub [(3, .slice p hs.length c), (4, cu64 n), (5, .int .i64 (i : Nat)), (6, .int .i64 (k : Nat))] ρ ∧ S = [[]]) ?_ ?_
  · by_cases hab : b < a
    · refine WP.sregion ?_
      refine RX.pure (.none rfl) rfl rfl (p_move rfl) ?_
      refine RX.pure (.none rfl) rfl rfl (p_move rfl) ?_
      refine RX.pure (.none rfl) rfl rfl (p_gtr rfl rfl) ?_
      refine RX.say (t := 46) rfl (.bool true) (by rw [decide_eq_true]; omega) ?_
      refine RX.nil ?_
      refine WP.condT rfl ?_
      refine WP.only [1] rfl rfl ?_
      refine WP.region ?_
      refine RX.pure (.none rfl) rfl rfl (p_move rfl) ?_
      refine RX.pure (.none rfl) rfl rfl (p_move rfl) ?_
      refine RX.pure (.none rfl) rfl rfl (p_assign rfl) ?_
      refine RX.pure (.none rfl) rfl rfl (p_assign rfl) ?_
      refine RX.nil ?_
      refine cq_normal ⟨b, a, by omega, hA', ?_, rfl⟩
      repeat (first | exact Sub.nil | refine Sub.cons rfl ?_)
    · refine WP.sregion ?_
      refine RX.pure (.none rfl) rfl rfl (p_move rfl) ?_
      refine RX.pure (.none rfl) rfl rfl (p_move rfl) ?_
      refine RX.pure (.none rfl) rfl rfl (p_gtr rfl rfl) ?_
      refine RX.say (t := 46) rfl (.bool false) (by rw [decide_eq_false]; omega) ?_
      refine RX.nil ?_
      refine WP.condF rfl ?_
      refine WP.only [1] rfl rfl ?_
      refine WP.skip ?_
      refine cq_normal ⟨a, b, by omega, hB', ?_, rfl⟩
      repeat (first | exact Sub.nil | refine Sub.cons rfl ?_)
  clear hA' hB' hA hB
  rintro ρ S ⟨i, k, hik, hkl, hρ, rfl⟩
  refine WP.sub hρ ?_
  clear hρ
  have lX : (hs.take i).length = i := by rw [List.length_take]; omega
  have lY : ((hs.take k).drop i).length = k - i := by rw [List.length_drop, List.length_take]; omega
  have lZ : (hs.drop k).length = hs.length - k := List.length_drop
  have gW := rows_good K n hs hs.length
  have gX := part_good K n hs 0 i (hs.take i) (fun j hj => by simp [List.getD, List.getElem?_take, hj])
  have gY := part_good K n hs i (k - i) ((hs.take k).drop i) (fun j hj => by
    have : i + j < k := by omega
    simp [List.getD, List.getElem?_take, this])
  have gZ := part_good K n hs k (hs.length - k) (hs.drop k) (fun j _ => by simp [List.getD])
  simp only [Nat.add_zero] at gX
  rw [show n + i + (k - i) = n + k by omega] at gY
  rw [show n + k + (hs.length - k) = n + hs.length by omega] at gZ
  have tX := appended_tri K hK n (hs.take i) (.slice p i c) [] (hH.takeP uniH i (by omega)) (by omega) (by omega)
  have tY := appended_tri K hK (n + i) ((hs.take k).drop i) _ [] (hH.cut uniH i k hik hkl) (by omega) (by omega)
  have tZ := appended_tri K hK (n + k) (hs.drop k) _ [] (hH.from uniH k hkl) (by omega) (by omega)
  have tW := appended_tri K hK n hs _ [] hH (by omega) (by omega)
  rw [lX] at tX
  rw [lY, show n + i + (k - i) = n + k by omega] at tY
  rw [lZ, show n + k + (hs.length - k) = n + hs.length by omega] at tZ
  generalize leafAt K n hs = F at *
  generalize rows K n hs hs.length = W at *
  generalize rows K n (hs.take i) i = X at *
  generalize rows K (n + i) ((hs.take k).drop i) (k - i) = Y at *
  generalize rows K (n + k) (hs.drop k) (hs.length - k) = Z at *
  have hN : n + hs.length < 9223372036854775808 := by omega
  have gL1 := gX.join gY
  have gL := gL1.join gZ
  have gR := gY.join gZ
  have gO := gX.join gR
  have eL := gL.one gW (by omega)
  have eO := gO.one gW (by omega)
  have eLd := good_load gW (by omega)
  have wl := good_len gW (by omega)
  have hcl := good_cl gW (by omega)
  refine WP.sregion ?_
  refine RX.pure (.none rfl) rfl rfl (p_move rfl) ?_
  refine RX.pure (.none rfl) rfl rfl (p_move rfl) ?_
  refine RX.eff (.none rfl) rfl rfl rfl (e_call [0] rfl call_25 rfl rfl tW) ?_
  rintro _ _ ⟨_, ⟨rW, HW, rfl, rfl, hRW⟩, rfl⟩
  refine RX.pure (.none rfl) rfl rfl (p_assign rfl) ?_
  refine RX.nil ?_
  refine WP.sregion ?_
  refine RX.pure (.none rfl) rfl rfl (p_move rfl) ?_
  refine RX.pure (.none rfl) rfl rfl (p_move rfl) ?_
  refine RX.pure (.none rfl) rfl rfl (p_move rfl) ?_
  refine RX.pure (.none rfl) rfl rfl (p_sliceToH hH rfl sl_24 rfl (by omega)) ?_
  refine RX.eff (.none rfl) rfl rfl rfl (e_call [1] rfl call_25 rfl rfl tX) ?_
  rintro _ _ ⟨_, ⟨rX, HX, rfl, rfl, hRX⟩, rfl⟩
  refine RX.pure (.none rfl) rfl rfl (p_assign rfl) ?_
  refine RX.nil ?_
  refine WP.sregion ?_
  refine RX.pure (.none rfl) rfl rfl (p_move rfl) ?_
  refine RX.pure (.none rfl) rfl rfl (p_move rfl) ?_
  (first | refine RX.pure (.none rfl) rfl rfl (p_convInt rfl Tryd.underlying3 Tryd.underlying23 (wr_u64 (by omega) (by omega))) ?_ | refine RX.pure (.none rfl) rfl rfl (p_convInt rfl Tryd.underlying3 Tryd.underlying23 rfl) ?_)
  refine RX.pure (.none rfl) rfl rfl (p_add rfl rfl (r := ((n + i : Nat) : Int)) ((wr_u64 (by omega) (by omega)).trans (by omega))) ?_
  refine RX.pure (.none rfl) rfl rfl (p_move rfl) ?_
  refine RX.pure (.none rfl) rfl rfl (p_move rfl) ?_
  refine RX.pure (.none rfl) rfl rfl (p_move rfl) ?_
  refine RX.pure (.none rfl) rfl rfl (p_sliceMidH hH rfl sl_24 rfl rfl hik hkl) ?_
  refine RX.eff (.none rfl) rfl rfl rfl (e_call [1] rfl call_25 rfl rfl tY) ?_
  rintro _ _ ⟨_, ⟨rY, HY, rfl, rfl, hRY⟩, rfl⟩
  refine RX.pure (.none rfl) rfl rfl (p_assign rfl) ?_
  refine RX.nil ?_
  refine WP.sregion ?_
  refine RX.pure (.none rfl) rfl rfl (p_move rfl) ?_
  refine RX.pure (.none rfl) rfl rfl (p_move rfl) ?_
  (first | refine RX.pure (.none rfl) rfl rfl (p_convInt rfl Tryd.underlying3 Tryd.underlying23 (wr_u64 (by omega) (by omega))) ?_ | refine RX.pure (.none rfl) rfl rfl (p_convInt rfl Tryd.underlying3 Tryd.underlying23 rfl) ?_)
  refine RX.pure (.none rfl) rfl rfl (p_add rfl rfl (r := ((n + k : Nat) : Int)) ((wr_u64 (by omega) (by omega)).trans (by omega))) ?_
  refine RX.pure (.none rfl) rfl rfl (p_move rfl) ?_
  refine RX.pure (.none rfl) rfl rfl (p_move rfl) ?_
  refine RX.pure (.none rfl) rfl rfl (p_sliceFromH hH rfl sl_24 rfl hkl) ?_
  refine RX.eff (.none rfl) rfl rfl rfl (e_call [1] rfl call_25 rfl rfl tZ) ?_
  rintro _ _ ⟨_, ⟨rZ, HZ, rfl, rfl, hRZ⟩, rfl⟩
  refine RX.pure (.none rfl) rfl rfl (p_assign rfl) ?_
  refine RX.nil ?_
  refine WP.only (T := [[], HW, HX, HY, HZ]) [1, 4, 3, 2, 0] rfl rfl ?_
  refine WP.seq (WP.sregion ?_)
  refine RX.pure (.none rfl) rfl rfl (p_move rfl) ?_
  refine RX.pure (.none rfl) rfl rfl (p_eqNilPtr rfl rfl Tryd.underlying44) ?_
  refine RX.pure (.none rfl) rfl rfl (p_move rfl) ?_
  (first | refine RX.skip (.no rfl rfl rfl rfl) rfl rfl ?_ | refine RX.pure (.yes rfl rfl rfl) rfl rfl (p_move rfl) ?_)
  (first | refine RX.skip (.no rfl rfl rfl rfl) rfl rfl ?_ | refine RX.pure (.yes rfl rfl rfl) rfl rfl (p_eqNilPtr rfl rfl Tryd.underlying44) ?_)
  (first | refine RX.pure (.none rfl) rfl rfl (p_pickT rfl rfl) ?_ | refine RX.pure (.none rfl) rfl rfl (p_pickF rfl rfl) ?_)
  refine RX.pure (.none rfl) rfl rfl (p_move rfl) ?_
  (first | refine RX.skip (.no rfl rfl rfl rfl) rfl rfl ?_ | refine RX.pure (.yes rfl rfl rfl) rfl rfl (p_move rfl) ?_)
  (first | refine RX.skip (.no rfl rfl rfl rfl) rfl rfl ?_ | refine RX.pure (.yes rfl rfl rfl) rfl rfl (p_eqNilPtr rfl rfl Tryd.underlying44) ?_)
  (first | refine RX.pure (.none rfl) rfl rfl (p_pickT rfl rfl) ?_ | refine RX.pure (.none rfl) rfl rfl (p_pickF rfl rfl) ?_)
  refine RX.pure (.none rfl) rfl rfl (p_move rfl) ?_
  (first | refine RX.skip (.no rfl rfl rfl rfl) rfl rfl ?_ | refine RX.pure (.yes rfl rfl rfl) rfl rfl (p_move rfl) ?_)
  (first | refine RX.skip (.no rfl rfl rfl rfl) rfl rfl ?_ | refine RX.pure (.yes rfl rfl rfl) rfl rfl (p_eqNilPtr rfl rfl Tryd.underlying44) ?_)
  (first | refine RX.pure (.none rfl) rfl rfl (p_pickT rfl rfl) ?_ | refine RX.pure (.none rfl) rfl rfl (p_pickF rfl rfl) ?_)
  refine RX.nil ?_
  refine WP.condF rfl (WP.skip ?_)
  refine WP.sregion ?_
  refine RX.pure (.none rfl) rfl rfl (p_move rfl) ?_
  refine RX.eff (.none rfl) rfl rfl rfl (e_call [2] rfl call_26 rfl rfl (copy_tri _ _ X rX HX hRX (good_len gX (by omega)))) ?_
  rintro _ _ ⟨_, ⟨rL, HL, rfl, rfl, hRL⟩, rfl⟩
  refine RX.pure (.none rfl) rfl rfl (p_assign rfl) ?_
  refine RX.nil ?_
  refine WP.only (T := [[], HW, HX, HY, HZ, HL]) [2, 3, 0, 4, 5, 1] rfl rfl ?_
  refine WP.sregion ?_
  refine RX.pure (.none rfl) rfl rfl (p_move rfl) ?_
  refine RX.eff (.none rfl) rfl rfl rfl (e_call [3] rfl call_26 rfl rfl (copy_tri _ _ Y rY HY hRY (good_len gY (by omega)))) ?_
  rintro _ _ ⟨_, ⟨rR, HR, rfl, rfl, hRR⟩, rfl⟩
  refine RX.pure (.none rfl) rfl rfl (p_assign rfl) ?_
  refine RX.nil ?_
  refine WP.only (T := [[], HW, HX, HY, HZ, HL, HR]) [2, 3, 4, 0, 5, 6, 1] rfl rfl ?_
  refine WP.sregion ?_
  refine RX.pure (.none rfl) rfl rfl (p_move rfl) ?_
  refine RX.eff (.none rfl) rfl rfl rfl (e_call [2] rfl call_26 rfl rfl (copy_tri _ _ X rX HX hRX (good_len gX (by omega)))) ?_
  rintro _ _ ⟨_, ⟨rO, HO, rfl, rfl, hRO⟩, rfl⟩
  refine RX.pure (.none rfl) rfl rfl (p_assign rfl) ?_
  refine RX.nil ?_
  refine WP.only (T := [[], HW, HX, HY, HZ, HL, HR, HO]) [2, 3, 0, 4, 5, 6, 7, 1] rfl rfl ?_
  refine WP.seq (WP.sregion ?_)
  refine RX.pure (.none rfl) rfl rfl (p_move rfl) ?_
  refine RX.pure (.none rfl) rfl rfl (p_eqNilPtr rfl rfl Tryd.underlying44) ?_
  refine RX.pure (.none rfl) rfl rfl (p_move rfl) ?_
  (first | refine RX.skip (.no rfl rfl rfl rfl) rfl rfl ?_ | refine RX.pure (.yes rfl rfl rfl) rfl rfl (p_move rfl) ?_)
  (first | refine RX.skip (.no rfl rfl rfl rfl) rfl rfl ?_ | refine RX.pure (.yes rfl rfl rfl) rfl rfl (p_eqNilPtr rfl rfl Tryd.underlying44) ?_)
  (first | refine RX.pure (.none rfl) rfl rfl (p_pickT rfl rfl) ?_ | refine RX.pure (.none rfl) rfl rfl (p_pickF rfl rfl) ?_)
  refine RX.pure (.none rfl) rfl rfl (p_move rfl) ?_
  (first | refine RX.skip (.no rfl rfl rfl rfl) rfl rfl ?_ | refine RX.pure (.yes rfl rfl rfl) rfl rfl (p_move rfl) ?_)
  (first | refine RX.skip (.no rfl rfl rfl rfl) rfl rfl ?_ | refine RX.pure (.yes rfl rfl rfl) rfl rfl (p_eqNilPtr rfl rfl Tryd.underlying44) ?_)
  (first | refine RX.pure (.none rfl) rfl rfl (p_pickT rfl rfl) ?_ | refine RX.pure (.none rfl) rfl rfl (p_pickF rfl rfl) ?_)
  refine RX.pure (.none rfl) rfl rfl (p_move rfl) ?_
  (first | refine RX.skip (.no rfl rfl rfl rfl) rfl rfl ?_ | refine RX.pure (.yes rfl rfl rfl) rfl rfl (p_move rfl) ?_)
  (first | refine RX.skip (.no rfl rfl rfl rfl) rfl rfl ?_ | refine RX.pure (.yes rfl rfl rfl) rfl rfl (p_move rfl) ?_)
  (first | refine RX.skip (.no rfl rfl rfl rfl) rfl rfl ?_ | (refine RX.eff (.yes rfl rfl rfl) rfl rfl rfl (e_call [5, 3] rfl call_27 rfl rfl (join_tri K hK F n (n + i) (n + k) X Y rL rY HL HY hRL hRY gX gY (by omega))) ?_; rintro _ _ ⟨_, ⟨rfl, HL1, rfl, hRL1⟩, rfl⟩))
  (first | refine RX.skip (.no rfl rfl rfl rfl) rfl rfl ?_ | refine RX.pure (.yes rfl rfl rfl) rfl rfl (p_neNilIface rfl (by first | exact .inl rfl | exact .inr ⟨_, _, rfl⟩ | assumption) Tryd.underlying34) ?_)
  (first | refine RX.pure (.none rfl) rfl rfl (p_pickT rfl rfl) ?_ | refine RX.pure (.none rfl) rfl rfl (p_pickF rfl rfl) ?_)
  refine RX.pure (.none rfl) rfl rfl (p_move rfl) ?_
  (first | refine RX.skip (.no rfl rfl rfl rfl) rfl rfl ?_ | refine RX.pure (.yes rfl rfl rfl) rfl rfl (p_move rfl) ?_)
  (first | refine RX.skip (.no rfl rfl rfl rfl) rfl rfl ?_ | refine RX.pure (.yes rfl rfl rfl) rfl rfl (p_move rfl) ?_)
  (first | refine RX.skip (.no rfl rfl rfl rfl) rfl rfl ?_ | (refine RX.eff (.yes rfl rfl rfl) rfl rfl rfl (e_call [0, 5] rfl call_27 rfl rfl (join_tri K hK F n (n + k) (n + hs.length) _ Z rL rZ HL1 HZ hRL1 hRZ gL1 gZ (by omega))) ?_; rintro _ _ ⟨_, ⟨rfl, HL2, rfl, hRL2⟩, rfl⟩))
  (first | refine RX.skip (.no rfl rfl rfl rfl) rfl rfl ?_ | refine RX.pure (.yes rfl rfl rfl) rfl rfl (p_neNilIface rfl (by first | exact .inl rfl | exact .inr ⟨_, _, rfl⟩ | assumption) Tryd.underlying34) ?_)
  (first | refine RX.pure (.none rfl) rfl rfl (p_pickT rfl rfl) ?_ | refine RX.pure (.none rfl) rfl rfl (p_pickF rfl rfl) ?_)
  refine RX.pure (.none rfl) rfl rfl (p_move rfl) ?_
  (first | refine RX.skip (.no rfl rfl rfl rfl) rfl rfl ?_ | refine RX.pure (.yes rfl rfl rfl) rfl rfl (p_move rfl) ?_)
  (first | refine RX.skip (.no rfl rfl rfl rfl) rfl rfl ?_ | refine RX.pure (.yes rfl rfl rfl) rfl rfl (p_move rfl) ?_)
  (first | refine RX.skip (.no rfl rfl rfl rfl) rfl rfl ?_ | (refine RX.eff (.yes rfl rfl rfl) rfl rfl rfl (e_call [6, 1] rfl call_27 rfl rfl (join_tri K hK F (n + i) (n + k) (n + hs.length) Y Z rR rZ HR HZ hRR hRZ gY gZ (by omega))) ?_; rintro _ _ ⟨_, ⟨rfl, HR1, rfl, hRR1⟩, rfl⟩))
  (first | refine RX.skip (.no rfl rfl rfl rfl) rfl rfl ?_ | refine RX.pure (.yes rfl rfl rfl) rfl rfl (p_neNilIface rfl (by first | exact .inl rfl | exact .inr ⟨_, _, rfl⟩ | assumption) Tryd.underlying34) ?_)
  (first | refine RX.pure (.none rfl) rfl rfl (p_pickT rfl rfl) ?_ | refine RX.pure (.none rfl) rfl rfl (p_pickF rfl rfl) ?_)
  refine RX.pure (.none rfl) rfl rfl (p_move rfl) ?_
  (first | refine RX.skip (.no rfl rfl rfl rfl) rfl rfl ?_ | refine RX.pure (.yes rfl rfl rfl) rfl rfl (p_move rfl) ?_)
  (first | refine RX.skip (.no rfl rfl rfl rfl) rfl rfl ?_ | refine RX.pure (.yes rfl rfl rfl) rfl rfl (p_move rfl) ?_)
  (first | refine RX.skip (.no rfl rfl rfl rfl) rfl rfl ?_ | (refine RX.eff (.yes rfl rfl rfl) rfl rfl rfl (e_call [7, 0] rfl call_27 rfl rfl (join_tri K hK F n (n + i) (n + hs.length) X _ rO rR HO HR1 hRO hRR1 gX gR (by omega))) ?_; rintro _ _ ⟨_, ⟨rfl, HO1, rfl, hRO1⟩, rfl⟩))
  (first | refine RX.skip (.no rfl rfl rfl rfl) rfl rfl ?_ | refine RX.pure (.yes rfl rfl rfl) rfl rfl (p_neNilIface rfl (by first | exact .inl rfl | exact .inr ⟨_, _, rfl⟩ | assumption) Tryd.underlying34) ?_)
  (first | refine RX.pure (.none rfl) rfl rfl (p_pickT rfl rfl) ?_ | refine RX.pure (.none rfl) rfl rfl (p_pickF rfl rfl) ?_)
  refine RX.nil ?_
  refine WP.condF rfl (WP.skip ?_)
  rw [eL] at hRL2
  rw [eO] at hRO1
  refine WP.only (T := [[], HW, HZ, HL2, HY, HO1]) [5, 6, 2, 3, 4, 0] rfl rfl ?_
  refine WP.sregion ?_
  refine RX.pure (.none rfl) rfl rfl (p_move rfl) ?_
  refine RX.eff (.none rfl) rfl rfl rfl (e_call [1] rfl call_22 rfl rfl (hashes_tri n (n + hs.length) W rW HW hRW wl)) ?_
  rintro _ _ ⟨_, ⟨HV, rfl, hVW⟩, rfl⟩; refine RX.heap [HW, HV, [], HZ, HL2, HY, HO1] rfl ?_
  refine RX.pure (.none rfl) rfl rfl (p_assign rfl) ?_
  refine RX.nil ?_
  refine WP.sregion ?_
  refine RX.pure (.none rfl) rfl rfl (p_move rfl) ?_
  refine RX.eff (.none rfl) rfl rfl rfl (e_call [0] rfl call_29 rfl rfl (rspan_tri _ _ W rW HW hRW)) ?_
  rintro _ _ ⟨_, ⟨rfl, rfl⟩, rfl⟩; refine RX.heap [HW, HV, [], HZ, HL2, HY, HO1] rfl ?_
  refine RX.pure (.none rfl) rfl rfl (p_move rfl) ?_
  refine RX.eff (.none rfl) rfl rfl rfl (e_call [1] rfl call_28 rfl rfl (load_tri hD n (n + hs.length) _ _ HV hVW.held (by omega) (by omega) hcl)) ?_
  rintro _ _ ⟨_, ⟨rLd, HLd, rfl, rfl, hRLd⟩, rfl⟩; refine RX.heap [HLd, HV, HW, [], HZ, HL2, HY, HO1] rfl ?_
  refine RX.pure (.none rfl) rfl rfl (p_move rfl) ?_
  refine RX.pure (.none rfl) rfl rfl (p_extract rfl rfl) ?_
  refine RX.pure (.none rfl) rfl rfl (p_extract rfl rfl) ?_
  refine RX.pure (.none rfl) rfl rfl (p_assign rfl) ?_
  refine RX.pure (.none rfl) rfl rfl (p_assign rfl) ?_
  refine RX.nil ?_
  rw [eLd] at hRLd
  have sdk : Dk Tryd.prog 53 (sAgg n (n + hs.length)) := sp_dk _ _ (by omega) (by omega)
  refine WP.seq (WP.sregion ?_)
  refine RX.pure (.none rfl) rfl rfl (p_move rfl) ?_
  refine RX.pure (.none rfl) rfl rfl (p_neNilIface rfl (by first | exact .inl rfl | exact .inr ⟨_, _, rfl⟩ | assumption) Tryd.underlying34) ?_
  refine RX.pure (.none rfl) rfl rfl (p_move rfl) ?_
  (first | refine RX.skip (.no rfl rfl rfl rfl) rfl rfl ?_ | refine RX.pure (.yes rfl rfl rfl) rfl rfl (p_move rfl) ?_)
  (first | refine RX.skip (.no rfl rfl rfl rfl) rfl rfl ?_ | refine RX.pure (.yes rfl rfl rfl) rfl rfl (p_eqNilPtr rfl rfl Tryd.underlying44) ?_)
  (first | refine RX.pure (.none rfl) rfl rfl (p_pickT rfl rfl) ?_ | refine RX.pure (.none rfl) rfl rfl (p_pickF rfl rfl) ?_)
  refine RX.pure (.none rfl) rfl rfl (p_move rfl) ?_
  (first | refine RX.skip (.no rfl rfl rfl rfl) rfl rfl ?_ | refine RX.pure (.yes rfl rfl rfl) rfl rfl (p_move rfl) ?_)
  (first | refine RX.skip (.no rfl rfl rfl rfl) rfl rfl ?_ | (refine RX.eff (.yes rfl rfl rfl) rfl rfl rfl (e_call [2] rfl call_29 rfl rfl (rspan_tri _ _ W rW HW hRW)) ?_; rintro _ _ ⟨_, ⟨rfl, rfl⟩, rfl⟩; refine RX.heap [HW, HLd, HV, [], HZ, HL2, HY, HO1] rfl ?_))
  (first | refine RX.skip (.no rfl rfl rfl rfl) rfl rfl ?_ | refine RX.pure (.yes rfl rfl rfl) rfl rfl (p_move rfl) ?_)
  (first | refine RX.skip (.no rfl rfl rfl rfl) rfl rfl ?_ | refine RX.pure (.yes rfl rfl rfl) rfl rfl (p_move rfl) ?_)
  (first | refine RX.skip (.no rfl rfl rfl rfl) rfl rfl ?_ | refine RX.pure (.yes rfl rfl rfl) rfl rfl (p_move rfl) ?_)
  (first | refine RX.skip (.no rfl rfl rfl rfl) rfl rfl ?_ | refine RX.pure (.yes rfl rfl rfl) rfl rfl (p_lenSlice rfl Tryd.underlying24) ?_)
  (first | refine RX.skip (.no rfl rfl rfl rfl) rfl rfl ?_ | refine RX.pure (.yes rfl rfl rfl) rfl rfl (p_convInt rfl Tryd.underlying3 Tryd.underlying23 (wr_u64 (by omega) (by omega))) ?_ | refine RX.pure (.yes rfl rfl rfl) rfl rfl (p_convInt rfl Tryd.underlying3 Tryd.underlying23 rfl) ?_)
  (first | refine RX.skip (.no rfl rfl rfl rfl) rfl rfl ?_ | refine RX.pure (.yes rfl rfl rfl) rfl rfl (p_add rfl rfl (r := ((n + hs.length : Nat) : Int)) ((wr_u64 (by omega) (by omega)).trans (by omega))) ?_)
  (first | refine RX.skip (.no rfl rfl rfl rfl) rfl rfl ?_ | (refine RX.pure (.yes rfl rfl rfl) rfl rfl (p_buildS zr_53 pl_53 rfl rfl) ?_; refine RX.say (t := 152) rfl (sAgg n (n + hs.length)) rfl ?_))
  (first | refine RX.skip (.no rfl rfl rfl rfl) rfl rfl ?_ | (refine RX.pure (.yes rfl rfl rfl) rfl rfl (p_neDeep rfl rfl sp_wide sdk sdk sp_guard) ?_; refine RX.say (t := 153) rfl (.bool false) (by simp) ?_))
  (first | refine RX.pure (.none rfl) rfl rfl (p_pickT rfl rfl) ?_ | refine RX.pure (.none rfl) rfl rfl (p_pickF rfl rfl) ?_)
  refine RX.pure (.none rfl) rfl rfl (p_move rfl) ?_
  (first | refine RX.skip (.no rfl rfl rfl rfl) rfl rfl ?_ | refine RX.pure (.yes rfl rfl rfl) rfl rfl (p_move rfl) ?_)
  (first | refine RX.skip (.no rfl rfl rfl rfl) rfl rfl ?_ | (refine RX.eff (.yes rfl rfl rfl) rfl rfl rfl (e_call [5] rfl call_29 rfl rfl (rspan_tri _ _ W rL HL2 hRL2)) ?_; rintro _ _ ⟨_, ⟨rfl, rfl⟩, rfl⟩; refine RX.heap [HL2, HW, HLd, HV, [], HZ, HY, HO1] rfl ?_))
  (first | refine RX.skip (.no rfl rfl rfl rfl) rfl rfl ?_ | refine RX.pure (.yes rfl rfl rfl) rfl rfl (p_move rfl) ?_)
  (first | refine RX.skip (.no rfl rfl rfl rfl) rfl rfl ?_ | (refine RX.eff (.yes rfl rfl rfl) rfl rfl rfl (e_call [1] rfl call_29 rfl rfl (rspan_tri _ _ W rW HW hRW)) ?_; rintro _ _ ⟨_, ⟨rfl, rfl⟩, rfl⟩; refine RX.heap [HW, HL2, HLd, HV, [], HZ, HY, HO1] rfl ?_))
  (first | refine RX.skip (.no rfl rfl rfl rfl) rfl rfl ?_ | (refine RX.pure (.yes rfl rfl rfl) rfl rfl (p_neDeep rfl rfl sp_wide sdk sdk sp_guard) ?_; refine RX.say (t := 160) rfl (.bool false) (by simp) ?_))
  (first | refine RX.pure (.none rfl) rfl rfl (p_pickT rfl rfl) ?_ | refine RX.pure (.none rfl) rfl rfl (p_pickF rfl rfl) ?_)
  refine RX.pure (.none rfl) rfl rfl (p_move rfl) ?_
  (first | refine RX.skip (.no rfl rfl rfl rfl) rfl rfl ?_ | refine RX.pure (.yes rfl rfl rfl) rfl rfl (p_move rfl) ?_)
  (first | refine RX.skip (.no rfl rfl rfl rfl) rfl rfl ?_ | (refine RX.eff (.yes rfl rfl rfl) rfl rfl rfl (e_call [7] rfl call_29 rfl rfl (rspan_tri _ _ W rO HO1 hRO1)) ?_; rintro _ _ ⟨_, ⟨rfl, rfl⟩, rfl⟩; refine RX.heap [HO1, HW, HL2, HLd, HV, [], HZ, HY] rfl ?_))
  (first | refine RX.skip (.no rfl rfl rfl rfl) rfl rfl ?_ | refine RX.pure (.yes rfl rfl rfl) rfl rfl (p_move rfl) ?_)
  (first | refine RX.skip (.no rfl rfl rfl rfl) rfl rfl ?_ | (refine RX.eff (.yes rfl rfl rfl) rfl rfl rfl (e_call [1] rfl call_29 rfl rfl (rspan_tri _ _ W rW HW hRW)) ?_; rintro _ _ ⟨_, ⟨rfl, rfl⟩, rfl⟩; refine RX.heap [HW, HO1, HL2, HLd, HV, [], HZ, HY] rfl ?_))
  (first | refine RX.skip (.no rfl rfl rfl rfl) rfl rfl ?_ | (refine RX.pure (.yes rfl rfl rfl) rfl rfl (p_neDeep rfl rfl sp_wide sdk sdk sp_guard) ?_; refine RX.say (t := 167) rfl (.bool false) (by simp) ?_))
  (first | refine RX.pure (.none rfl) rfl rfl (p_pickT rfl rfl) ?_ | refine RX.pure (.none rfl) rfl rfl (p_pickF rfl rfl) ?_)
  refine RX.nil ?_
  refine WP.condF rfl (WP.skip ?_)
  refine WP.heap [HW, HO1, HL2, HLd, HV, [], HZ, HY] rfl ?_
  refine WP.seq (WP.sregion ?_)
  refine RX.pure (.none rfl) rfl rfl (p_move rfl) ?_
  refine RX.eff (.none rfl) rfl rfl rfl (e_call [2] rfl call_22 rfl rfl (hashes_tri _ _ W rL HL2 hRL2 wl)) ?_
  rintro _ _ ⟨_, ⟨Ha, rfl, hVa⟩, rfl⟩; refine RX.heap [HL2, Ha, HW, HO1, HLd, HV, [], HZ, HY] rfl ?_
  refine RX.pure (.none rfl) rfl rfl (p_move rfl) ?_
  refine RX.eff (.none rfl) rfl rfl rfl (e_call [1, 5] rfl call_30 rfl rfl (same_tri _ _ _ Ha HV hVa.held hVW.held)) ?_
  rintro _ _ ⟨_, ⟨rfl, rfl⟩, rfl⟩; refine RX.heap [Ha, HV, HL2, HW, HO1, HLd, [], HZ, HY] rfl ?_
  refine RX.pure (.none rfl) rfl rfl (p_not rfl) ?_
  refine RX.pure (.none rfl) rfl rfl (p_move rfl) ?_
  (first | refine RX.skip (.no rfl rfl rfl rfl) rfl rfl ?_ | refine RX.pure (.yes rfl rfl rfl) rfl rfl (p_move rfl) ?_)
  (first | refine RX.skip (.no rfl rfl rfl rfl) rfl rfl ?_ | (refine RX.eff (.yes rfl rfl rfl) rfl rfl rfl (e_call [4] rfl call_22 rfl rfl (hashes_tri _ _ W rO HO1 hRO1 wl)) ?_; rintro _ _ ⟨_, ⟨Hb, rfl, hVb⟩, rfl⟩; refine RX.heap [HO1, Hb, Ha, HV, HL2, HW, HLd, [], HZ, HY] rfl ?_))
  (first | refine RX.skip (.no rfl rfl rfl rfl) rfl rfl ?_ | refine RX.pure (.yes rfl rfl rfl) rfl rfl (p_move rfl) ?_)
  (first | refine RX.skip (.no rfl rfl rfl rfl) rfl rfl ?_ | (refine RX.eff (.yes rfl rfl rfl) rfl rfl rfl (e_call [1, 3] rfl call_30 rfl rfl (same_tri _ _ _ Hb HV hVb.held hVW.held)) ?_; rintro _ _ ⟨_, ⟨rfl, rfl⟩, rfl⟩; refine RX.heap [Hb, HV, HO1, Ha, HL2, HW, HLd, [], HZ, HY] rfl ?_))
  (first | refine RX.skip (.no rfl rfl rfl rfl) rfl rfl ?_ | refine RX.pure (.yes rfl rfl rfl) rfl rfl (p_not rfl) ?_)
  (first | refine RX.pure (.none rfl) rfl rfl (p_pickT rfl rfl) ?_ | refine RX.pure (.none rfl) rfl rfl (p_pickF rfl rfl) ?_)
  refine RX.pure (.none rfl) rfl rfl (p_move rfl) ?_
  (first | refine RX.skip (.no rfl rfl rfl rfl) rfl rfl ?_ | refine RX.pure (.yes rfl rfl rfl) rfl rfl (p_move rfl) ?_)
  (first | refine RX.skip (.no rfl rfl rfl rfl) rfl rfl ?_ | (refine RX.eff (.yes rfl rfl rfl) rfl rfl rfl (e_call [6] rfl call_22 rfl rfl (hashes_tri _ _ W rLd HLd hRLd wl)) ?_; rintro _ _ ⟨_, ⟨Hc, rfl, hVc⟩, rfl⟩; refine RX.heap [HLd, Hc, Hb, HV, HO1, Ha, HL2, HW, [], HZ, HY] rfl ?_))
  (first | refine RX.skip (.no rfl rfl rfl rfl) rfl rfl ?_ | refine RX.pure (.yes rfl rfl rfl) rfl rfl (p_move rfl) ?_)
  (first | refine RX.skip (.no rfl rfl rfl rfl) rfl rfl ?_ | (refine RX.eff (.yes rfl rfl rfl) rfl rfl rfl (e_call [1, 3] rfl call_30 rfl rfl (same_tri _ _ _ Hc HV hVc.held hVW.held)) ?_; rintro _ _ ⟨_, ⟨rfl, rfl⟩, rfl⟩; refine RX.heap [Hc, HV, HLd, Hb, HO1, Ha, HL2, HW, [], HZ, HY] rfl ?_))
  (first | refine RX.skip (.no rfl rfl rfl rfl) rfl rfl ?_ | refine RX.pure (.yes rfl rfl rfl) rfl rfl (p_not rfl) ?_)
  (first | refine RX.pure (.none rfl) rfl rfl (p_pickT rfl rfl) ?_ | refine RX.pure (.none rfl) rfl rfl (p_pickF rfl rfl) ?_)
  refine RX.nil ?_
  refine WP.condF rfl (WP.skip ?_)
  refine WP.only (T := [[], HW, HZ, HL2, HY, HLd, HV]) [8, 7, 9, 6, 10, 2, 1] rfl rfl ?_
  refine WP.sregion ?_
  refine RX.pure (.none rfl) rfl rfl (p_move rfl) ?_
  refine RX.pure (.none rfl) rfl rfl (p_move rfl) ?_
  (first | refine RX.pure (.none rfl) rfl rfl (p_convInt rfl Tryd.underlying3 Tryd.underlying23 (wr_u64 (by omega) (by omega))) ?_ | refine RX.pure (.none rfl) rfl rfl (p_convInt rfl Tryd.underlying3 Tryd.underlying23 rfl) ?_)
  refine RX.pure (.none rfl) rfl rfl (p_add rfl rfl (r := ((n + i : Nat) : Int)) ((wr_u64 (by omega) (by omega)).trans (by omega))) ?_
  refine RX.pure (.none rfl) rfl rfl (p_move rfl) ?_
  refine RX.pure (.none rfl) rfl rfl (p_move rfl) ?_
  refine RX.pure (.none rfl) rfl rfl (p_move rfl) ?_
  refine RX.pure (.none rfl) rfl rfl (p_sliceMidH hH rfl sl_24 rfl rfl hik hkl) ?_
  refine RX.eff (.none rfl) rfl rfl rfl (e_call [0] rfl call_25 rfl rfl tY) ?_
  rintro _ _ ⟨_, ⟨rS, HSm, rfl, rfl, hRS⟩, rfl⟩; refine RX.heap [HSm, [], HW, HZ, HL2, HY, HLd, HV] rfl ?_
  refine RX.pure (.none rfl) rfl rfl (p_assign rfl) ?_
  refine RX.nil ?_
  have yl := good_len gY (by omega)
  have ydk : Dk Tryd.prog 53 (sAgg (n + i) (n + k)) := sp_dk _ _ (by omega) (by omega)
  refine WP.seq (WP.sregion ?_)
  refine RX.pure (.none rfl) rfl rfl (p_move rfl) ?_
  refine RX.pure (.none rfl) rfl rfl (p_eqNilPtr rfl rfl Tryd.underlying44) ?_
  refine RX.pure (.none rfl) rfl rfl (p_move rfl) ?_
  (first | refine RX.skip (.no rfl rfl rfl rfl) rfl rfl ?_ | refine RX.pure (.yes rfl rfl rfl) rfl rfl (p_move rfl) ?_)
  (first | refine RX.skip (.no rfl rfl rfl rfl) rfl rfl ?_ | (refine RX.eff (.yes rfl rfl rfl) rfl rfl rfl (e_call [5] rfl call_22 rfl rfl (hashes_tri _ _ Y rY HY hRY yl)) ?_; rintro _ _ ⟨_, ⟨Hd, rfl, hVd⟩, rfl⟩; refine RX.heap [HY, Hd, HSm, [], HW, HZ, HL2, HLd, HV] rfl ?_))
  (first | refine RX.skip (.no rfl rfl rfl rfl) rfl rfl ?_ | refine RX.pure (.yes rfl rfl rfl) rfl rfl (p_move rfl) ?_)
  (first | refine RX.skip (.no rfl rfl rfl rfl) rfl rfl ?_ | (refine RX.eff (.yes rfl rfl rfl) rfl rfl rfl (e_call [2] rfl call_22 rfl rfl (hashes_tri _ _ Y rS HSm hRS yl)) ?_; rintro _ _ ⟨_, ⟨He, rfl, hVe⟩, rfl⟩; refine RX.heap [HSm, He, HY, Hd, [], HW, HZ, HL2, HLd, HV] rfl ?_))
  (first | refine RX.skip (.no rfl rfl rfl rfl) rfl rfl ?_ | (refine RX.eff (.yes rfl rfl rfl) rfl rfl rfl (e_call [3, 1] rfl call_30 rfl rfl (same_tri _ _ _ Hd He hVd.held hVe.held)) ?_; rintro _ _ ⟨_, ⟨rfl, rfl⟩, rfl⟩; refine RX.heap [Hd, He, HSm, HY, [], HW, HZ, HL2, HLd, HV] rfl ?_))
  (first | refine RX.skip (.no rfl rfl rfl rfl) rfl rfl ?_ | refine RX.pure (.yes rfl rfl rfl) rfl rfl (p_not rfl) ?_)
  (first | refine RX.pure (.none rfl) rfl rfl (p_pickT rfl rfl) ?_ | refine RX.pure (.none rfl) rfl rfl (p_pickF rfl rfl) ?_)
  refine RX.pure (.none rfl) rfl rfl (p_move rfl) ?_
  (first | refine RX.skip (.no rfl rfl rfl rfl) rfl rfl ?_ | refine RX.pure (.yes rfl rfl rfl) rfl rfl (p_move rfl) ?_)
  (first | refine RX.skip (.no rfl rfl rfl rfl) rfl rfl ?_ | (refine RX.eff (.yes rfl rfl rfl) rfl rfl rfl (e_call [3] rfl call_29 rfl rfl (rspan_tri _ _ Y rY HY hRY)) ?_; rintro _ _ ⟨_, ⟨rfl, rfl⟩, rfl⟩; refine RX.heap [HY, Hd, He, HSm, [], HW, HZ, HL2, HLd, HV] rfl ?_))
  (first | refine RX.skip (.no rfl rfl rfl rfl) rfl rfl ?_ | refine RX.pure (.yes rfl rfl rfl) rfl rfl (p_move rfl) ?_)
  (first | refine RX.skip (.no rfl rfl rfl rfl) rfl rfl ?_ | (refine RX.eff (.yes rfl rfl rfl) rfl rfl rfl (e_call [3] rfl call_29 rfl rfl (rspan_tri _ _ Y rS HSm hRS)) ?_; rintro _ _ ⟨_, ⟨rfl, rfl⟩, rfl⟩; refine RX.heap [HSm, HY, Hd, He, [], HW, HZ, HL2, HLd, HV] rfl ?_))
  (first | refine RX.skip (.no rfl rfl rfl rfl) rfl rfl ?_ | (refine RX.pure (.yes rfl rfl rfl) rfl rfl (p_neDeep rfl rfl sp_wide ydk ydk sp_guard) ?_; refine RX.say (t := 212) rfl (.bool false) (by simp) ?_))
  (first | refine RX.pure (.none rfl) rfl rfl (p_pickT rfl rfl) ?_ | refine RX.pure (.none rfl) rfl rfl (p_pickF rfl rfl) ?_)
  refine RX.nil ?_
  refine WP.condF rfl (WP.skip ?_)
  refine WP.only (T := [[], HW, HZ, HL2, HLd, HV]) [4, 5, 6, 7, 8, 9] rfl rfl ?_
  have hmay := good_may gW (by omega)
  have pl := push_len K W ⟨0, n + hs.length, u9⟩
  have wl2 := row_len gW.row gW.free (show n + hs.length ≤ 2 ^ 63 by omega)
  refine WP.seq (WP.sregion ?_)
  refine RX.pure (.none rfl) rfl rfl (p_move rfl) ?_
  refine RX.pure (.none rfl) rfl rfl (p_buildA zr_32 ar_32 rfl rfl) ?_
  refine RX.say (t := 215) rfl (hV u9) rfl ?_
  refine RX.eff (.none rfl) rfl rfl rfl (e_call [3] rfl call_20 rfl rfl (append_tri K hK n (n + hs.length) W u9 rL HL2 hRL2 hmay hN wl)) ?_
  rintro _ _ ⟨_, ⟨rfl, HL3, rfl, hRL3⟩, rfl⟩; refine RX.heap [HL3, [], HW, HZ, HLd, HV] rfl ?_
  refine RX.pure (.none rfl) rfl rfl (p_neNilIface rfl (by first | exact .inl rfl | exact .inr ⟨_, _, rfl⟩ | assumption) Tryd.underlying34) ?_
  refine RX.pure (.none rfl) rfl rfl (p_move rfl) ?_
  (first | refine RX.skip (.no rfl rfl rfl rfl) rfl rfl ?_ | refine RX.pure (.yes rfl rfl rfl) rfl rfl (p_move rfl) ?_)
  (first | refine RX.skip (.no rfl rfl rfl rfl) rfl rfl ?_ | (refine RX.pure (.yes rfl rfl rfl) rfl rfl (p_buildA zr_32 ar_32 rfl rfl) ?_; refine RX.say (t := 220) rfl (hV u9) rfl ?_))
  (first | refine RX.skip (.no rfl rfl rfl rfl) rfl rfl ?_ | (refine RX.eff (.yes rfl rfl rfl) rfl rfl rfl (e_call [4] rfl call_20 rfl rfl (append_tri K hK n (n + hs.length) W u9 rLd HLd hRLd hmay hN wl)) ?_; rintro _ _ ⟨_, ⟨rfl, HLd2, rfl, hRLd2⟩, rfl⟩; refine RX.heap [HLd2, HL3, [], HW, HZ, HV] rfl ?_))
  (first | refine RX.skip (.no rfl rfl rfl rfl) rfl rfl ?_ | refine RX.pure (.yes rfl rfl rfl) rfl rfl (p_neNilIface rfl (by first | exact .inl rfl | exact .inr ⟨_, _, rfl⟩ | assumption) Tryd.underlying34) ?_)
  (first | refine RX.pure (.none rfl) rfl rfl (p_pickT rfl rfl) ?_ | refine RX.pure (.none rfl) rfl rfl (p_pickF rfl rfl) ?_)
  refine RX.nil ?_
  refine WP.condF rfl (WP.skip ?_)
  refine WP.heap [HLd2, HL3, [], HW, HZ, HV] rfl ?_
  have tH : ∀ (r : Nat) (H : Hp), RAt n (n + hs.length + 1) (pushR (nodeH K) W ⟨0, n + hs.length, u9⟩) r H → Tri Tryd.prog w0 22 #[.pointer (some ⟨r, 0, none⟩)] [H] (fun v S' => ∃ HV, S' = [H, HV] ∧ Vec 32 32 hC ((pushR (nodeH K) W ⟨0, n + hs.length, u9⟩).reverse.map (·.h)) v HV) := fun r H hR => hashes_tri _ _ _ r H hR (by omega)
  have zl := good_len gZ (by omega)
  refine WP.sdrawJ ([16], []) [] mixed (by kernel_rfl) rfl rfl rfl ?_
  refine RJ.pure (.none rfl) rfl rfl (p_move rfl) ?_
  refine RJ.eff (.none rfl) rfl rfl rfl rfl (e_call [1] rfl call_22 rfl rfl (tH rL HL3 hRL3)) ?_
  rintro _ _ ⟨_, ⟨Hf, rfl, hVf⟩, rfl⟩; refine RJ.heap [HL3, Hf, HLd2, [], HW, HZ, HV] rfl ?_
  refine RJ.pure (.none rfl) rfl rfl (p_move rfl) ?_
  refine RJ.eff (.none rfl) rfl rfl rfl rfl (e_call [2] rfl call_22 rfl rfl (tH rLd HLd2 hRLd2)) ?_
  rintro _ _ ⟨_, ⟨Hg, rfl, hVg⟩, rfl⟩; refine RJ.heap [HLd2, Hg, HL3, Hf, [], HW, HZ, HV] rfl ?_
  refine RJ.eff (.none rfl) rfl rfl rfl rfl (e_call [3, 1] rfl call_30 rfl rfl (same_tri _ _ _ Hf Hg hVf.held hVg.held)) ?_
  rintro _ _ ⟨_, ⟨rfl, rfl⟩, rfl⟩; refine RJ.heap [Hf, Hg, HLd2, HL3, [], HW, HZ, HV] rfl ?_
  refine RJ.pure (.none rfl) rfl rfl (p_move rfl) ?_
  (first | refine RJ.skip (.no rfl rfl rfl rfl) rfl rfl ?_ | refine RJ.pure (.yes rfl rfl rfl) rfl rfl (p_move rfl) ?_)
  (first | refine RJ.skip (.no rfl rfl rfl rfl) rfl rfl ?_ | (refine RJ.eff (.yes rfl rfl rfl) rfl rfl rfl rfl (e_call [5] rfl call_22 rfl rfl (hashes_tri _ _ W rW HW hRW wl)) ?_; rintro _ _ ⟨_, ⟨Hh, rfl, hVh⟩, rfl⟩; refine RJ.heap [HW, Hh, Hf, Hg, HLd2, HL3, [], HZ, HV] rfl ?_))
  (first | refine RJ.skip (.no rfl rfl rfl rfl) rfl rfl ?_ | refine RJ.pure (.yes rfl rfl rfl) rfl rfl (p_move rfl) ?_)
  (first | refine RJ.skip (.no rfl rfl rfl rfl) rfl rfl ?_ | (refine RJ.eff (.yes rfl rfl rfl) rfl rfl rfl rfl (e_call [1, 8] rfl call_30 rfl rfl (same_tri _ _ _ Hh HV hVh.held hVW.held)) ?_; rintro _ _ ⟨_, ⟨rfl, rfl⟩, rfl⟩; refine RJ.heap [Hh, HV, HW, Hf, Hg, HLd2, HL3, [], HZ] rfl ?_))
  (first | refine RJ.pure (.none rfl) rfl rfl (p_pickT rfl rfl) ?_ | refine RJ.pure (.none rfl) rfl rfl (p_pickF rfl rfl) ?_)
  refine RJ.pure (.none rfl) rfl rfl (p_move rfl) ?_
  (first | refine RJ.skip (.no rfl rfl rfl rfl) rfl rfl ?_ | refine RJ.pure (.yes rfl rfl rfl) rfl rfl (p_move rfl) ?_)
  (first | refine RJ.skip (.no rfl rfl rfl rfl) rfl rfl ?_ | (refine RJ.eff (.yes rfl rfl rfl) rfl rfl rfl rfl (e_call [8] rfl call_22 rfl rfl (hashes_tri _ _ Z rZ HZ hRZ zl)) ?_; rintro _ _ ⟨_, ⟨Hi, rfl, hVi⟩, rfl⟩; refine RJ.heap [HZ, Hi, Hh, HV, HW, Hf, Hg, HLd2, HL3, []] rfl ?_))
  (first | refine RJ.skip (.no rfl rfl rfl rfl) rfl rfl ?_ | refine RJ.pure (.yes rfl rfl rfl) rfl rfl (p_move rfl) ?_)
  (first | refine RJ.skip (.no rfl rfl rfl rfl) rfl rfl ?_ | refine RJ.pure (.yes rfl rfl rfl) rfl rfl (p_move rfl) ?_)
  (first | refine RJ.skip (.no rfl rfl rfl rfl) rfl rfl ?_ | refine RJ.pure (.yes rfl rfl rfl) rfl rfl (p_convInt rfl Tryd.underlying3 Tryd.underlying23 (wr_u64 (by omega) (by omega))) ?_ | refine RJ.pure (.yes rfl rfl rfl) rfl rfl (p_convInt rfl Tryd.underlying3 Tryd.underlying23 rfl) ?_)
  (first | refine RJ.skip (.no rfl rfl rfl rfl) rfl rfl ?_ | refine RJ.pure (.yes rfl rfl rfl) rfl rfl (p_add rfl rfl (r := ((n + k : Nat) : Int)) ((wr_u64 (by omega) (by omega)).trans (by omega))) ?_)
  (first | refine RJ.skip (.no rfl rfl rfl rfl) rfl rfl ?_ | refine RJ.pure (.yes rfl rfl rfl) rfl rfl (p_move rfl) ?_)
  (first | refine RJ.skip (.no rfl rfl rfl rfl) rfl rfl ?_ | refine RJ.pure (.yes rfl rfl rfl) rfl rfl (p_move rfl) ?_)
  (first | refine RJ.skip (.no rfl rfl rfl rfl) rfl rfl ?_ | refine RJ.pure (.yes rfl rfl rfl) rfl rfl (p_sliceFromH hH rfl sl_24 rfl hkl) ?_)
  (first | refine RJ.skip (.no rfl rfl rfl rfl) rfl rfl ?_ | (refine RJ.eff (.yes rfl rfl rfl) rfl rfl rfl rfl (e_call [9] rfl call_25 rfl rfl tZ) ?_; rintro _ _ ⟨_, ⟨rQ, HQ, rfl, rfl, hRQ⟩, rfl⟩; refine RJ.heap [HQ, [], HZ, Hi, Hh, HV, HW, Hf, Hg, HLd2, HL3] rfl ?_))
  (first | refine RJ.skip (.no rfl rfl rfl rfl) rfl rfl ?_ | (refine RJ.eff (.yes rfl rfl rfl) rfl rfl rfl rfl (e_call [0] rfl call_22 rfl rfl (hashes_tri _ _ Z rQ HQ hRQ zl)) ?_; rintro _ _ ⟨_, ⟨Hj, rfl, hVj⟩, rfl⟩; refine RJ.heap [HQ, Hj, [], HZ, Hi, Hh, HV, HW, Hf, Hg, HLd2, HL3] rfl ?_))
  (first | refine RJ.skip (.no rfl rfl rfl rfl) rfl rfl ?_ | (refine RJ.eff (.yes rfl rfl rfl) rfl rfl rfl rfl (e_call [4, 1] rfl call_30 rfl rfl (same_tri _ _ _ Hi Hj hVi.held hVj.held)) ?_; rintro _ _ ⟨_, ⟨rfl, rfl⟩, rfl⟩; refine RJ.heap [Hi, Hj, HQ, [], HZ, Hh, HV, HW, Hf, Hg, HLd2, HL3] rfl ?_))
  (first | refine RJ.pure (.none rfl) rfl rfl (p_pickT rfl rfl) ?_ | refine RJ.pure (.none rfl) rfl rfl (p_pickF rfl rfl) ?_)
  refine RJ.pure (.none rfl) rfl rfl (p_move rfl) ?_
  (first | refine RJ.skip (.no rfl rfl rfl rfl) rfl rfl ?_ | (refine RJ.eff (.yes rfl rfl rfl) rfl rfl rfl rfl (e_call [] rfl call_16 rfl rfl (alive_tri K hK)) ?_; rintro _ _ ⟨_, ⟨rfl, rfl⟩, rfl⟩))
  (first | refine RJ.pure (.none rfl) rfl rfl (p_pickT rfl rfl) ?_ | refine RJ.pure (.none rfl) rfl rfl (p_pickF rfl rfl) ?_)
  refine RJ.pure (.none rfl) rfl rfl (p_assign rfl) ?_
  refine RJ.nil ?_
  refine WP.ret ?_
  repeat (first | refine sq_ret ?_ | refine bk_ret ?_ | refine lq_ret ?_ | refine cq_ret ?_)
  exact fin1' 0 rfl rfl rfl ⟨rfl, rfl⟩
end
end Go.Proofs.YtigjnfmbellpjaaDoor.Cmp
