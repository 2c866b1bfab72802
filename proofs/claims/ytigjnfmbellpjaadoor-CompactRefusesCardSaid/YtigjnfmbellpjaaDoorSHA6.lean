/- sha: Sum, walked (the first part: what is laid behind the bytes). -/
import Derived.Test.YtigjnfmbellpjaaDoorSHA5
import Derived.Test.YtigjnfmbellpjaaDoorEL17
set_option maxRecDepth 100000
namespace Go.Proofs.YtigjnfmbellpjaaDoor.Sha
open Go Go.EL
/-- how many zeros -/
def zeros (rl : Nat) : Nat := (119 - rl) % 64
theorem zeros_spec (rl z : Nat) (h : rl < 64) (hz : z ≤ zeros rl) : (((rl : Int) + ((1 + z : Nat) : Int)) % 64 ≠ 56) ↔ z < zeros rl := by
  simp only [zeros] at hz ⊢
  omega
def lenBytes (bits : Int) : Nat → List Int
  | 0 => []
  | j + 1 => lenBytes bits j ++ [IntKind.wrap .u8 (bShr .u64 bits (56 - 8 * (j : Int)))]
def padded (rl : Nat) (bits : Int) (j : Nat) : List Int := 128 :: List.replicate (zeros rl) 0 ++ lenBytes bits j
theorem lenBytes_len (bits : Int) : ∀ j, (lenBytes bits j).length = j
  | 0 => rfl
  | j + 1 => by simp [lenBytes, lenBytes_len bits j]
theorem padded_succ (rl : Nat) (bits : Int) (j : Nat) : padded rl bits (j + 1) = padded rl bits j ++ [IntKind.wrap .u8 (bShr .u64 bits (56 - 8 * (j : Int)))] := by simp [padded, lenBytes]
theorem vec_bat {T : TypeId} {xs : List Int} {v : Value} {H : Hp} (h : Vec T 1 (fun x => [u8 x]) xs v H) (hne : xs ≠ []) : BAt xs v H := by
  rcases h with ⟨_, rfl, _⟩ | ⟨b, cap, sp, rfl, rfl, h1, h2, h3⟩
  · exact absurd rfl hne
  · refine ⟨b, 0, cap, _, T, (0, 0), rfl, rfl, h1, h2, ?_⟩
    rw [flat_one, List.drop_zero, List.take_append_of_le_length (by simp), List.take_of_length_le (by simp)]
/-- the four bytes of a word -/
def bytes4 (x : Int) : List Int := [IntKind.wrap .u8 (bShr .u32 x 24), IntKind.wrap .u8 (bShr .u32 x 16), IntKind.wrap .u8 (bShr .u32 x 8), IntKind.wrap .u8 x]
/-- the first i words are laid out -/
def outB (ws : List Int) : Nat → List Int
  | 0 => []
  | i + 1 => outB ws i ++ bytes4 (ws.getD i 0)
theorem outB_len (ws : List Int) : ∀ i, (outB ws i).length = 4 * i
  | 0 => rfl
  | i + 1 => by simp [outB, outB_len ws i, bytes4]; omega
def outC (ws : List Int) (i : Nat) : List Value := (outB ws i).map u8 ++ List.replicate (32 - 4 * i) (u8 0)
theorem outC_set (ws : List Int) (i : Nat) (hi : i < 8) : (((((outC ws i).set (4 * i) (u8 (IntKind.wrap .u8 (bShr .u32 (ws.getD i 0) 24)))).set (4 * i + 1) (u8 (IntKind.wrap .u8 (bShr .u32 (ws.getD i 0) 16)))).set (4 * i + 2) (u8 (IntKind.wrap .u8 (bShr .u32 (ws.getD i 0) 8)))).set (4 * i + 3) (u8 (IntKind.wrap .u8 (ws.getD i 0)))) = outC ws (i + 1) := by
  have hl : ((outB ws i).map u8).length = 4 * i := by rw [List.length_map, outB_len]
  have e : List.replicate (32 - 4 * i) (u8 0) = u8 0 :: u8 0 :: u8 0 :: u8 0 :: List.replicate (32 - 4 * (i + 1)) (u8 0) := by
    rw [show 32 - 4 * i = (32 - 4 * (i + 1)) + 1 + 1 + 1 + 1 by omega]
    simp [List.replicate_succ]
  simp only [outC, e]
  rw [List.set_append_right _ _ (by omega), List.set_append_right _ _ (by omega), List.set_append_right _ _ (by omega), List.set_append_right _ _ (by omega), hl]
  simp [outB, bytes4]
/-- the bytes of the sum -/
def sumF (K : Nat → Int) (hs rest : List Int) (n : Int) : List Int := outB (absorb K hs (rest ++ padded rest.length (IntKind.wrap .u64 (n * 8)) 8)).1 8
theorem padded_zero (rl : Nat) (bits : Int) : padded rl bits 0 = 128 :: List.replicate (zeros rl) 0 := by simp [padded, lenBytes]
section
variable {w0 : World}
set_option maxHeartbeats 1000000 in
theorem sum_tri (K : Nat → Int) (hK : ∀ t, t < 64 → w0.cell? ⟨18, t, none⟩ = some (u32 (K t))) (hs rest : List Int) (n : Int) (d : Nat) (H : Hp) (hD : DAt hs rest n d H) (hrl : rest.length < 64) :
    Tri Tryd.prog w0 68 #[.pointer (some ⟨d, 0, none⟩)] [H] (fun v S' => v = vv ((sumF K hs rest n).map u8) ∧ S' = [H]) := by
  have hD0 := hD
  obtain ⟨h, vr, Hr, rfl, hV, hl⟩ := hD
  obtain ⟨p, cp, rfl⟩ := hV.slice
  refine Tri.pre (T := [[(d, row [.pointer (some ⟨h, 0, none⟩), .slice p rest.length cp, .int .u64 n] 149)], [(h, row (hs.map u32) 147)], Hr]) ?_ ?_
  rotate_left
  · simp
  refine Tri.out (R := fun v S' => v = vv ((sumF K hs rest n).map u8) ∧ S' = [[(d, row [.pointer (some ⟨h, 0, none⟩), .slice p rest.length cp, .int .u64 n] 149)], [(h, row (hs.map u32) 147)], Hr]) ?_ ?_
  rotate_left
  · rintro v S ⟨rfl, rfl⟩
    exact ⟨_, ⟨rfl, rfl⟩, by simp⟩
  refine Tri.mk Tryd.func68 rfl rfl rfl ?_
  refine WP.sregion ?_
  refine RX.eff (.none rfl) rfl rfl rfl (e_alloc zr_32) ?_
  rintro _ _ ⟨n2, rfl, rfl⟩
  refine RX.nil ?_
  refine WP.seq (WP.sregion ?_)
  refine RX.pure (.none rfl) rfl rfl (p_move rfl) ?_
  refine RX.pure (.none rfl) rfl rfl (p_eqNilPtr rfl rfl Tryd.underlying130) ?_
  refine RX.pure (.none rfl) rfl rfl (p_move rfl) ?_
  (first | refine RX.skip (.no rfl rfl rfl rfl) rfl rfl ?_ | refine RX.pure (.yes rfl rfl rfl) rfl rfl (p_move rfl) ?_)
  (first | refine RX.skip (.no rfl rfl rfl rfl) rfl rfl ?_ | refine RX.pure (.yes rfl rfl rfl) rfl rfl (p_nilCheck rfl) ?_)
  (first | refine RX.skip (.no rfl rfl rfl rfl) rfl rfl ?_ | refine RX.pure (.yes rfl rfl rfl) rfl rfl (p_fieldAddr rfl fa_149_0) ?_)
  (first | refine RX.skip (.no rfl rfl rfl rfl) rfl rfl ?_ | refine RX.ld 0 (.yes rfl rfl rfl) rfl rfl na_145 rfl rfl ?_ | refine RX.ld 1 (.yes rfl rfl rfl) rfl rfl na_145 rfl rfl ?_ | refine RX.ld 2 (.yes rfl rfl rfl) rfl rfl na_145 rfl rfl ?_ | refine RX.ld 3 (.yes rfl rfl rfl) rfl rfl na_145 rfl rfl ?_ | refine RX.ld 4 (.yes rfl rfl rfl) rfl rfl na_145 rfl rfl ?_ | refine RX.ld 5 (.yes rfl rfl rfl) rfl rfl na_145 rfl rfl ?_)
  (first | refine RX.skip (.no rfl rfl rfl rfl) rfl rfl ?_ | refine RX.pure (.yes rfl rfl rfl) rfl rfl (p_eqNilPtr rfl rfl Tryd.underlying145) ?_)
  (first | refine RX.pure (.none rfl) rfl rfl (p_pickT rfl rfl) ?_ | refine RX.pure (.none rfl) rfl rfl (p_pickF rfl rfl) ?_)
  refine RX.nil ?_
  refine WP.condF rfl (WP.skip ?_)
  refine WP.perm (T := [(d, row [.pointer (some ⟨h, 0, none⟩), .slice p rest.length cp, .int .u64 n] 149) :: (h, row (hs.map u32) 147) :: Hr, [(n2, row [.int .u8 0, .int .u8 0, .int .u8 0, .int .u8 0, .int .u8 0, .int .u8 0, .int .u8 0, .int .u8 0, .int .u8 0, .int .u8 0, .int .u8 0, .int .u8 0, .int .u8 0, .int .u8 0, .int .u8 0, .int .u8 0, .int .u8 0, .int .u8 0, .int .u8 0, .int .u8 0, .int .u8 0, .int .u8 0, .int .u8 0, .int .u8 0, .int .u8 0, .int .u8 0, .int .u8 0, .int .u8 0, .int .u8 0, .int .u8 0, .int .u8 0, .int .u8 0] 32)]]) ?_ ?_
  · simp
  refine WP.sregion ?_
  refine RX.pure (.none rfl) rfl rfl (p_move rfl) ?_
  refine RX.eff (.none rfl) rfl rfl rfl (e_call [0] rfl call_75 rfl rfl (copy_tri hs rest n d _ hD0 (by omega))) ?_
  rintro _ _ ⟨_, ⟨d2, H2, rfl, rfl, hD2⟩, rfl⟩
  refine RX.pure (.none rfl) rfl rfl (p_assign rfl) ?_
  refine RX.nil ?_
  refine WP.heap [(d, row [.pointer (some ⟨h, 0, none⟩), .slice p rest.length cp, .int .u64 n] 149) :: (h, row (hs.map u32) 147) :: Hr, H2, [(n2, row [.int .u8 0, .int .u8 0, .int .u8 0, .int .u8 0, .int .u8 0, .int .u8 0, .int .u8 0, .int .u8 0, .int .u8 0, .int .u8 0, .int .u8 0, .int .u8 0, .int .u8 0, .int .u8 0, .int .u8 0, .int .u8 0, .int .u8 0, .int .u8 0, .int .u8 0, .int .u8 0, .int .u8 0, .int .u8 0, .int .u8 0, .int .u8 0, .int .u8 0, .int .u8 0, .int .u8 0, .int .u8 0, .int .u8 0, .int .u8 0, .int .u8 0, .int .u8 0] 32)]] rfl ?_
  refine WP.perm (T := [[(d, row [.pointer (some ⟨h, 0, none⟩), .slice p rest.length cp, .int .u64 n] 149)], [(h, row (hs.map u32) 147)], Hr, H2, [(n2, row [.int .u8 0, .int .u8 0, .int .u8 0, .int .u8 0, .int .u8 0, .int .u8 0, .int .u8 0, .int .u8 0, .int .u8 0, .int .u8 0, .int .u8 0, .int .u8 0, .int .u8 0, .int .u8 0, .int .u8 0, .int .u8 0, .int .u8 0, .int .u8 0, .int .u8 0, .int .u8 0, .int .u8 0, .int .u8 0, .int .u8 0, .int .u8 0, .int .u8 0, .int .u8 0, .int .u8 0, .int .u8 0, .int .u8 0, .int .u8 0, .int .u8 0, .int .u8 0] 32)]]) ?_ ?_
  · simp
  refine WP.sregion ?_
  refine RX.pure (.none rfl) rfl rfl (p_move rfl) ?_
  refine RX.pure (.none rfl) rfl rfl (p_nilCheck rfl) ?_
  refine RX.pure (.none rfl) rfl rfl (p_fieldAddr rfl fa_149_2) ?_
  (first | refine RX.ld 0 (.none rfl) rfl rfl na_23 rfl rfl ?_ | refine RX.ld 1 (.none rfl) rfl rfl na_23 rfl rfl ?_ | refine RX.ld 2 (.none rfl) rfl rfl na_23 rfl rfl ?_ | refine RX.ld 3 (.none rfl) rfl rfl na_23 rfl rfl ?_ | refine RX.ld 4 (.none rfl) rfl rfl na_23 rfl rfl ?_ | refine RX.ld 5 (.none rfl) rfl rfl na_23 rfl rfl ?_)
  (first | refine RX.pure (.none rfl) rfl rfl (p_mul rfl rfl (wr_u64 (by omega) (by omega))) ?_ | refine RX.pure (.none rfl) rfl rfl (p_mul rfl rfl rfl) ?_)
  refine RX.pure (.none rfl) rfl rfl (p_assign rfl) ?_
  refine RX.nil ?_
  refine WP.sregion ?_
  refine RX.eff (.none rfl) rfl rfl rfl (e_buildSlice sl_133 zr_5 rfl (by decide) (by decide) rfl rfl rfl) ?_
  rintro _ _ ⟨n27, rfl, rfl⟩
  refine RX.pure (.none rfl) rfl rfl (p_assign rfl) ?_
  refine RX.nil ?_
  refine WP.cut (fun ρ S => ∃ vE HE, Vec 5 1 (fun x => [u8 x]) (padded rest.length (IntKind.wrap .u64 (n * 8)) 0) vE HE ∧ Sub [(0, .pointer (some ⟨d, 0, none⟩)), (2, .pointer (some ⟨n2, 0, none⟩)), (3, .pointer (some ⟨d2, 0, none⟩)), (4, .int .u64 (IntKind.wrap .u64 (n * 8))), (5, vE)] ρ ∧ S = [[(d, row [.pointer (some ⟨h, 0, none⟩), .slice p rest.length cp, .int .u64 n] 149)], [(h, row (hs.map u32) 147)], Hr, H2, [(n2, row [.int .u8 0, .int .u8 0, .int .u8 0, .int .u8 0, .int .u8 0, .int .u8 0, .int .u8 0, .int .u8 0, .int .u8 0, .int .u8 0, .int .u8 0, .int .u8 0, .int .u8 0, .int .u8 0, .int .u8 0, .int .u8 0, .int .u8 0, .int .u8 0, .int .u8 0, .int .u8 0, .int .u8 0, .int .u8 0, .int .u8 0, .int .u8 0, .int .u8 0, .int .u8 0, .int .u8 0, .int .u8 0, .int .u8 0, .int .u8 0, .int .u8 0, .int .u8 0] 32)], HE]) ?_ ?_
  · refine WP.block ?_
    refine WP.loop (fun m ρ S => ∃ z vE HE, z ≤ zeros rest.length ∧ m = zeros rest.length - z ∧ Vec 5 1 (fun x => [u8 x]) (128 :: List.replicate z 0) vE HE ∧ Sub [(0, .pointer (some ⟨d, 0, none⟩)), (2, .pointer (some ⟨n2, 0, none⟩)), (3, .pointer (some ⟨d2, 0, none⟩)), (4, .int .u64 (IntKind.wrap .u64 (n * 8))), (5, vE)] ρ ∧ S = [[(d, row [.pointer (some ⟨h, 0, none⟩), .slice p rest.length cp, .int .u64 n] 149)], [(h, row (hs.map u32) 147)], Hr, H2, [(n2, row [.int .u8 0, .int .u8 0, .int .u8 0, .int .u8 0, .int .u8 0, .int .u8 0, .int .u8 0, .int .u8 0, .int .u8 0, .int .u8 0, .int .u8 0, .int .u8 0, .int .u8 0, .int .u8 0, .int .u8 0, .int .u8 0, .int .u8 0, .int .u8 0, .int .u8 0, .int .u8 0, .int .u8 0, .int .u8 0, .int .u8 0, .int .u8 0, .int .u8 0, .int .u8 0, .int .u8 0, .int .u8 0, .int .u8 0, .int .u8 0, .int .u8 0, .int .u8 0] 32)], HE]) (zeros rest.length) ?_ ?_
    · refine ⟨0, _, _, Nat.zero_le _, by omega, .inr ⟨n27, 1, [], rfl, rfl, by simp, by decide, by simp⟩, ?_, rfl⟩
      repeat (first | exact Sub.nil | refine Sub.cons rfl ?_)
    rintro m ρ S ⟨z, vE, HE, hz, rfl, hVE, hρ, rfl⟩
    refine WP.sub hρ ?_
    clear hρ
    obtain ⟨pE, cE, rfl⟩ := hVE.slice
    have hsp := zeros_spec rest.length z hrl hz
    have hle : ((128 :: List.replicate z (0 : Int)).length : Int) = ((1 + z : Nat) : Int) := by simp; omega
    have hz64 : zeros rest.length < 64 := Nat.mod_lt _ (by decide)
    by_cases hlt : z < zeros rest.length
    · refine WP.seq (WP.sregion ?_)
      refine RX.pure (.none rfl) rfl rfl (p_move rfl) ?_
      refine RX.pure (.none rfl) rfl rfl (p_nilCheck rfl) ?_
      refine RX.pure (.none rfl) rfl rfl (p_fieldAddr rfl fa_149_1) ?_
      (first | refine RX.ld 0 (.none rfl) rfl rfl na_133 rfl rfl ?_ | refine RX.ld 1 (.none rfl) rfl rfl na_133 rfl rfl ?_ | refine RX.ld 2 (.none rfl) rfl rfl na_133 rfl rfl ?_ | refine RX.ld 3 (.none rfl) rfl rfl na_133 rfl rfl ?_ | refine RX.ld 4 (.none rfl) rfl rfl na_133 rfl rfl ?_ | refine RX.ld 5 (.none rfl) rfl rfl na_133 rfl rfl ?_)
      refine RX.pure (.none rfl) rfl rfl (p_lenSlice rfl Tryd.underlying133) ?_
      refine RX.pure (.none rfl) rfl rfl (p_move rfl) ?_
      refine RX.pure (.none rfl) rfl rfl (p_lenSlice rfl Tryd.underlying133) ?_
      refine RX.pure (.none rfl) rfl rfl (p_add rfl rfl (wr_i64 (by omega) (by omega))) ?_
      refine RX.pure (.none rfl) rfl rfl (p_remN rfl rfl (by omega) (by decide)) ?_
      refine RX.pure (.none rfl) rfl rfl (p_neInt rfl rfl) ?_
      refine RX.say (t := 37) rfl (.bool true) (by rw [hle, decide_eq_true (hsp.2 hlt)]) ?_
      refine RX.nil ?_
      refine WP.condT rfl (WP.skip ?_)
      refine WP.block ?_
      refine WP.region ?_
      refine RX.pure (.none rfl) rfl rfl (p_move rfl) ?_
      refine RX.eff (.none rfl) rfl rfl rfl (e_buildSlice sl_133 zr_5 rfl (by decide) (by decide) rfl rfl rfl) ?_
      rintro _ _ ⟨n39, rfl, rfl⟩
      refine RX.eff (.none rfl) rfl rfl rfl (e_append (enc := fun x => [u8 x]) (ys := [0]) 5 rfl rfl sl_133 zr_5 rfl (by decide) by_5 (fun _ _ => rfl) (fun _ _ => rfl) (fun _ _ => rfl) hVE rfl (.inr ⟨_, _, rfl, RdN.own 6 rfl rfl⟩) (by simp; omega) (by simp [maxLen]; omega)) ?_
      rintro _ _ ⟨HE', hV', rfl⟩; obtain ⟨pE', cE', rfl⟩ := hV'.slice
      refine RX.pure (.none rfl) rfl rfl (p_assign rfl) ?_
      refine RX.take 6 ?_
      refine RX.nil ?_
      refine bk_normal ?_
      refine lq_normal (zeros rest.length - (z + 1)) (by omega) ?_
      refine ⟨z + 1, _, HE', by omega, rfl, by rw [List.replicate_succ', ← List.cons_append]; exact hV', ?_, rfl⟩
      repeat (first | exact Sub.nil | refine Sub.cons rfl ?_)
    · have hzz : z = zeros rest.length := by omega
      refine WP.seq (WP.sregion ?_)
      refine RX.pure (.none rfl) rfl rfl (p_move rfl) ?_
      refine RX.pure (.none rfl) rfl rfl (p_nilCheck rfl) ?_
      refine RX.pure (.none rfl) rfl rfl (p_fieldAddr rfl fa_149_1) ?_
      (first | refine RX.ld 0 (.none rfl) rfl rfl na_133 rfl rfl ?_ | refine RX.ld 1 (.none rfl) rfl rfl na_133 rfl rfl ?_ | refine RX.ld 2 (.none rfl) rfl rfl na_133 rfl rfl ?_ | refine RX.ld 3 (.none rfl) rfl rfl na_133 rfl rfl ?_ | refine RX.ld 4 (.none rfl) rfl rfl na_133 rfl rfl ?_ | refine RX.ld 5 (.none rfl) rfl rfl na_133 rfl rfl ?_)
      refine RX.pure (.none rfl) rfl rfl (p_lenSlice rfl Tryd.underlying133) ?_
      refine RX.pure (.none rfl) rfl rfl (p_move rfl) ?_
      refine RX.pure (.none rfl) rfl rfl (p_lenSlice rfl Tryd.underlying133) ?_
      refine RX.pure (.none rfl) rfl rfl (p_add rfl rfl (wr_i64 (by omega) (by omega))) ?_
      refine RX.pure (.none rfl) rfl rfl (p_remN rfl rfl (by omega) (by decide)) ?_
      refine RX.pure (.none rfl) rfl rfl (p_neInt rfl rfl) ?_
      refine RX.say (t := 37) rfl (.bool false) (by rw [hle, decide_eq_false (fun e => hlt (hsp.1 e))]) ?_
      refine RX.nil ?_
      refine WP.condF rfl ?_
      refine WP.exit ?_
      repeat (first | refine sq_exit ?_ | refine bk_exit ?_ | refine lq_exit ?_ | refine cq_exit ?_ | refine bk_exit' rfl ?_)
      subst hzz
      refine ⟨_, HE, by rw [padded_zero]; exact hVE, ?_, rfl⟩
      repeat (first | exact Sub.nil | refine Sub.cons rfl ?_)
  rintro ρ S ⟨vE, HE, hVE, hρ, rfl⟩
  refine WP.sub hρ ?_
  clear hρ
  have hz64 : zeros rest.length < 64 := Nat.mod_lt _ (by decide)
  refine WP.cut (fun ρ S => ∃ vE HE, Vec 5 1 (fun x => [u8 x]) (padded rest.length (IntKind.wrap .u64 (n * 8)) 8) vE HE ∧ Sub [(0, .pointer (some ⟨d, 0, none⟩)), (2, .pointer (some ⟨n2, 0, none⟩)), (3, .pointer (some ⟨d2, 0, none⟩)), (4, .int .u64 (IntKind.wrap .u64 (n * 8))), (5, vE)] ρ ∧ S = [[(d, row [.pointer (some ⟨h, 0, none⟩), .slice p rest.length cp, .int .u64 n] 149)], [(h, row (hs.map u32) 147)], Hr, H2, [(n2, row [.int .u8 0, .int .u8 0, .int .u8 0, .int .u8 0, .int .u8 0, .int .u8 0, .int .u8 0, .int .u8 0, .int .u8 0, .int .u8 0, .int .u8 0, .int .u8 0, .int .u8 0, .int .u8 0, .int .u8 0, .int .u8 0, .int .u8 0, .int .u8 0, .int .u8 0, .int .u8 0, .int .u8 0, .int .u8 0, .int .u8 0, .int .u8 0, .int .u8 0, .int .u8 0, .int .u8 0, .int .u8 0, .int .u8 0, .int .u8 0, .int .u8 0, .int .u8 0] 32)], HE]) ?_ ?_
  · refine WP.sregion ?_
    refine RX.pure (.none rfl) rfl rfl (p_assign rfl) ?_
    refine RX.nil ?_
    refine WP.block ?_
    refine WP.loop (fun m ρ S => ∃ (j : Nat) (vE : Value) (HE : Hp), j ≤ 8 ∧ m = 8 - j ∧ Vec 5 1 (fun x => [u8 x]) (padded rest.length (IntKind.wrap .u64 (n * 8)) j) vE HE ∧ Sub [(0, .pointer (some ⟨d, 0, none⟩)), (2, .pointer (some ⟨n2, 0, none⟩)), (3, .pointer (some ⟨d2, 0, none⟩)), (4, .int .u64 (IntKind.wrap .u64 (n * 8))), (5, vE), (6, .int .i64 (56 - 8 * (j : Int)))] ρ ∧ S = [[(d, row [.pointer (some ⟨h, 0, none⟩), .slice p rest.length cp, .int .u64 n] 149)], [(h, row (hs.map u32) 147)], Hr, H2, [(n2, row [.int .u8 0, .int .u8 0, .int .u8 0, .int .u8 0, .int .u8 0, .int .u8 0, .int .u8 0, .int .u8 0, .int .u8 0, .int .u8 0, .int .u8 0, .int .u8 0, .int .u8 0, .int .u8 0, .int .u8 0, .int .u8 0, .int .u8 0, .int .u8 0, .int .u8 0, .int .u8 0, .int .u8 0, .int .u8 0, .int .u8 0, .int .u8 0, .int .u8 0, .int .u8 0, .int .u8 0, .int .u8 0, .int .u8 0, .int .u8 0, .int .u8 0, .int .u8 0] 32)], HE]) 8 ?_ ?_
    · refine ⟨0, vE, HE, by omega, by omega, hVE, ?_, rfl⟩
      repeat (first | exact Sub.nil | refine Sub.cons rfl ?_)
    clear hVE HE vE
    rintro m ρ S ⟨j, vE, HE, hj, rfl, hVE, hρ, rfl⟩
    refine WP.sub hρ ?_
    clear hρ
    obtain ⟨pE, cE, rfl⟩ := hVE.slice
    have hpl : (padded rest.length (IntKind.wrap .u64 (n * 8)) j).length = 1 + zeros rest.length + j := by simp [padded, lenBytes_len]; omega
    by_cases hlt : j < 8
    · refine WP.seq (WP.sregion ?_)
      refine RX.pure (.none rfl) rfl rfl (p_move rfl) ?_
      refine RX.pure (.none rfl) rfl rfl (p_geq rfl rfl) ?_
      refine RX.say (t := 42) rfl (.bool true) (by rw [decide_eq_true]; omega) ?_
      refine RX.nil ?_
      refine WP.condT rfl (WP.skip ?_)
      refine WP.seq (WP.block ?_)
      refine WP.region ?_
      refine RX.pure (.none rfl) rfl rfl (p_move rfl) ?_
      refine RX.pure (.none rfl) rfl rfl (p_move rfl) ?_
      refine RX.pure (.none rfl) rfl rfl (p_move rfl) ?_
      refine RX.pure (.none rfl) rfl rfl (p_shr rfl rfl (by omega) rfl) ?_
      (first | refine RX.pure (.none rfl) rfl rfl (p_convInt rfl Tryd.underlying23 Tryd.underlying5 (wr_u8 (by omega) (by omega))) ?_ | refine RX.pure (.none rfl) rfl rfl (p_convInt rfl Tryd.underlying23 Tryd.underlying5 rfl) ?_)
      refine RX.eff (.none rfl) rfl rfl rfl (e_buildSlice sl_133 zr_5 rfl (by decide) (by decide) rfl rfl rfl) ?_
      rintro _ _ ⟨n50, rfl, rfl⟩
      refine RX.eff (.none rfl) rfl rfl rfl (e_append (enc := fun x => [u8 x]) (ys := [IntKind.wrap .u8 (bShr .u64 (IntKind.wrap .u64 (n * 8)) (56 - 8 * (j : Int)))]) 5 rfl rfl sl_133 zr_5 rfl (by decide) by_5 (fun _ _ => rfl) (fun _ _ => rfl) (fun _ _ => rfl) hVE rfl (.inr ⟨_, _, rfl, RdN.own 6 rfl rfl⟩) (by rw [hpl]; simp; omega) (by rw [hpl]; simp [maxLen]; omega)) ?_
      rintro _ _ ⟨HE', hV', rfl⟩; obtain ⟨pE', cE', rfl⟩ := hV'.slice
      refine RX.pure (.none rfl) rfl rfl (p_assign rfl) ?_
      refine RX.take 6 ?_
      refine RX.nil ?_
      refine sq_normal ?_
      refine WP.region ?_
      refine RX.pure (.none rfl) rfl rfl (p_move rfl) ?_
      (first | refine RX.pure (.none rfl) rfl rfl (p_sub rfl rfl (wr_i64 (by omega) (by omega))) ?_ | refine RX.pure (.none rfl) rfl rfl (p_sub rfl rfl rfl) ?_)
      refine RX.pure (.none rfl) rfl rfl (p_assign rfl) ?_
      refine RX.nil ?_
      refine lq_normal (8 - (j + 1)) (by omega) ?_
      refine ⟨j + 1, _, HE', by omega, rfl, by rw [padded_succ]; exact hV', ?_, rfl⟩
      rw [show (56 : Int) - 8 * ((j + 1 : Nat) : Int) = 56 - 8 * (j : Int) - 8 by omega]
      repeat (first | exact Sub.nil | refine Sub.cons rfl ?_)
    · refine WP.seq (WP.sregion ?_)
      refine RX.pure (.none rfl) rfl rfl (p_move rfl) ?_
      refine RX.pure (.none rfl) rfl rfl (p_geq rfl rfl) ?_
      refine RX.say (t := 42) rfl (.bool false) (by rw [decide_eq_false]; omega) ?_
      refine RX.nil ?_
      refine WP.condF rfl ?_
      refine WP.exit ?_
      repeat (first | refine sq_exit ?_ | refine bk_exit ?_ | refine lq_exit ?_ | refine cq_exit ?_ | refine bk_exit' rfl ?_)
      obtain rfl : j = 8 := by omega
      refine ⟨_, HE, hVE, ?_, rfl⟩
      repeat (first | exact Sub.nil | refine Sub.cons rfl ?_)
  clear hVE HE vE
  rintro ρ S ⟨vE, HE, hVE, hρ, rfl⟩
  refine WP.sub hρ ?_
  clear hρ
  have hBE := vec_bat hVE (by simp [padded])
  refine WP.sregion ?_
  refine RX.pure (.none rfl) rfl rfl (p_move rfl) ?_
  refine RX.pure (.none rfl) rfl rfl (p_move rfl) ?_
  refine RX.eff (.none rfl) rfl rfl rfl (e_call [3, 5] rfl call_67 rfl rfl (write_tri K hK hs rest _ n d2 H2 HE vE hD2 hrl hBE (by simp [padded, lenBytes_len, maxLen]; omega))) ?_
  rintro _ _ ⟨_, ⟨H3, rfl, hD3⟩, rfl⟩
  refine RX.nil ?_
  obtain ⟨h3, vr3, Hr3, rfl, hV3, hl3⟩ := hD3
  generalize hws : (absorb K hs (rest ++ padded rest.length (IntKind.wrap .u64 (n * 8)) 8)).1 = ws at *
  generalize IntKind.wrap .u64 (n + ((padded rest.length (IntKind.wrap .u64 (n * 8)) 8).length : Nat)) = N' at *
  refine WP.heap [(d2, row [.pointer (some ⟨h3, 0, none⟩), vr3, .int .u64 N'] 149) :: (h3, row (ws.map u32) 147) :: Hr3, HE, [(d, row [.pointer (some ⟨h, 0, none⟩), .slice p rest.length cp, .int .u64 n] 149)], [(h, row (hs.map u32) 147)], Hr, [(n2, row [.int .u8 0, .int .u8 0, .int .u8 0, .int .u8 0, .int .u8 0, .int .u8 0, .int .u8 0, .int .u8 0, .int .u8 0, .int .u8 0, .int .u8 0, .int .u8 0, .int .u8 0, .int .u8 0, .int .u8 0, .int .u8 0, .int .u8 0, .int .u8 0, .int .u8 0, .int .u8 0, .int .u8 0, .int .u8 0, .int .u8 0, .int .u8 0, .int .u8 0, .int .u8 0, .int .u8 0, .int .u8 0, .int .u8 0, .int .u8 0, .int .u8 0, .int .u8 0] 32)]] rfl ?_
  refine WP.perm (T := [[(d2, row [.pointer (some ⟨h3, 0, none⟩), vr3, .int .u64 N'] 149)], [(h3, row (ws.map u32) 147)], [(d, row [.pointer (some ⟨h, 0, none⟩), .slice p rest.length cp, .int .u64 n] 149)], [(h, row (hs.map u32) 147)], Hr, [(n2, row [.int .u8 0, .int .u8 0, .int .u8 0, .int .u8 0, .int .u8 0, .int .u8 0, .int .u8 0, .int .u8 0, .int .u8 0, .int .u8 0, .int .u8 0, .int .u8 0, .int .u8 0, .int .u8 0, .int .u8 0, .int .u8 0, .int .u8 0, .int .u8 0, .int .u8 0, .int .u8 0, .int .u8 0, .int .u8 0, .int .u8 0, .int .u8 0, .int .u8 0, .int .u8 0, .int .u8 0, .int .u8 0, .int .u8 0, .int .u8 0, .int .u8 0, .int .u8 0] 32)], Hr3, HE]) ?_ ?_
  · simp only [List.flatten_cons, List.flatten_nil, List.append_nil, List.singleton_append, List.cons_append, List.nil_append]
    refine List.Perm.cons _ (List.Perm.cons _ ?_)
    have := @List.perm_append_comm _ (Hr3 ++ HE) ((d, row [.pointer (some ⟨h, 0, none⟩), .slice p rest.length cp, .int .u64 n] 149) :: (h, row (hs.map u32) 147) :: (Hr ++ [(n2, row [.int .u8 0, .int .u8 0, .int .u8 0, .int .u8 0, .int .u8 0, .int .u8 0, .int .u8 0, .int .u8 0, .int .u8 0, .int .u8 0, .int .u8 0, .int .u8 0, .int .u8 0, .int .u8 0, .int .u8 0, .int .u8 0, .int .u8 0, .int .u8 0, .int .u8 0, .int .u8 0, .int .u8 0, .int .u8 0, .int .u8 0, .int .u8 0, .int .u8 0, .int .u8 0, .int .u8 0, .int .u8 0, .int .u8 0, .int .u8 0, .int .u8 0, .int .u8 0] 32)]))
    simpa using this
  refine WP.take 6 ?_
  refine WP.sregion ?_
  refine RX.eff (.none rfl) rfl rfl rfl (e_alloc zr_32) ?_
  rintro _ _ ⟨n7, rfl, rfl⟩
  refine RX.nil ?_
  refine WP.heap [[(d2, row [.pointer (some ⟨h3, 0, none⟩), vr3, .int .u64 N'] 149)], [(h3, row (ws.map u32) 147)], [(d, row [.pointer (some ⟨h, 0, none⟩), .slice p rest.length cp, .int .u64 n] 149)], [(h, row (hs.map u32) 147)], Hr, [(n2, row [.int .u8 0, .int .u8 0, .int .u8 0, .int .u8 0, .int .u8 0, .int .u8 0, .int .u8 0, .int .u8 0, .int .u8 0, .int .u8 0, .int .u8 0, .int .u8 0, .int .u8 0, .int .u8 0, .int .u8 0, .int .u8 0, .int .u8 0, .int .u8 0, .int .u8 0, .int .u8 0, .int .u8 0, .int .u8 0, .int .u8 0, .int .u8 0, .int .u8 0, .int .u8 0, .int .u8 0, .int .u8 0, .int .u8 0, .int .u8 0, .int .u8 0, .int .u8 0] 32)], [(n7, row (outC ws 0) 32)]] rfl ?_
  refine WP.cut (fun ρ S => Sub [(2, .pointer (some ⟨n2, 0, none⟩)), (7, .pointer (some ⟨n7, 0, none⟩))] ρ ∧ S = [[(d2, row [.pointer (some ⟨h3, 0, none⟩), vr3, .int .u64 N'] 149)], [(h3, row (ws.map u32) 147)], [(d, row [.pointer (some ⟨h, 0, none⟩), .slice p rest.length cp, .int .u64 n] 149)], [(h, row (hs.map u32) 147)], Hr, [(n2, row [.int .u8 0, .int .u8 0, .int .u8 0, .int .u8 0, .int .u8 0, .int .u8 0, .int .u8 0, .int .u8 0, .int .u8 0, .int .u8 0, .int .u8 0, .int .u8 0, .int .u8 0, .int .u8 0, .int .u8 0, .int .u8 0, .int .u8 0, .int .u8 0, .int .u8 0, .int .u8 0, .int .u8 0, .int .u8 0, .int .u8 0, .int .u8 0, .int .u8 0, .int .u8 0, .int .u8 0, .int .u8 0, .int .u8 0, .int .u8 0, .int .u8 0, .int .u8 0] 32)], [(n7, row (outC ws 8) 32)]]) ?_ ?_
  · refine WP.sregion ?_
    refine RX.pure (.none rfl) rfl rfl (p_move rfl) ?_
    refine RX.pure (.none rfl) rfl rfl (p_nilCheck rfl) ?_
    refine RX.pure (.none rfl) rfl rfl (p_fieldAddr rfl fa_149_0) ?_
    (first | refine RX.ld 0 (.none rfl) rfl rfl na_145 rfl rfl ?_ | refine RX.ld 1 (.none rfl) rfl rfl na_145 rfl rfl ?_ | refine RX.ld 2 (.none rfl) rfl rfl na_145 rfl rfl ?_ | refine RX.ld 3 (.none rfl) rfl rfl na_145 rfl rfl ?_ | refine RX.ld 4 (.none rfl) rfl rfl na_145 rfl rfl ?_ | refine RX.ld 5 (.none rfl) rfl rfl na_145 rfl rfl ?_)
    refine RX.pure (.none rfl) rfl rfl (p_move rfl) ?_
    refine RX.nil ?_
    refine WP.block ?_
    refine WP.loop (fun m ρ S => ∃ i : Nat, i ≤ 8 ∧ m = 8 - i ∧ Sub [(2, .pointer (some ⟨n2, 0, none⟩)), (7, .pointer (some ⟨n7, 0, none⟩)), (58, .pointer (some ⟨h3, 0, none⟩)), (59, .int .i64 (i : Nat))] ρ ∧ S = [[(d2, row [.pointer (some ⟨h3, 0, none⟩), vr3, .int .u64 N'] 149)], [(h3, row (ws.map u32) 147)], [(d, row [.pointer (some ⟨h, 0, none⟩), .slice p rest.length cp, .int .u64 n] 149)], [(h, row (hs.map u32) 147)], Hr, [(n2, row [.int .u8 0, .int .u8 0, .int .u8 0, .int .u8 0, .int .u8 0, .int .u8 0, .int .u8 0, .int .u8 0, .int .u8 0, .int .u8 0, .int .u8 0, .int .u8 0, .int .u8 0, .int .u8 0, .int .u8 0, .int .u8 0, .int .u8 0, .int .u8 0, .int .u8 0, .int .u8 0, .int .u8 0, .int .u8 0, .int .u8 0, .int .u8 0, .int .u8 0, .int .u8 0, .int .u8 0, .int .u8 0, .int .u8 0, .int .u8 0, .int .u8 0, .int .u8 0] 32)], [(n7, row (outC ws i) 32)]]) 8 ?_ ?_
    · refine ⟨0, by omega, by omega, ?_, rfl⟩
      repeat (first | exact Sub.nil | refine Sub.cons rfl ?_)
    rintro m ρ S ⟨i, hi, rfl, hρ, rfl⟩
    refine WP.sub hρ ?_
    clear hρ
    by_cases hlt : i < 8
    · have hw : (ws.map u32)[((i : Nat) : Int).toNat * 1]? = some (u32 (ws.getD i 0)) := by
        have hlt' : i < ws.length := by omega
        rw [Int.toNat_natCast, Nat.mul_one]
        simp [hlt']
      have hol : (outC ws i).length = 32 := by simp [outC, outB_len]; omega
      refine WP.sregion ?_
      refine RX.pure (.none rfl) rfl rfl (p_lss rfl rfl) ?_
      refine RX.say (t := 60) rfl (.bool true) (by rw [decide_eq_true]; omega) ?_
      refine RX.nil ?_
      refine WP.seq (WP.condT rfl (WP.skip ?_))
      refine sq_normal ?_
      refine WP.seq (WP.block ?_)
      refine WP.sdraw mixed (by kernel_rfl) ?_
      refine RX.pure (.none rfl) rfl rfl (p_move rfl) ?_
      refine RX.pure (.none rfl) rfl rfl (p_nilCheck rfl) ?_
      refine RX.pure (.none rfl) rfl rfl (p_idxArr0 rfl rfl ar_147 (by omega) (by omega)) ?_
      refine RX.ld 1 (.none rfl) rfl rfl na_146 rfl hw ?_
      refine RX.pure (.none rfl) rfl rfl (p_assign rfl) ?_
      refine RX.pure (.none rfl) rfl rfl (p_assign rfl) ?_
      refine RX.nil ?_
      refine WP.region ?_
      refine RX.pure (.none rfl) rfl rfl (p_move rfl) ?_
      (first | refine RX.pure (.none rfl) rfl rfl (p_mul rfl rfl (wr_i64 (by omega) (by omega))) ?_ | refine RX.pure (.none rfl) rfl rfl (p_mul rfl rfl rfl) ?_)
      refine RX.pure (.none rfl) rfl rfl (p_move rfl) ?_
      (first | refine RX.pure (.none rfl) rfl rfl (p_mul rfl rfl (wr_i64 (by omega) (by omega))) ?_ | refine RX.pure (.none rfl) rfl rfl (p_mul rfl rfl rfl) ?_)
      (first | refine RX.pure (.none rfl) rfl rfl (p_add rfl rfl (wr_i64 (by omega) (by omega))) ?_ | refine RX.pure (.none rfl) rfl rfl (p_add rfl rfl rfl) ?_)
      refine RX.pure (.none rfl) rfl rfl (p_move rfl) ?_
      (first | refine RX.pure (.none rfl) rfl rfl (p_mul rfl rfl (wr_i64 (by omega) (by omega))) ?_ | refine RX.pure (.none rfl) rfl rfl (p_mul rfl rfl rfl) ?_)
      (first | refine RX.pure (.none rfl) rfl rfl (p_add rfl rfl (wr_i64 (by omega) (by omega))) ?_ | refine RX.pure (.none rfl) rfl rfl (p_add rfl rfl rfl) ?_)
      refine RX.pure (.none rfl) rfl rfl (p_move rfl) ?_
      (first | refine RX.pure (.none rfl) rfl rfl (p_mul rfl rfl (wr_i64 (by omega) (by omega))) ?_ | refine RX.pure (.none rfl) rfl rfl (p_mul rfl rfl rfl) ?_)
      (first | refine RX.pure (.none rfl) rfl rfl (p_add rfl rfl (wr_i64 (by omega) (by omega))) ?_ | refine RX.pure (.none rfl) rfl rfl (p_add rfl rfl rfl) ?_)
      refine RX.pure (.none rfl) rfl rfl (p_move rfl) ?_
      refine RX.pure (.none rfl) rfl rfl (p_shr rfl rfl (by omega) rfl) ?_
      (first | refine RX.pure (.none rfl) rfl rfl (p_convInt rfl Tryd.underlying146 Tryd.underlying5 (wr_u8 (by omega) (by omega))) ?_ | refine RX.pure (.none rfl) rfl rfl (p_convInt rfl Tryd.underlying146 Tryd.underlying5 rfl) ?_)
      refine RX.pure (.none rfl) rfl rfl (p_move rfl) ?_
      refine RX.pure (.none rfl) rfl rfl (p_shr rfl rfl (by omega) rfl) ?_
      (first | refine RX.pure (.none rfl) rfl rfl (p_convInt rfl Tryd.underlying146 Tryd.underlying5 (wr_u8 (by omega) (by omega))) ?_ | refine RX.pure (.none rfl) rfl rfl (p_convInt rfl Tryd.underlying146 Tryd.underlying5 rfl) ?_)
      refine RX.pure (.none rfl) rfl rfl (p_move rfl) ?_
      refine RX.pure (.none rfl) rfl rfl (p_shr rfl rfl (by omega) rfl) ?_
      (first | refine RX.pure (.none rfl) rfl rfl (p_convInt rfl Tryd.underlying146 Tryd.underlying5 (wr_u8 (by omega) (by omega))) ?_ | refine RX.pure (.none rfl) rfl rfl (p_convInt rfl Tryd.underlying146 Tryd.underlying5 rfl) ?_)
      refine RX.pure (.none rfl) rfl rfl (p_move rfl) ?_
      (first | refine RX.pure (.none rfl) rfl rfl (p_convInt rfl Tryd.underlying146 Tryd.underlying5 (wr_u8 (by omega) (by omega))) ?_ | refine RX.pure (.none rfl) rfl rfl (p_convInt rfl Tryd.underlying146 Tryd.underlying5 rfl) ?_)
      refine RX.pure (.none rfl) rfl rfl (p_idxArr0 rfl rfl ar_32 (by omega) (by omega)) ?_
      refine RX.st 6 (.none rfl) rfl rfl sz_5 rfl rfl (by rw [hol]; simp; omega) ((outC ws i).set (4 * i) (u8 (IntKind.wrap .u8 (bShr .u32 (ws.getD i 0) 24)))) (by rw [Nat.mul_one]; rfl) ?_
      refine RX.pure (.none rfl) rfl rfl (p_idxArr0 rfl rfl ar_32 (by omega) (by omega)) ?_
      refine RX.st 6 (.none rfl) rfl rfl sz_5 rfl rfl (by rw [List.length_set, hol]; simp; omega) _ rfl ?_
      refine RX.pure (.none rfl) rfl rfl (p_idxArr0 rfl rfl ar_32 (by omega) (by omega)) ?_
      refine RX.st 6 (.none rfl) rfl rfl sz_5 rfl rfl (by rw [List.length_set, List.length_set, hol]; simp; omega) _ rfl ?_
      refine RX.pure (.none rfl) rfl rfl (p_idxArr0 rfl rfl ar_32 (by omega) (by omega)) ?_
      refine RX.st 6 (.none rfl) rfl rfl sz_5 rfl rfl (by rw [List.length_set, List.length_set, List.length_set, hol]; simp; omega) (outC ws (i + 1)) (by rw [← outC_set ws i hlt, Nat.mul_one, Nat.mul_one, Nat.mul_one]; rfl) ?_
      refine RX.nil ?_
      refine sq_normal ?_
      refine WP.region ?_
      (first | refine RX.pure (.none rfl) rfl rfl (p_add rfl rfl (wr_i64 (by omega) (by omega))) ?_ | refine RX.pure (.none rfl) rfl rfl (p_add rfl rfl rfl) ?_)
      refine RX.pure (.none rfl) rfl rfl (p_move rfl) ?_
      refine RX.nil ?_
      refine lq_normal (8 - (i + 1)) (by omega) ?_
      refine ⟨i + 1, by omega, rfl, ?_, rfl⟩
      repeat (first | exact Sub.nil | refine Sub.cons rfl ?_)
    · refine WP.sregion ?_
      refine RX.pure (.none rfl) rfl rfl (p_lss rfl rfl) ?_
      refine RX.say (t := 60) rfl (.bool false) (by rw [decide_eq_false]; omega) ?_
      refine RX.nil ?_
      refine WP.seq (WP.condF rfl ?_)
      refine WP.exit ?_
      repeat (first | refine sq_exit ?_ | refine bk_exit ?_ | refine lq_exit ?_ | refine cq_exit ?_ | refine bk_exit' rfl ?_)
      obtain rfl : i = 8 := by omega
      refine ⟨?_, rfl⟩
      repeat (first | exact Sub.nil | refine Sub.cons rfl ?_)
  rintro ρ S ⟨hρ, rfl⟩
  refine WP.sub hρ ?_
  clear hρ
  have ho8 : outC ws 8 = (sumF K hs rest n).map u8 := by simp [outC, sumF, hws]
  have h32 : (outC ws 8).length = 32 := by simp [outC, outB_len]
  have hone : ones (outC ws 8) = true := by
    rw [ho8]
    simp only [ones, List.all_map, List.all_eq_true]
    exact fun _ _ => rfl
  refine WP.sregion ?_
  refine RX.ldv 6 (.none rfl) rfl rfl ldv_32 rfl (take_all h32) h32 ?_
  refine RX.stv 5 (.none rfl) rfl rfl sz_32 h32 hone rfl rfl (outC ws 8) (put_all rfl) ?_
  refine RX.nil ?_
  refine WP.heap [[(d2, row [.pointer (some ⟨h3, 0, none⟩), vr3, .int .u64 N'] 149)], [(h3, row (ws.map u32) 147)], [(d, row [.pointer (some ⟨h, 0, none⟩), .slice p rest.length cp, .int .u64 n] 149)], [(h, row (hs.map u32) 147)], Hr, [(n2, row (outC ws 8) 32)], [(n7, row (outC ws 8) 32)]] rfl ?_
  refine WP.perm (T := [[(d, row [.pointer (some ⟨h, 0, none⟩), .slice p rest.length cp, .int .u64 n] 149)], [(h, row (hs.map u32) 147)], Hr, [(n2, row (outC ws 8) 32)], [(n7, row (outC ws 8) 32)], [(d2, row [.pointer (some ⟨h3, 0, none⟩), vr3, .int .u64 N'] 149)], [(h3, row (ws.map u32) 147)]]) ?_ ?_
  · have := @List.perm_append_comm _ ([(d2, row [.pointer (some ⟨h3, 0, none⟩), vr3, .int .u64 N'] 149)] ++ [(h3, row (ws.map u32) 147)]) ([(d, row [.pointer (some ⟨h, 0, none⟩), .slice p rest.length cp, .int .u64 n] 149)] ++ [(h, row (hs.map u32) 147)] ++ Hr ++ [(n2, row (outC ws 8) 32)] ++ [(n7, row (outC ws 8) 32)])
    simpa using this
  refine WP.ret ?_
  repeat (first | refine sq_ret ?_ | refine bk_ret ?_ | refine lq_ret ?_ | refine cq_ret ?_)
  exact finC1' 3 rfl rfl rfl ldv_32 (RdN.own 3 rfl take_all') h32 ⟨by rw [ho8], rfl⟩
end
end Go.Proofs.YtigjnfmbellpjaaDoor.Sha
