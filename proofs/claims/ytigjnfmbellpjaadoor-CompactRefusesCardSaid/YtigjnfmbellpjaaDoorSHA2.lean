/- sha: a block, walked: what it does is a function of the words and of the bytes. -/
import Derived.Test.YtigjnfmbellpjaaDoorSHA1
set_option maxRecDepth 100000
namespace Go.Proofs.YtigjnfmbellpjaaDoor.Sha
open Go Go.EL
abbrev u32 (x : Int) : Value := .int .u32 x
abbrev u8 (x : Int) : Value := .int .u8 x
def add32 (a b : Int) : Int := IntKind.wrap .u32 (a + b)
/-- the word at t, of the bytes -/
def word (bs : List Int) (t : Nat) : Int :=
  bOr .u32 (bOr .u32 (bOr .u32 (bShl .u32 (IntKind.wrap .u32 (bs.getD (4 * t) 0)) 24) (bShl .u32 (IntKind.wrap .u32 (bs.getD (4 * t + 1) 0)) 16)) (bShl .u32 (IntKind.wrap .u32 (bs.getD (4 * t + 2) 0)) 8)) (IntKind.wrap .u32 (bs.getD (4 * t + 3) 0))
/-- the next word, of those so far -/
def nextW (ws : List Int) (t : Nat) : Int :=
  add32 (add32 (add32 (ws.getD (t - 16) 0) (bXor .u32 (bXor .u32 (turnF (ws.getD (t - 15) 0) 7) (turnF (ws.getD (t - 15) 0) 18)) (bShr .u32 (ws.getD (t - 15) 0) 3))) (ws.getD (t - 7) 0))
    (bXor .u32 (bXor .u32 (turnF (ws.getD (t - 2) 0) 17) (turnF (ws.getD (t - 2) 0) 19)) (bShr .u32 (ws.getD (t - 2) 0) 10))
def words (bs : List Int) : Nat → List Int
  | 0 => []
  | t + 1 => words bs t ++ [if t < 16 then word bs t else nextW (words bs t) t]
theorem words_len (bs : List Int) : ∀ t, (words bs t).length = t
  | 0 => rfl
  | t + 1 => by simp [words, words_len bs t]
/-- the cells of the words: the first t are laid -/
def wcells (ws : List Int) : List Value := ws.map u32 ++ List.replicate (64 - ws.length) (u32 0)
theorem wcells_get (ws : List Int) (j : Nat) (h : j < ws.length) : (wcells ws)[j]? = some (u32 (ws.getD j 0)) := by
  simp only [wcells]
  rw [List.getElem?_append_left (by simpa using h), List.getElem?_map]
  simp [h]
theorem wcells_set (ws : List Int) (x : Int) (h : ws.length < 64) : (wcells ws).set ws.length (u32 x) = wcells (ws ++ [x]) := by
  have e : List.replicate (64 - ws.length) (u32 0) = u32 0 :: List.replicate (64 - (ws.length + 1)) (u32 0) := by
    rw [show 64 - ws.length = (64 - (ws.length + 1)) + 1 by omega, List.replicate_succ]
  simp only [wcells]
  rw [e, List.set_append_right _ _ (by simp)]
  simp
theorem wcells_len (ws : List Int) (h : ws.length ≤ 64) : (wcells ws).length = 64 := by simp [wcells]; omega
theorem word_set (bs : List Int) (t : Nat) (h : t < 16) : (wcells (words bs t)).set ((t : Int).toNat * 1) (u32 (word bs t)) = wcells (words bs (t + 1)) := by
  have hl := words_len bs t
  have := wcells_set (words bs t) (word bs t) (by omega)
  rw [hl] at this
  rw [Int.toNat_natCast, Nat.mul_one, this]
  simp [words, h]
theorem next_set (bs : List Int) (t : Nat) (h : 16 ≤ t) (h' : t < 64) : (wcells (words bs t)).set ((t : Int).toNat * 1) (u32 (nextW (words bs t) t)) = wcells (words bs (t + 1)) := by
  have hl := words_len bs t
  have := wcells_set (words bs t) (nextW (words bs t) t) (by omega)
  rw [hl] at this
  rw [Int.toNat_natCast, Nat.mul_one, this]
  have : ¬ t < 16 := by omega
  simp [words, this]
structure R8 where
  (a b c d e f g h : Int)
def rnd (k w : Int) (r : R8) : R8 :=
  let x := add32 (add32 (add32 (add32 r.h (bXor .u32 (bXor .u32 (turnF r.e 6) (turnF r.e 11)) (turnF r.e 25))) (bXor .u32 (bAnd .u32 r.e r.f) (bAnd .u32 (bNot .u32 r.e) r.g))) k) w
  let y := add32 (bXor .u32 (bXor .u32 (turnF r.a 2) (turnF r.a 13)) (turnF r.a 22)) (bXor .u32 (bXor .u32 (bAnd .u32 r.a r.b) (bAnd .u32 r.a r.c)) (bAnd .u32 r.b r.c))
  ⟨add32 x y, r.a, r.b, r.c, add32 r.d x, r.e, r.f, r.g⟩
def rnds (K : Nat → Int) (ws : List Int) (r : R8) : Nat → R8
  | 0 => r
  | t + 1 => rnd (K t) (ws.getD t 0) (rnds K ws r t)
def r8of (hs : List Int) : R8 := ⟨hs.getD 0 0, hs.getD 1 0, hs.getD 2 0, hs.getD 3 0, hs.getD 4 0, hs.getD 5 0, hs.getD 6 0, hs.getD 7 0⟩
def R8.list (r : R8) : List Int := [r.a, r.b, r.c, r.d, r.e, r.f, r.g, r.h]
/-- the first i words are summed up -/
def mixed8 (hs vs : List Int) (i : Nat) : List Int := (List.range 8).map fun j => if j < i then add32 (hs.getD j 0) (vs.getD j 0) else hs.getD j 0
def blockF (K : Nat → Int) (hs bs : List Int) : List Int := mixed8 hs (rnds K (words bs 64) (r8of hs) 64).list 8
theorem wget (bs : List Int) (t k : Nat) (hk : k ≤ t) (h0 : 0 < k) : (wcells (words bs t))[((t : Int) - ((k : Nat) : Int)).toNat * 1]? = some (u32 ((words bs t).getD (t - k) 0)) := by
  have hl := words_len bs t
  rw [show ((t : Int) - ((k : Nat) : Int)).toNat * 1 = t - k by omega]
  exact wcells_get _ _ (by omega)
theorem fill8 (r : R8) : fillL (fun i => some (i * 1, 1)) [.int .u32 0, .int .u32 0, .int .u32 0, .int .u32 0, .int .u32 0, .int .u32 0, .int .u32 0, .int .u32 0] [(0, u32 r.a), (1, u32 r.b), (2, u32 r.c), (3, u32 r.d), (4, u32 r.e), (5, u32 r.f), (6, u32 r.g), (7, u32 r.h)] = some (r.list.map u32) := by
  simp [fillL, Value.cells, R8.list]
  rfl
theorem mixed8_zero {hs vs : List Int} (hl : hs.length = 8) : mixed8 hs vs 0 = hs := by
  apply List.ext_getElem
  · simp [mixed8, hl]
  · intro i h1 h2
    simp [mixed8, h2]
theorem mixed8_get (hs vs : List Int) {i : Nat} (hi : i < 8) : ((mixed8 hs vs i).map u32)[((i : Nat) : Int).toNat * 1]? = some (u32 (hs.getD i 0)) := by
  rw [Int.toNat_natCast, Nat.mul_one]
  simp [mixed8, hi]
theorem mixed8_set (hs vs : List Int) {i : Nat} (hi : i < 8) : ((mixed8 hs vs i).map u32).set (((i : Nat) : Int).toNat * 1) (u32 (add32 (hs.getD i 0) (vs.getD i 0))) = (mixed8 hs vs (i + 1)).map u32 := by
  rw [Int.toNat_natCast, Nat.mul_one]
  apply List.ext_getElem
  · simp [mixed8]
  · intro j h1 h2
    simp only [List.length_set, List.length_map, mixed8, List.length_range] at h1
    by_cases hj : i = j
    · subst hj
      simp [mixed8]
    · have h3 : (j < i + 1) ↔ (j < i) := by omega
      simp [mixed8, List.getElem_set_ne hj, h3]
section
variable {w0 : World}
set_option maxHeartbeats 1000000 in
theorem block_tri (K : Nat → Int) (hK : ∀ t, t < 64 → w0.cell? ⟨18, t, none⟩ = some (u32 (K t))) (hb : Nat) (hs bs : List Int) (v : Value) (HB : Hp) (hl : hs.length = 8) (hbl : bs.length = 64) (hr : ∀ A C, RdS w0 [A, HB, C] (fun x => [u8 x]) bs v) :
    Tri Tryd.prog w0 74 #[.pointer (some ⟨hb, 0, none⟩), v] [[(hb, row (hs.map u32) 147)], HB] (fun _ S' => S' = [[(hb, row ((blockF K hs bs).map u32) 147)], HB]) := by
  obtain ⟨b0, cp, rfl⟩ := (hr [] []).some (by intro e; rw [e] at hbl; cases hbl)
  rw [hbl] at hr ⊢
  refine Tri.mk Tryd.func74 rfl rfl rfl ?_
  refine WP.sregion ?_
  refine RX.eff (.none rfl) rfl rfl rfl (e_alloc zr_165) ?_
  rintro _ _ ⟨n4, rfl, rfl⟩
  refine RX.nil ?_
  refine WP.heap [[(hb, row (hs.map u32) 147)], HB, [(n4, row (wcells (words bs 0)) 165)]] rfl ?_
  refine WP.cut (fun ρ S => Sub [(0, .pointer (some ⟨hb, 0, none⟩)), (1, .slice (some b0) 64 cp), (4, .pointer (some ⟨n4, 0, none⟩))] ρ ∧ S = [[(hb, row (hs.map u32) 147)], HB, [(n4, row (wcells (words bs 16)) 165)]]) ?_ ?_
  · refine WP.sregion ?_
    refine RX.pure (.none rfl) rfl rfl (p_move rfl) ?_
    refine RX.nil ?_
    refine WP.block ?_
    refine WP.loop (fun m ρ S => ∃ t : Nat, t ≤ 16 ∧ m = 16 - t ∧ Sub [(0, .pointer (some ⟨hb, 0, none⟩)), (1, .slice (some b0) 64 cp), (4, .pointer (some ⟨n4, 0, none⟩)), (22, .int .i64 (t : Nat))] ρ ∧ S = [[(hb, row (hs.map u32) 147)], HB, [(n4, row (wcells (words bs t)) 165)]]) 16 ?_ ?_
    · refine ⟨0, by omega, by omega, ?_, rfl⟩
      repeat (first | exact Sub.nil | refine Sub.cons rfl ?_)
    rintro m ρ S ⟨t, ht, rfl, hρ, rfl⟩
    refine WP.sub hρ ?_
    clear hρ
    by_cases hlt : t < 16
    · have hget : ∀ k, k < 4 → bs[4 * t + k]? = some (bs.getD (4 * t + k) 0) := fun k hk => by
        have hlt' : 4 * t + k < bs.length := by omega
        simp [hlt']
      have hwl := words_len bs t
      refine WP.sregion ?_
      refine RX.pure (.none rfl) rfl rfl (p_lss rfl rfl) ?_
      refine RX.say (t := 23) rfl (.bool true) (by rw [decide_eq_true]; omega) ?_
      refine RX.nil ?_
      refine WP.seq (WP.condT rfl (WP.skip ?_))
      refine sq_normal ?_
      refine WP.seq (WP.block ?_)
      refine WP.sregion ?_
      refine RX.pure (.none rfl) rfl rfl (p_move rfl) ?_
      refine RX.pure (.none rfl) rfl rfl (p_assign rfl) ?_
      refine RX.nil ?_
      refine WP.drawJ ([6, 14, 23, 32], []) [] mixed (by kernel_rfl) rfl rfl rfl ?_
      refine RJ.pure (.none rfl) rfl rfl (p_move rfl) ?_
      refine RJ.pure (.none rfl) rfl rfl (p_move rfl) ?_
      refine RJ.pure (.none rfl) rfl rfl (p_move rfl) ?_
      (first | refine RJ.pure (.none rfl) rfl rfl (p_mul rfl rfl (wr_i64 (by omega) (by omega))) ?_ | refine RJ.pure (.none rfl) rfl rfl (p_mul rfl rfl rfl) ?_)
      refine RJ.pure (.none rfl) rfl rfl (p_idxS rfl rfl sl_133 (by omega) (by omega)) ?_
      refine RJ.read (.none rfl) rfl rfl rfl rfl (r_load rfl na_5 ((hr _ _).elem (k := 1) (fun _ _ => rfl) (i := 4 * t) (o := 0) (hget 0 (by omega)) rfl)) ?_
      (first | refine RJ.pure (.none rfl) rfl rfl (p_convInt rfl Tryd.underlying5 Tryd.underlying146 (wr_u32 (by omega) (by omega))) ?_ | refine RJ.pure (.none rfl) rfl rfl (p_convInt rfl Tryd.underlying5 Tryd.underlying146 rfl) ?_)
      refine RJ.pure (.none rfl) rfl rfl (p_shl rfl rfl (by omega) rfl) ?_
      refine RJ.pure (.none rfl) rfl rfl (p_move rfl) ?_
      refine RJ.pure (.none rfl) rfl rfl (p_move rfl) ?_
      (first | refine RJ.pure (.none rfl) rfl rfl (p_mul rfl rfl (wr_i64 (by omega) (by omega))) ?_ | refine RJ.pure (.none rfl) rfl rfl (p_mul rfl rfl rfl) ?_)
      (first | refine RJ.pure (.none rfl) rfl rfl (p_add rfl rfl (wr_i64 (by omega) (by omega))) ?_ | refine RJ.pure (.none rfl) rfl rfl (p_add rfl rfl rfl) ?_)
      refine RJ.pure (.none rfl) rfl rfl (p_idxS rfl rfl sl_133 (by omega) (by omega)) ?_
      refine RJ.read (.none rfl) rfl rfl rfl rfl (r_load rfl na_5 ((hr _ _).elem (k := 1) (fun _ _ => rfl) (i := 4 * t + 1) (o := 0) (hget 1 (by omega)) rfl)) ?_
      (first | refine RJ.pure (.none rfl) rfl rfl (p_convInt rfl Tryd.underlying5 Tryd.underlying146 (wr_u32 (by omega) (by omega))) ?_ | refine RJ.pure (.none rfl) rfl rfl (p_convInt rfl Tryd.underlying5 Tryd.underlying146 rfl) ?_)
      refine RJ.pure (.none rfl) rfl rfl (p_shl rfl rfl (by omega) rfl) ?_
      refine RJ.pure (.none rfl) rfl rfl (p_or rfl rfl rfl) ?_
      refine RJ.pure (.none rfl) rfl rfl (p_move rfl) ?_
      refine RJ.pure (.none rfl) rfl rfl (p_move rfl) ?_
      (first | refine RJ.pure (.none rfl) rfl rfl (p_mul rfl rfl (wr_i64 (by omega) (by omega))) ?_ | refine RJ.pure (.none rfl) rfl rfl (p_mul rfl rfl rfl) ?_)
      (first | refine RJ.pure (.none rfl) rfl rfl (p_add rfl rfl (wr_i64 (by omega) (by omega))) ?_ | refine RJ.pure (.none rfl) rfl rfl (p_add rfl rfl rfl) ?_)
      refine RJ.pure (.none rfl) rfl rfl (p_idxS rfl rfl sl_133 (by omega) (by omega)) ?_
      refine RJ.read (.none rfl) rfl rfl rfl rfl (r_load rfl na_5 ((hr _ _).elem (k := 1) (fun _ _ => rfl) (i := 4 * t + 2) (o := 0) (hget 2 (by omega)) rfl)) ?_
      (first | refine RJ.pure (.none rfl) rfl rfl (p_convInt rfl Tryd.underlying5 Tryd.underlying146 (wr_u32 (by omega) (by omega))) ?_ | refine RJ.pure (.none rfl) rfl rfl (p_convInt rfl Tryd.underlying5 Tryd.underlying146 rfl) ?_)
      refine RJ.pure (.none rfl) rfl rfl (p_shl rfl rfl (by omega) rfl) ?_
      refine RJ.pure (.none rfl) rfl rfl (p_or rfl rfl rfl) ?_
      refine RJ.pure (.none rfl) rfl rfl (p_move rfl) ?_
      refine RJ.pure (.none rfl) rfl rfl (p_move rfl) ?_
      (first | refine RJ.pure (.none rfl) rfl rfl (p_mul rfl rfl (wr_i64 (by omega) (by omega))) ?_ | refine RJ.pure (.none rfl) rfl rfl (p_mul rfl rfl rfl) ?_)
      (first | refine RJ.pure (.none rfl) rfl rfl (p_add rfl rfl (wr_i64 (by omega) (by omega))) ?_ | refine RJ.pure (.none rfl) rfl rfl (p_add rfl rfl rfl) ?_)
      refine RJ.pure (.none rfl) rfl rfl (p_idxS rfl rfl sl_133 (by omega) (by omega)) ?_
      refine RJ.read (.none rfl) rfl rfl rfl rfl (r_load rfl na_5 ((hr _ _).elem (k := 1) (fun _ _ => rfl) (i := 4 * t + 3) (o := 0) (hget 3 (by omega)) rfl)) ?_
      (first | refine RJ.pure (.none rfl) rfl rfl (p_convInt rfl Tryd.underlying5 Tryd.underlying146 (wr_u32 (by omega) (by omega))) ?_ | refine RJ.pure (.none rfl) rfl rfl (p_convInt rfl Tryd.underlying5 Tryd.underlying146 rfl) ?_)
      refine RJ.pure (.none rfl) rfl rfl (p_or rfl rfl rfl) ?_
      (first | refine RJ.pure (.none rfl) rfl rfl (p_idxArr0 rfl rfl ar_165 (by omega) (by omega)) ?_ | refine RJ.pure (.none rfl) rfl rfl (p_idxArr rfl rfl ar_165 (by omega) (by omega)) ?_)
      refine RJ.put 2 (.none rfl) rfl rfl rfl sz_146 rfl rfl (by rw [wcells_len _ (by omega)]; simp; omega) (wcells (words bs (t + 1))) (word_set bs t hlt) ?_
      refine RJ.nil ?_
      refine sq_normal ?_
      refine WP.region ?_
      (first | refine RX.pure (.none rfl) rfl rfl (p_add rfl rfl (wr_i64 (by omega) (by omega))) ?_ | refine RX.pure (.none rfl) rfl rfl (p_add rfl rfl rfl) ?_)
      refine RX.pure (.none rfl) rfl rfl (p_move rfl) ?_
      refine RX.nil ?_
      refine lq_normal (16 - (t + 1)) (by omega) ?_
      refine ⟨t + 1, by omega, rfl, ?_, rfl⟩
      repeat (first | exact Sub.nil | refine Sub.cons rfl ?_)
    · refine WP.sregion ?_
      refine RX.pure (.none rfl) rfl rfl (p_lss rfl rfl) ?_
      refine RX.say (t := 23) rfl (.bool false) (by rw [decide_eq_false]; omega) ?_
      refine RX.nil ?_
      refine WP.seq (WP.condF rfl ?_)
      refine WP.exit ?_
      repeat (first | refine sq_exit ?_ | refine bk_exit ?_ | refine lq_exit ?_ | refine cq_exit ?_ | refine bk_exit' rfl ?_)
      obtain rfl : t = 16 := by omega
      refine ⟨?_, rfl⟩
      repeat (first | exact Sub.nil | refine Sub.cons rfl ?_)
  rintro ρ S ⟨hρ, rfl⟩
  refine WP.sub hρ ?_
  clear hρ
  refine WP.cut (fun ρ S => Sub [(0, .pointer (some ⟨hb, 0, none⟩)), (1, .slice (some b0) 64 cp), (4, .pointer (some ⟨n4, 0, none⟩))] ρ ∧ S = [[(hb, row (hs.map u32) 147)], HB, [(n4, row (wcells (words bs 64)) 165)]]) ?_ ?_
  · refine WP.sregion ?_
    refine RX.pure (.none rfl) rfl rfl (p_assign rfl) ?_
    refine RX.nil ?_
    refine WP.block ?_
    refine WP.loop (fun m ρ S => ∃ t : Nat, 16 ≤ t ∧ t ≤ 64 ∧ m = 64 - t ∧ Sub [(0, .pointer (some ⟨hb, 0, none⟩)), (1, .slice (some b0) 64 cp), (4, .pointer (some ⟨n4, 0, none⟩)), (6, .int .i64 (t : Nat))] ρ ∧ S = [[(hb, row (hs.map u32) 147)], HB, [(n4, row (wcells (words bs t)) 165)]]) 48 ?_ ?_
    · refine ⟨16, by omega, by omega, by omega, ?_, rfl⟩
      repeat (first | exact Sub.nil | refine Sub.cons rfl ?_)
    rintro m ρ S ⟨t, ht16, ht, rfl, hρ, rfl⟩
    refine WP.sub hρ ?_
    clear hρ
    by_cases hlt : t < 64
    · have hwl := words_len bs t
      refine WP.seq (WP.sregion ?_)
      refine RX.pure (.none rfl) rfl rfl (p_move rfl) ?_
      refine RX.pure (.none rfl) rfl rfl (p_lss rfl rfl) ?_
      refine RX.say (t := 62) rfl (.bool true) (by rw [decide_eq_true]; omega) ?_
      refine RX.nil ?_
      refine WP.condT rfl (WP.skip ?_)
      refine WP.seq (WP.block ?_)
      refine WP.sdraw mixed (by kernel_rfl) ?_
      refine RX.pure (.none rfl) rfl rfl (p_move rfl) ?_
      (first | refine RX.pure (.none rfl) rfl rfl (p_sub rfl rfl (wr_i64 (by omega) (by omega))) ?_ | refine RX.pure (.none rfl) rfl rfl (p_sub rfl rfl rfl) ?_)
      refine RX.pure (.none rfl) rfl rfl (p_idxArr0 rfl rfl ar_165 (by omega) (by omega)) ?_
      refine RX.ld 2 (.none rfl) rfl rfl na_146 rfl (wget bs t 15 (by omega) (by decide)) ?_
      refine RX.pure (.none rfl) rfl rfl (p_move rfl) ?_
      (first | refine RX.pure (.none rfl) rfl rfl (p_sub rfl rfl (wr_i64 (by omega) (by omega))) ?_ | refine RX.pure (.none rfl) rfl rfl (p_sub rfl rfl rfl) ?_)
      refine RX.pure (.none rfl) rfl rfl (p_idxArr0 rfl rfl ar_165 (by omega) (by omega)) ?_
      refine RX.ld 2 (.none rfl) rfl rfl na_146 rfl (wget bs t 2 (by omega) (by decide)) ?_
      refine RX.pure (.none rfl) rfl rfl (p_assign rfl) ?_
      refine RX.pure (.none rfl) rfl rfl (p_assign rfl) ?_
      refine RX.nil ?_
      refine WP.drawJ ([], [6, 8, 20, 22]) [] mixed (by kernel_rfl) rfl rfl rfl ?_
      refine RJ.pure (.none rfl) rfl rfl (p_move rfl) ?_
      refine RJ.pure (.none rfl) rfl rfl (p_move rfl) ?_
      (first | refine RJ.pure (.none rfl) rfl rfl (p_sub rfl rfl (wr_i64 (by omega) (by omega))) ?_ | refine RJ.pure (.none rfl) rfl rfl (p_sub rfl rfl rfl) ?_)
      refine RJ.pure (.none rfl) rfl rfl (p_idxArr0 rfl rfl ar_165 (by omega) (by omega)) ?_
      refine RJ.read (.none rfl) rfl rfl rfl rfl (r_load rfl na_146 (Rd.own 2 rfl (by simpa using wget bs t 16 (by omega) (by decide)))) ?_
      refine RJ.pure (.none rfl) rfl rfl (p_move rfl) ?_
      refine RJ.still (.none rfl) rfl rfl rfl (s_call rfl call_82 (turn_q _ 7 (by decide) (by decide))) ?_
      refine RJ.pure (.none rfl) rfl rfl (p_move rfl) ?_
      refine RJ.still (.none rfl) rfl rfl rfl (s_call rfl call_82 (turn_q _ 18 (by decide) (by decide))) ?_
      refine RJ.pure (.none rfl) rfl rfl (p_xor rfl rfl rfl) ?_
      refine RJ.pure (.none rfl) rfl rfl (p_move rfl) ?_
      refine RJ.pure (.none rfl) rfl rfl (p_shr rfl rfl (by decide) rfl) ?_
      refine RJ.pure (.none rfl) rfl rfl (p_xor rfl rfl rfl) ?_
      (first | refine RJ.pure (.none rfl) rfl rfl (p_add rfl rfl (wr_u32 (by omega) (by omega))) ?_ | refine RJ.pure (.none rfl) rfl rfl (p_add rfl rfl rfl) ?_)
      refine RJ.pure (.none rfl) rfl rfl (p_move rfl) ?_
      (first | refine RJ.pure (.none rfl) rfl rfl (p_sub rfl rfl (wr_i64 (by omega) (by omega))) ?_ | refine RJ.pure (.none rfl) rfl rfl (p_sub rfl rfl rfl) ?_)
      refine RJ.pure (.none rfl) rfl rfl (p_idxArr0 rfl rfl ar_165 (by omega) (by omega)) ?_
      refine RJ.read (.none rfl) rfl rfl rfl rfl (r_load rfl na_146 (Rd.own 2 rfl (by simpa using wget bs t 7 (by omega) (by decide)))) ?_
      (first | refine RJ.pure (.none rfl) rfl rfl (p_add rfl rfl (wr_u32 (by omega) (by omega))) ?_ | refine RJ.pure (.none rfl) rfl rfl (p_add rfl rfl rfl) ?_)
      refine RJ.pure (.none rfl) rfl rfl (p_move rfl) ?_
      refine RJ.still (.none rfl) rfl rfl rfl (s_call rfl call_82 (turn_q _ 17 (by decide) (by decide))) ?_
      refine RJ.pure (.none rfl) rfl rfl (p_move rfl) ?_
      refine RJ.still (.none rfl) rfl rfl rfl (s_call rfl call_82 (turn_q _ 19 (by decide) (by decide))) ?_
      refine RJ.pure (.none rfl) rfl rfl (p_xor rfl rfl rfl) ?_
      refine RJ.pure (.none rfl) rfl rfl (p_move rfl) ?_
      refine RJ.pure (.none rfl) rfl rfl (p_shr rfl rfl (by decide) rfl) ?_
      refine RJ.pure (.none rfl) rfl rfl (p_xor rfl rfl rfl) ?_
      (first | refine RJ.pure (.none rfl) rfl rfl (p_add rfl rfl (wr_u32 (by omega) (by omega))) ?_ | refine RJ.pure (.none rfl) rfl rfl (p_add rfl rfl rfl) ?_)
      refine RJ.pure (.none rfl) rfl rfl (p_idxArr0 rfl rfl ar_165 (by omega) (by omega)) ?_
      refine RJ.put 2 (.none rfl) rfl rfl rfl sz_146 rfl rfl (by rw [wcells_len _ (by omega)]; simp; omega) (wcells (words bs (t + 1))) (next_set bs t ht16 hlt) ?_
      refine RJ.nil ?_
      refine sq_normal ?_
      refine WP.region ?_
      refine RX.pure (.none rfl) rfl rfl (p_move rfl) ?_
      (first | refine RX.pure (.none rfl) rfl rfl (p_add rfl rfl (wr_i64 (by omega) (by omega))) ?_ | refine RX.pure (.none rfl) rfl rfl (p_add rfl rfl rfl) ?_)
      refine RX.pure (.none rfl) rfl rfl (p_assign rfl) ?_
      refine RX.nil ?_
      refine lq_normal (64 - (t + 1)) (by omega) ?_
      refine ⟨t + 1, by omega, by omega, rfl, ?_, rfl⟩
      repeat (first | exact Sub.nil | refine Sub.cons rfl ?_)
    · refine WP.seq (WP.sregion ?_)
      refine RX.pure (.none rfl) rfl rfl (p_move rfl) ?_
      refine RX.pure (.none rfl) rfl rfl (p_lss rfl rfl) ?_
      refine RX.say (t := 62) rfl (.bool false) (by rw [decide_eq_false]; omega) ?_
      refine RX.nil ?_
      refine WP.condF rfl ?_
      refine WP.exit ?_
      repeat (first | refine sq_exit ?_ | refine bk_exit ?_ | refine lq_exit ?_ | refine cq_exit ?_ | refine bk_exit' rfl ?_)
      obtain rfl : t = 64 := by omega
      refine ⟨?_, rfl⟩
      repeat (first | exact Sub.nil | refine Sub.cons rfl ?_)
  rintro ρ S ⟨hρ, rfl⟩
  refine WP.sub hρ ?_
  clear hρ
  have hgetH : ∀ k : Nat, k < 8 → (hs.map u32)[((k : Nat) : Int).toNat * 1]? = some (u32 (hs.getD k 0)) := fun k hk => by
    have hlt : k < hs.length := by omega
    rw [Int.toNat_natCast, Nat.mul_one]
    simp [hlt]
  refine WP.sdraw mixed (by kernel_rfl) ?_
  refine RX.pure (.none rfl) rfl rfl (p_move rfl) ?_
  refine RX.pure (.none rfl) rfl rfl (p_nilCheck rfl) ?_
  refine RX.pure (.none rfl) rfl rfl (p_idxArr0 rfl rfl ar_147 (by omega) (by omega)) ?_
  refine RX.ld 0 (.none rfl) rfl rfl na_146 rfl (hgetH 0 (by decide)) ?_
  refine RX.pure (.none rfl) rfl rfl (p_move rfl) ?_
  refine RX.pure (.none rfl) rfl rfl (p_nilCheck rfl) ?_
  refine RX.pure (.none rfl) rfl rfl (p_idxArr0 rfl rfl ar_147 (by omega) (by omega)) ?_
  refine RX.ld 0 (.none rfl) rfl rfl na_146 rfl (hgetH 1 (by decide)) ?_
  refine RX.pure (.none rfl) rfl rfl (p_move rfl) ?_
  refine RX.pure (.none rfl) rfl rfl (p_nilCheck rfl) ?_
  refine RX.pure (.none rfl) rfl rfl (p_idxArr0 rfl rfl ar_147 (by omega) (by omega)) ?_
  refine RX.ld 0 (.none rfl) rfl rfl na_146 rfl (hgetH 2 (by decide)) ?_
  refine RX.pure (.none rfl) rfl rfl (p_move rfl) ?_
  refine RX.pure (.none rfl) rfl rfl (p_nilCheck rfl) ?_
  refine RX.pure (.none rfl) rfl rfl (p_idxArr0 rfl rfl ar_147 (by omega) (by omega)) ?_
  refine RX.ld 0 (.none rfl) rfl rfl na_146 rfl (hgetH 3 (by decide)) ?_
  refine RX.pure (.none rfl) rfl rfl (p_move rfl) ?_
  refine RX.pure (.none rfl) rfl rfl (p_nilCheck rfl) ?_
  refine RX.pure (.none rfl) rfl rfl (p_idxArr0 rfl rfl ar_147 (by omega) (by omega)) ?_
  refine RX.ld 0 (.none rfl) rfl rfl na_146 rfl (hgetH 4 (by decide)) ?_
  refine RX.pure (.none rfl) rfl rfl (p_move rfl) ?_
  refine RX.pure (.none rfl) rfl rfl (p_nilCheck rfl) ?_
  refine RX.pure (.none rfl) rfl rfl (p_idxArr0 rfl rfl ar_147 (by omega) (by omega)) ?_
  refine RX.ld 0 (.none rfl) rfl rfl na_146 rfl (hgetH 5 (by decide)) ?_
  refine RX.pure (.none rfl) rfl rfl (p_move rfl) ?_
  refine RX.pure (.none rfl) rfl rfl (p_nilCheck rfl) ?_
  refine RX.pure (.none rfl) rfl rfl (p_idxArr0 rfl rfl ar_147 (by omega) (by omega)) ?_
  refine RX.ld 0 (.none rfl) rfl rfl na_146 rfl (hgetH 6 (by decide)) ?_
  refine RX.pure (.none rfl) rfl rfl (p_move rfl) ?_
  refine RX.pure (.none rfl) rfl rfl (p_nilCheck rfl) ?_
  refine RX.pure (.none rfl) rfl rfl (p_idxArr0 rfl rfl ar_147 (by omega) (by omega)) ?_
  refine RX.ld 0 (.none rfl) rfl rfl na_146 rfl (hgetH 7 (by decide)) ?_
  refine RX.pure (.none rfl) rfl rfl (p_assign rfl) ?_
  refine RX.pure (.none rfl) rfl rfl (p_assign rfl) ?_
  refine RX.pure (.none rfl) rfl rfl (p_assign rfl) ?_
  refine RX.pure (.none rfl) rfl rfl (p_assign rfl) ?_
  refine RX.pure (.none rfl) rfl rfl (p_assign rfl) ?_
  refine RX.pure (.none rfl) rfl rfl (p_assign rfl) ?_
  refine RX.pure (.none rfl) rfl rfl (p_assign rfl) ?_
  refine RX.pure (.none rfl) rfl rfl (p_assign rfl) ?_
  refine RX.nil ?_
  have hw64 := words_len bs 64
  refine WP.cut (fun ρ S => ∃ r, r = rnds K (words bs 64) (r8of hs) 64 ∧ Sub [(0, .pointer (some ⟨hb, 0, none⟩)), (1, .slice (some b0) 64 cp), (4, .pointer (some ⟨n4, 0, none⟩)), (9, u32 r.a), (10, u32 r.b), (11, u32 r.c), (12, u32 r.d), (13, u32 r.e), (14, u32 r.f), (15, u32 r.g), (16, u32 r.h)] ρ ∧ S = [[(hb, row (hs.map u32) 147)], HB, [(n4, row (wcells (words bs 64)) 165)]]) ?_ ?_
  · refine WP.sregion ?_
    refine RX.pure (.none rfl) rfl rfl (p_move rfl) ?_
    refine RX.nil ?_
    refine WP.block ?_
    refine WP.loop (fun m ρ S => ∃ (t : Nat) (r : R8), t ≤ 64 ∧ m = 64 - t ∧ r = rnds K (words bs 64) (r8of hs) t ∧ Sub [(0, .pointer (some ⟨hb, 0, none⟩)), (1, .slice (some b0) 64 cp), (4, .pointer (some ⟨n4, 0, none⟩)), (9, u32 r.a), (10, u32 r.b), (11, u32 r.c), (12, u32 r.d), (13, u32 r.e), (14, u32 r.f), (15, u32 r.g), (16, u32 r.h), (134, .int .i64 (t : Nat))] ρ ∧ S = [[(hb, row (hs.map u32) 147)], HB, [(n4, row (wcells (words bs 64)) 165)]]) 64 ?_ ?_
    · refine ⟨0, r8of hs, by omega, by omega, rfl, ?_, rfl⟩
      repeat (first | exact Sub.nil | refine Sub.cons rfl ?_)
    rintro m ρ S ⟨t, r, ht, rfl, hrr, hρ, rfl⟩
    refine WP.sub hρ ?_
    clear hρ
    by_cases hlt : t < 64
    · have hwt : (wcells (words bs 64))[((t : Nat) : Int).toNat * 1]? = some (u32 ((words bs 64).getD t 0)) := by
        rw [Int.toNat_natCast, Nat.mul_one]; exact wcells_get _ _ (by omega)
      have hKt : w0.cell? ⟨18, ((t : Nat) : Int).toNat * 1, none⟩ = some (u32 (K t)) := by
        rw [Int.toNat_natCast, Nat.mul_one]; exact hK t hlt
      refine WP.sregion ?_
      refine RX.pure (.none rfl) rfl rfl (p_lss rfl rfl) ?_
      refine RX.say (t := 135) rfl (.bool true) (by rw [decide_eq_true]; omega) ?_
      refine RX.nil ?_
      refine WP.seq (WP.condT rfl (WP.skip ?_))
      refine sq_normal ?_
      refine WP.seq (WP.block ?_)
      refine WP.sregion ?_
      refine RX.pure (.none rfl) rfl rfl (p_move rfl) ?_
      refine RX.pure (.none rfl) rfl rfl (p_assign rfl) ?_
      refine RX.nil ?_
      refine WP.sdrawJ ([], [2, 4, 7]) [] mixed (by kernel_rfl) rfl rfl rfl ?_
      refine RJ.pure (.none rfl) rfl rfl (p_move rfl) ?_
      refine RJ.pure (.none rfl) rfl rfl (p_move rfl) ?_
      refine RJ.still (.none rfl) rfl rfl rfl (s_call rfl call_82 (turn_q _ 6 (by decide) (by decide))) ?_
      refine RJ.pure (.none rfl) rfl rfl (p_move rfl) ?_
      refine RJ.still (.none rfl) rfl rfl rfl (s_call rfl call_82 (turn_q _ 11 (by decide) (by decide))) ?_
      refine RJ.pure (.none rfl) rfl rfl (p_xor rfl rfl rfl) ?_
      refine RJ.pure (.none rfl) rfl rfl (p_move rfl) ?_
      refine RJ.still (.none rfl) rfl rfl rfl (s_call rfl call_82 (turn_q _ 25 (by decide) (by decide))) ?_
      refine RJ.pure (.none rfl) rfl rfl (p_xor rfl rfl rfl) ?_
      (first | refine RJ.pure (.none rfl) rfl rfl (p_add rfl rfl (wr_u32 (by omega) (by omega))) ?_ | refine RJ.pure (.none rfl) rfl rfl (p_add rfl rfl rfl) ?_)
      refine RJ.pure (.none rfl) rfl rfl (p_move rfl) ?_
      refine RJ.pure (.none rfl) rfl rfl (p_move rfl) ?_
      refine RJ.pure (.none rfl) rfl rfl (p_and rfl rfl rfl) ?_
      refine RJ.pure (.none rfl) rfl rfl (p_move rfl) ?_
      refine RJ.pure (.none rfl) rfl rfl (p_compl rfl rfl) ?_
      refine RJ.pure (.none rfl) rfl rfl (p_move rfl) ?_
      refine RJ.pure (.none rfl) rfl rfl (p_and rfl rfl rfl) ?_
      refine RJ.pure (.none rfl) rfl rfl (p_xor rfl rfl rfl) ?_
      (first | refine RJ.pure (.none rfl) rfl rfl (p_add rfl rfl (wr_u32 (by omega) (by omega))) ?_ | refine RJ.pure (.none rfl) rfl rfl (p_add rfl rfl rfl) ?_)
      refine RJ.pure (.none rfl) rfl rfl (p_move rfl) ?_
      refine RJ.pure (.none rfl) rfl rfl (p_idxArr0 rfl rfl ar_165 (by omega) (by omega)) ?_
      refine RJ.read (.none rfl) rfl rfl rfl rfl (r_load rfl na_146 (Rd.old hKt)) ?_
      (first | refine RJ.pure (.none rfl) rfl rfl (p_add rfl rfl (wr_u32 (by omega) (by omega))) ?_ | refine RJ.pure (.none rfl) rfl rfl (p_add rfl rfl rfl) ?_)
      refine RJ.pure (.none rfl) rfl rfl (p_move rfl) ?_
      refine RJ.pure (.none rfl) rfl rfl (p_idxArr0 rfl rfl ar_165 (by omega) (by omega)) ?_
      refine RJ.read (.none rfl) rfl rfl rfl rfl (r_load rfl na_146 (Rd.own 2 rfl (by simpa using hwt))) ?_
      (first | refine RJ.pure (.none rfl) rfl rfl (p_add rfl rfl (wr_u32 (by omega) (by omega))) ?_ | refine RJ.pure (.none rfl) rfl rfl (p_add rfl rfl rfl) ?_)
      refine RJ.pure (.none rfl) rfl rfl (p_assign rfl) ?_
      refine RJ.nil ?_
      refine WP.sregion ?_
      refine RX.pure (.none rfl) rfl rfl (p_move rfl) ?_
      refine RX.still (.none rfl) rfl rfl rfl (s_call rfl call_82 (turn_q _ 2 (by decide) (by decide))) ?_
      refine RX.pure (.none rfl) rfl rfl (p_move rfl) ?_
      refine RX.still (.none rfl) rfl rfl rfl (s_call rfl call_82 (turn_q _ 13 (by decide) (by decide))) ?_
      refine RX.pure (.none rfl) rfl rfl (p_xor rfl rfl rfl) ?_
      refine RX.pure (.none rfl) rfl rfl (p_move rfl) ?_
      refine RX.still (.none rfl) rfl rfl rfl (s_call rfl call_82 (turn_q _ 22 (by decide) (by decide))) ?_
      refine RX.pure (.none rfl) rfl rfl (p_xor rfl rfl rfl) ?_
      refine RX.pure (.none rfl) rfl rfl (p_move rfl) ?_
      refine RX.pure (.none rfl) rfl rfl (p_move rfl) ?_
      refine RX.pure (.none rfl) rfl rfl (p_and rfl rfl rfl) ?_
      refine RX.pure (.none rfl) rfl rfl (p_move rfl) ?_
      refine RX.pure (.none rfl) rfl rfl (p_move rfl) ?_
      refine RX.pure (.none rfl) rfl rfl (p_and rfl rfl rfl) ?_
      refine RX.pure (.none rfl) rfl rfl (p_xor rfl rfl rfl) ?_
      refine RX.pure (.none rfl) rfl rfl (p_move rfl) ?_
      refine RX.pure (.none rfl) rfl rfl (p_move rfl) ?_
      refine RX.pure (.none rfl) rfl rfl (p_and rfl rfl rfl) ?_
      refine RX.pure (.none rfl) rfl rfl (p_xor rfl rfl rfl) ?_
      (first | refine RX.pure (.none rfl) rfl rfl (p_add rfl rfl (wr_u32 (by omega) (by omega))) ?_ | refine RX.pure (.none rfl) rfl rfl (p_add rfl rfl rfl) ?_)
      refine RX.pure (.none rfl) rfl rfl (p_assign rfl) ?_
      refine RX.nil ?_
      refine WP.region ?_
      refine RX.pure (.none rfl) rfl rfl (p_move rfl) ?_
      refine RX.pure (.none rfl) rfl rfl (p_move rfl) ?_
      refine RX.pure (.none rfl) rfl rfl (p_move rfl) ?_
      refine RX.pure (.none rfl) rfl rfl (p_move rfl) ?_
      refine RX.pure (.none rfl) rfl rfl (p_move rfl) ?_
      (first | refine RX.pure (.none rfl) rfl rfl (p_add rfl rfl (wr_u32 (by omega) (by omega))) ?_ | refine RX.pure (.none rfl) rfl rfl (p_add rfl rfl rfl) ?_)
      refine RX.pure (.none rfl) rfl rfl (p_move rfl) ?_
      refine RX.pure (.none rfl) rfl rfl (p_move rfl) ?_
      refine RX.pure (.none rfl) rfl rfl (p_move rfl) ?_
      refine RX.pure (.none rfl) rfl rfl (p_move rfl) ?_
      refine RX.pure (.none rfl) rfl rfl (p_move rfl) ?_
      (first | refine RX.pure (.none rfl) rfl rfl (p_add rfl rfl (wr_u32 (by omega) (by omega))) ?_ | refine RX.pure (.none rfl) rfl rfl (p_add rfl rfl rfl) ?_)
      refine RX.pure (.none rfl) rfl rfl (p_assign rfl) ?_
      refine RX.pure (.none rfl) rfl rfl (p_assign rfl) ?_
      refine RX.pure (.none rfl) rfl rfl (p_assign rfl) ?_
      refine RX.pure (.none rfl) rfl rfl (p_assign rfl) ?_
      refine RX.pure (.none rfl) rfl rfl (p_assign rfl) ?_
      refine RX.pure (.none rfl) rfl rfl (p_assign rfl) ?_
      refine RX.pure (.none rfl) rfl rfl (p_assign rfl) ?_
      refine RX.pure (.none rfl) rfl rfl (p_assign rfl) ?_
      refine RX.nil ?_
      refine sq_normal ?_
      refine WP.region ?_
      (first | refine RX.pure (.none rfl) rfl rfl (p_add rfl rfl (wr_i64 (by omega) (by omega))) ?_ | refine RX.pure (.none rfl) rfl rfl (p_add rfl rfl rfl) ?_)
      refine RX.pure (.none rfl) rfl rfl (p_move rfl) ?_
      refine RX.nil ?_
      refine lq_normal (64 - (t + 1)) (by omega) ?_
      refine ⟨t + 1, rnd (K t) ((words bs 64).getD t 0) r, by omega, rfl, by rw [hrr]; rfl, ?_, rfl⟩
      repeat (first | exact Sub.nil | refine Sub.cons rfl ?_)
    · refine WP.sregion ?_
      refine RX.pure (.none rfl) rfl rfl (p_lss rfl rfl) ?_
      refine RX.say (t := 135) rfl (.bool false) (by rw [decide_eq_false]; omega) ?_
      refine RX.nil ?_
      refine WP.seq (WP.condF rfl ?_)
      refine WP.exit ?_
      repeat (first | refine sq_exit ?_ | refine bk_exit ?_ | refine lq_exit ?_ | refine cq_exit ?_ | refine bk_exit' rfl ?_)
      obtain rfl : t = 64 := by omega
      refine ⟨r, hrr, ?_, rfl⟩
      repeat (first | exact Sub.nil | refine Sub.cons rfl ?_)
  rintro ρ S ⟨r, hrr, hρ, rfl⟩
  refine WP.sub hρ ?_
  clear hρ
  refine WP.sregion ?_
  refine RX.pure (.none rfl) rfl rfl (p_move rfl) ?_
  refine RX.pure (.none rfl) rfl rfl (p_move rfl) ?_
  refine RX.pure (.none rfl) rfl rfl (p_move rfl) ?_
  refine RX.pure (.none rfl) rfl rfl (p_move rfl) ?_
  refine RX.pure (.none rfl) rfl rfl (p_move rfl) ?_
  refine RX.pure (.none rfl) rfl rfl (p_move rfl) ?_
  refine RX.pure (.none rfl) rfl rfl (p_move rfl) ?_
  refine RX.pure (.none rfl) rfl rfl (p_move rfl) ?_
  refine RX.pure (.none rfl) rfl rfl (p_buildA (cs := r.list.map u32) zr_147 ar_147 rfl (fill8 r)) ?_
  refine RX.pure (.none rfl) rfl rfl (p_move rfl) ?_
  refine RX.nil ?_
  refine WP.block ?_
  refine WP.loop (fun m ρ S => ∃ i : Nat, i ≤ 8 ∧ m = 8 - i ∧ Sub [(0, .pointer (some ⟨hb, 0, none⟩)), (205, .agg ⟨r.list.map u32⟩), (206, .int .i64 (i : Nat))] ρ ∧ S = [[(hb, row ((mixed8 hs r.list i).map u32) 147)], HB, [(n4, row (wcells (words bs 64)) 165)]]) 8 ?_ ?_
  · refine ⟨0, by omega, by omega, ?_, by rw [mixed8_zero hl]⟩
    repeat (first | exact Sub.nil | refine Sub.cons rfl ?_)
  rintro m ρ S ⟨i, hi, rfl, hρ, rfl⟩
  refine WP.sub hρ ?_
  clear hρ
  by_cases hlt : i < 8
  · have hv : (r.list.map u32).toArray[((i : Nat) : Int).toNat]? = some (u32 (r.list.getD i 0)) := by
      have hlt' : i < r.list.length := hlt
      rw [Int.toNat_natCast]
      simp [hlt']
    refine WP.sregion ?_
    refine RX.pure (.none rfl) rfl rfl (p_lss rfl rfl) ?_
    refine RX.say (t := 207) rfl (.bool true) (by rw [decide_eq_true]; omega) ?_
    refine RX.nil ?_
    refine WP.seq (WP.condT rfl (WP.skip ?_))
    refine sq_normal ?_
    refine WP.seq (WP.block ?_)
    refine WP.sregion ?_
    refine RX.pure (.none rfl) rfl rfl (p_move rfl) ?_
    refine RX.pure (.none rfl) rfl rfl (p_idxVal rfl rfl ar_147 (by omega) (by omega) na_146 hv) ?_
    refine RX.pure (.none rfl) rfl rfl (p_assign rfl) ?_
    refine RX.pure (.none rfl) rfl rfl (p_assign rfl) ?_
    refine RX.nil ?_
    refine WP.draw mixed (by kernel_rfl) ?_
    refine RX.pure (.none rfl) rfl rfl (p_move rfl) ?_
    refine RX.pure (.none rfl) rfl rfl (p_move rfl) ?_
    refine RX.pure (.none rfl) rfl rfl (p_nilCheck rfl) ?_
    refine RX.pure (.none rfl) rfl rfl (p_idxArr0 rfl rfl ar_147 (by omega) (by omega)) ?_
    refine RX.ld 0 (.none rfl) rfl rfl na_146 rfl (mixed8_get hs r.list hlt) ?_
    refine RX.pure (.none rfl) rfl rfl (p_move rfl) ?_
    (first | refine RX.pure (.none rfl) rfl rfl (p_add rfl rfl (wr_u32 (by omega) (by omega))) ?_ | refine RX.pure (.none rfl) rfl rfl (p_add rfl rfl rfl) ?_)
    refine RX.pure (.none rfl) rfl rfl (p_nilCheck rfl) ?_
    refine RX.pure (.none rfl) rfl rfl (p_idxArr0 rfl rfl ar_147 (by omega) (by omega)) ?_
    refine RX.st 0 (.none rfl) rfl rfl sz_146 rfl rfl (by simp [mixed8]; omega) _ (mixed8_set hs r.list hlt) ?_
    refine RX.nil ?_
    refine sq_normal ?_
    refine WP.region ?_
    (first | refine RX.pure (.none rfl) rfl rfl (p_add rfl rfl (wr_i64 (by omega) (by omega))) ?_ | refine RX.pure (.none rfl) rfl rfl (p_add rfl rfl rfl) ?_)
    refine RX.pure (.none rfl) rfl rfl (p_move rfl) ?_
    refine RX.nil ?_
    refine lq_normal (8 - (i + 1)) (by omega) ?_
    refine ⟨i + 1, by omega, rfl, ?_, rfl⟩
    repeat (first | exact Sub.nil | refine Sub.cons rfl ?_)
  · refine WP.sregion ?_
    refine RX.pure (.none rfl) rfl rfl (p_lss rfl rfl) ?_
    refine RX.say (t := 207) rfl (.bool false) (by rw [decide_eq_false]; omega) ?_
    refine RX.nil ?_
    refine WP.seq (WP.condF rfl ?_)
    refine WP.exit ?_
    repeat (first | refine sq_exit ?_ | refine bk_exit ?_ | refine lq_exit ?_ | refine cq_exit ?_ | refine bk_exit' rfl ?_)
    obtain rfl : i = 8 := by omega
    exact fin0' 2 rfl rfl (by rw [blockF, ← hrr]; rfl)
end
end Go.Proofs.YtigjnfmbellpjaaDoor.Sha
