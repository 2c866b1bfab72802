/- sha: Write, walked. -/
import Derived.Test.YtigjnfmbellpjaaDoorSHA3
set_option maxRecDepth 100000
namespace Go.Proofs.YtigjnfmbellpjaaDoor.Sha
open Go Go.EL
/-- bytes that one was handed: none, or a stretch of a row -/
def BAt (bs : List Int) (v : Value) (HB : Hp) : Prop := ∃ b o cap cs T fr, v = .slice (some ⟨b, o, none⟩) bs.length cap ∧ HB = [(b, .cells ⟨cs⟩ T fr)] ∧ bs.length ≤ cap ∧ cap ≤ maxLen ∧ (cs.drop o).take bs.length = bs.map u8
theorem BAt.rd {w0 : World} {bs : List Int} {v : Value} {HB : Hp} (h : BAt bs v HB) {S : HS} {i : Nat} (hi : S[i]? = some HB) : RdS w0 S (fun x => [u8 x]) bs v := by
  obtain ⟨b, o, cap, cs, T, fr, rfl, rfl, _, _, hc⟩ := h
  refine .inr ⟨_, cap, rfl, RdN.own i hi ?_⟩
  rw [flat_one, List.length_map]
  exact hc
theorem BAt.take {bs : List Int} {b o cap : Nat} {HB : Hp} (h : BAt bs (.slice (some ⟨b, o, none⟩) bs.length cap) HB) (k : Nat) (hk : k ≤ bs.length) : BAt (bs.take k) (.slice (some ⟨b, o, none⟩) k cap) HB := by
  obtain ⟨b', o', c', cs, T, fr, hv, rfl, h1, h2, hc⟩ := h
  injection hv with e1 _ e3
  injection e1 with e1
  injection e1 with e1 e2
  subst e1; subst e2; subst e3
  refine ⟨b, o, cap, cs, T, fr, by rw [List.length_take, Nat.min_eq_left hk], rfl, by rw [List.length_take]; omega, h2, ?_⟩
  rw [List.length_take, Nat.min_eq_left hk, List.map_take, ← hc, List.take_take, Nat.min_eq_left hk]
theorem BAt.drop {bs : List Int} {b o cap : Nat} {HB : Hp} (h : BAt bs (.slice (some ⟨b, o, none⟩) bs.length cap) HB) (k : Nat) (hk : k ≤ bs.length) : BAt (bs.drop k) (.slice (some ⟨b, o + k, none⟩) (bs.length - k) (cap - k)) HB := by
  obtain ⟨b', o', c', cs, T, fr, hv, rfl, h1, h2, hc⟩ := h
  injection hv with e1 _ e3
  injection e1 with e1
  injection e1 with e1 e2
  subst e1; subst e2; subst e3
  refine ⟨b, o + k, cap - k, cs, T, fr, by rw [List.length_drop], rfl, by rw [List.length_drop]; omega, by omega, ?_⟩
  rw [List.length_drop, List.map_drop, ← hc, List.drop_take, List.drop_drop]
theorem BAt.drop' {bs : List Int} {b o cap : Nat} {HB : Hp} (h : BAt bs (.slice (some ⟨b, o, none⟩) bs.length cap) HB) (k : Nat) (hk : k ≤ bs.length) :
    ∃ o', (if cap = k then (⟨b, o, none⟩ : Addr) else ⟨b, o + k * 1, none⟩) = ⟨b, o', none⟩ ∧ BAt (bs.drop k) (.slice (some ⟨b, o', none⟩) (bs.length - k) (cap - k)) HB := by
  by_cases hc : cap = k
  · refine ⟨o, by rw [if_pos hc], ?_⟩
    obtain ⟨b', o', c', cs, T, fr, hv, rfl, h1, h2, hcs⟩ := h
    injection hv with e1 _ e3
    injection e1 with e1
    injection e1 with e1 e2
    subst e1; subst e2; subst e3
    have e : bs.length = k := by omega
    exact ⟨b, o, cap - k, cs, T, fr, by rw [List.length_drop], rfl, by rw [List.length_drop]; omega, by omega, by rw [List.drop_of_length_le (by omega)]; simp⟩
  · exact ⟨o + k * 1, by rw [if_neg hc], by rw [Nat.mul_one]; exact h.drop k hk⟩
theorem perm_dh (a b c : Nat × Obj) (HB : Hp) : (a :: b :: c :: HB).Perm (c :: a :: b :: HB) := ((List.Perm.swap c b HB).cons a).trans (List.Perm.swap c a _)
theorem perm_dh2 (a c : Nat × Obj) (HB Hr : Hp) : (a :: (HB ++ c :: Hr)).Perm (c :: a :: (Hr ++ HB)) := by
  have h1 : (HB ++ c :: Hr).Perm (c :: (HB ++ Hr)) := List.perm_middle
  exact ((h1.trans (List.perm_append_comm.cons c)).cons a).trans (List.Perm.swap c a _)
section
variable {w0 : World}
set_option maxHeartbeats 1000000 in
theorem write_tri (K : Nat → Int) (hK : ∀ t, t < 64 → w0.cell? ⟨18, t, none⟩ = some (u32 (K t))) (hs rest bs : List Int) (n : Int) (d : Nat) (H HB : Hp) (v : Value) (hD : DAt hs rest n d H) (hrl : rest.length < 64) (hB : BAt bs v HB) (hbig : bs.length ≤ maxLen) :
    Tri Tryd.prog w0 67 #[.pointer (some ⟨d, 0, none⟩), v] [H, HB] (fun _ S' => ∃ H', S' = [H', HB] ∧ DAt (absorb K hs (rest ++ bs)).1 (absorb K hs (rest ++ bs)).2 (IntKind.wrap .u64 (n + (bs.length : Nat))) d H') := by
  have hbig : bs.length ≤ 9223372036854775807 := by simpa [maxLen] using hbig
  obtain ⟨h, vr, Hr, rfl, hV, hl⟩ := hD
  obtain ⟨p, cp, rfl⟩ := hV.slice
  obtain ⟨b0, o0, cap0, cs0, T0, fr0, rfl, rfl, hc1, hc2, hcs⟩ := hB
  have hB : BAt bs (.slice (some ⟨b0, o0, none⟩) bs.length cap0) [(b0, .cells ⟨cs0⟩ T0 fr0)] := ⟨_, _, _, _, _, _, rfl, rfl, hc1, hc2, hcs⟩
  generalize [(b0, Obj.cells ⟨cs0⟩ T0 fr0)] = HB at hB ⊢
  clear hcs
  refine Tri.pre (T := [[(d, row [.pointer (some ⟨h, 0, none⟩), .slice p rest.length cp, .int .u64 n] 149)], [(h, row (hs.map u32) 147)], Hr, HB]) ?_ ?_
  rotate_left
  · simp
  refine Tri.out (R := fun _ S' => ∃ hs' rest' vr' Hr', absorb K hs (rest ++ bs) = (hs', rest') ∧ Vec 5 1 (fun x => [u8 x]) rest' vr' Hr' ∧ hs'.length = 8 ∧ S' = [[(d, row [.pointer (some ⟨h, 0, none⟩), vr', .int .u64 (IntKind.wrap .u64 (n + (bs.length : Nat)))] 149)], [(h, row ((hs').map u32) 147)], Hr', HB]) ?_ ?_
  rotate_left
  · rintro _ S ⟨hs', rest', vr', Hr', e, hv, hl', rfl⟩
    refine ⟨_, ⟨_, rfl, h, vr', Hr', rfl, by rw [e]; exact hv, by rw [e]; exact hl'⟩, ?_⟩
    rw [e]
    simp
  refine Tri.mk Tryd.func67 rfl rfl rfl ?_
  refine WP.seq (WP.sregion ?_)
  refine RX.pure (.none rfl) rfl rfl (p_move rfl) ?_
  refine RX.pure (.none rfl) rfl rfl (p_eqNilPtr rfl rfl Tryd.underlying130) ?_
  refine RX.pure (.none rfl) rfl rfl (p_move rfl) ?_
  (first | refine RX.skip (.no rfl rfl rfl rfl) rfl rfl ?_ | refine RX.pure (.yes rfl rfl rfl) rfl rfl (p_move rfl) ?_)
  (first | refine RX.skip (.no rfl rfl rfl rfl) rfl rfl ?_ | refine RX.pure (.yes rfl rfl rfl) rfl rfl (p_nilCheck rfl) ?_)
  (first | refine RX.skip (.no rfl rfl rfl rfl) rfl rfl ?_ | refine RX.pure (.yes rfl rfl rfl) rfl rfl (p_fieldAddr rfl fa_149_0) ?_)
  (first | refine RX.skip (.no rfl rfl rfl rfl) rfl rfl ?_ | refine RX.ld 0 (.yes rfl rfl rfl) rfl rfl na_145 rfl rfl ?_ | refine RX.ld 1 (.yes rfl rfl rfl) rfl rfl na_145 rfl rfl ?_ | refine RX.ld 2 (.yes rfl rfl rfl) rfl rfl na_145 rfl rfl ?_ | refine RX.ld 3 (.yes rfl rfl rfl) rfl rfl na_145 rfl rfl ?_ | refine RX.ld 4 (.yes rfl rfl rfl) rfl rfl na_145 rfl rfl ?_ | refine RX.ld 5 (.yes rfl rfl rfl) rfl rfl na_145 rfl rfl ?_)
  (first | refine RX.skip (.no rfl rfl rfl rfl) rfl rfl ?_ | refine RX.pure (.yes rfl rfl rfl) rfl rfl (p_eqNilPtr rfl rfl Tryd.underlying145) ?_)
  (first | refine RX.pure (.none rfl) rfl rfl (p_pickT rfl rfl) ?_ | refine RX.pure (.none rfl) rfl rfl (p_pickF rfl rfl) ?_)
  refine RX.nil ?_
  refine WP.condF rfl (WP.skip ?_)
  refine WP.sregion ?_
  refine RX.pure (.none rfl) rfl rfl (p_move rfl) ?_
  refine RX.pure (.none rfl) rfl rfl (p_nilCheck rfl) ?_
  refine RX.pure (.none rfl) rfl rfl (p_fieldAddr rfl fa_149_2) ?_
  (first | refine RX.ld 0 (.none rfl) rfl rfl na_23 rfl rfl ?_ | refine RX.ld 1 (.none rfl) rfl rfl na_23 rfl rfl ?_ | refine RX.ld 2 (.none rfl) rfl rfl na_23 rfl rfl ?_ | refine RX.ld 3 (.none rfl) rfl rfl na_23 rfl rfl ?_ | refine RX.ld 4 (.none rfl) rfl rfl na_23 rfl rfl ?_ | refine RX.ld 5 (.none rfl) rfl rfl na_23 rfl rfl ?_)
  refine RX.pure (.none rfl) rfl rfl (p_move rfl) ?_
  refine RX.pure (.none rfl) rfl rfl (p_lenSlice rfl Tryd.underlying133) ?_
  (first | refine RX.pure (.none rfl) rfl rfl (p_convInt rfl Tryd.underlying3 Tryd.underlying23 (wr_u64 (by omega) (by omega))) ?_ | refine RX.pure (.none rfl) rfl rfl (p_convInt rfl Tryd.underlying3 Tryd.underlying23 rfl) ?_)
  (first | refine RX.pure (.none rfl) rfl rfl (p_add rfl rfl (wr_u64 (by omega) (by omega))) ?_ | refine RX.pure (.none rfl) rfl rfl (p_add rfl rfl rfl) ?_)
  refine RX.pure (.none rfl) rfl rfl (p_nilCheck rfl) ?_
  refine RX.pure (.none rfl) rfl rfl (p_fieldAddr rfl fa_149_2) ?_
  (first | refine RX.st 0 (.none rfl) rfl rfl sz_23 rfl rfl rfl _ rfl ?_ | refine RX.st 1 (.none rfl) rfl rfl sz_23 rfl rfl rfl _ rfl ?_ | refine RX.st 2 (.none rfl) rfl rfl sz_23 rfl rfl rfl _ rfl ?_ | refine RX.st 3 (.none rfl) rfl rfl sz_23 rfl rfl rfl _ rfl ?_ | refine RX.st 4 (.none rfl) rfl rfl sz_23 rfl rfl rfl _ rfl ?_ | refine RX.st 5 (.none rfl) rfl rfl sz_23 rfl rfl rfl _ rfl ?_)
  refine RX.nil ?_
  refine WP.heap [[(d, row [.pointer (some ⟨h, 0, none⟩), .slice p rest.length cp, .int .u64 (IntKind.wrap .u64 (n + (bs.length : Nat)))] 149)], [(h, row ((hs).map u32) 147)], Hr, HB] rfl ?_
  generalize hn' : IntKind.wrap .u64 (n + (bs.length : Nat)) = n'
  simp only [maxLen] at hc2
  refine WP.cut (fun ρ S => ∃ hsx bsx vx vr' Hr', absorb K hs (rest ++ bs) = absorb K hsx bsx ∧ hsx.length = 8 ∧ BAt bsx vx HB ∧ bsx.length ≤ 9223372036854775807 ∧ Vec 5 1 (fun x => [u8 x]) [] vr' Hr' ∧ Sub [(0, .pointer (some ⟨d, 0, none⟩)), (1, vx)] ρ ∧ S = [[(d, row [.pointer (some ⟨h, 0, none⟩), vr', .int .u64 n'] 149)], [(h, row ((hsx).map u32) 147)], Hr', HB]) ?_ ?_
  · refine WP.sregion ?_
    refine RX.pure (.none rfl) rfl rfl (p_move rfl) ?_
    refine RX.pure (.none rfl) rfl rfl (p_nilCheck rfl) ?_
    refine RX.pure (.none rfl) rfl rfl (p_fieldAddr rfl fa_149_1) ?_
    (first | refine RX.ld 0 (.none rfl) rfl rfl na_133 rfl rfl ?_ | refine RX.ld 1 (.none rfl) rfl rfl na_133 rfl rfl ?_ | refine RX.ld 2 (.none rfl) rfl rfl na_133 rfl rfl ?_ | refine RX.ld 3 (.none rfl) rfl rfl na_133 rfl rfl ?_ | refine RX.ld 4 (.none rfl) rfl rfl na_133 rfl rfl ?_ | refine RX.ld 5 (.none rfl) rfl rfl na_133 rfl rfl ?_)
    refine RX.pure (.none rfl) rfl rfl (p_lenSlice rfl Tryd.underlying133) ?_
    refine RX.pure (.none rfl) rfl rfl (p_gtr rfl rfl) ?_
    refine RX.nil ?_
    refine WP.cond rfl (fun hb => ?_) (fun hb => WP.skip ?_)
    · have hpos : 0 < (rest.length : Int) := of_dec hb
      obtain ⟨k, hk⟩ : ∃ k, k = min (64 - rest.length) bs.length := ⟨_, rfl⟩
      have hmin : (if (bs.length : Int) < (64 - (rest.length : Int)) then (bs.length : Int) else (64 - (rest.length : Int))) = (k : Nat) := by split <;> omega
      obtain ⟨o', ho', hB'⟩ := hB.drop' k (by omega)
      have hBt := hB.take k (by omega)
      refine WP.sregion ?_
      refine RX.pure (.none rfl) rfl rfl (p_move rfl) ?_
      refine RX.pure (.none rfl) rfl rfl (p_nilCheck rfl) ?_
      refine RX.pure (.none rfl) rfl rfl (p_fieldAddr rfl fa_149_1) ?_
      (first | refine RX.ld 0 (.none rfl) rfl rfl na_133 rfl rfl ?_ | refine RX.ld 1 (.none rfl) rfl rfl na_133 rfl rfl ?_ | refine RX.ld 2 (.none rfl) rfl rfl na_133 rfl rfl ?_ | refine RX.ld 3 (.none rfl) rfl rfl na_133 rfl rfl ?_ | refine RX.ld 4 (.none rfl) rfl rfl na_133 rfl rfl ?_ | refine RX.ld 5 (.none rfl) rfl rfl na_133 rfl rfl ?_)
      refine RX.pure (.none rfl) rfl rfl (p_lenSlice rfl Tryd.underlying133) ?_
      (first | refine RX.pure (.none rfl) rfl rfl (p_sub rfl rfl (wr_i64 (by omega) (by omega))) ?_ | refine RX.pure (.none rfl) rfl rfl (p_sub rfl rfl rfl) ?_)
      refine RX.pure (.none rfl) rfl rfl (p_move rfl) ?_
      refine RX.pure (.none rfl) rfl rfl (p_lenSlice rfl Tryd.underlying133) ?_
      refine RX.pure (.none rfl) rfl rfl (p_min2 rfl rfl) ?_
      refine RX.say (t := 38) rfl (.int .i64 (k : Nat)) (by rw [← hmin]) ?_
      refine RX.pure (.none rfl) rfl rfl (p_assign rfl) ?_
      refine RX.nil ?_
      refine WP.sdraw mixed (by kernel_rfl) ?_
      refine RX.pure (.none rfl) rfl rfl (p_move rfl) ?_
      refine RX.pure (.none rfl) rfl rfl (p_move rfl) ?_
      refine RX.pure (.none rfl) rfl rfl (p_nilCheck rfl) ?_
      refine RX.pure (.none rfl) rfl rfl (p_fieldAddr rfl fa_149_1) ?_
      (first | refine RX.ld 0 (.none rfl) rfl rfl na_133 rfl rfl ?_ | refine RX.ld 1 (.none rfl) rfl rfl na_133 rfl rfl ?_ | refine RX.ld 2 (.none rfl) rfl rfl na_133 rfl rfl ?_ | refine RX.ld 3 (.none rfl) rfl rfl na_133 rfl rfl ?_ | refine RX.ld 4 (.none rfl) rfl rfl na_133 rfl rfl ?_ | refine RX.ld 5 (.none rfl) rfl rfl na_133 rfl rfl ?_)
      refine RX.pure (.none rfl) rfl rfl (p_move rfl) ?_
      refine RX.pure (.none rfl) rfl rfl (p_move rfl) ?_
      refine RX.pure (.none rfl) rfl rfl (p_sliceTo rfl sl_133 rfl (by omega) (by omega)) ?_
      refine RX.eff (.none rfl) rfl rfl rfl (e_append (enc := fun x => [u8 x]) (ys := bs.take k) 2 rfl rfl sl_133 zr_5 rfl (by decide) by_5 (fun _ _ => rfl) (fun _ _ => rfl) (fun _ _ => rfl) hV rfl (hBt.rd (i := 3) rfl) (by rw [List.length_take]; omega) (by rw [List.length_take]; simp only [maxLen]; omega)) ?_
      rintro _ _ ⟨Hr1, hV1, rfl⟩; obtain ⟨p1, cp1, rfl⟩ := hV1.slice
      refine RX.pure (.none rfl) rfl rfl (p_nilCheck rfl) ?_
      refine RX.pure (.none rfl) rfl rfl (p_fieldAddr rfl fa_149_1) ?_
      (first | refine RX.st 0 (.none rfl) rfl rfl sz_133 rfl rfl rfl _ rfl ?_ | refine RX.st 1 (.none rfl) rfl rfl sz_133 rfl rfl rfl _ rfl ?_ | refine RX.st 2 (.none rfl) rfl rfl sz_133 rfl rfl rfl _ rfl ?_ | refine RX.st 3 (.none rfl) rfl rfl sz_133 rfl rfl rfl _ rfl ?_ | refine RX.st 4 (.none rfl) rfl rfl sz_133 rfl rfl rfl _ rfl ?_ | refine RX.st 5 (.none rfl) rfl rfl sz_133 rfl rfl rfl _ rfl ?_)
      refine RX.nil ?_
      refine WP.sregion ?_
      refine RX.pure (.none rfl) rfl rfl (p_move rfl) ?_
      refine RX.pure (.none rfl) rfl rfl (p_move rfl) ?_
      refine RX.pure (.none rfl) rfl rfl (p_sliceFrom rfl sl_133 rfl (by omega) (by omega) hc1) ?_
      refine RX.say (t := 52) rfl (.slice (some ⟨b0, o', none⟩) (bs.length - k) (cap0 - k)) (by simp only [Int.toNat_natCast]; rw [ho']) ?_
      refine RX.pure (.none rfl) rfl rfl (p_assign rfl) ?_
      refine RX.nil ?_
      have htl : (bs.take k).length = k := by rw [List.length_take]; omega
      by_cases hful : rest.length + k < 64
      · have hkb : bs.take k = bs := List.take_of_length_le (by omega)
        refine WP.seq (WP.sregion ?_)
        refine RX.pure (.none rfl) rfl rfl (p_move rfl) ?_
        refine RX.pure (.none rfl) rfl rfl (p_nilCheck rfl) ?_
        refine RX.pure (.none rfl) rfl rfl (p_fieldAddr rfl fa_149_1) ?_
        (first | refine RX.ld 0 (.none rfl) rfl rfl na_133 rfl rfl ?_ | refine RX.ld 1 (.none rfl) rfl rfl na_133 rfl rfl ?_ | refine RX.ld 2 (.none rfl) rfl rfl na_133 rfl rfl ?_ | refine RX.ld 3 (.none rfl) rfl rfl na_133 rfl rfl ?_ | refine RX.ld 4 (.none rfl) rfl rfl na_133 rfl rfl ?_ | refine RX.ld 5 (.none rfl) rfl rfl na_133 rfl rfl ?_)
        refine RX.pure (.none rfl) rfl rfl (p_lenSlice rfl Tryd.underlying133) ?_
        refine RX.pure (.none rfl) rfl rfl (p_lss rfl rfl) ?_
        refine RX.say (t := 58) rfl (.bool true) (by rw [decide_eq_true]; rw [List.length_append, htl]; omega) ?_
        refine RX.nil ?_
        refine WP.condT rfl ?_
        refine WP.ret ?_
        repeat (first | refine sq_ret ?_ | refine bk_ret ?_ | refine lq_ret ?_ | refine cq_ret ?_)
        exact fin0' 4 rfl rfl ⟨hs, rest ++ bs, _, Hr1, absorb_done K hs _ (by rw [List.length_append]; omega), by rw [hkb] at hV1; exact hV1, hl, by rw [hkb]; rfl⟩
      · have hlen : (rest ++ bs.take k).length = 64 := by rw [List.length_append, htl]; omega
        refine WP.seq (WP.sregion ?_)
        refine RX.pure (.none rfl) rfl rfl (p_move rfl) ?_
        refine RX.pure (.none rfl) rfl rfl (p_nilCheck rfl) ?_
        refine RX.pure (.none rfl) rfl rfl (p_fieldAddr rfl fa_149_1) ?_
        (first | refine RX.ld 0 (.none rfl) rfl rfl na_133 rfl rfl ?_ | refine RX.ld 1 (.none rfl) rfl rfl na_133 rfl rfl ?_ | refine RX.ld 2 (.none rfl) rfl rfl na_133 rfl rfl ?_ | refine RX.ld 3 (.none rfl) rfl rfl na_133 rfl rfl ?_ | refine RX.ld 4 (.none rfl) rfl rfl na_133 rfl rfl ?_ | refine RX.ld 5 (.none rfl) rfl rfl na_133 rfl rfl ?_)
        refine RX.pure (.none rfl) rfl rfl (p_lenSlice rfl Tryd.underlying133) ?_
        refine RX.pure (.none rfl) rfl rfl (p_lss rfl rfl) ?_
        refine RX.say (t := 58) rfl (.bool false) (by rw [decide_eq_false]; omega) ?_
        refine RX.nil ?_
        refine WP.condF rfl (WP.skip ?_)
        refine WP.sdraw mixed (by kernel_rfl) ?_
        refine RX.pure (.none rfl) rfl rfl (p_move rfl) ?_
        refine RX.pure (.none rfl) rfl rfl (p_nilCheck rfl) ?_
        refine RX.pure (.none rfl) rfl rfl (p_fieldAddr rfl fa_149_0) ?_
        (first | refine RX.ld 0 (.none rfl) rfl rfl na_145 rfl rfl ?_ | refine RX.ld 1 (.none rfl) rfl rfl na_145 rfl rfl ?_ | refine RX.ld 2 (.none rfl) rfl rfl na_145 rfl rfl ?_ | refine RX.ld 3 (.none rfl) rfl rfl na_145 rfl rfl ?_ | refine RX.ld 4 (.none rfl) rfl rfl na_145 rfl rfl ?_ | refine RX.ld 5 (.none rfl) rfl rfl na_145 rfl rfl ?_)
        refine RX.pure (.none rfl) rfl rfl (p_move rfl) ?_
        refine RX.pure (.none rfl) rfl rfl (p_nilCheck rfl) ?_
        refine RX.pure (.none rfl) rfl rfl (p_fieldAddr rfl fa_149_1) ?_
        (first | refine RX.ld 0 (.none rfl) rfl rfl na_133 rfl rfl ?_ | refine RX.ld 1 (.none rfl) rfl rfl na_133 rfl rfl ?_ | refine RX.ld 2 (.none rfl) rfl rfl na_133 rfl rfl ?_ | refine RX.ld 3 (.none rfl) rfl rfl na_133 rfl rfl ?_ | refine RX.ld 4 (.none rfl) rfl rfl na_133 rfl rfl ?_ | refine RX.ld 5 (.none rfl) rfl rfl na_133 rfl rfl ?_)
        refine RX.eff (.none rfl) rfl rfl rfl (e_call [1, 2] rfl call_74 rfl rfl (block_tri K hK h hs (rest ++ bs.take k) _ Hr1 hl hlen (fun A C => hV1.rd (i := 1) rfl))) ?_
        rintro _ _ ⟨_, rfl, rfl⟩
        refine RX.nil ?_
        have habs : absorb K hs (rest ++ bs) = absorb K (blockF K hs (rest ++ bs.take k)) (bs.drop k) := by
          have e : rest ++ bs = (rest ++ bs.take k) ++ bs.drop k := by rw [List.append_assoc, List.take_append_drop]
          rw [e, absorb_step K hs _ (by rw [List.length_append]; omega), List.take_left' hlen, List.drop_left' hlen]
        rcases hV1 with ⟨_, hnil, _⟩ | ⟨b1, c1, sp1, hs1, rfl, hv1, hv2, hv3⟩
        · rw [hnil] at hlen; simp at hlen
        obtain ⟨rfl, rfl⟩ : p1 = some ⟨b1, 0, none⟩ ∧ cp1 = c1 := by simpa using hs1
        have hcells : ((rest ++ bs.take k).flatMap (fun x => [u8 x]) ++ sp1).length = cp1 := by rw [List.length_append, flat_one, List.length_map, hv3]; omega
        refine WP.heap [[(h, row ((blockF K hs (rest ++ bs.take k)).map u32) 147)], [(b1, row ((rest ++ bs.take k).flatMap (fun x => [u8 x]) ++ sp1) 5)], [(d, row [.pointer (some ⟨h, 0, none⟩), .slice (some ⟨b1, 0, none⟩) (rest ++ bs.take k).length cp1, .int .u64 n'] 149)], HB] rfl ?_
        refine WP.perm (T := [[(d, row [.pointer (some ⟨h, 0, none⟩), .slice (some ⟨b1, 0, none⟩) (rest ++ bs.take k).length cp1, .int .u64 n'] 149)], [(h, row ((blockF K hs (rest ++ bs.take k)).map u32) 147)], [(b1, row ((rest ++ bs.take k).flatMap (fun x => [u8 x]) ++ sp1) 5)], HB]) ?_ ?_
        · simp only [List.flatten_cons, List.flatten_nil, List.append_nil, List.singleton_append, List.cons_append, List.nil_append]
          exact perm_dh _ _ _ _
        refine WP.region ?_
        refine RX.pure (.none rfl) rfl rfl (p_move rfl) ?_
        refine RX.pure (.none rfl) rfl rfl (p_move rfl) ?_
        refine RX.pure (.none rfl) rfl rfl (p_nilCheck rfl) ?_
        refine RX.pure (.none rfl) rfl rfl (p_fieldAddr rfl fa_149_1) ?_
        (first | refine RX.ld 0 (.none rfl) rfl rfl na_133 rfl rfl ?_ | refine RX.ld 1 (.none rfl) rfl rfl na_133 rfl rfl ?_ | refine RX.ld 2 (.none rfl) rfl rfl na_133 rfl rfl ?_ | refine RX.ld 3 (.none rfl) rfl rfl na_133 rfl rfl ?_ | refine RX.ld 4 (.none rfl) rfl rfl na_133 rfl rfl ?_ | refine RX.ld 5 (.none rfl) rfl rfl na_133 rfl rfl ?_)
        refine RX.pure (.none rfl) rfl rfl (p_sliceTo rfl sl_133 rfl (by omega) (by omega)) ?_
        refine RX.pure (.none rfl) rfl rfl (p_nilCheck rfl) ?_
        refine RX.pure (.none rfl) rfl rfl (p_fieldAddr rfl fa_149_1) ?_
        (first | refine RX.st 0 (.none rfl) rfl rfl sz_133 rfl rfl rfl _ rfl ?_ | refine RX.st 1 (.none rfl) rfl rfl sz_133 rfl rfl rfl _ rfl ?_ | refine RX.st 2 (.none rfl) rfl rfl sz_133 rfl rfl rfl _ rfl ?_ | refine RX.st 3 (.none rfl) rfl rfl sz_133 rfl rfl rfl _ rfl ?_ | refine RX.st 4 (.none rfl) rfl rfl sz_133 rfl rfl rfl _ rfl ?_ | refine RX.st 5 (.none rfl) rfl rfl sz_133 rfl rfl rfl _ rfl ?_)
        refine RX.nil ?_
        refine ⟨_, bs.drop k, _, _, _, habs, blockF_len K _ _, hB', by rw [List.length_drop]; omega, .inr ⟨b1, cp1, _, rfl, rfl, Nat.zero_le _, hv2, hcells.trans (by simp)⟩, ?_, rfl⟩
        repeat (first | exact Sub.nil | refine Sub.cons rfl ?_)
    · have h0 : rest = [] := List.eq_nil_of_length_eq_zero (by have := of_ndec hb; omega)
      subst h0
      refine ⟨hs, bs, _, _, Hr, rfl, hl, hB, hbig, hV, ?_, rfl⟩
      repeat (first | exact Sub.nil | refine Sub.cons rfl ?_)
  rintro ρ S ⟨hsx, bsx, vx, vr', Hr', habs, hlx, hBx, hbx, hVx, hρ, rfl⟩
  refine WP.sub hρ ?_
  clear hρ
  obtain ⟨b1, o1, c1, cs1, T1, f1, rfl, -, hc3, hc4, -⟩ := id hBx
  refine WP.cut (fun ρ S => ∃ hsx bsx b1 o1 c1, absorb K hs (rest ++ bs) = absorb K hsx bsx ∧ bsx.length < 64 ∧ hsx.length = 8 ∧ BAt bsx (.slice (some ⟨b1, o1, none⟩) bsx.length c1) HB ∧ Sub [(0, .pointer (some ⟨d, 0, none⟩)), (1, .slice (some ⟨b1, o1, none⟩) bsx.length c1)] ρ ∧ S = [[(d, row [.pointer (some ⟨h, 0, none⟩), vr', .int .u64 n'] 149)], [(h, row ((hsx).map u32) 147)], Hr', HB]) ?_ ?_
  · refine WP.block ?_
    refine WP.loop (fun m ρ S => ∃ hsx bsx b1 o1 c1, m = bsx.length ∧ absorb K hs (rest ++ bs) = absorb K hsx bsx ∧ hsx.length = 8 ∧ bsx.length ≤ 9223372036854775807 ∧ BAt bsx (.slice (some ⟨b1, o1, none⟩) bsx.length c1) HB ∧ bsx.length ≤ c1 ∧ c1 ≤ maxLen ∧ Sub [(0, .pointer (some ⟨d, 0, none⟩)), (1, .slice (some ⟨b1, o1, none⟩) bsx.length c1)] ρ ∧ S = [[(d, row [.pointer (some ⟨h, 0, none⟩), vr', .int .u64 n'] 149)], [(h, row ((hsx).map u32) 147)], Hr', HB]) bsx.length ?_ ?_
    · refine ⟨hsx, bsx, b1, o1, c1, rfl, habs, hlx, hbx, hBx, hc3, hc4, ?_, rfl⟩
      repeat (first | exact Sub.nil | refine Sub.cons rfl ?_)
    clear hBx hc3 hc4 hbx habs hlx
    rintro m ρ S ⟨hsx, bsx, b1, o1, c1, rfl, habs, hlx, hbx, hBx, hc3, hc4, hρ, rfl⟩
    refine WP.sub hρ ?_
    clear hρ
    simp only [maxLen] at hc4
    by_cases h64 : 64 ≤ bsx.length
    · obtain ⟨o', ho', hB'⟩ := hBx.drop' 64 h64
      refine WP.seq (WP.sregion ?_)
      refine RX.pure (.none rfl) rfl rfl (p_move rfl) ?_
      refine RX.pure (.none rfl) rfl rfl (p_lenSlice rfl Tryd.underlying133) ?_
      refine RX.pure (.none rfl) rfl rfl (p_geq rfl rfl) ?_
      refine RX.say (t := 78) rfl (.bool true) (by rw [decide_eq_true]; omega) ?_
      refine RX.nil ?_
      refine WP.condT rfl (WP.skip ?_)
      refine WP.block ?_
      refine WP.sdraw mixed (by kernel_rfl) ?_
      refine RX.pure (.none rfl) rfl rfl (p_move rfl) ?_
      refine RX.pure (.none rfl) rfl rfl (p_nilCheck rfl) ?_
      refine RX.pure (.none rfl) rfl rfl (p_fieldAddr rfl fa_149_0) ?_
      (first | refine RX.ld 0 (.none rfl) rfl rfl na_145 rfl rfl ?_ | refine RX.ld 1 (.none rfl) rfl rfl na_145 rfl rfl ?_ | refine RX.ld 2 (.none rfl) rfl rfl na_145 rfl rfl ?_ | refine RX.ld 3 (.none rfl) rfl rfl na_145 rfl rfl ?_ | refine RX.ld 4 (.none rfl) rfl rfl na_145 rfl rfl ?_ | refine RX.ld 5 (.none rfl) rfl rfl na_145 rfl rfl ?_)
      refine RX.pure (.none rfl) rfl rfl (p_move rfl) ?_
      refine RX.pure (.none rfl) rfl rfl (p_sliceTo rfl sl_133 rfl (by omega) (by omega)) ?_
      refine RX.eff (.none rfl) rfl rfl rfl (e_call [1, 3] rfl call_74 rfl rfl (block_tri K hK h hsx (bsx.take 64) _ HB hlx (by rw [List.length_take]; omega) (fun A C => (hBx.take 64 h64).rd (i := 1) rfl))) ?_
      rintro _ _ ⟨_, rfl, rfl⟩
      refine RX.nil ?_
      refine WP.heap [[(h, row ((blockF K hsx (bsx.take 64)).map u32) 147)], HB, [(d, row [.pointer (some ⟨h, 0, none⟩), vr', .int .u64 n'] 149)], Hr'] rfl ?_
      refine WP.perm (T := [[(d, row [.pointer (some ⟨h, 0, none⟩), vr', .int .u64 n'] 149)], [(h, row ((blockF K hsx (bsx.take 64)).map u32) 147)], Hr', HB]) ?_ ?_
      · simp only [List.flatten_cons, List.flatten_nil, List.append_nil, List.singleton_append, List.cons_append, List.nil_append]
        exact perm_dh2 _ _ _ _
      refine WP.region ?_
      refine RX.pure (.none rfl) rfl rfl (p_move rfl) ?_
      refine RX.pure (.none rfl) rfl rfl (p_sliceFrom rfl sl_133 rfl (by omega) (by omega) hc3) ?_
      refine RX.say (t := 87) rfl (.slice (some ⟨b1, o', none⟩) (bsx.length - 64) (c1 - 64)) (by rw [show ((64 : Int)).toNat = 64 from rfl, ho']) ?_
      refine RX.pure (.none rfl) rfl rfl (p_assign rfl) ?_
      refine RX.nil ?_
      refine bk_normal ?_
      refine lq_normal (bsx.drop 64).length (by rw [List.length_drop]; omega) ?_
      refine ⟨blockF K hsx (bsx.take 64), bsx.drop 64, b1, o', c1 - 64, rfl, by rw [habs, absorb_step K hsx bsx h64], blockF_len K _ _, by rw [List.length_drop]; omega, by rw [List.length_drop]; exact hB', by rw [List.length_drop]; omega, by simp only [maxLen]; omega, ?_, rfl⟩
      rw [List.length_drop]
      repeat (first | exact Sub.nil | refine Sub.cons rfl ?_)
    · refine WP.seq (WP.sregion ?_)
      refine RX.pure (.none rfl) rfl rfl (p_move rfl) ?_
      refine RX.pure (.none rfl) rfl rfl (p_lenSlice rfl Tryd.underlying133) ?_
      refine RX.pure (.none rfl) rfl rfl (p_geq rfl rfl) ?_
      refine RX.say (t := 78) rfl (.bool false) (by rw [decide_eq_false]; omega) ?_
      refine RX.nil ?_
      refine WP.condF rfl ?_
      refine WP.exit ?_
      repeat (first | refine sq_exit ?_ | refine bk_exit ?_ | refine lq_exit ?_ | refine cq_exit ?_ | refine bk_exit' rfl ?_)
      refine ⟨hsx, bsx, b1, o1, c1, habs, by omega, hlx, hBx, ?_, rfl⟩
      repeat (first | exact Sub.nil | refine Sub.cons rfl ?_)
  clear hBx hc3 hc4 hbx habs hlx
  rintro ρ S ⟨hsx, bsx, b1, o1, c1, habs, hl64, hlx, hBx, hρ, rfl⟩
  refine WP.sub hρ ?_
  clear hρ
  obtain ⟨p2, cp2, rfl⟩ := hVx.slice
  refine WP.region ?_
  refine RX.pure (.none rfl) rfl rfl (p_move rfl) ?_
  refine RX.pure (.none rfl) rfl rfl (p_move rfl) ?_
  refine RX.pure (.none rfl) rfl rfl (p_nilCheck rfl) ?_
  refine RX.pure (.none rfl) rfl rfl (p_fieldAddr rfl fa_149_1) ?_
  (first | refine RX.ld 0 (.none rfl) rfl rfl na_133 rfl rfl ?_ | refine RX.ld 1 (.none rfl) rfl rfl na_133 rfl rfl ?_ | refine RX.ld 2 (.none rfl) rfl rfl na_133 rfl rfl ?_ | refine RX.ld 3 (.none rfl) rfl rfl na_133 rfl rfl ?_ | refine RX.ld 4 (.none rfl) rfl rfl na_133 rfl rfl ?_ | refine RX.ld 5 (.none rfl) rfl rfl na_133 rfl rfl ?_)
  refine RX.pure (.none rfl) rfl rfl (p_move rfl) ?_
  refine RX.eff (.none rfl) rfl rfl rfl (e_append (enc := fun x => [u8 x]) (ys := bsx) 2 rfl rfl sl_133 zr_5 rfl (by decide) by_5 (fun _ _ => rfl) (fun _ _ => rfl) (fun _ _ => rfl) hVx rfl (hBx.rd (i := 3) rfl) (by simp; omega) (by simp only [List.length_nil, maxLen]; omega)) ?_
  rintro _ _ ⟨Hr1, hV1, rfl⟩; obtain ⟨p1, cp1, rfl⟩ := hV1.slice
  refine RX.pure (.none rfl) rfl rfl (p_nilCheck rfl) ?_
  refine RX.pure (.none rfl) rfl rfl (p_fieldAddr rfl fa_149_1) ?_
  (first | refine RX.st 0 (.none rfl) rfl rfl sz_133 rfl rfl rfl _ rfl ?_ | refine RX.st 1 (.none rfl) rfl rfl sz_133 rfl rfl rfl _ rfl ?_ | refine RX.st 2 (.none rfl) rfl rfl sz_133 rfl rfl rfl _ rfl ?_ | refine RX.st 3 (.none rfl) rfl rfl sz_133 rfl rfl rfl _ rfl ?_ | refine RX.st 4 (.none rfl) rfl rfl sz_133 rfl rfl rfl _ rfl ?_ | refine RX.st 5 (.none rfl) rfl rfl sz_133 rfl rfl rfl _ rfl ?_)
  refine RX.nil ?_
  exact fin0' 4 rfl rfl ⟨hsx, bsx, _, Hr1, by rw [habs, absorb_done K hsx bsx hl64], hV1, hlx, rfl⟩
end
end Go.Proofs.YtigjnfmbellpjaaDoor.Sha
