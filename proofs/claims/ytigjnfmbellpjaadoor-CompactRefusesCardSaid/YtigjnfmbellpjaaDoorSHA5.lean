/- sha: Copy, walked. -/
import Derived.Test.YtigjnfmbellpjaaDoorSHA4
set_option maxRecDepth 100000
namespace Go.Proofs.YtigjnfmbellpjaaDoor.Sha
open Go Go.EL
theorem ones_u32 (hs : List Int) : ones (hs.map u32) = true := by
  simp only [ones, List.all_map, List.all_eq_true]
  exact fun _ _ => rfl
theorem perm_copy (h h' d' d : Nat × Obj) (Hr Hr' : Hp) : (h :: (Hr ++ h' :: (Hr' ++ [d', d]))).Perm (d :: h :: (Hr ++ d' :: h' :: Hr')) := by
  have h1 : (h' :: (Hr' ++ [d', d])).Perm (d :: d' :: h' :: Hr') := by
    have : (Hr' ++ [d', d]).Perm ([d, d'] ++ Hr') := List.perm_append_comm.trans ((List.Perm.swap d d' []).append_right Hr')
    exact (this.cons h').trans ((List.Perm.swap d h' _).trans ((List.Perm.swap d' h' _).cons d))
  have h2 : (Hr ++ h' :: (Hr' ++ [d', d])).Perm (d :: (Hr ++ d' :: h' :: Hr')) := (h1.append_left Hr).trans List.perm_middle
  exact (h2.cons h).trans (List.Perm.swap d h _)
section
variable {w0 : World}
theorem copy_tri (hs rest : List Int) (n : Int) (d : Nat) (H : Hp) (hD : DAt hs rest n d H) (hrl : rest.length ≤ 1000000000) :
    Tri Tryd.prog w0 75 #[.pointer (some ⟨d, 0, none⟩)] [H] (fun v S' => ∃ d' H', v = .pointer (some ⟨d', 0, none⟩) ∧ S' = [H, H'] ∧ DAt hs rest n d' H') := by
  obtain ⟨h, vr, Hr, rfl, hV, hl⟩ := hD
  obtain ⟨p, cp, rfl⟩ := hV.slice
  refine Tri.pre (T := [[(d, row [.pointer (some ⟨h, 0, none⟩), .slice p rest.length cp, .int .u64 n] 149)], [(h, row (hs.map u32) 147)], Hr]) ?_ ?_
  rotate_left
  · simp
  refine Tri.out (R := fun v S' => ∃ d' h' vr' Hr', v = .pointer (some ⟨d', 0, none⟩) ∧ Vec 5 1 (fun x => [u8 x]) rest vr' Hr' ∧ S' = [[(h, row (hs.map u32) 147)], Hr, [(h', row (hs.map u32) 147)], Hr', [(d', row [.pointer (some ⟨h', 0, none⟩), vr', .int .u64 n] 149)], [(d, row [.pointer (some ⟨h, 0, none⟩), .slice p rest.length cp, .int .u64 n] 149)]]) ?_ ?_
  rotate_left
  · rintro v S ⟨d', h', vr', Hr', rfl, hv', rfl⟩
    refine ⟨_, ⟨d', _, rfl, rfl, h', vr', Hr', rfl, hv', hl⟩, ?_⟩
    simp only [List.flatten_cons, List.flatten_nil, List.append_nil, List.singleton_append, List.cons_append, List.nil_append]
    exact perm_copy _ _ _ _ _ _
  refine Tri.mk Tryd.func75 rfl rfl rfl ?_
  refine WP.sregion ?_
  refine RX.pure (.none rfl) rfl rfl (p_assign rfl) ?_
  refine RX.nil ?_
  refine WP.seq (WP.sregion ?_)
  refine RX.pure (.none rfl) rfl rfl (p_move rfl) ?_
  refine RX.pure (.none rfl) rfl rfl (p_eqNilPtr rfl rfl Tryd.underlying130) ?_
  refine RX.pure (.none rfl) rfl rfl (p_move rfl) ?_
  (first | refine RX.skip (.no rfl rfl rfl rfl) rfl rfl ?_ | refine RX.pure (.yes rfl rfl rfl) rfl rfl (p_move rfl) ?_)
  (first | refine RX.skip (.no rfl rfl rfl rfl) rfl rfl ?_ | refine RX.pure (.yes rfl rfl rfl) rfl rfl (p_nilCheck rfl) ?_)
  (first | refine RX.skip (.no rfl rfl rfl rfl) rfl rfl ?_ | refine RX.pure (.yes rfl rfl rfl) rfl rfl (p_fieldAddr rfl fa_149_0) ?_)
  (first | refine RX.skip (.no rfl rfl rfl rfl) rfl rfl ?_ | refine RX.ld 0 (.yes rfl rfl rfl) rfl rfl na_145 rfl rfl ?_ | refine RX.ld 1 (.yes rfl rfl rfl) rfl rfl na_145 rfl rfl ?_ | refine RX.ld 2 (.yes rfl rfl rfl) rfl rfl na_145 rfl rfl ?_ | refine RX.ld 3 (.yes rfl rfl rfl) rfl rfl na_145 rfl rfl ?_ | refine RX.ld 4 (.yes rfl rfl rfl) rfl rfl na_145 rfl rfl ?_ | refine RX.ld 5 (.yes rfl rfl rfl) rfl rfl na_145 rfl rfl ?_)
  (first | refine RX.skip (.no rfl rfl rfl rfl) rfl rfl ?_ | refine RX.pure (.yes rfl rfl rfl) rfl rfl (p_eqNilPtr rfl rfl Tryd.underlying145) ?_)
  (first | refine RX.pure (.none rfl) rfl rfl (p_pickT rfl rfl) ?_ | refine RX.pure (.none rfl) rfl rfl (p_pickF rfl rfl) ?_)
  refine RX.nil ?_
  refine WP.condF rfl (WP.skip ?_)
  refine WP.sregion ?_
  refine RX.pure (.none rfl) rfl rfl (p_move rfl) ?_
  refine RX.pure (.none rfl) rfl rfl (p_nilCheck rfl) ?_
  refine RX.pure (.none rfl) rfl rfl (p_fieldAddr rfl fa_149_0) ?_
  (first | refine RX.ld 0 (.none rfl) rfl rfl na_145 rfl rfl ?_ | refine RX.ld 1 (.none rfl) rfl rfl na_145 rfl rfl ?_ | refine RX.ld 2 (.none rfl) rfl rfl na_145 rfl rfl ?_ | refine RX.ld 3 (.none rfl) rfl rfl na_145 rfl rfl ?_ | refine RX.ld 4 (.none rfl) rfl rfl na_145 rfl rfl ?_ | refine RX.ld 5 (.none rfl) rfl rfl na_145 rfl rfl ?_)
  refine RX.pure (.none rfl) rfl rfl (p_nilCheck rfl) ?_
  refine RX.lda 1 (.none rfl) rfl rfl ag_147 rfl (take_all (by simp [hl])) (by simp [hl]) ?_
  refine RX.eff (.none rfl) rfl rfl rfl (e_alloc zr_147) ?_
  rintro _ _ ⟨n3, rfl, rfl⟩
  refine RX.sta 3 (.none rfl) rfl rfl sz_147 (by simp [hl]) (ones_u32 hs) rfl rfl (hs.map u32) (put_all rfl) ?_
  refine RX.nil ?_
  refine WP.perm (T := [[(d, row [.pointer (some ⟨h, 0, none⟩), .slice p rest.length cp, .int .u64 n] 149)], [(h, row (hs.map u32) 147)], Hr, [(n3, row (hs.map u32) 147)], []]) ?_ ?_
  · simp
  refine WP.sdrawJ ([8], []) [0] mixed (by kernel_rfl) rfl rfl rfl ?_
  refine RJ.pure (.none rfl) rfl rfl (p_move rfl) ?_
  refine RJ.pure (.none rfl) rfl rfl (p_nilCheck rfl) ?_
  refine RJ.pure (.none rfl) rfl rfl (p_fieldAddr rfl fa_149_1) ?_
  refine RJ.stab (.none rfl) rfl rfl (r_load rfl na_133 (Rd.own 0 rfl rfl)) ?_
  refine RJ.eff (.none rfl) rfl rfl rfl rfl (e_append (enc := fun x => [u8 x]) (xs := []) (ys := rest) (v := .slice none 0 0) (H := []) 3 rfl rfl sl_133 zr_5 rfl (by decide) by_5 (fun _ _ => rfl) (fun _ _ => rfl) (fun _ _ => rfl) (Vec.nil _ _ _) rfl (hV.rd (i := 1) rfl) (by simp; omega) (by simp only [List.length_nil, maxLen]; omega)) ?_
  rintro _ _ ⟨Hr1, hV1, rfl⟩; obtain ⟨p1, cp1, rfl⟩ := hV1.slice
  refine RJ.pure (.none rfl) rfl rfl (p_move rfl) ?_
  refine RJ.pure (.none rfl) rfl rfl (p_nilCheck rfl) ?_
  refine RJ.pure (.none rfl) rfl rfl (p_fieldAddr rfl fa_149_2) ?_
  refine RJ.stab (.none rfl) rfl rfl (r_load rfl na_23 (Rd.own 0 rfl rfl)) ?_
  refine RJ.pure (.none rfl) rfl rfl (p_buildS zr_149 pl_149 rfl rfl) ?_
  refine RJ.eff (.none rfl) rfl rfl rfl rfl (e_box rfl rfl) ?_
  rintro _ _ ⟨n29, rfl, rfl⟩
  refine RJ.pure (.none rfl) rfl rfl (p_assign rfl) ?_
  refine RJ.nil ?_
  refine WP.ret ?_
  repeat (first | refine sq_ret ?_ | refine bk_ret ?_ | refine lq_ret ?_ | refine cq_ret ?_)
  exact fin1 rfl rfl rfl ⟨n29, n3, _, Hr1, rfl, hV1, rfl⟩
end
end Go.Proofs.YtigjnfmbellpjaaDoor.Sha
