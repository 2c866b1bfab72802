/- sha.Sum, hash.Leaf, hash.Node, hash.Empty: functions of the bytes. -/
import Derived.Test.YtigjnfmbellpjaaDoorSHA7
import Derived.Test.YtigjnfmbellpjaaDoorEL21
set_option maxRecDepth 100000
namespace Go.Proofs.YtigjnfmbellpjaaDoor.Sha
open Go Go.EL
abbrev u8s (h : List Int) : List Value := h.map u8
abbrev hv (h : List Int) : Value := vv (h.map u8)
theorem ones_u8 (h : List Int) : ones (u8s h) = true := by simp only [ones, List.all_map, List.all_eq_true]; exact fun _ _ => rfl
theorem bytesOf_len (s : ByteArray) : (bytesOf s).length = s.size := by simp [bytesOf]
section
variable {w0 : World}
abbrev Tab (w0 : World) (K : Nat → Int) : Prop := ∀ t, t < 64 → w0.cell? ⟨18, t, none⟩ = some (u32 (K t))
set_option maxHeartbeats 1000000 in
theorem sums_tri (K : Nat → Int) (hK : Tab w0 K) (parts : List ByteArray) (v : Value) (HP : Hp) (hH : Held w0 HP (fun s : ByteArray => [.string s]) parts v) (hb : ∀ s, s ∈ parts → s.size ≤ maxLen) :
    Tri Tryd.prog w0 43 #[v] [HP] (fun u S' => u = hv (shaF K (parts.flatMap bytesOf)) ∧ S' = [HP]) := by
  obtain ⟨p, c, rfl, hc1, hc2⟩ := hH.len
  unfold maxLen at hc2
  refine Tri.mk Tryd.func43 rfl rfl rfl ?_
  refine WP.sregion ?_
  refine RX.eff (.none rfl) rfl rfl rfl (e_alloc zr_32) ?_
  rintro _ _ ⟨n2, rfl, rfl⟩
  refine RX.nil ?_
  refine WP.sregion ?_
  refine RX.eff (.none rfl) rfl rfl rfl (e_call [] rfl call_66 rfl rfl new_tri) ?_
  rintro _ _ ⟨_, ⟨d, H, rfl, rfl, hD⟩, rfl⟩
  refine RX.pure (.none rfl) rfl rfl (p_assign rfl) ?_
  refine RX.nil ?_
  refine WP.heap [H, HP, [(n2, row [.int .u8 0, .int .u8 0, .int .u8 0, .int .u8 0, .int .u8 0, .int .u8 0, .int .u8 0, .int .u8 0, .int .u8 0, .int .u8 0, .int .u8 0, .int .u8 0, .int .u8 0, .int .u8 0, .int .u8 0, .int .u8 0, .int .u8 0, .int .u8 0, .int .u8 0, .int .u8 0, .int .u8 0, .int .u8 0, .int .u8 0, .int .u8 0, .int .u8 0, .int .u8 0, .int .u8 0, .int .u8 0, .int .u8 0, .int .u8 0, .int .u8 0, .int .u8 0] 32)]] rfl ?_
  refine WP.cut (fun ρ S => ∃ H, DAt (absorb K begin8 (parts.flatMap bytesOf)).1 (absorb K begin8 (parts.flatMap bytesOf)).2 (IntKind.wrap .u64 ((parts.flatMap bytesOf).length : Nat)) d H ∧ Sub [(2, .pointer (some ⟨n2, 0, none⟩)), (3, .pointer (some ⟨d, 0, none⟩))] ρ ∧ S = [H, HP, [(n2, row [.int .u8 0, .int .u8 0, .int .u8 0, .int .u8 0, .int .u8 0, .int .u8 0, .int .u8 0, .int .u8 0, .int .u8 0, .int .u8 0, .int .u8 0, .int .u8 0, .int .u8 0, .int .u8 0, .int .u8 0, .int .u8 0, .int .u8 0, .int .u8 0, .int .u8 0, .int .u8 0, .int .u8 0, .int .u8 0, .int .u8 0, .int .u8 0, .int .u8 0, .int .u8 0, .int .u8 0, .int .u8 0, .int .u8 0, .int .u8 0, .int .u8 0, .int .u8 0] 32)]]) ?_ ?_
  · refine WP.sregion ?_
    refine RX.pure (.none rfl) rfl rfl (p_move rfl) ?_
    refine RX.pure (.none rfl) rfl rfl (p_lenSlice rfl Tryd.underlying22) ?_
    refine RX.pure (.none rfl) rfl rfl (p_move rfl) ?_
    refine RX.nil ?_
    refine WP.block ?_
    refine WP.loop (fun m ρ S => ∃ (i : Nat) (H : Hp), i ≤ parts.length ∧ m = parts.length - i ∧ DAt (absorb K begin8 ((parts.take i).flatMap bytesOf)).1 (absorb K begin8 ((parts.take i).flatMap bytesOf)).2 (IntKind.wrap .u64 (((parts.take i).flatMap bytesOf).length : Nat)) d H ∧ Sub [(2, .pointer (some ⟨n2, 0, none⟩)), (3, .pointer (some ⟨d, 0, none⟩)), (7, .slice p parts.length c), (8, .int .i64 (parts.length : Nat)), (9, .int .i64 (i : Nat))] ρ ∧ S = [H, HP, [(n2, row [.int .u8 0, .int .u8 0, .int .u8 0, .int .u8 0, .int .u8 0, .int .u8 0, .int .u8 0, .int .u8 0, .int .u8 0, .int .u8 0, .int .u8 0, .int .u8 0, .int .u8 0, .int .u8 0, .int .u8 0, .int .u8 0, .int .u8 0, .int .u8 0, .int .u8 0, .int .u8 0, .int .u8 0, .int .u8 0, .int .u8 0, .int .u8 0, .int .u8 0, .int .u8 0, .int .u8 0, .int .u8 0, .int .u8 0, .int .u8 0, .int .u8 0, .int .u8 0] 32)]]) parts.length ?_ ?_
    · refine ⟨0, H, by omega, by omega, ?_, ?_, rfl⟩
      · rw [List.take_zero, List.flatMap_nil, absorb_done K _ _ (by simp)]
        exact hD
      · repeat (first | exact Sub.nil | refine Sub.cons rfl ?_)
    clear hD H
    rintro m ρ S ⟨i, H, hi, rfl, hD, hρ, rfl⟩
    refine WP.sub hρ ?_
    clear hρ
    by_cases hlt : i < parts.length
    · obtain ⟨a, c', e1, _, _⟩ := hH.addr (by intro e; rw [e] at hlt; simp at hlt)
      injection e1 with e1 _ e3
      subst e1; subst e3
      obtain ⟨s, hs⟩ : ∃ s, parts[i]? = some s := ⟨_, List.getElem?_eq_getElem hlt⟩
      have hsm := hb s (List.mem_of_getElem? hs)
      have hrd := hH.rd (S := [H, HP, [(n2, row [.int .u8 0, .int .u8 0, .int .u8 0, .int .u8 0, .int .u8 0, .int .u8 0, .int .u8 0, .int .u8 0, .int .u8 0, .int .u8 0, .int .u8 0, .int .u8 0, .int .u8 0, .int .u8 0, .int .u8 0, .int .u8 0, .int .u8 0, .int .u8 0, .int .u8 0, .int .u8 0, .int .u8 0, .int .u8 0, .int .u8 0, .int .u8 0, .int .u8 0, .int .u8 0, .int .u8 0, .int .u8 0, .int .u8 0, .int .u8 0, .int .u8 0, .int .u8 0] 32)]]) (i := 1) rfl
      refine WP.sregion ?_
      refine RX.pure (.none rfl) rfl rfl (p_lss rfl rfl) ?_
      refine RX.say (t := 10) rfl (.bool true) (by rw [decide_eq_true]; omega) ?_
      refine RX.nil ?_
      refine WP.seq (WP.condT rfl (WP.skip ?_))
      refine sq_normal ?_
      refine WP.seq (WP.block ?_)
      refine WP.sregion ?_
      refine RX.pure (.none rfl) rfl rfl (p_idxS rfl rfl sl_22 (by omega) (by omega)) ?_
      refine RX.read (.none rfl) rfl rfl rfl (r_load rfl na_9 (hrd.elem (k := 1) (fun _ _ => rfl) (o := 0) hs rfl)) ?_
      refine RX.pure (.none rfl) rfl rfl (p_assign rfl) ?_
      refine RX.nil ?_
      refine WP.region ?_
      refine RX.pure (.none rfl) rfl rfl (p_move rfl) ?_
      refine RX.pure (.none rfl) rfl rfl (p_move rfl) ?_
      refine RX.eff (.none rfl) rfl rfl rfl (e_strBytes rfl Tryd.underlying9 Tryd.underlying133 Tryd.underlying5) ?_
      rintro _ _ ⟨nb, cap, sp, fr, rfl, hcb1, hcb2, rfl⟩
      refine RX.eff (.none rfl) rfl rfl rfl (e_call [0, 3] rfl call_67 rfl rfl (write_tri K hK _ _ (bytesOf s) _ d H _ _ hD (absorb_rest ..) ⟨nb, 0, cap, _, _, fr, by rw [bytesOf_len], rfl, by rw [bytesOf_len]; exact hcb1, hcb2 hsm, by rw [List.drop_zero, List.take_append_of_le_length (by simp), List.take_of_length_le (by simp)]⟩ (by rw [bytesOf_len]; exact hsm))) ?_
      rintro _ _ ⟨_, ⟨H', rfl, hD'⟩, rfl⟩
      refine RX.nil ?_
      refine sq_normal ?_
      refine WP.only [0, 2, 3] rfl rfl ?_
      refine WP.region ?_
      (first | refine RX.pure (.none rfl) rfl rfl (p_add rfl rfl (wr_i64 (by omega) (by omega))) ?_ | refine RX.pure (.none rfl) rfl rfl (p_add rfl rfl rfl) ?_)
      refine RX.pure (.none rfl) rfl rfl (p_move rfl) ?_
      refine RX.nil ?_
      refine lq_normal (parts.length - (i + 1)) (by omega) ?_
      refine ⟨i + 1, H', by omega, rfl, ?_, ?_, rfl⟩
      · have ht : parts.take (i + 1) = parts.take i ++ [s] := by rw [List.take_add_one, hs]; rfl
        rw [ht, List.flatMap_append, List.flatMap_singleton, absorb_app K _ _ _ _ rfl, List.length_append, Int.natCast_add, ← wrap64_add]
        exact hD'
      · repeat (first | exact Sub.nil | refine Sub.cons rfl ?_)
    · refine WP.sregion ?_
      refine RX.pure (.none rfl) rfl rfl (p_lss rfl rfl) ?_
      refine RX.say (t := 10) rfl (.bool false) (by rw [decide_eq_false]; omega) ?_
      refine RX.nil ?_
      refine WP.seq (WP.condF rfl ?_)
      refine WP.exit ?_
      repeat (first | refine sq_exit ?_ | refine bk_exit ?_ | refine lq_exit ?_ | refine cq_exit ?_ | refine bk_exit' rfl ?_)
      obtain rfl : i = parts.length := by omega
      rw [List.take_length] at hD
      refine ⟨H, hD, ?_, rfl⟩
      repeat (first | exact Sub.nil | refine Sub.cons rfl ?_)
  clear hD H
  rintro ρ S ⟨H, hD, hρ, rfl⟩
  refine WP.sub hρ ?_
  clear hρ
  have h32 : ((shaF K (parts.flatMap bytesOf)).map u8).length = 32 := by rw [List.length_map, shaF_len]
  refine WP.sregion ?_
  refine RX.pure (.none rfl) rfl rfl (p_move rfl) ?_
  refine RX.eff (.none rfl) rfl rfl rfl (e_call [0] rfl call_68 rfl rfl (sum_tri K hK _ _ _ d H hD (absorb_rest ..))) ?_
  rintro _ _ ⟨_, ⟨rfl, rfl⟩, rfl⟩
  refine RX.stv 2 (.none rfl) rfl rfl sz_32 h32 (ones_u8 _) rfl rfl _ (put_all rfl) ?_
  refine RX.nil ?_
  refine WP.only [1, 2] rfl rfl ?_
  refine WP.ret ?_
  repeat (first | refine sq_ret ?_ | refine bk_ret ?_ | refine lq_ret ?_ | refine cq_ret ?_)
  exact finC1' 1 rfl rfl rfl ldv_32 (RdN.own 1 rfl take_all') h32 ⟨rfl, rfl⟩
/-- what the program's hashes are -/
def leafK (K : Nat → Int) (s : ByteArray) : List Int := shaF K (0 :: bytesOf s)
def nodeK (K : Nat → Int) (l r : List Int) : List Int := shaF K (1 :: (bytesOf (textOf l) ++ bytesOf (textOf r)))
def emptyK (K : Nat → Int) : List Int := shaF K []
theorem leaf_tri (K : Nat → Int) (hK : Tab w0 K) (s : ByteArray) (hs : s.size ≤ maxLen) : Tri Tryd.prog w0 13 #[.string s] [] (fun u S' => u = hv (leafK K s) ∧ S' = []) := by
  have h32 : ((leafK K s).map u8).length = 32 := by rw [List.length_map, leafK, shaF_len]
  refine Tri.mk Tryd.func13 rfl rfl rfl ?_
  refine WP.sregion ?_
  refine RX.eff (.none rfl) rfl rfl rfl (e_alloc zr_32) ?_
  rintro _ _ ⟨n2, rfl, rfl⟩
  refine RX.nil ?_
  refine WP.sregion ?_
  refine RX.pure (.none rfl) rfl rfl (p_move rfl) ?_
  refine RX.eff (.none rfl) rfl rfl rfl (e_buildSlice sl_22 zr_9 rfl (by decide) (by decide) rfl rfl rfl) ?_
  rintro _ _ ⟨n4, rfl, rfl⟩
  refine RX.eff (.none rfl) rfl rfl rfl (e_call [1] rfl call_43 rfl rfl (sums_tri K hK [⟨#[0]⟩, s] _ _ (.inr ⟨_, 2, rfl, Nat.le_refl _, by decide, fun S i hi => RdN.own i hi rfl⟩) (by simp [maxLen] at hs ⊢; refine ⟨by decide, hs⟩))) ?_
  rintro _ _ ⟨_, ⟨rfl, rfl⟩, rfl⟩
  refine RX.stv 1 (.none rfl) rfl rfl sz_32 h32 (ones_u8 _) rfl rfl _ (put_all rfl) ?_
  refine RX.nil ?_
  refine WP.only [1] rfl rfl ?_
  refine WP.ret ?_
  repeat (first | refine sq_ret ?_ | refine bk_ret ?_ | refine lq_ret ?_ | refine cq_ret ?_)
  exact finC1' 0 rfl rfl rfl ldv_32 (RdN.own 0 rfl take_all') h32 ⟨by rw [leafK]; simp [bytesOf], rfl⟩
theorem empty_tri (K : Nat → Int) (hK : Tab w0 K) : Tri Tryd.prog w0 47 #[] [] (fun u S' => u = hv (emptyK K) ∧ S' = []) := by
  have h32 : ((emptyK K).map u8).length = 32 := by rw [List.length_map, emptyK, shaF_len]
  refine Tri.mk Tryd.func47 rfl rfl rfl ?_
  refine WP.sregion ?_
  refine RX.eff (.none rfl) rfl rfl rfl (e_alloc zr_32) ?_
  rintro _ _ ⟨n0, rfl, rfl⟩
  refine RX.nil ?_
  refine WP.sregion ?_
  refine RX.eff (.none rfl) rfl rfl rfl (e_call [] rfl call_43 rfl rfl (Tri.void (sums_tri K hK [] _ [] (.inl ⟨rfl, rfl⟩) (by simp)))) ?_
  rintro _ _ ⟨_, ⟨rfl, rfl⟩, rfl⟩
  refine RX.stv 0 (.none rfl) rfl rfl sz_32 h32 (ones_u8 _) rfl rfl _ (put_all rfl) ?_
  refine RX.nil ?_
  refine WP.ret ?_
  repeat (first | refine sq_ret ?_ | refine bk_ret ?_ | refine lq_ret ?_ | refine cq_ret ?_)
  exact finC1' 0 rfl rfl rfl ldv_32 (RdN.own 0 rfl take_all') h32 ⟨rfl, rfl⟩
theorem textOf_size (l : List Int) : (textOf l).size = l.length := by
  have key : ∀ (l : List Int) (r : ByteArray), (l.foldl (fun r n => r.push (UInt8.ofNat n.toNat)) r).size = r.size + l.length := by
    intro l
    induction l with
    | nil => intro r; rfl
    | cons x l ih => intro r; rw [List.foldl_cons, ih, ByteArray.size_push, List.length_cons]; omega
  rw [textOf, key]
  simp
theorem node_tri (K : Nat → Int) (hK : Tab w0 K) (l r : List Int) (hl : l.length = 32) (hr : r.length = 32) : Tri Tryd.prog w0 46 #[hv l, hv r] [] (fun u S' => u = hv (nodeK K l r) ∧ S' = []) := by
  have h32 : ((nodeK K l r).map u8).length = 32 := by rw [List.length_map, nodeK, shaF_len]
  have el : hv l = .agg ⟨l.map u8⟩ := vv_agg (by simp [hl])
  have er : hv r = .agg ⟨r.map u8⟩ := vv_agg (by simp [hr])
  rw [el, er]
  refine Tri.mk Tryd.func46 rfl rfl rfl ?_
  refine WP.sregion ?_
  refine RX.eff (.none rfl) rfl rfl rfl (e_box rfl rfl) ?_
  rintro _ _ ⟨n2, rfl, rfl⟩
  refine RX.eff (.none rfl) rfl rfl rfl (e_box rfl rfl) ?_
  rintro _ _ ⟨n3, rfl, rfl⟩
  refine RX.eff (.none rfl) rfl rfl rfl (e_alloc zr_32) ?_
  rintro _ _ ⟨n4, rfl, rfl⟩
  refine RX.nil ?_
  refine WP.sdrawJ ([1, 3], []) [0, 1] mixed (by kernel_rfl) rfl rfl rfl ?_
  refine RJ.pure (.none rfl) rfl rfl (p_sliceArr rfl ar_32) ?_
  refine RJ.stab (.none rfl) rfl rfl (r_bytesStr (ns := l) rfl Tryd.underlying133 Tryd.underlying5 Tryd.underlying9 (.inr ⟨_, 32, by rw [hl], RdN.own 0 rfl (by rw [flat_one, List.drop_zero, List.length_map, List.take_of_length_le (by simp)])⟩)) ?_
  refine RJ.pure (.none rfl) rfl rfl (p_sliceArr rfl ar_32) ?_
  refine RJ.stab (.none rfl) rfl rfl (r_bytesStr (ns := r) rfl Tryd.underlying133 Tryd.underlying5 Tryd.underlying9 (.inr ⟨_, 32, by rw [hr], RdN.own 1 rfl (by rw [flat_one, List.drop_zero, List.length_map, List.take_of_length_le (by simp)])⟩)) ?_
  refine RJ.eff (.none rfl) rfl rfl rfl rfl (e_buildSlice sl_22 zr_9 rfl (by decide) (by decide) rfl rfl rfl) ?_
  rintro _ _ ⟨n9, rfl, rfl⟩
  refine RJ.eff (.none rfl) rfl rfl rfl rfl (e_call [1] rfl call_43 rfl rfl (sums_tri K hK [⟨#[1]⟩, textOf l, textOf r] _ _ (.inr ⟨_, 3, rfl, Nat.le_refl _, by decide, fun S i hi => RdN.own i hi rfl⟩) (by simp [textOf_size, hl, hr, maxLen]; decide))) ?_
  rintro _ _ ⟨_, ⟨rfl, rfl⟩, rfl⟩
  refine RJ.stv 1 (.none rfl) rfl rfl rfl sz_32 h32 (ones_u8 _) rfl rfl _ (put_all rfl) ?_
  refine RJ.nil ?_
  refine WP.only [1] rfl rfl ?_
  refine WP.ret ?_
  repeat (first | refine sq_ret ?_ | refine bk_ret ?_ | refine lq_ret ?_ | refine cq_ret ?_)
  exact finC1' 0 rfl rfl rfl ldv_32 (RdN.own 0 rfl take_all') h32 ⟨by rw [nodeK]; simp [bytesOf], rfl⟩
end
end Go.Proofs.YtigjnfmbellpjaaDoor.Sha
