/- CacheKinds, walked: caches of tiles and of hashes. -/
import Derived.Test.YtpakklmkajjodaaDoorCBT
import Derived.Test.YtpakklmkajjodaaDoorCBH
import Derived.Test.YtpakklmkajjodaaDoorCNone
import Derived.Test.YtpakklmkajjodaaDoorEL15
set_option maxRecDepth 100000
namespace Go.Proofs.YtpakklmkajjodaaDoor
open Go Go.EL Go.EL.Cache
theorem wideT : wideKey Tryd.prog 30 = true := by kernel_rfl
theorem wideH : wideKey Tryd.prog 32 = true := by kernel_rfl
theorem guardT : Tryd.prog.eqGuardType Tryd.prog.depth 30 = false := by kernel_rfl
theorem guardH : Tryd.prog.eqGuardType Tryd.prog.depth 32 = false := by kernel_rfl
theorem hKT : KeyTy Tryd.prog 30 (Dk Tryd.prog 30) := key_deep wideT
theorem hKH : KeyTy Tryd.prog 32 (Dk Tryd.prog 32) := key_deep wideH
def KT (ys : List (List Value)) (i : Nat) : List Value := ((ys.getD i []).drop 0).take 3
def KH (ys : List (List Value)) (i : Nat) : List Value := ((ys.getD i []).drop 3).take 32
def VP (ps : List Value) (i : Nat) : List Value := [ps.getD i (.pointer none)]
structure Ths (P : Program) (tt th : TypeId) (ys : List (List Value)) : Prop where
  uni : Uni id 35 ys
  one : ∀ y, y ∈ ys → ones y = true
  tile : ∀ y, y ∈ ys → Dk P tt (vv ((y.drop 0).take 3))
  hash : ∀ y, y ∈ ys → Dk P th (vv ((y.drop 3).take 32))
section
variable {P : Program} {tt th : TypeId} {ys : List (List Value)} {i : Nat}
theorem getD_mem (hi : i < ys.length) : ys.getD i [] ∈ ys ∧ ys[i]? = some (ys.getD i []) := by
  have : ys.getD i [] = ys[i] := by simp [hi]
  rw [this]
  exact ⟨List.getElem_mem _, by simp [hi]⟩
theorem Ths.kt (h : Ths P tt th ys) (hi : i < ys.length) : Dk P tt (vv (KT ys i)) ∧ (KT ys i).length = 3 ∧ ones (KT ys i) = true := by
  have hm := (getD_mem hi).1
  refine ⟨h.tile _ hm, ?_, ?_⟩
  · have := h.uni _ hm
    simp only [id] at this
    rw [KT, List.length_take, List.length_drop, this]; rfl
  · have := h.one _ hm
    simp only [ones, List.all_eq_true, KT] at this ⊢
    exact fun x hx => this x (List.mem_of_mem_drop (List.mem_of_mem_take hx))
theorem Ths.kh (h : Ths P tt th ys) (hi : i < ys.length) : Dk P th (vv (KH ys i)) ∧ (KH ys i).length = 32 ∧ ones (KH ys i) = true := by
  have hm := (getD_mem hi).1
  refine ⟨h.hash _ hm, ?_, ?_⟩
  · have := h.uni _ hm
    simp only [id] at this
    rw [KH, List.length_take, List.length_drop, this]; rfl
  · have := h.one _ hm
    simp only [ones, List.all_eq_true, KH] at this ⊢
    exact fun x hx => this x (List.mem_of_mem_drop (List.mem_of_mem_take hx))
theorem Ths.rt {w0 : World} {S : HS} (h : Ths P tt th ys) (hi : i < ys.length) {a : Addr} {len cap : Nat} (hr : RdS w0 S id ys (.slice (some a) len cap)) : RdN w0 S ((a.add ((i : Int).toNat * 35)).add 0) (KT ys i) := by
  rw [add_add]
  exact hr.elems h.uni (i := i) (o := 0) (n := 3) (getD_mem hi).2 rfl (by decide) (h.kt hi).2.1
theorem Ths.rh {w0 : World} {S : HS} (h : Ths P tt th ys) (hi : i < ys.length) {a : Addr} {len cap : Nat} (hr : RdS w0 S id ys (.slice (some a) len cap)) : RdN w0 S ((a.add ((i : Int).toNat * 35)).add 3) (KH ys i) := by
  rw [add_add]
  exact hr.elems h.uni (i := i) (o := 3) (n := 32) (getD_mem hi).2 rfl (by decide) (h.kh hi).2.1
end
theorem fill3 {ts : List Value} (hl : ts.length = 3) (ho : ones ts = true) : fillL (fun i => ([(0, 3), (3, 32)] : List (Nat × Nat))[i]?) [.int .u8 0, .int .u64 0, .int .i64 0, .int .u8 0, .int .u8 0, .int .u8 0, .int .u8 0, .int .u8 0, .int .u8 0, .int .u8 0, .int .u8 0, .int .u8 0, .int .u8 0, .int .u8 0, .int .u8 0, .int .u8 0, .int .u8 0, .int .u8 0, .int .u8 0, .int .u8 0, .int .u8 0, .int .u8 0, .int .u8 0, .int .u8 0, .int .u8 0, .int .u8 0, .int .u8 0, .int .u8 0, .int .u8 0, .int .u8 0, .int .u8 0, .int .u8 0, .int .u8 0, .int .u8 0, .int .u8 0] [(0, vv ts)] = some (ts ++ [.int .u8 0, .int .u8 0, .int .u8 0, .int .u8 0, .int .u8 0, .int .u8 0, .int .u8 0, .int .u8 0, .int .u8 0, .int .u8 0, .int .u8 0, .int .u8 0, .int .u8 0, .int .u8 0, .int .u8 0, .int .u8 0, .int .u8 0, .int .u8 0, .int .u8 0, .int .u8 0, .int .u8 0, .int .u8 0, .int .u8 0, .int .u8 0, .int .u8 0, .int .u8 0, .int .u8 0, .int .u8 0, .int .u8 0, .int .u8 0, .int .u8 0, .int .u8 0]) := by
  match ts, hl with
  | [x, y, z], _ => rfl
theorem own_lt {ps : List Value} {i nn : Nat} (hpl : ps.length = i) (hlt : i < nn) : Nat.blt ((i : Int).toNat * 1) (ps ++ List.replicate (nn - i) (Value.pointer none)).length = true := by
  simp only [List.length_append, List.length_replicate, Int.toNat_natCast, Nat.mul_one]
  simp
  omega
theorem own_set {ps : List Value} {i nn : Nat} (hpl : ps.length = i) (hrep : List.replicate (nn - i) (Value.pointer none) = .pointer none :: List.replicate (nn - (i + 1)) (.pointer none)) (v : Value) :
    (ps ++ List.replicate (nn - i) (Value.pointer none)).set ((i : Int).toNat * 1) v = (ps ++ [v]) ++ List.replicate (nn - (i + 1)) (.pointer none) := by
  rw [hrep, Int.toNat_natCast, Nat.mul_one, List.set_append_right _ _ (by omega), ← hpl]
  simp
theorem own_get {ps : List Value} {i nn : Nat} {v : Value} (hv : ps[i]? = some v) : (ps ++ List.replicate nn (Value.pointer none))[(i : Int).toNat * 1]? = some v := by
  have hlt := (List.getElem?_eq_some_iff.1 hv).1
  rw [Int.toNat_natCast, Nat.mul_one, List.getElem?_append_left hlt, hv]
theorem own_got {ps : List Value} {i : Nat} {v : Value} (hv : ps[i]? = some v) : ps[(i : Int).toNat * 1]? = some v := by
  rw [Int.toNat_natCast, Nat.mul_one, hv]
theorem vv_ne {a b : List Value} (hl : a.length = b.length) : (vv a = vv b) ↔ a = b := ⟨vv_inj hl, fun e => by rw [e]⟩
theorem kinds_tri (w0 : World) (ys : List (List Value)) (v : Value) (h : Ths Tryd.prog 30 32 ys) (hr : ∀ S, RdS w0 S id ys v) :
    Tri Tryd.prog w0 3 #[v] [] (fun v S' => v = .bool true ∧ S' = []) := by
  obtain ⟨p, cp, rfl⟩ := (hr []).len
  obtain ⟨nn, hnn⟩ : ∃ nn, nn = min ys.length 1000 := ⟨_, rfl⟩
  have hmin : (if (1000 : Int) < (ys.length : Int) then (1000 : Int) else (ys.length : Int)) = (nn : Nat) := by split <;> omega
  refine Tri.mk Tryd.func3 rfl rfl rfl ?_
  refine WP.sregion ?_
  refine RX.pure (.none rfl) rfl rfl (p_assign rfl) ?_
  refine RX.nil ?_
  refine WP.sregion ?_
  refine RX.eff (.none rfl) rfl rfl rfl (e_call [] rfl call_6 rfl rfl (CTH.new_api (D := Dk Tryd.prog 30) 1024 (by decide) (by decide))) ?_
  rintro _ _ ⟨_, ⟨c1, H1, rfl, rfl, h1⟩, rfl⟩
  refine RX.pure (.none rfl) rfl rfl (p_move rfl) ?_
  refine RX.pure (.none rfl) rfl rfl (p_extract rfl rfl) ?_
  refine RX.pure (.none rfl) rfl rfl (p_extract rfl rfl) ?_
  refine RX.pure (.none rfl) rfl rfl (p_assign rfl) ?_
  refine RX.pure (.none rfl) rfl rfl (p_assign rfl) ?_
  refine RX.nil ?_
  refine WP.sregion ?_
  refine RX.eff (.none rfl) rfl rfl rfl (e_call [] rfl call_7 rfl rfl (CHT.new_api (D := Dk Tryd.prog 32) 1024 (by decide) (by decide))) ?_
  rintro _ _ ⟨_, ⟨c2, H2, rfl, rfl, h2⟩, rfl⟩
  refine RX.pure (.none rfl) rfl rfl (p_move rfl) ?_
  refine RX.pure (.none rfl) rfl rfl (p_extract rfl rfl) ?_
  refine RX.pure (.none rfl) rfl rfl (p_extract rfl rfl) ?_
  refine RX.pure (.none rfl) rfl rfl (p_assign rfl) ?_
  refine RX.pure (.none rfl) rfl rfl (p_assign rfl) ?_
  refine RX.nil ?_
  refine WP.seq (WP.sregion ?_)
  refine RX.eff (.none rfl) rfl rfl rfl (e_call [] rfl call_8 rfl rfl alive_tri) ?_
  rintro _ _ ⟨_, ⟨rfl, rfl⟩, rfl⟩
  refine RX.pure (.none rfl) rfl rfl (p_not rfl) ?_
  refine RX.pure (.none rfl) rfl rfl (p_move rfl) ?_
  (first | refine RX.skip (.no rfl rfl rfl rfl) rfl rfl ?_ | refine RX.pure (.yes rfl rfl rfl) rfl rfl (p_move rfl) ?_)
  (first | refine RX.skip (.no rfl rfl rfl rfl) rfl rfl ?_ | refine RX.pure (.yes rfl rfl rfl) rfl rfl (p_neNilIface rfl (by first | exact .inl rfl | exact .inr ⟨_, _, rfl⟩ | assumption) Tryd.underlying25) ?_)
  (first | refine RX.pure (.none rfl) rfl rfl (p_pickT rfl rfl) ?_ | refine RX.pure (.none rfl) rfl rfl (p_pickF rfl rfl) ?_)
  refine RX.pure (.none rfl) rfl rfl (p_move rfl) ?_
  (first | refine RX.skip (.no rfl rfl rfl rfl) rfl rfl ?_ | refine RX.pure (.yes rfl rfl rfl) rfl rfl (p_move rfl) ?_)
  (first | refine RX.skip (.no rfl rfl rfl rfl) rfl rfl ?_ | refine RX.pure (.yes rfl rfl rfl) rfl rfl (p_neNilIface rfl (by first | exact .inl rfl | exact .inr ⟨_, _, rfl⟩ | assumption) Tryd.underlying25) ?_)
  (first | refine RX.pure (.none rfl) rfl rfl (p_pickT rfl rfl) ?_ | refine RX.pure (.none rfl) rfl rfl (p_pickF rfl rfl) ?_)
  refine RX.pure (.none rfl) rfl rfl (p_move rfl) ?_
  (first | refine RX.skip (.no rfl rfl rfl rfl) rfl rfl ?_ | refine RX.pure (.yes rfl rfl rfl) rfl rfl (p_move rfl) ?_)
  (first | refine RX.skip (.no rfl rfl rfl rfl) rfl rfl ?_ | refine RX.pure (.yes rfl rfl rfl) rfl rfl (p_eqNilPtr rfl rfl Tryd.underlying23) ?_)
  (first | refine RX.pure (.none rfl) rfl rfl (p_pickT rfl rfl) ?_ | refine RX.pure (.none rfl) rfl rfl (p_pickF rfl rfl) ?_)
  refine RX.pure (.none rfl) rfl rfl (p_move rfl) ?_
  (first | refine RX.skip (.no rfl rfl rfl rfl) rfl rfl ?_ | refine RX.pure (.yes rfl rfl rfl) rfl rfl (p_move rfl) ?_)
  (first | refine RX.skip (.no rfl rfl rfl rfl) rfl rfl ?_ | refine RX.pure (.yes rfl rfl rfl) rfl rfl (p_eqNilPtr rfl rfl Tryd.underlying33) ?_)
  (first | refine RX.pure (.none rfl) rfl rfl (p_pickT rfl rfl) ?_ | refine RX.pure (.none rfl) rfl rfl (p_pickF rfl rfl) ?_)
  refine RX.nil ?_
  refine WP.condF rfl (WP.skip ?_)
  refine WP.sregion ?_
  refine RX.pure (.none rfl) rfl rfl (p_move rfl) ?_
  refine RX.pure (.none rfl) rfl rfl (p_lenSlice rfl Tryd.underlying22) ?_
  refine RX.pure (.none rfl) rfl rfl (p_min2 rfl rfl) ?_
  refine RX.say (t := 46) rfl (.int .i64 (nn : Nat)) (by rw [← hmin]) ?_
  refine RX.pure (.none rfl) rfl rfl (p_assign rfl) ?_
  refine RX.nil ?_
  refine WP.sregion ?_
  refine RX.pure (.none rfl) rfl rfl (p_move rfl) ?_
  refine RX.eff (.none rfl) rfl rfl rfl (e_makeSlice rfl rfl sl_38 zr_36 rfl (by decide) by_36 (by omega) (by omega) (by omega) (by omega)) ?_
  rintro _ _ ⟨o, rfl, rfl⟩
  refine RX.pure (.none rfl) rfl rfl (p_assign rfl) ?_
  refine RX.nil ?_
  refine WP.perm (T := [H1, H2, [(o, row (List.replicate nn (.pointer none)) 36)]]) ?_ ?_
  · have e : (List.replicate ((nn : Nat) : Int).toNat [Value.pointer none]).flatten = List.replicate nn (.pointer none) := by simp
    show ([H2, H1] ++ [[(o, row (List.replicate ((nn : Nat) : Int).toNat [Value.pointer none]).flatten 36)]] : HS).flatten.Perm _
    rw [e]
    simp only [List.flatten_append, List.flatten_cons, List.flatten_nil, List.append_nil, ← List.append_assoc]
    exact List.perm_append_comm.append_right _
  -- the first loop
  refine WP.cut (fun ρ S => ∃ th1 th2 ps H1 H2, ps.length = nn ∧ (∀ j, j < nn → ∃ b, ps[j]? = some (.pointer (some b))) ∧ Lasts (KT ys) (KH ys) nn th1 ∧ Lasts (KH ys) (VP ps) nn th2 ∧ CTH.At' (Dk Tryd.prog 30) 1024 th1 c1 H1 ∧ CHT.At' (Dk Tryd.prog 32) 1024 th2 c2 H2 ∧
      Sub [(0, .slice p ys.length cp), (3, .pointer (some ⟨c1, 0, none⟩)), (5, .pointer (some ⟨c2, 0, none⟩)), (7, .int .i64 (nn : Nat)), (8, .slice (some ⟨o, 0, none⟩) nn nn)] ρ ∧ S = [H1, H2, [(o, row ps 36)]]) ?_ ?_
  · refine WP.sregion ?_
    refine RX.pure (.none rfl) rfl rfl (p_assign rfl) ?_
    refine RX.nil ?_
    refine WP.block ?_
    refine WP.loop (fun m ρ S => ∃ i th1 th2 ps H1 H2, i ≤ nn ∧ m = nn - i ∧ ps.length = i ∧ (∀ j, j < i → ∃ b, ps[j]? = some (.pointer (some b))) ∧ th1.length ≤ i ∧ th2.length ≤ i ∧ Lasts (KT ys) (KH ys) i th1 ∧ Lasts (KH ys) (VP ps) i th2 ∧ CTH.At' (Dk Tryd.prog 30) 1024 th1 c1 H1 ∧ CHT.At' (Dk Tryd.prog 32) 1024 th2 c2 H2 ∧
        Sub [(0, .slice p ys.length cp), (3, .pointer (some ⟨c1, 0, none⟩)), (5, .pointer (some ⟨c2, 0, none⟩)), (7, .int .i64 (nn : Nat)), (8, .slice (some ⟨o, 0, none⟩) nn nn), (9, .int .i64 (i : Nat))] ρ ∧ S = [H1, H2, [(o, row (ps ++ List.replicate (nn - i) (.pointer none)) 36)]]) nn ?_ ?_
    · refine ⟨0, [], [], [], _, _, by omega, by omega, rfl, fun j hj => absurd hj (by omega), Nat.le_refl _, Nat.le_refl _, Lasts.nil _ _, Lasts.nil _ _, h1, h2, ?_, rfl⟩
      repeat (first | exact Sub.nil | refine Sub.cons rfl ?_)
    clear h1 h2 H1 H2
    rintro m ρ S ⟨i, th1, th2, ps, H1, H2, hi, rfl, hpl, hps, hl1, hl2, hG1, hG2, h1, h2, hρ, rfl⟩
    refine WP.sub hρ ?_
    clear hρ
    by_cases hlt : i < nn
    · have hy : i < ys.length := by omega
      obtain ⟨a, cp', e⟩ := (hr []).some (by intro e; rw [e] at hy; simp at hy)
      injection e with e1 _ e2
      subst e1
      obtain ⟨hkt, hktl, hkto⟩ := h.kt hy
      obtain ⟨hkh, hkhl, hkho⟩ := h.kh hy
      have hrep : List.replicate (nn - i) (Value.pointer none) = .pointer none :: List.replicate (nn - (i + 1)) (.pointer none) := by
        rw [show nn - i = (nn - (i + 1)) + 1 by omega, List.replicate_succ]
      refine WP.seq (WP.sregion ?_)
      refine RX.pure (.none rfl) rfl rfl (p_move rfl) ?_
      refine RX.pure (.none rfl) rfl rfl (p_move rfl) ?_
      refine RX.pure (.none rfl) rfl rfl (p_lss rfl rfl) ?_
      refine RX.say (t := 51) rfl (.bool true) (by rw [decide_eq_true]; omega) ?_
      refine RX.nil ?_
      refine WP.condT rfl (WP.skip ?_)
      refine WP.seq (WP.block ?_)
      refine WP.sregion ?_
      refine RX.pure (.none rfl) rfl rfl (p_move rfl) ?_
      refine RX.pure (.none rfl) rfl rfl (p_move rfl) ?_
      refine RX.pure (.none rfl) rfl rfl (p_move rfl) ?_
      refine RX.pure (.none rfl) rfl rfl (p_move rfl) ?_
      refine RX.pure (.none rfl) rfl rfl (p_idxS rfl rfl sl_22 (by omega) (by omega)) ?_
      refine RX.pure (.none rfl) rfl rfl (p_faddr rfl fa_40_0) ?_
      refine RX.read (.none rfl) rfl rfl rfl (r_loadV rfl ldv_30 (h.rt hy (hr _)) hktl) ?_
      refine RX.pure (.none rfl) rfl rfl (p_buildS zr_40 pl_40 rfl (fill3 hktl hkto)) ?_
      refine RX.eff (.none rfl) rfl rfl rfl (e_box rfl rfl) ?_
      rintro _ _ ⟨n62, rfl, rfl⟩
      (first | refine RX.pure (.none rfl) rfl rfl (p_idxSlice0 rfl rfl sl_38 (by omega) (by omega)) ?_ | refine RX.pure (.none rfl) rfl rfl (p_idxSlice rfl rfl sl_38 (by omega) (by omega)) ?_)
      refine RX.st 2 (.none rfl) rfl rfl sz_36 rfl rfl (own_lt hpl hlt) _ (own_set hpl hrep _) ?_
      refine RX.take 3 ?_
      refine RX.nil ?_
      refine WP.sdraw mixed (by kernel_rfl) ?_
      refine RX.pure (.none rfl) rfl rfl (p_move rfl) ?_
      refine RX.pure (.none rfl) rfl rfl (p_move rfl) ?_
      refine RX.pure (.none rfl) rfl rfl (p_move rfl) ?_
      refine RX.pure (.none rfl) rfl rfl (p_idxS rfl rfl sl_22 (by omega) (by omega)) ?_
      refine RX.pure (.none rfl) rfl rfl (p_faddr rfl fa_40_0) ?_
      refine RX.read (.none rfl) rfl rfl rfl (r_loadV rfl ldv_30 (h.rt hy (hr _)) hktl) ?_
      refine RX.pure (.none rfl) rfl rfl (p_move rfl) ?_
      refine RX.pure (.none rfl) rfl rfl (p_move rfl) ?_
      refine RX.pure (.none rfl) rfl rfl (p_idxS rfl rfl sl_22 (by omega) (by omega)) ?_
      refine RX.pure (.none rfl) rfl rfl (p_faddr rfl fa_40_1) ?_
      refine RX.read (.none rfl) rfl rfl rfl (r_loadV rfl ldv_32 (h.rh hy (hr _)) hkhl) ?_
      refine RX.eff (.none rfl) rfl rfl rfl (e_call [0] rfl call_9 rfl rfl (CTH.put_last hKT h1 hG1 hl1 (by omega) hkt hktl hkto hkhl hkho)) ?_
      rintro _ _ ⟨_, ⟨H1', th1', rfl, hl1', hG1', h1'⟩, rfl⟩
      refine RX.nil ?_
      have hps' : ∀ j, j < i + 1 → ∃ b, (ps ++ [.pointer (some ⟨n62, 0, none⟩)])[j]? = some (.pointer (some b)) := by
        intro j hj
        by_cases hji : j < i
        · rw [List.getElem?_append_left (by omega)]; exact hps j hji
        · obtain rfl : j = i := by omega
          exact ⟨_, by rw [List.getElem?_append_right (by omega), hpl]; simp; rfl⟩
      have hget : (ps ++ [Value.pointer (some ⟨n62, 0, none⟩)])[i]? = some (.pointer (some ⟨n62, 0, none⟩)) := by rw [List.getElem?_append_right (by omega), hpl]; simp
      have hVP : VP (ps ++ [.pointer (some ⟨n62, 0, none⟩)]) i = [.pointer (some ⟨n62, 0, none⟩)] := by
        simp only [VP, List.getD_eq_getElem?_getD, hget]; rfl
      have hVP' : ∀ j, j < i → VP (ps ++ [.pointer (some ⟨n62, 0, none⟩)]) j = VP ps j := fun j hj => by
        simp only [VP, List.getD_eq_getElem?_getD, List.getElem?_append_left (show j < ps.length by omega)]
      have hp2 := CHT.put_last (w0 := w0) hKH h2 (hG2.congr hVP') hl2 (by omega) hkh hkhl hkho (by rw [hVP]; rfl) (by rw [hVP]; rfl)
      rw [hVP] at hp2
      refine WP.draw mixed (by kernel_rfl) ?_
      refine RX.pure (.none rfl) rfl rfl (p_move rfl) ?_
      refine RX.pure (.none rfl) rfl rfl (p_move rfl) ?_
      refine RX.pure (.none rfl) rfl rfl (p_move rfl) ?_
      refine RX.pure (.none rfl) rfl rfl (p_idxS rfl rfl sl_22 (by omega) (by omega)) ?_
      refine RX.pure (.none rfl) rfl rfl (p_faddr rfl fa_40_1) ?_
      refine RX.read (.none rfl) rfl rfl rfl (r_loadV rfl ldv_32 (h.rh hy (hr _)) hkhl) ?_
      refine RX.pure (.none rfl) rfl rfl (p_move rfl) ?_
      refine RX.pure (.none rfl) rfl rfl (p_move rfl) ?_
      (first | refine RX.pure (.none rfl) rfl rfl (p_idxSlice0 rfl rfl sl_38 (by omega) (by omega)) ?_ | refine RX.pure (.none rfl) rfl rfl (p_idxSlice rfl rfl sl_38 (by omega) (by omega)) ?_)
      refine RX.ld 2 (.none rfl) rfl rfl na_36 rfl (own_get hget) ?_
      refine RX.eff (.none rfl) rfl rfl rfl (e_call [1] rfl call_10 rfl rfl hp2) ?_
      rintro _ _ ⟨_, ⟨H2', th2', rfl, hl2', hG2', h2'⟩, rfl⟩
      refine RX.nil ?_
      refine sq_normal ?_
      refine WP.perm (T := [H1', H2', [(o, row ((ps ++ [.pointer (some ⟨n62, 0, none⟩)]) ++ List.replicate (nn - (i + 1)) (.pointer none)) 36)]]) ?_ ?_
      · simp [others]
        exact List.perm_append_comm_assoc ..
      refine WP.region ?_
      refine RX.pure (.none rfl) rfl rfl (p_move rfl) ?_
      (first | refine RX.pure (.none rfl) rfl rfl (p_add rfl rfl (wr_i64 (by omega) (by omega))) ?_ | refine RX.pure (.none rfl) rfl rfl (p_add rfl rfl rfl) ?_)
      refine RX.pure (.none rfl) rfl rfl (p_assign rfl) ?_
      refine RX.nil ?_
      refine lq_normal (nn - (i + 1)) (by omega) ?_
      refine ⟨i + 1, th1', th2', _, H1', H2', by omega, rfl, by simp [hpl], hps', hl1', hl2', hG1', hG2', h1', h2', ?_, rfl⟩
      repeat (first | exact Sub.nil | refine Sub.cons rfl ?_)
    · refine WP.seq (WP.sregion ?_)
      refine RX.pure (.none rfl) rfl rfl (p_move rfl) ?_
      refine RX.pure (.none rfl) rfl rfl (p_move rfl) ?_
      refine RX.pure (.none rfl) rfl rfl (p_lss rfl rfl) ?_
      refine RX.say (t := 51) rfl (.bool false) (by rw [decide_eq_false]; omega) ?_
      refine RX.nil ?_
      refine WP.condF rfl ?_
      refine WP.exit ?_
      repeat (first | refine sq_exit ?_ | refine bk_exit ?_ | refine lq_exit ?_ | refine cq_exit ?_ | refine bk_exit' rfl ?_)
      obtain rfl : i = nn := by omega
      refine ⟨th1, th2, ps, H1, H2, hpl, hps, hG1, hG2, h1, h2, ?_, by simp⟩
      repeat (first | exact Sub.nil | refine Sub.cons rfl ?_)
  -- the second loop
  clear h1 h2 H1 H2
  rintro ρ S ⟨th1, th2, ps, H1, H2, hpl, hps, hG1, hG2, h1, h2, hρ, rfl⟩
  refine WP.sub hρ ?_
  clear hρ
  refine WP.cut (fun ρ S => S = S ∧ Sub [] ρ) ?_ ?_
  · refine WP.sregion ?_
    refine RX.pure (.none rfl) rfl rfl (p_assign rfl) ?_
    refine RX.nil ?_
    refine WP.block ?_
    refine WP.loop (fun m ρ S => ∃ i th1 th2 H1 H2, i ≤ nn ∧ m = nn - i ∧ Lasts (KT ys) (KH ys) nn th1 ∧ Lasts (KH ys) (VP ps) nn th2 ∧ CTH.At' (Dk Tryd.prog 30) 1024 th1 c1 H1 ∧ CHT.At' (Dk Tryd.prog 32) 1024 th2 c2 H2 ∧
        Sub [(0, .slice p ys.length cp), (3, .pointer (some ⟨c1, 0, none⟩)), (5, .pointer (some ⟨c2, 0, none⟩)), (7, .int .i64 (nn : Nat)), (8, .slice (some ⟨o, 0, none⟩) nn nn), (10, .int .i64 (i : Nat))] ρ ∧ S = [H1, H2, [(o, row ps 36)]]) nn ?_ ?_
    · refine ⟨0, th1, th2, H1, H2, by omega, by omega, hG1, hG2, h1, h2, ?_, rfl⟩
      repeat (first | exact Sub.nil | refine Sub.cons rfl ?_)
    clear h1 h2 H1 H2 hG1 hG2 th1 th2
    rintro m ρ S ⟨i, th1, th2, H1, H2, hi, rfl, hG1, hG2, h1, h2, hρ, rfl⟩
    refine WP.sub hρ ?_
    clear hρ
    by_cases hlt : i < nn
    · have hy : i < ys.length := by omega
      obtain ⟨a, cp', e⟩ := (hr []).some (by intro e; rw [e] at hy; simp at hy)
      injection e with e1 _ e2
      subst e1
      obtain ⟨hkt, hktl, hkto⟩ := h.kt hy
      obtain ⟨hkh, hkhl, hkho⟩ := h.kh hy
      refine WP.seq (WP.sregion ?_)
      refine RX.pure (.none rfl) rfl rfl (p_move rfl) ?_
      refine RX.pure (.none rfl) rfl rfl (p_move rfl) ?_
      refine RX.pure (.none rfl) rfl rfl (p_lss rfl rfl) ?_
      refine RX.say (t := 89) rfl (.bool true) (by rw [decide_eq_true]; omega) ?_
      refine RX.nil ?_
      refine WP.condT rfl (WP.skip ?_)
      refine WP.seq (WP.block ?_)
      refine WP.sregion ?_
      refine RX.pure (.none rfl) rfl rfl (p_move rfl) ?_
      refine RX.pure (.none rfl) rfl rfl (p_assign rfl) ?_
      refine RX.nil ?_
      refine WP.sregion ?_
      refine RX.pure (.none rfl) rfl rfl (p_move rfl) ?_
      refine RX.pure (.none rfl) rfl rfl (p_assign rfl) ?_
      refine RX.nil ?_
      refine WP.cut (fun ρ S => ∃ la lb, la < nn ∧ KT ys la = KT ys i ∧ (∀ j', la < j' → j' < nn → KT ys j' ≠ KT ys i) ∧ lb < nn ∧ KH ys lb = KH ys i ∧ (∀ j', lb < j' → j' < nn → KH ys j' ≠ KH ys i) ∧
          Sub [(0, .slice (some a) ys.length cp), (3, .pointer (some ⟨c1, 0, none⟩)), (5, .pointer (some ⟨c2, 0, none⟩)), (7, .int .i64 (nn : Nat)), (8, .slice (some ⟨o, 0, none⟩) nn nn), (10, .int .i64 (i : Nat)), (11, .int .i64 (la : Nat)), (12, .int .i64 (lb : Nat))] ρ ∧ S = [H1, H2, [(o, row ps 36)]]) ?_ ?_
      · refine WP.sregion ?_
        refine RX.pure (.none rfl) rfl rfl (p_move rfl) ?_
        refine RX.pure (.none rfl) rfl rfl (p_assign rfl) ?_
        refine RX.nil ?_
        refine WP.block ?_
        refine WP.loop (fun m ρ S => ∃ cur la lb, i ≤ cur ∧ cur ≤ nn ∧ m = nn - cur ∧ la < nn ∧ KT ys la = KT ys i ∧ (∀ j', la < j' → j' < cur → KT ys j' ≠ KT ys i) ∧ lb < nn ∧ KH ys lb = KH ys i ∧ (∀ j', lb < j' → j' < cur → KH ys j' ≠ KH ys i) ∧
            Sub [(0, .slice (some a) ys.length cp), (3, .pointer (some ⟨c1, 0, none⟩)), (5, .pointer (some ⟨c2, 0, none⟩)), (7, .int .i64 (nn : Nat)), (8, .slice (some ⟨o, 0, none⟩) nn nn), (10, .int .i64 (i : Nat)), (11, .int .i64 (la : Nat)), (12, .int .i64 (lb : Nat)), (13, .int .i64 (cur : Nat))] ρ ∧ S = [H1, H2, [(o, row ps 36)]]) (nn - i) ?_ ?_
        · refine ⟨i, i, i, Nat.le_refl _, hi, rfl, hlt, rfl, fun j' h1 h2 => absurd h2 (by omega), hlt, rfl, fun j' h1 h2 => absurd h2 (by omega), ?_, rfl⟩
          repeat (first | exact Sub.nil | refine Sub.cons rfl ?_)
        rintro m ρ S ⟨cur, la, lb, hic, hcn, rfl, hla, hla1, hla2, hlb, hlb1, hlb2, hρ, rfl⟩
        refine WP.sub hρ ?_
        clear hρ
        by_cases hcl : cur < nn
        · have hyc : cur < ys.length := by omega
          obtain ⟨hktc, hktlc, hktoc⟩ := h.kt hyc
          obtain ⟨hkhc, hkhlc, hkhoc⟩ := h.kh hyc
          refine WP.seq (WP.sregion ?_)
          refine RX.pure (.none rfl) rfl rfl (p_move rfl) ?_
          refine RX.pure (.none rfl) rfl rfl (p_move rfl) ?_
          refine RX.pure (.none rfl) rfl rfl (p_lss rfl rfl) ?_
          refine RX.say (t := 97) rfl (.bool true) (by rw [decide_eq_true]; omega) ?_
          refine RX.nil ?_
          refine WP.condT rfl (WP.skip ?_)
          refine WP.seq (WP.block ?_)
          refine WP.cut (fun ρ S => ∃ la, la < nn ∧ KT ys la = KT ys i ∧ (∀ j', la < j' → j' < cur + 1 → KT ys j' ≠ KT ys i) ∧
              Sub [(0, .slice (some a) ys.length cp), (3, .pointer (some ⟨c1, 0, none⟩)), (5, .pointer (some ⟨c2, 0, none⟩)), (7, .int .i64 (nn : Nat)), (8, .slice (some ⟨o, 0, none⟩) nn nn), (10, .int .i64 (i : Nat)), (11, .int .i64 (la : Nat)), (12, .int .i64 (lb : Nat)), (13, .int .i64 (cur : Nat))] ρ ∧ S = [H1, H2, [(o, row ps 36)]]) ?_ ?_
          · refine WP.sdraw mixed (by kernel_rfl) ?_
            refine RX.pure (.none rfl) rfl rfl (p_move rfl) ?_
            refine RX.pure (.none rfl) rfl rfl (p_move rfl) ?_
            refine RX.pure (.none rfl) rfl rfl (p_idxS rfl rfl sl_22 (by omega) (by omega)) ?_
            refine RX.pure (.none rfl) rfl rfl (p_faddr rfl fa_40_0) ?_
            refine RX.read (.none rfl) rfl rfl rfl (r_loadV rfl ldv_30 (h.rt hyc (hr _)) hktlc) ?_
            refine RX.pure (.none rfl) rfl rfl (p_move rfl) ?_
            refine RX.pure (.none rfl) rfl rfl (p_move rfl) ?_
            refine RX.pure (.none rfl) rfl rfl (p_idxS rfl rfl sl_22 (by omega) (by omega)) ?_
            refine RX.pure (.none rfl) rfl rfl (p_faddr rfl fa_40_0) ?_
            refine RX.read (.none rfl) rfl rfl rfl (r_loadV rfl ldv_30 (h.rt hy (hr _)) hktl) ?_
            refine RX.pure (.none rfl) rfl rfl (p_eqDeep rfl rfl wideT hktc hkt guardT) ?_
            refine RX.nil ?_
            refine WP.cond rfl (fun hb => ?_) (fun hb => WP.skip ?_)
            · have hb' : KT ys cur = KT ys i := vv_inj (by rw [hktl, hktlc]) (of_dec hb)
              refine WP.region ?_
              refine RX.pure (.none rfl) rfl rfl (p_move rfl) ?_
              refine RX.pure (.none rfl) rfl rfl (p_assign rfl) ?_
              refine RX.nil ?_
              refine ⟨cur, hcl, hb', fun j' h1 h2 => absurd h2 (by omega), ?_, rfl⟩
              repeat (first | exact Sub.nil | refine Sub.cons rfl ?_)
            · have hb' : KT ys cur ≠ KT ys i := fun e => of_ndec hb (by rw [e])
              refine ⟨la, hla, hla1, fun j' h1 h2 => ?_, ?_, rfl⟩
              · by_cases hj : j' = cur
                · rw [hj]; exact hb'
                · exact hla2 j' h1 (by omega)
              · repeat (first | exact Sub.nil | refine Sub.cons rfl ?_)
          clear hla hla1 hla2 la
          rintro ρ S ⟨la, hla, hla1, hla2, hρ, rfl⟩
          refine WP.sub hρ ?_
          clear hρ
          refine WP.sdraw mixed (by kernel_rfl) ?_
          refine RX.pure (.none rfl) rfl rfl (p_move rfl) ?_
          refine RX.pure (.none rfl) rfl rfl (p_move rfl) ?_
          refine RX.pure (.none rfl) rfl rfl (p_idxS rfl rfl sl_22 (by omega) (by omega)) ?_
          refine RX.pure (.none rfl) rfl rfl (p_faddr rfl fa_40_1) ?_
          refine RX.read (.none rfl) rfl rfl rfl (r_loadV rfl ldv_32 (h.rh hyc (hr _)) hkhlc) ?_
          refine RX.pure (.none rfl) rfl rfl (p_move rfl) ?_
          refine RX.pure (.none rfl) rfl rfl (p_move rfl) ?_
          refine RX.pure (.none rfl) rfl rfl (p_idxS rfl rfl sl_22 (by omega) (by omega)) ?_
          refine RX.pure (.none rfl) rfl rfl (p_faddr rfl fa_40_1) ?_
          refine RX.read (.none rfl) rfl rfl rfl (r_loadV rfl ldv_32 (h.rh hy (hr _)) hkhl) ?_
          refine RX.pure (.none rfl) rfl rfl (p_eqDeep rfl rfl wideH hkhc hkh guardH) ?_
          refine RX.nil ?_
          refine WP.cond rfl (fun hb => ?_) (fun hb => WP.skip ?_)
          · have hb' : KH ys cur = KH ys i := vv_inj (by rw [hkhl, hkhlc]) (of_dec hb)
            refine WP.region ?_
            refine RX.pure (.none rfl) rfl rfl (p_move rfl) ?_
            refine RX.pure (.none rfl) rfl rfl (p_assign rfl) ?_
            refine RX.nil ?_
            refine sq_normal ?_
            refine WP.region ?_
            refine RX.pure (.none rfl) rfl rfl (p_move rfl) ?_
            (first | refine RX.pure (.none rfl) rfl rfl (p_add rfl rfl (wr_i64 (by omega) (by omega))) ?_ | refine RX.pure (.none rfl) rfl rfl (p_add rfl rfl rfl) ?_)
            refine RX.pure (.none rfl) rfl rfl (p_assign rfl) ?_
            refine RX.nil ?_
            refine lq_normal (nn - (cur + 1)) (by omega) ?_
            refine ⟨cur + 1, la, cur, by omega, by omega, rfl, hla, hla1, hla2, hcl, hb', fun j' h1 h2 => absurd h2 (by omega), ?_, rfl⟩
            repeat (first | exact Sub.nil | refine Sub.cons rfl ?_)
          · have hb' : KH ys cur ≠ KH ys i := fun e => of_ndec hb (by rw [e])
            refine sq_normal ?_
            refine WP.region ?_
            refine RX.pure (.none rfl) rfl rfl (p_move rfl) ?_
            (first | refine RX.pure (.none rfl) rfl rfl (p_add rfl rfl (wr_i64 (by omega) (by omega))) ?_ | refine RX.pure (.none rfl) rfl rfl (p_add rfl rfl rfl) ?_)
            refine RX.pure (.none rfl) rfl rfl (p_assign rfl) ?_
            refine RX.nil ?_
            refine lq_normal (nn - (cur + 1)) (by omega) ?_
            refine ⟨cur + 1, la, lb, by omega, by omega, rfl, hla, hla1, hla2, hlb, hlb1, fun j' h1 h2 => ?_, ?_, rfl⟩
            · by_cases hj : j' = cur
              · rw [hj]; exact hb'
              · exact hlb2 j' h1 (by omega)
            · repeat (first | exact Sub.nil | refine Sub.cons rfl ?_)
        · refine WP.seq (WP.sregion ?_)
          refine RX.pure (.none rfl) rfl rfl (p_move rfl) ?_
          refine RX.pure (.none rfl) rfl rfl (p_move rfl) ?_
          refine RX.pure (.none rfl) rfl rfl (p_lss rfl rfl) ?_
          refine RX.say (t := 97) rfl (.bool false) (by rw [decide_eq_false]; omega) ?_
          refine RX.nil ?_
          refine WP.condF rfl ?_
          refine WP.exit ?_
          repeat (first | refine sq_exit ?_ | refine bk_exit ?_ | refine lq_exit ?_ | refine cq_exit ?_ | refine bk_exit' rfl ?_)
          obtain rfl : cur = nn := by omega
          refine ⟨la, lb, hla, hla1, hla2, hlb, hlb1, hlb2, ?_, rfl⟩
          repeat (first | exact Sub.nil | refine Sub.cons rfl ?_)
      rintro ρ S ⟨la, lb, hla, hla1, hla2, hlb, hlb1, hlb2, hρ, rfl⟩
      refine WP.sub hρ ?_
      clear hρ
      have hya : la < ys.length := by omega
      obtain ⟨hkha, hkhla, hkhoa⟩ := h.kh hya
      obtain ⟨b, hb⟩ := hps lb hlb
      have hVP : VP ps lb = [.pointer (some b)] := by simp only [VP, List.getD_eq_getElem?_getD, hb]; rfl
      have hg2 := CHT.get_last (w0 := w0) hKH h2 hG2 hlb (fun j' h1 h2 e => hlb2 j' h1 h2 (e.trans hlb1)) hlb1 hkh hkhl hkho
      rw [hVP] at hg2
      refine WP.sregion ?_
      refine RX.pure (.none rfl) rfl rfl (p_move rfl) ?_
      refine RX.pure (.none rfl) rfl rfl (p_move rfl) ?_
      refine RX.pure (.none rfl) rfl rfl (p_move rfl) ?_
      refine RX.pure (.none rfl) rfl rfl (p_idxS rfl rfl sl_22 (by omega) (by omega)) ?_
      refine RX.pure (.none rfl) rfl rfl (p_faddr rfl fa_40_0) ?_
      refine RX.read (.none rfl) rfl rfl rfl (r_loadV rfl ldv_30 (h.rt hy (hr _)) hktl) ?_
      refine RX.eff (.none rfl) rfl rfl rfl (e_call [0] rfl call_11 rfl rfl (CTH.get_last hKT h1 hG1 hla (fun j' h1 h2 e => hla2 j' h1 h2 (e.trans hla1)) hla1 hkt hktl hkto)) ?_
      rintro _ _ ⟨_, ⟨H1', th1', rfl, rfl, hG1', h1'⟩, rfl⟩
      refine RX.pure (.none rfl) rfl rfl (p_move rfl) ?_
      refine RX.pure (.none rfl) rfl rfl (p_extract rfl rfl) ?_
      refine RX.pure (.none rfl) rfl rfl (p_extract rfl rfl) ?_
      refine RX.eff (.none rfl) rfl rfl rfl (e_alloc zr_32) ?_
      rintro _ _ ⟨n14, rfl, rfl⟩
      refine RX.stv 3 (.none rfl) rfl rfl sz_32 hkhla hkhoa rfl rfl (KH ys la) (put_all rfl) ?_
      refine RX.pure (.none rfl) rfl rfl (p_assign rfl) ?_
      refine RX.nil ?_
      refine WP.sregion ?_
      refine RX.pure (.none rfl) rfl rfl (p_move rfl) ?_
      refine RX.pure (.none rfl) rfl rfl (p_move rfl) ?_
      refine RX.pure (.none rfl) rfl rfl (p_move rfl) ?_
      refine RX.pure (.none rfl) rfl rfl (p_idxS rfl rfl sl_22 (by omega) (by omega)) ?_
      refine RX.pure (.none rfl) rfl rfl (p_faddr rfl fa_40_1) ?_
      refine RX.read (.none rfl) rfl rfl rfl (r_loadV rfl ldv_32 (h.rh hy (hr _)) hkhl) ?_
      refine RX.eff (.none rfl) rfl rfl rfl (e_call [1] rfl call_12 rfl rfl hg2) ?_
      rintro _ _ ⟨_, ⟨H2', th2', rfl, rfl, hG2', h2'⟩, rfl⟩
      refine RX.pure (.none rfl) rfl rfl (p_move rfl) ?_
      refine RX.pure (.none rfl) rfl rfl (p_extract rfl rfl) ?_
      refine RX.pure (.none rfl) rfl rfl (p_extract rfl rfl) ?_
      refine RX.pure (.none rfl) rfl rfl (p_assign rfl) ?_
      refine RX.pure (.none rfl) rfl rfl (p_assign rfl) ?_
      refine RX.nil ?_
      refine WP.sdraw mixed (by kernel_rfl) ?_
      refine RX.pure (.none rfl) rfl rfl (p_move rfl) ?_
      refine RX.pure (.none rfl) rfl rfl (p_not rfl) ?_
      refine RX.pure (.none rfl) rfl rfl (p_move rfl) ?_
      (first | refine RX.skip (.no rfl rfl rfl rfl) rfl rfl ?_ | refine RX.pure (.yes rfl rfl rfl) rfl rfl (p_move rfl) ?_)
      (first | refine RX.skip (.no rfl rfl rfl rfl) rfl rfl ?_ | refine RX.pure (.yes rfl rfl rfl) rfl rfl (p_not rfl) ?_)
      (first | refine RX.pure (.none rfl) rfl rfl (p_pickT rfl rfl) ?_ | refine RX.pure (.none rfl) rfl rfl (p_pickF rfl rfl) ?_)
      refine RX.pure (.none rfl) rfl rfl (p_move rfl) ?_
      refine RX.ldv 3 (.yes rfl rfl rfl) rfl rfl ldv_32 rfl (take_all hkhla) hkhla ?_
      (first | refine RX.skip (.no rfl rfl rfl rfl) rfl rfl ?_ | refine RX.pure (.yes rfl rfl rfl) rfl rfl (p_move rfl) ?_)
      (first | refine RX.skip (.no rfl rfl rfl rfl) rfl rfl ?_ | refine RX.pure (.yes rfl rfl rfl) rfl rfl (p_move rfl) ?_)
      (first | refine RX.skip (.no rfl rfl rfl rfl) rfl rfl ?_ | refine RX.pure (.yes rfl rfl rfl) rfl rfl (p_idxS rfl rfl sl_22 (by omega) (by omega)) ?_)
      (first | refine RX.skip (.no rfl rfl rfl rfl) rfl rfl ?_ | refine RX.pure (.yes rfl rfl rfl) rfl rfl (p_faddr rfl fa_40_1) ?_)
      refine RX.read (.yes rfl rfl rfl) rfl rfl rfl (r_loadV rfl ldv_32 (h.rh hya (hr _)) hkhla) ?_
      (first | refine RX.skip (.no rfl rfl rfl rfl) rfl rfl ?_ | refine RX.pure (.yes rfl rfl rfl) rfl rfl (p_neDeep rfl rfl wideH hkha hkha guardH) ?_)
      refine RX.say (t := 157) rfl (.bool false) (by simp) ?_
      (first | refine RX.pure (.none rfl) rfl rfl (p_pickT rfl rfl) ?_ | refine RX.pure (.none rfl) rfl rfl (p_pickF rfl rfl) ?_)
      refine RX.pure (.none rfl) rfl rfl (p_move rfl) ?_
      (first | refine RX.skip (.no rfl rfl rfl rfl) rfl rfl ?_ | refine RX.pure (.yes rfl rfl rfl) rfl rfl (p_move rfl) ?_)
      (first | refine RX.skip (.no rfl rfl rfl rfl) rfl rfl ?_ | refine RX.pure (.yes rfl rfl rfl) rfl rfl (p_move rfl) ?_)
      (first | refine RX.skip (.no rfl rfl rfl rfl) rfl rfl ?_ | refine RX.pure (.yes rfl rfl rfl) rfl rfl (p_move rfl) ?_)
      (first | refine RX.skip (.no rfl rfl rfl rfl) rfl rfl ?_ | refine RX.pure (.yes rfl rfl rfl) rfl rfl (p_idxSlice0 rfl rfl sl_38 (by omega) (by omega)) ?_ | refine RX.pure (.yes rfl rfl rfl) rfl rfl (p_idxSlice rfl rfl sl_38 (by omega) (by omega)) ?_)
      (first | refine RX.skip (.no rfl rfl rfl rfl) rfl rfl ?_ | refine RX.ld 2 (.yes rfl rfl rfl) rfl rfl na_36 rfl (own_got hb) ?_)
      (first | refine RX.skip (.no rfl rfl rfl rfl) rfl rfl ?_ | refine RX.pure (.yes rfl rfl rfl) rfl rfl (p_nePtrSame rfl rfl Tryd.underlying36 sz_40 (by decide)) ?_)
      (first | refine RX.pure (.none rfl) rfl rfl (p_pickT rfl rfl) ?_ | refine RX.pure (.none rfl) rfl rfl (p_pickF rfl rfl) ?_)
      refine RX.nil ?_
      refine WP.condF rfl (WP.skip ?_)
      refine sq_normal ?_
      refine WP.perm (T := [H1', H2', [(o, row ps 36)], [(n14, row (KH ys la) 32)]]) ?_ ?_
      · simp [others]
        exact List.perm_append_comm_assoc ..
      refine WP.take 3 ?_
      refine WP.region ?_
      refine RX.pure (.none rfl) rfl rfl (p_move rfl) ?_
      (first | refine RX.pure (.none rfl) rfl rfl (p_add rfl rfl (wr_i64 (by omega) (by omega))) ?_ | refine RX.pure (.none rfl) rfl rfl (p_add rfl rfl rfl) ?_)
      refine RX.pure (.none rfl) rfl rfl (p_assign rfl) ?_
      refine RX.nil ?_
      refine lq_normal (nn - (i + 1)) (by omega) ?_
      refine ⟨i + 1, th1', th2', H1', H2', by omega, rfl, hG1', hG2', h1', h2', ?_, rfl⟩
      repeat (first | exact Sub.nil | refine Sub.cons rfl ?_)
    · refine WP.seq (WP.sregion ?_)
      refine RX.pure (.none rfl) rfl rfl (p_move rfl) ?_
      refine RX.pure (.none rfl) rfl rfl (p_move rfl) ?_
      refine RX.pure (.none rfl) rfl rfl (p_lss rfl rfl) ?_
      refine RX.say (t := 89) rfl (.bool false) (by rw [decide_eq_false]; omega) ?_
      refine RX.nil ?_
      refine WP.condF rfl ?_
      refine WP.exit ?_
      repeat (first | refine sq_exit ?_ | refine bk_exit ?_ | refine lq_exit ?_ | refine cq_exit ?_ | refine bk_exit' rfl ?_)
      exact ⟨rfl, Sub.nil⟩
  rintro ρ S ⟨_, hρ⟩
  refine WP.sub hρ ?_
  refine WP.sregion ?_
  refine RX.pure (.none rfl) rfl rfl (p_assign rfl) ?_
  refine RX.nil ?_
  refine WP.ret ?_
  repeat (first | refine sq_ret ?_ | refine bk_ret ?_ | refine lq_ret ?_ | refine cq_ret ?_)
  exact fin1' 0 rfl rfl rfl ⟨rfl, rfl⟩
end Go.Proofs.YtpakklmkajjodaaDoor
