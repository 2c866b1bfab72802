/- The cache's own functions, walked: Drop, Len, Keys, New; and all of them at a cache that is not there (items of 1 and 1 cells). -/
import Derived.Test.YtpakklmkajjodaaDoorCW2S
set_option maxRecDepth 100000
namespace Go.Proofs.YtpakklmkajjodaaDoor.CSI
open Go Go.EL Go.EL.Cache
section
variable {w0 : World}
theorem dropHit_tri {D : Value → Prop} (hK : KeyTy Tryd.prog 9 D) (c l cap m i clk : Nat) (most : Int) (fv : Value) (xs : List It) (sp : List Value) (x : It) (es : List MapEntry) (j b : Nat) (fr : List Nat) (Hf : Hp)
    (hu : Oks 1 1 xs) (hx : xs[i]? = some x) (hn : x.newer < xs.length) (ho : x.older < xs.length)
    (hk : D (vv x.key)) (hD : ∀ e, e ∈ es → D e.key) (hnd : (es.map (·.key)).Nodup) (hj : es[j]? = some ⟨vv x.key, .int .i64 i, b⟩)
    (hf : Vec 3 1 ienc fr fv Hf) (hb : (fr.length + 1) * 8 ≤ 140737488355328) :
    Tri Tryd.prog w0 15 #[.pointer (some ⟨c, 0, none⟩), vv x.key] [[(c, cc most m l xs.length cap fv)], [(l, li xs sp)], [(m, .map ⟨es⟩ clk)], Hf]
      (fun v S' => v = .bool true ∧ ∃ fv' Hf', Vec 3 1 ienc (fr ++ [i]) fv' Hf' ∧ S' = [[(c, cc most m l xs.length cap fv')], [(l, li ((outL xs i).set i zeroIt) sp)], [(m, .map ⟨es.eraseIdx j⟩ clk)], Hf']) := by
  refine Tri.mk Tryd.func15 rfl rfl rfl ?_
  refine WP.sregion ?_
  refine RX.pure (.none rfl) rfl rfl (p_assign rfl) ?_
  refine RX.nil ?_
  refine WP.seq (WP.sregion ?_)
  refine RX.pure (.none rfl) rfl rfl (p_move rfl) ?_
  refine RX.pure (.none rfl) rfl rfl (p_eqNilPtr rfl rfl Tryd.underlying49) ?_
  refine RX.pure (.none rfl) rfl rfl (p_move rfl) ?_
  (first | refine RX.skip (.no rfl rfl rfl rfl) rfl rfl ?_ | refine RX.pure (.yes rfl rfl rfl) rfl rfl (p_move rfl) ?_)
  (first | refine RX.skip (.no rfl rfl rfl rfl) rfl rfl ?_ | refine RX.pure (.yes rfl rfl rfl) rfl rfl (p_nilCheck rfl) ?_)
  (first | refine RX.skip (.no rfl rfl rfl rfl) rfl rfl ?_ | refine RX.pure (.yes rfl rfl rfl) rfl rfl (p_fieldAddr rfl fa_54_1) ?_)
  (first | refine RX.skip (.no rfl rfl rfl rfl) rfl rfl ?_ | refine RX.ld 0 (.yes rfl rfl rfl) rfl rfl na_50 rfl rfl ?_ | refine RX.ld 1 (.yes rfl rfl rfl) rfl rfl na_50 rfl rfl ?_ | refine RX.ld 2 (.yes rfl rfl rfl) rfl rfl na_50 rfl rfl ?_ | refine RX.ld 3 (.yes rfl rfl rfl) rfl rfl na_50 rfl rfl ?_ | refine RX.ld 4 (.yes rfl rfl rfl) rfl rfl na_50 rfl rfl ?_ | refine RX.ld 5 (.yes rfl rfl rfl) rfl rfl na_50 rfl rfl ?_ | refine RX.ld 6 (.yes rfl rfl rfl) rfl rfl na_50 rfl rfl ?_ | refine RX.ld 7 (.yes rfl rfl rfl) rfl rfl na_50 rfl rfl ?_)
  (first | refine RX.skip (.no rfl rfl rfl rfl) rfl rfl ?_ | refine RX.pure (.yes rfl rfl rfl) rfl rfl (p_eqNilMap rfl rfl Tryd.underlying50) ?_)
  (first | refine RX.pure (.none rfl) rfl rfl (p_pickT rfl rfl) ?_ | refine RX.pure (.none rfl) rfl rfl (p_pickF rfl rfl) ?_)
  refine RX.nil ?_
  refine WP.condF rfl (WP.skip ?_)
  refine WP.sregion ?_
  refine RX.pure (.none rfl) rfl rfl (p_move rfl) ?_
  refine RX.pure (.none rfl) rfl rfl (p_nilCheck rfl) ?_
  refine RX.pure (.none rfl) rfl rfl (p_fieldAddr rfl fa_54_1) ?_
  (first | refine RX.ld 0 (.none rfl) rfl rfl na_50 rfl rfl ?_ | refine RX.ld 1 (.none rfl) rfl rfl na_50 rfl rfl ?_ | refine RX.ld 2 (.none rfl) rfl rfl na_50 rfl rfl ?_ | refine RX.ld 3 (.none rfl) rfl rfl na_50 rfl rfl ?_ | refine RX.ld 4 (.none rfl) rfl rfl na_50 rfl rfl ?_ | refine RX.ld 5 (.none rfl) rfl rfl na_50 rfl rfl ?_ | refine RX.ld 6 (.none rfl) rfl rfl na_50 rfl rfl ?_ | refine RX.ld 7 (.none rfl) rfl rfl na_50 rfl rfl ?_)
  refine RX.pure (.none rfl) rfl rfl (p_move rfl) ?_
  refine RX.read (.none rfl) rfl rfl rfl (r_lookupHit 2 rfl rfl Tryd.underlying50 hK rfl hk hD hnd hj rfl) ?_
  refine RX.pure (.none rfl) rfl rfl (p_move rfl) ?_
  refine RX.pure (.none rfl) rfl rfl (p_extract rfl rfl) ?_
  refine RX.pure (.none rfl) rfl rfl (p_extract rfl rfl) ?_
  refine RX.pure (.none rfl) rfl rfl (p_assign rfl) ?_
  refine RX.pure (.none rfl) rfl rfl (p_assign rfl) ?_
  refine RX.nil ?_
  refine WP.seq (WP.sregion ?_)
  refine RX.pure (.none rfl) rfl rfl (p_move rfl) ?_
  refine RX.nil ?_
  refine WP.condT rfl ?_
  refine WP.region ?_
  refine RX.pure (.none rfl) rfl rfl (p_move rfl) ?_
  refine RX.pure (.none rfl) rfl rfl (p_move rfl) ?_
  refine RX.eff (.none rfl) rfl rfl rfl (e_call [0, 1, 2, 3] rfl call_29 rfl rfl (remove_tri hK c l cap m i clk most fv xs sp x es _ j fr Hf hu hx hn ho hk hD hnd hj rfl hf hb)) ?_
  rintro _ _ ⟨S1, ⟨fv', Hf', hV, rfl⟩, rfl⟩
  refine RX.nil ?_
  refine WP.sregion ?_
  refine RX.pure (.none rfl) rfl rfl (p_move rfl) ?_
  refine RX.pure (.none rfl) rfl rfl (p_assign rfl) ?_
  refine RX.nil ?_
  refine WP.ret ?_
  repeat (first | refine sq_ret ?_ | refine bk_ret ?_ | refine lq_ret ?_ | refine cq_ret ?_)
  exact fin1 rfl rfl rfl ⟨rfl, fv', Hf', hV, rfl⟩

theorem dropMiss_tri {D : Value → Prop} (hK : KeyTy Tryd.prog 9 D) (c l cap m clk n : Nat) (most : Int) (fv : Value) (es : List MapEntry) (ks : List Value)
    (hk : D (vv ks)) (hD : ∀ e, e ∈ es → D e.key) (hmiss : ∀ e, e ∈ es → vv ks ≠ e.key) :
    Tri Tryd.prog w0 15 #[.pointer (some ⟨c, 0, none⟩), vv ks] [[(c, cc most m l n cap fv)], [(m, .map ⟨es⟩ clk)]]
      (fun v S' => v = .bool false ∧ S' = [[(c, cc most m l n cap fv)], [(m, .map ⟨es⟩ clk)]]) := by
  refine Tri.mk Tryd.func15 rfl rfl rfl ?_
  refine WP.sregion ?_
  refine RX.pure (.none rfl) rfl rfl (p_assign rfl) ?_
  refine RX.nil ?_
  refine WP.seq (WP.sregion ?_)
  refine RX.pure (.none rfl) rfl rfl (p_move rfl) ?_
  refine RX.pure (.none rfl) rfl rfl (p_eqNilPtr rfl rfl Tryd.underlying49) ?_
  refine RX.pure (.none rfl) rfl rfl (p_move rfl) ?_
  (first | refine RX.skip (.no rfl rfl rfl rfl) rfl rfl ?_ | refine RX.pure (.yes rfl rfl rfl) rfl rfl (p_move rfl) ?_)
  (first | refine RX.skip (.no rfl rfl rfl rfl) rfl rfl ?_ | refine RX.pure (.yes rfl rfl rfl) rfl rfl (p_nilCheck rfl) ?_)
  (first | refine RX.skip (.no rfl rfl rfl rfl) rfl rfl ?_ | refine RX.pure (.yes rfl rfl rfl) rfl rfl (p_fieldAddr rfl fa_54_1) ?_)
  (first | refine RX.skip (.no rfl rfl rfl rfl) rfl rfl ?_ | refine RX.ld 0 (.yes rfl rfl rfl) rfl rfl na_50 rfl rfl ?_ | refine RX.ld 1 (.yes rfl rfl rfl) rfl rfl na_50 rfl rfl ?_ | refine RX.ld 2 (.yes rfl rfl rfl) rfl rfl na_50 rfl rfl ?_ | refine RX.ld 3 (.yes rfl rfl rfl) rfl rfl na_50 rfl rfl ?_ | refine RX.ld 4 (.yes rfl rfl rfl) rfl rfl na_50 rfl rfl ?_ | refine RX.ld 5 (.yes rfl rfl rfl) rfl rfl na_50 rfl rfl ?_ | refine RX.ld 6 (.yes rfl rfl rfl) rfl rfl na_50 rfl rfl ?_ | refine RX.ld 7 (.yes rfl rfl rfl) rfl rfl na_50 rfl rfl ?_)
  (first | refine RX.skip (.no rfl rfl rfl rfl) rfl rfl ?_ | refine RX.pure (.yes rfl rfl rfl) rfl rfl (p_eqNilMap rfl rfl Tryd.underlying50) ?_)
  (first | refine RX.pure (.none rfl) rfl rfl (p_pickT rfl rfl) ?_ | refine RX.pure (.none rfl) rfl rfl (p_pickF rfl rfl) ?_)
  refine RX.nil ?_
  refine WP.condF rfl (WP.skip ?_)
  refine WP.sregion ?_
  refine RX.pure (.none rfl) rfl rfl (p_move rfl) ?_
  refine RX.pure (.none rfl) rfl rfl (p_nilCheck rfl) ?_
  refine RX.pure (.none rfl) rfl rfl (p_fieldAddr rfl fa_54_1) ?_
  (first | refine RX.ld 0 (.none rfl) rfl rfl na_50 rfl rfl ?_ | refine RX.ld 1 (.none rfl) rfl rfl na_50 rfl rfl ?_ | refine RX.ld 2 (.none rfl) rfl rfl na_50 rfl rfl ?_ | refine RX.ld 3 (.none rfl) rfl rfl na_50 rfl rfl ?_ | refine RX.ld 4 (.none rfl) rfl rfl na_50 rfl rfl ?_ | refine RX.ld 5 (.none rfl) rfl rfl na_50 rfl rfl ?_ | refine RX.ld 6 (.none rfl) rfl rfl na_50 rfl rfl ?_ | refine RX.ld 7 (.none rfl) rfl rfl na_50 rfl rfl ?_)
  refine RX.pure (.none rfl) rfl rfl (p_move rfl) ?_
  refine RX.read (.none rfl) rfl rfl rfl (r_lookupMiss 1 rfl rfl Tryd.underlying50 hK rfl hk hD hmiss zv_3) ?_
  refine RX.pure (.none rfl) rfl rfl (p_move rfl) ?_
  refine RX.pure (.none rfl) rfl rfl (p_extract rfl rfl) ?_
  refine RX.pure (.none rfl) rfl rfl (p_extract rfl rfl) ?_
  refine RX.pure (.none rfl) rfl rfl (p_assign rfl) ?_
  refine RX.pure (.none rfl) rfl rfl (p_assign rfl) ?_
  refine RX.nil ?_
  refine WP.seq (WP.sregion ?_)
  refine RX.pure (.none rfl) rfl rfl (p_move rfl) ?_
  refine RX.nil ?_
  refine WP.condF rfl (WP.skip ?_)
  refine WP.sregion ?_
  refine RX.pure (.none rfl) rfl rfl (p_move rfl) ?_
  refine RX.pure (.none rfl) rfl rfl (p_assign rfl) ?_
  refine RX.nil ?_
  refine WP.ret ?_
  repeat (first | refine sq_ret ?_ | refine bk_ret ?_ | refine lq_ret ?_ | refine cq_ret ?_)
  exact fin1 rfl rfl rfl ⟨rfl, rfl⟩

theorem len_tri (c l cap m clk n : Nat) (most : Int) (fv : Value) (es : List MapEntry) :
    Tri Tryd.prog w0 16 #[.pointer (some ⟨c, 0, none⟩)] [[(c, cc most m l n cap fv)], [(m, .map ⟨es⟩ clk)]]
      (fun v S' => v = .int .i64 es.length ∧ S' = [[(c, cc most m l n cap fv)], [(m, .map ⟨es⟩ clk)]]) := by
  refine Tri.mk Tryd.func16 rfl rfl rfl ?_
  refine WP.sregion ?_
  refine RX.pure (.none rfl) rfl rfl (p_assign rfl) ?_
  refine RX.nil ?_
  refine WP.seq (WP.sregion ?_)
  refine RX.pure (.none rfl) rfl rfl (p_move rfl) ?_
  refine RX.pure (.none rfl) rfl rfl (p_eqNilPtr rfl rfl Tryd.underlying49) ?_
  refine RX.nil ?_
  refine WP.condF rfl (WP.skip ?_)
  refine WP.sregion ?_
  refine RX.pure (.none rfl) rfl rfl (p_move rfl) ?_
  refine RX.pure (.none rfl) rfl rfl (p_nilCheck rfl) ?_
  refine RX.pure (.none rfl) rfl rfl (p_fieldAddr rfl fa_54_1) ?_
  (first | refine RX.ld 0 (.none rfl) rfl rfl na_50 rfl rfl ?_ | refine RX.ld 1 (.none rfl) rfl rfl na_50 rfl rfl ?_ | refine RX.ld 2 (.none rfl) rfl rfl na_50 rfl rfl ?_ | refine RX.ld 3 (.none rfl) rfl rfl na_50 rfl rfl ?_ | refine RX.ld 4 (.none rfl) rfl rfl na_50 rfl rfl ?_ | refine RX.ld 5 (.none rfl) rfl rfl na_50 rfl rfl ?_ | refine RX.ld 6 (.none rfl) rfl rfl na_50 rfl rfl ?_ | refine RX.ld 7 (.none rfl) rfl rfl na_50 rfl rfl ?_)
  (first | refine RX.read (.none rfl) rfl rfl rfl (r_lenMap 0 rfl Tryd.underlying50 rfl) ?_ | refine RX.read (.none rfl) rfl rfl rfl (r_lenMap 1 rfl Tryd.underlying50 rfl) ?_ | refine RX.read (.none rfl) rfl rfl rfl (r_lenMap 2 rfl Tryd.underlying50 rfl) ?_ | refine RX.read (.none rfl) rfl rfl rfl (r_lenMap 3 rfl Tryd.underlying50 rfl) ?_ | refine RX.read (.none rfl) rfl rfl rfl (r_lenMap 4 rfl Tryd.underlying50 rfl) ?_ | refine RX.read (.none rfl) rfl rfl rfl (r_lenMap 5 rfl Tryd.underlying50 rfl) ?_ | refine RX.read (.none rfl) rfl rfl rfl (r_lenMap 6 rfl Tryd.underlying50 rfl) ?_ | refine RX.read (.none rfl) rfl rfl rfl (r_lenMap 7 rfl Tryd.underlying50 rfl) ?_)
  refine RX.pure (.none rfl) rfl rfl (p_assign rfl) ?_
  refine RX.nil ?_
  refine WP.ret ?_
  repeat (first | refine sq_ret ?_ | refine bk_ret ?_ | refine lq_ret ?_ | refine cq_ret ?_)
  exact fin1 rfl rfl rfl ⟨rfl, rfl⟩

theorem keys_tri (c l cap m clk : Nat) (most : Int) (fv : Value) (xs : List It) (sp : List Value) (es : List MapEntry) (ord : List Nat)
    (hu : Oks 1 1 xs) (hring : Ring xs ord) (hn : (0 :: ord).Nodup) (hr : ∀ b, b ∈ 0 :: ord → b < xs.length) (hbig : ord.length ≤ 1000000) :
    Tri Tryd.prog w0 17 #[.pointer (some ⟨c, 0, none⟩)] [[(c, cc most m l xs.length cap fv)], [(l, li xs sp)], [(m, .map ⟨es⟩ clk)]]
      (fun v S' => ∃ H, Vec 9 1 id (ord.map (keyAt xs)) v H ∧ S' = [[(c, cc most m l xs.length cap fv)], [(l, li xs sp)], [(m, .map ⟨es⟩ clk)], H]) := by
  have h0 : 0 < xs.length := hr 0 (by simp)
  have huni : Uni It.cells 4 xs := hu.uni rfl
  obtain ⟨x0, hx0⟩ : ∃ x, xs[0]? = some x := ⟨_, List.getElem?_eq_getElem h0⟩
  have hok0 := hu x0 (List.mem_of_getElem? hx0)
  refine Tri.mk Tryd.func17 rfl rfl rfl ?_
  refine WP.sregion ?_
  refine RX.pure (.none rfl) rfl rfl (p_assign rfl) ?_
  refine RX.nil ?_
  refine WP.seq (WP.sregion ?_)
  refine RX.pure (.none rfl) rfl rfl (p_move rfl) ?_
  refine RX.pure (.none rfl) rfl rfl (p_eqNilPtr rfl rfl Tryd.underlying49) ?_
  refine RX.pure (.none rfl) rfl rfl (p_move rfl) ?_
  (first | refine RX.skip (.no rfl rfl rfl rfl) rfl rfl ?_ | refine RX.pure (.yes rfl rfl rfl) rfl rfl (p_move rfl) ?_)
  (first | refine RX.skip (.no rfl rfl rfl rfl) rfl rfl ?_ | refine RX.pure (.yes rfl rfl rfl) rfl rfl (p_nilCheck rfl) ?_)
  (first | refine RX.skip (.no rfl rfl rfl rfl) rfl rfl ?_ | refine RX.pure (.yes rfl rfl rfl) rfl rfl (p_fieldAddr rfl fa_54_1) ?_)
  (first | refine RX.skip (.no rfl rfl rfl rfl) rfl rfl ?_ | refine RX.ld 0 (.yes rfl rfl rfl) rfl rfl na_50 rfl rfl ?_ | refine RX.ld 1 (.yes rfl rfl rfl) rfl rfl na_50 rfl rfl ?_ | refine RX.ld 2 (.yes rfl rfl rfl) rfl rfl na_50 rfl rfl ?_ | refine RX.ld 3 (.yes rfl rfl rfl) rfl rfl na_50 rfl rfl ?_ | refine RX.ld 4 (.yes rfl rfl rfl) rfl rfl na_50 rfl rfl ?_ | refine RX.ld 5 (.yes rfl rfl rfl) rfl rfl na_50 rfl rfl ?_ | refine RX.ld 6 (.yes rfl rfl rfl) rfl rfl na_50 rfl rfl ?_ | refine RX.ld 7 (.yes rfl rfl rfl) rfl rfl na_50 rfl rfl ?_)
  (first | refine RX.skip (.no rfl rfl rfl rfl) rfl rfl ?_ | refine RX.pure (.yes rfl rfl rfl) rfl rfl (p_eqNilMap rfl rfl Tryd.underlying50) ?_)
  (first | refine RX.pure (.none rfl) rfl rfl (p_pickT rfl rfl) ?_ | refine RX.pure (.none rfl) rfl rfl (p_pickF rfl rfl) ?_)
  refine RX.nil ?_
  refine WP.condF rfl (WP.skip ?_)
  refine WP.sregion ?_
  refine RX.pure (.none rfl) rfl rfl (p_assign rfl) ?_
  refine RX.nil ?_
  refine WP.seq (WP.sregion ?_)
  refine RX.pure (.none rfl) rfl rfl (p_move rfl) ?_
  refine RX.pure (.none rfl) rfl rfl (p_nilCheck rfl) ?_
  refine RX.pure (.none rfl) rfl rfl (p_fieldAddr rfl fa_54_2) ?_
  (first | refine RX.ld 0 (.none rfl) rfl rfl na_51 rfl rfl ?_ | refine RX.ld 1 (.none rfl) rfl rfl na_51 rfl rfl ?_ | refine RX.ld 2 (.none rfl) rfl rfl na_51 rfl rfl ?_ | refine RX.ld 3 (.none rfl) rfl rfl na_51 rfl rfl ?_ | refine RX.ld 4 (.none rfl) rfl rfl na_51 rfl rfl ?_ | refine RX.ld 5 (.none rfl) rfl rfl na_51 rfl rfl ?_ | refine RX.ld 6 (.none rfl) rfl rfl na_51 rfl rfl ?_ | refine RX.ld 7 (.none rfl) rfl rfl na_51 rfl rfl ?_)
  (first | refine RX.pure (.none rfl) rfl rfl (p_idxSlice0 rfl rfl sl_51 (by omega) (by omega)) ?_ | refine RX.pure (.none rfl) rfl rfl (p_idxSlice rfl rfl sl_51 (by omega) (by omega)) ?_)
  refine RX.pure (.none rfl) rfl rfl (p_fieldAddr rfl fa_87_3) ?_
  refine RX.ld 1 (.none rfl) rfl rfl na_3 rfl (fm_get huni hx0 (it_older hok0 rfl)) ?_
  refine RX.pure (.none rfl) rfl rfl (p_assign rfl) ?_
  refine RX.nil ?_
  refine WP.perm (T := [[(c, cc most m l xs.length cap fv)], [(l, li xs sp)], [(m, .map ⟨es⟩ clk)], []]) ?_ ?_
  · simp
  refine WP.block ?_
  refine WP.loop (fun n ρ S => ∃ la lb v H, ord = la ++ lb ∧ n = lb.length ∧ Vec 9 1 id (la.map (keyAt xs)) v H ∧ Sub [(0, .pointer (some ⟨c, 0, none⟩)), (3, v), (4, .int .i64 ((lb ++ [0]).headD 0 : Nat))] ρ ∧ S = [[(c, cc most m l xs.length cap fv)], [(l, li xs sp)], [(m, .map ⟨es⟩ clk)], H]) ord.length ?_ ?_
  · refine ⟨[], ord, _, [], rfl, rfl, Vec.nil _ _ _, .cons rfl (.cons rfl (.cons ?_ .nil)), rfl⟩
    have : x0.older = (ord ++ [0]).headD 0 := by
      have h1 := Seg.head hring
      simp only [olf, hx0] at h1
      rw [h1, List.headD_eq_head?_getD, List.head?_eq_some_head (by simp)]
      rfl
    rw [← this]
    rfl
  rintro n ρ S ⟨la, lb, v, H, hord, hn', hV, hρ, rfl⟩
  obtain ⟨p, cp, rfl⟩ := hV.slice
  cases lb with
  | nil =>
    refine WP.sub (ρ' := [(0, .pointer (some ⟨c, 0, none⟩)), (3, _), (4, .int .i64 0)]) hρ ?_
    clear hρ
    refine WP.seq (WP.sregion ?_)
    refine RX.pure (.none rfl) rfl rfl (p_move rfl) ?_
    refine RX.pure (.none rfl) rfl rfl (p_neInt rfl rfl) ?_
    refine RX.nil ?_
    refine WP.condF rfl ?_
    refine WP.exit ?_
    repeat (first | refine sq_exit ?_ | refine bk_exit ?_ | refine lq_exit ?_ | refine cq_exit ?_ | refine bk_exit' rfl ?_)
    refine sq_normal ?_
    refine WP.sregion ?_
    refine RX.pure (.none rfl) rfl rfl (p_move rfl) ?_
    refine RX.pure (.none rfl) rfl rfl (p_assign rfl) ?_
    refine RX.nil ?_
    have hall : la = ord := by rw [hord, List.append_nil]
    subst hall
    refine WP.ret ?_
    repeat (first | refine sq_ret ?_ | refine bk_ret ?_ | refine lq_ret ?_ | refine cq_ret ?_)
    exact fin1 rfl rfl rfl ⟨H, hV, rfl⟩
  | cons i lb =>
    refine WP.sub (ρ' := [(0, .pointer (some ⟨c, 0, none⟩)), (3, _), (4, .int .i64 (i : Nat))]) hρ ?_
    clear hρ
    have him : i ∈ ord := by rw [hord]; simp
    have hi : i < xs.length := hr i (List.mem_cons_of_mem _ him)
    have hi0 : (i : Int) ≠ 0 := by
      intro e
      have : i = 0 := by omega
      subst this
      exact (List.nodup_cons.1 hn).1 him
    obtain ⟨x, hx⟩ : ∃ x, xs[i]? = some x := ⟨_, List.getElem?_eq_getElem hi⟩
    have hok := hu x (List.mem_of_getElem? hx)
    have hnext : x.older = (lb ++ [0]).headD 0 := by
      have h1 := hring
      unfold Ring at h1
      rw [hord] at h1
      have h2 := (Seg.split la).1 h1
      have h3 := Seg.head h2.2
      simp only [olf, hx] at h3
      rw [h3, List.headD_eq_head?_getD, List.head?_eq_some_head (by simp)]
      rfl
    have hkey : keyAt xs i = x.key := by simp [keyAt, hx]
    have hlen : la.length + 1 + lb.length = ord.length := by rw [hord]; simp; omega
    refine WP.seq (WP.sregion ?_)
    refine RX.pure (.none rfl) rfl rfl (p_move rfl) ?_
    refine RX.pure (.none rfl) rfl rfl (p_neInt rfl rfl) ?_
    refine RX.nil ?_
    refine WP.cond rfl (fun _ => WP.skip ?_) (fun h => absurd (of_decide_eq_false h) (fun hh => hh hi0))
    refine WP.seq (WP.block ?_)
    refine WP.region ?_
    refine RX.pure (.none rfl) rfl rfl (p_move rfl) ?_
    refine RX.pure (.none rfl) rfl rfl (p_move rfl) ?_
    refine RX.pure (.none rfl) rfl rfl (p_nilCheck rfl) ?_
    refine RX.pure (.none rfl) rfl rfl (p_fieldAddr rfl fa_54_2) ?_
    (first | refine RX.ld 0 (.none rfl) rfl rfl na_51 rfl rfl ?_ | refine RX.ld 1 (.none rfl) rfl rfl na_51 rfl rfl ?_ | refine RX.ld 2 (.none rfl) rfl rfl na_51 rfl rfl ?_ | refine RX.ld 3 (.none rfl) rfl rfl na_51 rfl rfl ?_ | refine RX.ld 4 (.none rfl) rfl rfl na_51 rfl rfl ?_ | refine RX.ld 5 (.none rfl) rfl rfl na_51 rfl rfl ?_ | refine RX.ld 6 (.none rfl) rfl rfl na_51 rfl rfl ?_ | refine RX.ld 7 (.none rfl) rfl rfl na_51 rfl rfl ?_)
    refine RX.pure (.none rfl) rfl rfl (p_move rfl) ?_
    (first | refine RX.pure (.none rfl) rfl rfl (p_idxSlice0 rfl rfl sl_51 (by omega) (by omega)) ?_ | refine RX.pure (.none rfl) rfl rfl (p_idxSlice rfl rfl sl_51 (by omega) (by omega)) ?_)
    refine RX.pure (.none rfl) rfl rfl (p_fieldAddr rfl fa_87_0) ?_
    refine RX.ldv 1 (.none rfl) rfl rfl ldv_9 rfl (fm_cells huni hx (it_key hok) (by decide)) hok.k ?_
    refine RX.eff (.none rfl) rfl rfl rfl (e_buildSlice sl_62 zr_9 rfl (by decide) (by decide) rfl rfl (fill_one rfl hok.k hok.ko)) ?_
    rintro _ _ ⟨n40, rfl, rfl⟩
    refine RX.eff (.none rfl) rfl rfl rfl (e_append (enc := id) (ys := [x.key]) 3 rfl rfl sl_62 zr_9 rfl (by decide) by_9 (keys_uni hu hr (fun i hi => by rw [hord]; exact List.mem_append_left _ hi)) (fun y hy => by rw [List.mem_singleton.1 hy]; exact hok.k) (fun y hy => by rw [List.mem_singleton.1 hy]; exact hok.ko) hV rfl (.inr ⟨_, _, rfl, RdN.own 4 rfl (by simp)⟩) (by simp; omega) (by simp [maxLen]; omega)) ?_
    rintro _ _ ⟨H', hV', rfl⟩; obtain ⟨p', cp', rfl⟩ := hV'.slice
    refine RX.pure (.none rfl) rfl rfl (p_assign rfl) ?_
    refine RX.take 4 ?_
    refine RX.nil ?_
    refine sq_normal ?_
    refine WP.region ?_
    refine RX.pure (.none rfl) rfl rfl (p_move rfl) ?_
    refine RX.pure (.none rfl) rfl rfl (p_nilCheck rfl) ?_
    refine RX.pure (.none rfl) rfl rfl (p_fieldAddr rfl fa_54_2) ?_
    (first | refine RX.ld 0 (.none rfl) rfl rfl na_51 rfl rfl ?_ | refine RX.ld 1 (.none rfl) rfl rfl na_51 rfl rfl ?_ | refine RX.ld 2 (.none rfl) rfl rfl na_51 rfl rfl ?_ | refine RX.ld 3 (.none rfl) rfl rfl na_51 rfl rfl ?_ | refine RX.ld 4 (.none rfl) rfl rfl na_51 rfl rfl ?_ | refine RX.ld 5 (.none rfl) rfl rfl na_51 rfl rfl ?_ | refine RX.ld 6 (.none rfl) rfl rfl na_51 rfl rfl ?_ | refine RX.ld 7 (.none rfl) rfl rfl na_51 rfl rfl ?_)
    refine RX.pure (.none rfl) rfl rfl (p_move rfl) ?_
    (first | refine RX.pure (.none rfl) rfl rfl (p_idxSlice0 rfl rfl sl_51 (by omega) (by omega)) ?_ | refine RX.pure (.none rfl) rfl rfl (p_idxSlice rfl rfl sl_51 (by omega) (by omega)) ?_)
    refine RX.pure (.none rfl) rfl rfl (p_fieldAddr rfl fa_87_3) ?_
    refine RX.ld 1 (.none rfl) rfl rfl na_3 rfl (fm_get huni hx (it_older hok rfl)) ?_
    refine RX.pure (.none rfl) rfl rfl (p_assign rfl) ?_
    refine RX.nil ?_
    refine lq_normal lb.length (by rw [hn']; simp) ?_
    refine ⟨la ++ [i], lb, _, H', by rw [hord]; simp, rfl, ?_, .cons rfl (.cons rfl (.cons (by rw [← hnext]; rfl) .nil)), rfl⟩
    rw [List.map_append, List.map_singleton, hkey]
    exact hV'
end
section
variable {w0 : World}
/-- no cache: a nil pointer -/
theorem putNil_tri (ks vs : List Value) : Tri Tryd.prog w0 13 #[.pointer none, vv ks, vv vs] [] (fun v S' => v = .tuple #[vv zeroIt.key, .bool false] ∧ S' = []) := by
  refine Tri.mk Tryd.func13 rfl rfl rfl ?_
  refine WP.sregion ?_
  refine RX.pure (.none rfl) rfl rfl (p_assign rfl) ?_
  refine RX.pure (.none rfl) rfl rfl (p_assign rfl) ?_
  refine RX.nil ?_
  refine WP.seq (WP.sregion ?_)
  refine RX.pure (.none rfl) rfl rfl (p_move rfl) ?_
  refine RX.pure (.none rfl) rfl rfl (p_eqNilPtr rfl rfl Tryd.underlying49) ?_
  refine RX.pure (.none rfl) rfl rfl (p_move rfl) ?_
  (first | refine RX.skip (.no rfl rfl rfl rfl) rfl rfl ?_ | refine RX.pure (.yes rfl rfl rfl) rfl rfl (p_move rfl) ?_)
  (first | refine RX.skip (.no rfl rfl rfl rfl) rfl rfl ?_ | refine RX.pure (.yes rfl rfl rfl) rfl rfl (p_nilCheck rfl) ?_)
  (first | refine RX.skip (.no rfl rfl rfl rfl) rfl rfl ?_ | refine RX.pure (.yes rfl rfl rfl) rfl rfl (p_fieldAddr rfl fa_54_1) ?_)
  (first | refine RX.skip (.no rfl rfl rfl rfl) rfl rfl ?_ | refine RX.ld 0 (.yes rfl rfl rfl) rfl rfl na_50 rfl rfl ?_ | refine RX.ld 1 (.yes rfl rfl rfl) rfl rfl na_50 rfl rfl ?_ | refine RX.ld 2 (.yes rfl rfl rfl) rfl rfl na_50 rfl rfl ?_ | refine RX.ld 3 (.yes rfl rfl rfl) rfl rfl na_50 rfl rfl ?_ | refine RX.ld 4 (.yes rfl rfl rfl) rfl rfl na_50 rfl rfl ?_ | refine RX.ld 5 (.yes rfl rfl rfl) rfl rfl na_50 rfl rfl ?_ | refine RX.ld 6 (.yes rfl rfl rfl) rfl rfl na_50 rfl rfl ?_ | refine RX.ld 7 (.yes rfl rfl rfl) rfl rfl na_50 rfl rfl ?_)
  (first | refine RX.skip (.no rfl rfl rfl rfl) rfl rfl ?_ | refine RX.pure (.yes rfl rfl rfl) rfl rfl (p_eqNilMap rfl rfl Tryd.underlying50) ?_)
  (first | refine RX.pure (.none rfl) rfl rfl (p_pickT rfl rfl) ?_ | refine RX.pure (.none rfl) rfl rfl (p_pickF rfl rfl) ?_)
  refine RX.nil ?_
  refine WP.condT rfl ?_
  refine WP.sregion ?_
  refine RX.pure (.none rfl) rfl rfl (p_move rfl) ?_
  refine RX.pure (.none rfl) rfl rfl (p_assign rfl) ?_
  refine RX.pure (.none rfl) rfl rfl (p_assign rfl) ?_
  refine RX.nil ?_
  refine WP.ret ?_
  repeat (first | refine sq_ret ?_ | refine bk_ret ?_ | refine lq_ret ?_ | refine cq_ret ?_)
  exact fin2 rfl rfl rfl rfl ⟨rfl, rfl⟩
theorem getNil_tri (ks : List Value) : Tri Tryd.prog w0 14 #[.pointer none, vv ks] [] (fun v S' => v = .tuple #[vv zeroIt.val, .bool false] ∧ S' = []) := by
  refine Tri.mk Tryd.func14 rfl rfl rfl ?_
  refine WP.sregion ?_
  refine RX.pure (.none rfl) rfl rfl (p_assign rfl) ?_
  refine RX.pure (.none rfl) rfl rfl (p_assign rfl) ?_
  refine RX.nil ?_
  refine WP.seq (WP.sregion ?_)
  refine RX.pure (.none rfl) rfl rfl (p_move rfl) ?_
  refine RX.pure (.none rfl) rfl rfl (p_eqNilPtr rfl rfl Tryd.underlying49) ?_
  refine RX.pure (.none rfl) rfl rfl (p_move rfl) ?_
  (first | refine RX.skip (.no rfl rfl rfl rfl) rfl rfl ?_ | refine RX.pure (.yes rfl rfl rfl) rfl rfl (p_move rfl) ?_)
  (first | refine RX.skip (.no rfl rfl rfl rfl) rfl rfl ?_ | refine RX.pure (.yes rfl rfl rfl) rfl rfl (p_nilCheck rfl) ?_)
  (first | refine RX.skip (.no rfl rfl rfl rfl) rfl rfl ?_ | refine RX.pure (.yes rfl rfl rfl) rfl rfl (p_fieldAddr rfl fa_54_1) ?_)
  (first | refine RX.skip (.no rfl rfl rfl rfl) rfl rfl ?_ | refine RX.ld 0 (.yes rfl rfl rfl) rfl rfl na_50 rfl rfl ?_ | refine RX.ld 1 (.yes rfl rfl rfl) rfl rfl na_50 rfl rfl ?_ | refine RX.ld 2 (.yes rfl rfl rfl) rfl rfl na_50 rfl rfl ?_ | refine RX.ld 3 (.yes rfl rfl rfl) rfl rfl na_50 rfl rfl ?_ | refine RX.ld 4 (.yes rfl rfl rfl) rfl rfl na_50 rfl rfl ?_ | refine RX.ld 5 (.yes rfl rfl rfl) rfl rfl na_50 rfl rfl ?_ | refine RX.ld 6 (.yes rfl rfl rfl) rfl rfl na_50 rfl rfl ?_ | refine RX.ld 7 (.yes rfl rfl rfl) rfl rfl na_50 rfl rfl ?_)
  (first | refine RX.skip (.no rfl rfl rfl rfl) rfl rfl ?_ | refine RX.pure (.yes rfl rfl rfl) rfl rfl (p_eqNilMap rfl rfl Tryd.underlying50) ?_)
  (first | refine RX.pure (.none rfl) rfl rfl (p_pickT rfl rfl) ?_ | refine RX.pure (.none rfl) rfl rfl (p_pickF rfl rfl) ?_)
  refine RX.nil ?_
  refine WP.condT rfl ?_
  refine WP.sregion ?_
  refine RX.pure (.none rfl) rfl rfl (p_move rfl) ?_
  refine RX.pure (.none rfl) rfl rfl (p_assign rfl) ?_
  refine RX.pure (.none rfl) rfl rfl (p_assign rfl) ?_
  refine RX.nil ?_
  refine WP.ret ?_
  repeat (first | refine sq_ret ?_ | refine bk_ret ?_ | refine lq_ret ?_ | refine cq_ret ?_)
  exact fin2 rfl rfl rfl rfl ⟨rfl, rfl⟩
theorem dropNil_tri (ks : List Value) : Tri Tryd.prog w0 15 #[.pointer none, vv ks] [] (fun v S' => v = .bool false ∧ S' = []) := by
  refine Tri.mk Tryd.func15 rfl rfl rfl ?_
  refine WP.sregion ?_
  refine RX.pure (.none rfl) rfl rfl (p_assign rfl) ?_
  refine RX.nil ?_
  refine WP.seq (WP.sregion ?_)
  refine RX.pure (.none rfl) rfl rfl (p_move rfl) ?_
  refine RX.pure (.none rfl) rfl rfl (p_eqNilPtr rfl rfl Tryd.underlying49) ?_
  refine RX.pure (.none rfl) rfl rfl (p_move rfl) ?_
  (first | refine RX.skip (.no rfl rfl rfl rfl) rfl rfl ?_ | refine RX.pure (.yes rfl rfl rfl) rfl rfl (p_move rfl) ?_)
  (first | refine RX.skip (.no rfl rfl rfl rfl) rfl rfl ?_ | refine RX.pure (.yes rfl rfl rfl) rfl rfl (p_nilCheck rfl) ?_)
  (first | refine RX.skip (.no rfl rfl rfl rfl) rfl rfl ?_ | refine RX.pure (.yes rfl rfl rfl) rfl rfl (p_fieldAddr rfl fa_54_1) ?_)
  (first | refine RX.skip (.no rfl rfl rfl rfl) rfl rfl ?_ | refine RX.ld 0 (.yes rfl rfl rfl) rfl rfl na_50 rfl rfl ?_ | refine RX.ld 1 (.yes rfl rfl rfl) rfl rfl na_50 rfl rfl ?_ | refine RX.ld 2 (.yes rfl rfl rfl) rfl rfl na_50 rfl rfl ?_ | refine RX.ld 3 (.yes rfl rfl rfl) rfl rfl na_50 rfl rfl ?_ | refine RX.ld 4 (.yes rfl rfl rfl) rfl rfl na_50 rfl rfl ?_ | refine RX.ld 5 (.yes rfl rfl rfl) rfl rfl na_50 rfl rfl ?_ | refine RX.ld 6 (.yes rfl rfl rfl) rfl rfl na_50 rfl rfl ?_ | refine RX.ld 7 (.yes rfl rfl rfl) rfl rfl na_50 rfl rfl ?_)
  (first | refine RX.skip (.no rfl rfl rfl rfl) rfl rfl ?_ | refine RX.pure (.yes rfl rfl rfl) rfl rfl (p_eqNilMap rfl rfl Tryd.underlying50) ?_)
  (first | refine RX.pure (.none rfl) rfl rfl (p_pickT rfl rfl) ?_ | refine RX.pure (.none rfl) rfl rfl (p_pickF rfl rfl) ?_)
  refine RX.nil ?_
  refine WP.condT rfl ?_
  refine WP.sregion ?_
  refine RX.pure (.none rfl) rfl rfl (p_assign rfl) ?_
  refine RX.nil ?_
  refine WP.ret ?_
  repeat (first | refine sq_ret ?_ | refine bk_ret ?_ | refine lq_ret ?_ | refine cq_ret ?_)
  exact fin1 rfl rfl rfl ⟨rfl, rfl⟩
theorem lenNil_tri : Tri Tryd.prog w0 16 #[.pointer none] [] (fun v S' => v = .int .i64 0 ∧ S' = []) := by
  refine Tri.mk Tryd.func16 rfl rfl rfl ?_
  refine WP.sregion ?_
  refine RX.pure (.none rfl) rfl rfl (p_assign rfl) ?_
  refine RX.nil ?_
  refine WP.seq (WP.sregion ?_)
  refine RX.pure (.none rfl) rfl rfl (p_move rfl) ?_
  refine RX.pure (.none rfl) rfl rfl (p_eqNilPtr rfl rfl Tryd.underlying49) ?_
  refine RX.nil ?_
  refine WP.condT rfl ?_
  refine WP.sregion ?_
  refine RX.pure (.none rfl) rfl rfl (p_assign rfl) ?_
  refine RX.nil ?_
  refine WP.ret ?_
  repeat (first | refine sq_ret ?_ | refine bk_ret ?_ | refine lq_ret ?_ | refine cq_ret ?_)
  exact fin1 rfl rfl rfl ⟨rfl, rfl⟩
theorem keysNil_tri : Tri Tryd.prog w0 17 #[.pointer none] [] (fun v S' => v = .slice none 0 0 ∧ S' = []) := by
  refine Tri.mk Tryd.func17 rfl rfl rfl ?_
  refine WP.sregion ?_
  refine RX.pure (.none rfl) rfl rfl (p_assign rfl) ?_
  refine RX.nil ?_
  refine WP.seq (WP.sregion ?_)
  refine RX.pure (.none rfl) rfl rfl (p_move rfl) ?_
  refine RX.pure (.none rfl) rfl rfl (p_eqNilPtr rfl rfl Tryd.underlying49) ?_
  refine RX.pure (.none rfl) rfl rfl (p_move rfl) ?_
  (first | refine RX.skip (.no rfl rfl rfl rfl) rfl rfl ?_ | refine RX.pure (.yes rfl rfl rfl) rfl rfl (p_move rfl) ?_)
  (first | refine RX.skip (.no rfl rfl rfl rfl) rfl rfl ?_ | refine RX.pure (.yes rfl rfl rfl) rfl rfl (p_nilCheck rfl) ?_)
  (first | refine RX.skip (.no rfl rfl rfl rfl) rfl rfl ?_ | refine RX.pure (.yes rfl rfl rfl) rfl rfl (p_fieldAddr rfl fa_54_1) ?_)
  (first | refine RX.skip (.no rfl rfl rfl rfl) rfl rfl ?_ | refine RX.ld 0 (.yes rfl rfl rfl) rfl rfl na_50 rfl rfl ?_ | refine RX.ld 1 (.yes rfl rfl rfl) rfl rfl na_50 rfl rfl ?_ | refine RX.ld 2 (.yes rfl rfl rfl) rfl rfl na_50 rfl rfl ?_ | refine RX.ld 3 (.yes rfl rfl rfl) rfl rfl na_50 rfl rfl ?_ | refine RX.ld 4 (.yes rfl rfl rfl) rfl rfl na_50 rfl rfl ?_ | refine RX.ld 5 (.yes rfl rfl rfl) rfl rfl na_50 rfl rfl ?_ | refine RX.ld 6 (.yes rfl rfl rfl) rfl rfl na_50 rfl rfl ?_ | refine RX.ld 7 (.yes rfl rfl rfl) rfl rfl na_50 rfl rfl ?_)
  (first | refine RX.skip (.no rfl rfl rfl rfl) rfl rfl ?_ | refine RX.pure (.yes rfl rfl rfl) rfl rfl (p_eqNilMap rfl rfl Tryd.underlying50) ?_)
  (first | refine RX.pure (.none rfl) rfl rfl (p_pickT rfl rfl) ?_ | refine RX.pure (.none rfl) rfl rfl (p_pickF rfl rfl) ?_)
  refine RX.nil ?_
  refine WP.condT rfl ?_
  refine WP.sregion ?_
  refine RX.pure (.none rfl) rfl rfl (p_assign rfl) ?_
  refine RX.nil ?_
  refine WP.ret ?_
  repeat (first | refine sq_ret ?_ | refine bk_ret ?_ | refine lq_ret ?_ | refine cq_ret ?_)
  exact fin1 rfl rfl rfl ⟨rfl, rfl⟩
/-- a cache that no call made -/
abbrev zc : Obj := row [.int .i64 0, .map none, .slice none 0 0, .slice none 0 0] 54
theorem putZ_tri (c : Nat) (ks vs : List Value) : Tri Tryd.prog w0 13 #[.pointer (some ⟨c, 0, none⟩), vv ks, vv vs] [[(c, zc)]] (fun v S' => v = .tuple #[vv zeroIt.key, .bool false] ∧ S' = [[(c, zc)]]) := by
  refine Tri.mk Tryd.func13 rfl rfl rfl ?_
  refine WP.sregion ?_
  refine RX.pure (.none rfl) rfl rfl (p_assign rfl) ?_
  refine RX.pure (.none rfl) rfl rfl (p_assign rfl) ?_
  refine RX.nil ?_
  refine WP.seq (WP.sregion ?_)
  refine RX.pure (.none rfl) rfl rfl (p_move rfl) ?_
  refine RX.pure (.none rfl) rfl rfl (p_eqNilPtr rfl rfl Tryd.underlying49) ?_
  refine RX.pure (.none rfl) rfl rfl (p_move rfl) ?_
  (first | refine RX.skip (.no rfl rfl rfl rfl) rfl rfl ?_ | refine RX.pure (.yes rfl rfl rfl) rfl rfl (p_move rfl) ?_)
  (first | refine RX.skip (.no rfl rfl rfl rfl) rfl rfl ?_ | refine RX.pure (.yes rfl rfl rfl) rfl rfl (p_nilCheck rfl) ?_)
  (first | refine RX.skip (.no rfl rfl rfl rfl) rfl rfl ?_ | refine RX.pure (.yes rfl rfl rfl) rfl rfl (p_fieldAddr rfl fa_54_1) ?_)
  (first | refine RX.skip (.no rfl rfl rfl rfl) rfl rfl ?_ | refine RX.ld 0 (.yes rfl rfl rfl) rfl rfl na_50 rfl rfl ?_ | refine RX.ld 1 (.yes rfl rfl rfl) rfl rfl na_50 rfl rfl ?_ | refine RX.ld 2 (.yes rfl rfl rfl) rfl rfl na_50 rfl rfl ?_ | refine RX.ld 3 (.yes rfl rfl rfl) rfl rfl na_50 rfl rfl ?_ | refine RX.ld 4 (.yes rfl rfl rfl) rfl rfl na_50 rfl rfl ?_ | refine RX.ld 5 (.yes rfl rfl rfl) rfl rfl na_50 rfl rfl ?_ | refine RX.ld 6 (.yes rfl rfl rfl) rfl rfl na_50 rfl rfl ?_ | refine RX.ld 7 (.yes rfl rfl rfl) rfl rfl na_50 rfl rfl ?_)
  (first | refine RX.skip (.no rfl rfl rfl rfl) rfl rfl ?_ | refine RX.pure (.yes rfl rfl rfl) rfl rfl (p_eqNilMap rfl rfl Tryd.underlying50) ?_)
  (first | refine RX.pure (.none rfl) rfl rfl (p_pickT rfl rfl) ?_ | refine RX.pure (.none rfl) rfl rfl (p_pickF rfl rfl) ?_)
  refine RX.nil ?_
  refine WP.condT rfl ?_
  refine WP.sregion ?_
  refine RX.pure (.none rfl) rfl rfl (p_move rfl) ?_
  refine RX.pure (.none rfl) rfl rfl (p_assign rfl) ?_
  refine RX.pure (.none rfl) rfl rfl (p_assign rfl) ?_
  refine RX.nil ?_
  refine WP.ret ?_
  repeat (first | refine sq_ret ?_ | refine bk_ret ?_ | refine lq_ret ?_ | refine cq_ret ?_)
  exact fin2 rfl rfl rfl rfl ⟨rfl, rfl⟩
theorem getZ_tri (c : Nat) (ks : List Value) : Tri Tryd.prog w0 14 #[.pointer (some ⟨c, 0, none⟩), vv ks] [[(c, zc)]] (fun v S' => v = .tuple #[vv zeroIt.val, .bool false] ∧ S' = [[(c, zc)]]) := by
  refine Tri.mk Tryd.func14 rfl rfl rfl ?_
  refine WP.sregion ?_
  refine RX.pure (.none rfl) rfl rfl (p_assign rfl) ?_
  refine RX.pure (.none rfl) rfl rfl (p_assign rfl) ?_
  refine RX.nil ?_
  refine WP.seq (WP.sregion ?_)
  refine RX.pure (.none rfl) rfl rfl (p_move rfl) ?_
  refine RX.pure (.none rfl) rfl rfl (p_eqNilPtr rfl rfl Tryd.underlying49) ?_
  refine RX.pure (.none rfl) rfl rfl (p_move rfl) ?_
  (first | refine RX.skip (.no rfl rfl rfl rfl) rfl rfl ?_ | refine RX.pure (.yes rfl rfl rfl) rfl rfl (p_move rfl) ?_)
  (first | refine RX.skip (.no rfl rfl rfl rfl) rfl rfl ?_ | refine RX.pure (.yes rfl rfl rfl) rfl rfl (p_nilCheck rfl) ?_)
  (first | refine RX.skip (.no rfl rfl rfl rfl) rfl rfl ?_ | refine RX.pure (.yes rfl rfl rfl) rfl rfl (p_fieldAddr rfl fa_54_1) ?_)
  (first | refine RX.skip (.no rfl rfl rfl rfl) rfl rfl ?_ | refine RX.ld 0 (.yes rfl rfl rfl) rfl rfl na_50 rfl rfl ?_ | refine RX.ld 1 (.yes rfl rfl rfl) rfl rfl na_50 rfl rfl ?_ | refine RX.ld 2 (.yes rfl rfl rfl) rfl rfl na_50 rfl rfl ?_ | refine RX.ld 3 (.yes rfl rfl rfl) rfl rfl na_50 rfl rfl ?_ | refine RX.ld 4 (.yes rfl rfl rfl) rfl rfl na_50 rfl rfl ?_ | refine RX.ld 5 (.yes rfl rfl rfl) rfl rfl na_50 rfl rfl ?_ | refine RX.ld 6 (.yes rfl rfl rfl) rfl rfl na_50 rfl rfl ?_ | refine RX.ld 7 (.yes rfl rfl rfl) rfl rfl na_50 rfl rfl ?_)
  (first | refine RX.skip (.no rfl rfl rfl rfl) rfl rfl ?_ | refine RX.pure (.yes rfl rfl rfl) rfl rfl (p_eqNilMap rfl rfl Tryd.underlying50) ?_)
  (first | refine RX.pure (.none rfl) rfl rfl (p_pickT rfl rfl) ?_ | refine RX.pure (.none rfl) rfl rfl (p_pickF rfl rfl) ?_)
  refine RX.nil ?_
  refine WP.condT rfl ?_
  refine WP.sregion ?_
  refine RX.pure (.none rfl) rfl rfl (p_move rfl) ?_
  refine RX.pure (.none rfl) rfl rfl (p_assign rfl) ?_
  refine RX.pure (.none rfl) rfl rfl (p_assign rfl) ?_
  refine RX.nil ?_
  refine WP.ret ?_
  repeat (first | refine sq_ret ?_ | refine bk_ret ?_ | refine lq_ret ?_ | refine cq_ret ?_)
  exact fin2 rfl rfl rfl rfl ⟨rfl, rfl⟩
theorem dropZ_tri (c : Nat) (ks : List Value) : Tri Tryd.prog w0 15 #[.pointer (some ⟨c, 0, none⟩), vv ks] [[(c, zc)]] (fun v S' => v = .bool false ∧ S' = [[(c, zc)]]) := by
  refine Tri.mk Tryd.func15 rfl rfl rfl ?_
  refine WP.sregion ?_
  refine RX.pure (.none rfl) rfl rfl (p_assign rfl) ?_
  refine RX.nil ?_
  refine WP.seq (WP.sregion ?_)
  refine RX.pure (.none rfl) rfl rfl (p_move rfl) ?_
  refine RX.pure (.none rfl) rfl rfl (p_eqNilPtr rfl rfl Tryd.underlying49) ?_
  refine RX.pure (.none rfl) rfl rfl (p_move rfl) ?_
  (first | refine RX.skip (.no rfl rfl rfl rfl) rfl rfl ?_ | refine RX.pure (.yes rfl rfl rfl) rfl rfl (p_move rfl) ?_)
  (first | refine RX.skip (.no rfl rfl rfl rfl) rfl rfl ?_ | refine RX.pure (.yes rfl rfl rfl) rfl rfl (p_nilCheck rfl) ?_)
  (first | refine RX.skip (.no rfl rfl rfl rfl) rfl rfl ?_ | refine RX.pure (.yes rfl rfl rfl) rfl rfl (p_fieldAddr rfl fa_54_1) ?_)
  (first | refine RX.skip (.no rfl rfl rfl rfl) rfl rfl ?_ | refine RX.ld 0 (.yes rfl rfl rfl) rfl rfl na_50 rfl rfl ?_ | refine RX.ld 1 (.yes rfl rfl rfl) rfl rfl na_50 rfl rfl ?_ | refine RX.ld 2 (.yes rfl rfl rfl) rfl rfl na_50 rfl rfl ?_ | refine RX.ld 3 (.yes rfl rfl rfl) rfl rfl na_50 rfl rfl ?_ | refine RX.ld 4 (.yes rfl rfl rfl) rfl rfl na_50 rfl rfl ?_ | refine RX.ld 5 (.yes rfl rfl rfl) rfl rfl na_50 rfl rfl ?_ | refine RX.ld 6 (.yes rfl rfl rfl) rfl rfl na_50 rfl rfl ?_ | refine RX.ld 7 (.yes rfl rfl rfl) rfl rfl na_50 rfl rfl ?_)
  (first | refine RX.skip (.no rfl rfl rfl rfl) rfl rfl ?_ | refine RX.pure (.yes rfl rfl rfl) rfl rfl (p_eqNilMap rfl rfl Tryd.underlying50) ?_)
  (first | refine RX.pure (.none rfl) rfl rfl (p_pickT rfl rfl) ?_ | refine RX.pure (.none rfl) rfl rfl (p_pickF rfl rfl) ?_)
  refine RX.nil ?_
  refine WP.condT rfl ?_
  refine WP.sregion ?_
  refine RX.pure (.none rfl) rfl rfl (p_assign rfl) ?_
  refine RX.nil ?_
  refine WP.ret ?_
  repeat (first | refine sq_ret ?_ | refine bk_ret ?_ | refine lq_ret ?_ | refine cq_ret ?_)
  exact fin1 rfl rfl rfl ⟨rfl, rfl⟩
theorem lenZ_tri (c : Nat) : Tri Tryd.prog w0 16 #[.pointer (some ⟨c, 0, none⟩)] [[(c, zc)]] (fun v S' => v = .int .i64 0 ∧ S' = [[(c, zc)]]) := by
  refine Tri.mk Tryd.func16 rfl rfl rfl ?_
  refine WP.sregion ?_
  refine RX.pure (.none rfl) rfl rfl (p_assign rfl) ?_
  refine RX.nil ?_
  refine WP.seq (WP.sregion ?_)
  refine RX.pure (.none rfl) rfl rfl (p_move rfl) ?_
  refine RX.pure (.none rfl) rfl rfl (p_eqNilPtr rfl rfl Tryd.underlying49) ?_
  refine RX.nil ?_
  refine WP.condF rfl (WP.skip ?_)
  refine WP.sregion ?_
  refine RX.pure (.none rfl) rfl rfl (p_move rfl) ?_
  refine RX.pure (.none rfl) rfl rfl (p_nilCheck rfl) ?_
  refine RX.pure (.none rfl) rfl rfl (p_fieldAddr rfl fa_54_1) ?_
  (first | refine RX.ld 0 (.none rfl) rfl rfl na_50 rfl rfl ?_ | refine RX.ld 1 (.none rfl) rfl rfl na_50 rfl rfl ?_ | refine RX.ld 2 (.none rfl) rfl rfl na_50 rfl rfl ?_ | refine RX.ld 3 (.none rfl) rfl rfl na_50 rfl rfl ?_ | refine RX.ld 4 (.none rfl) rfl rfl na_50 rfl rfl ?_ | refine RX.ld 5 (.none rfl) rfl rfl na_50 rfl rfl ?_ | refine RX.ld 6 (.none rfl) rfl rfl na_50 rfl rfl ?_ | refine RX.ld 7 (.none rfl) rfl rfl na_50 rfl rfl ?_)
  refine RX.pure (.none rfl) rfl rfl (p_lenNilMap rfl Tryd.underlying50) ?_
  refine RX.pure (.none rfl) rfl rfl (p_assign rfl) ?_
  refine RX.nil ?_
  refine WP.ret ?_
  repeat (first | refine sq_ret ?_ | refine bk_ret ?_ | refine lq_ret ?_ | refine cq_ret ?_)
  exact fin1 rfl rfl rfl ⟨rfl, rfl⟩
theorem keysZ_tri (c : Nat) : Tri Tryd.prog w0 17 #[.pointer (some ⟨c, 0, none⟩)] [[(c, zc)]] (fun v S' => v = .slice none 0 0 ∧ S' = [[(c, zc)]]) := by
  refine Tri.mk Tryd.func17 rfl rfl rfl ?_
  refine WP.sregion ?_
  refine RX.pure (.none rfl) rfl rfl (p_assign rfl) ?_
  refine RX.nil ?_
  refine WP.seq (WP.sregion ?_)
  refine RX.pure (.none rfl) rfl rfl (p_move rfl) ?_
  refine RX.pure (.none rfl) rfl rfl (p_eqNilPtr rfl rfl Tryd.underlying49) ?_
  refine RX.pure (.none rfl) rfl rfl (p_move rfl) ?_
  (first | refine RX.skip (.no rfl rfl rfl rfl) rfl rfl ?_ | refine RX.pure (.yes rfl rfl rfl) rfl rfl (p_move rfl) ?_)
  (first | refine RX.skip (.no rfl rfl rfl rfl) rfl rfl ?_ | refine RX.pure (.yes rfl rfl rfl) rfl rfl (p_nilCheck rfl) ?_)
  (first | refine RX.skip (.no rfl rfl rfl rfl) rfl rfl ?_ | refine RX.pure (.yes rfl rfl rfl) rfl rfl (p_fieldAddr rfl fa_54_1) ?_)
  (first | refine RX.skip (.no rfl rfl rfl rfl) rfl rfl ?_ | refine RX.ld 0 (.yes rfl rfl rfl) rfl rfl na_50 rfl rfl ?_ | refine RX.ld 1 (.yes rfl rfl rfl) rfl rfl na_50 rfl rfl ?_ | refine RX.ld 2 (.yes rfl rfl rfl) rfl rfl na_50 rfl rfl ?_ | refine RX.ld 3 (.yes rfl rfl rfl) rfl rfl na_50 rfl rfl ?_ | refine RX.ld 4 (.yes rfl rfl rfl) rfl rfl na_50 rfl rfl ?_ | refine RX.ld 5 (.yes rfl rfl rfl) rfl rfl na_50 rfl rfl ?_ | refine RX.ld 6 (.yes rfl rfl rfl) rfl rfl na_50 rfl rfl ?_ | refine RX.ld 7 (.yes rfl rfl rfl) rfl rfl na_50 rfl rfl ?_)
  (first | refine RX.skip (.no rfl rfl rfl rfl) rfl rfl ?_ | refine RX.pure (.yes rfl rfl rfl) rfl rfl (p_eqNilMap rfl rfl Tryd.underlying50) ?_)
  (first | refine RX.pure (.none rfl) rfl rfl (p_pickT rfl rfl) ?_ | refine RX.pure (.none rfl) rfl rfl (p_pickF rfl rfl) ?_)
  refine RX.nil ?_
  refine WP.condT rfl ?_
  refine WP.sregion ?_
  refine RX.pure (.none rfl) rfl rfl (p_assign rfl) ?_
  refine RX.nil ?_
  refine WP.ret ?_
  repeat (first | refine sq_ret ?_ | refine bk_ret ?_ | refine lq_ret ?_ | refine cq_ret ?_)
  exact fin1 rfl rfl rfl ⟨rfl, rfl⟩
end
end Go.Proofs.YtpakklmkajjodaaDoor.CSI
