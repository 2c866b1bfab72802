/- The cache's own functions, walked: Get, Put, Drop, Len (items of 1 and 1 cells). -/
import Derived.Test.YtpakklmkajjodaaDoorCW1S
import Derived.Test.YtpakklmkajjodaaDoorEL14
set_option maxRecDepth 100000
namespace Go.Proofs.YtpakklmkajjodaaDoor.CSI
open Go Go.EL Go.EL.Cache
section
variable {w0 : World}
theorem getHit_tri {D : Value → Prop} (hK : KeyTy Tryd.prog 9 D) (c l cap m i clk : Nat) (most : Int) (fv : Value) (xs : List It) (sp : List Value) (x : It) (es : List MapEntry) (j b : Nat) (ks : List Value) (Hf : Hp)
    (hu : Oks 1 1 xs) (hx : xs[i]? = some x) (hn : x.newer < xs.length) (ho : x.older < xs.length) (ho2 : olf (outL xs i) 0 < xs.length)
    (_hks : ks.length = 1) (_hko : ones ks = true) (hk : D (vv ks)) (hD : ∀ e, e ∈ es → D e.key) (hnd : (es.map (·.key)).Nodup) (hj : es[j]? = some ⟨vv ks, .int .i64 i, b⟩) :
    Tri Tryd.prog w0 14 #[.pointer (some ⟨c, 0, none⟩), vv ks] [[(c, cc most m l xs.length cap fv)], [(l, li xs sp)], [(m, .map ⟨es⟩ clk)], Hf]
      (fun v S' => v = .tuple #[vv x.val, .bool true] ∧ S' = [[(c, cc most m l xs.length cap fv)], [(l, li (firstL (outL xs i) i) sp)], [(m, .map ⟨es⟩ clk)], Hf]) := by
  have hi : i < xs.length := (List.getElem?_eq_some_iff.1 hx).1
  have hu1 := outL_ok hu i
  have hl1 : (outL xs i).length = xs.length := outL_len _ _
  have hu2 := firstL_ok hu1 i
  have huni2 : Uni It.cells 4 (firstL (outL xs i) i) := hu2.uni rfl
  have hl2 : (firstL (outL xs i) i).length = xs.length := by rw [firstL_len, hl1]
  have hi2 : i < (firstL (outL xs i) i).length := by omega
  obtain ⟨x1, hx1⟩ : ∃ x, (outL xs i)[i]? = some x := ⟨_, List.getElem?_eq_getElem (by omega)⟩
  obtain ⟨x2, hx2⟩ : ∃ x, (firstL (outL xs i) i)[i]? = some x := ⟨_, List.getElem?_eq_getElem hi2⟩
  have hok2 := hu2 x2 (List.mem_of_getElem? hx2)
  have hv2 : x2.val = x.val := (firstL_kv hx1 hx2).2.trans (outL_kv hx hx1).2
  have hf := first_tri (w0 := w0) c l cap m i most fv (outL xs i) sp hu1 (by omega) (by omega)
  rw [hl1] at hf
  refine Tri.mk Tryd.func14 rfl rfl rfl ?_
  refine WP.sregion ?_
  refine RX.pure (.none rfl) rfl rfl (p_assign rfl) ?_
  refine RX.pure (.none rfl) rfl rfl (p_assign rfl) ?_
  refine RX.nil ?_
  refine WP.seq (WP.sregion ?_)
  refine RX.pure (.none rfl) rfl rfl (p_move rfl) ?_
  refine RX.pure (.none rfl) rfl rfl (p_eqNilPtr rfl rfl Tryd.underlying49) ?_
  refine RX.pure (.none rfl) rfl rfl (p_move rfl) ?_
  (first | refine RX.skip (.no rfl rfl rfl rfl) rfl rfl ?_ | refine RX.pure (.yes rfl rfl rfl) rfl rfl (p_move rfl) ?_)
  (first | refine RX.skip (.no rfl rfl rfl rfl) rfl rfl ?_ | refine RX.pure (.yes rfl rfl rfl) rfl rfl (p_nilCheck rfl) ?_)
  (first | refine RX.skip (.no rfl rfl rfl rfl) rfl rfl ?_ | refine RX.pure (.yes rfl rfl rfl) rfl rfl (p_fieldAddr rfl fa_54_1) ?_)
  (first | refine RX.skip (.no rfl rfl rfl rfl) rfl rfl ?_ | refine RX.ld 0 (.yes rfl rfl rfl) rfl rfl na_50 rfl rfl ?_ | refine RX.ld 1 (.yes rfl rfl rfl) rfl rfl na_50 rfl rfl ?_ | refine RX.ld 2 (.yes rfl rfl rfl) rfl rfl na_50 rfl rfl ?_ | refine RX.ld 3 (.yes rfl rfl rfl) rfl rfl na_50 rfl rfl ?_ | refine RX.ld 4 (.yes rfl rfl rfl) rfl rfl na_50 rfl rfl ?_ | refine RX.ld 5 (.yes rfl rfl rfl) rfl rfl na_50 rfl rfl ?_ | refine RX.ld 6 (.yes rfl rfl rfl) rfl rfl na_50 rfl rfl ?_ | refine RX.ld 7 (.yes rfl rfl rfl) rfl rfl na_50 rfl rfl ?_)
  (first | refine RX.skip (.no rfl rfl rfl rfl) rfl rfl ?_ | refine RX.pure (.yes rfl rfl rfl) rfl rfl (p_eqNilMap rfl rfl Tryd.underlying50) ?_)
  (first | refine RX.pure (.none rfl) rfl rfl (p_pickT rfl rfl) ?_ | refine RX.pure (.none rfl) rfl rfl (p_pickF rfl rfl) ?_)
  refine RX.nil ?_
  refine WP.condF rfl (WP.skip ?_)
  refine WP.sregion ?_
  refine RX.pure (.none rfl) rfl rfl (p_move rfl) ?_
  refine RX.pure (.none rfl) rfl rfl (p_nilCheck rfl) ?_
  refine RX.pure (.none rfl) rfl rfl (p_fieldAddr rfl fa_54_1) ?_
  (first | refine RX.ld 0 (.none rfl) rfl rfl na_50 rfl rfl ?_ | refine RX.ld 1 (.none rfl) rfl rfl na_50 rfl rfl ?_ | refine RX.ld 2 (.none rfl) rfl rfl na_50 rfl rfl ?_ | refine RX.ld 3 (.none rfl) rfl rfl na_50 rfl rfl ?_ | refine RX.ld 4 (.none rfl) rfl rfl na_50 rfl rfl ?_ | refine RX.ld 5 (.none rfl) rfl rfl na_50 rfl rfl ?_ | refine RX.ld 6 (.none rfl) rfl rfl na_50 rfl rfl ?_ | refine RX.ld 7 (.none rfl) rfl rfl na_50 rfl rfl ?_)
  refine RX.pure (.none rfl) rfl rfl (p_move rfl) ?_
  refine RX.read (.none rfl) rfl rfl rfl (r_lookupHit 2 rfl rfl Tryd.underlying50 hK rfl hk hD hnd hj rfl) ?_
  refine RX.pure (.none rfl) rfl rfl (p_move rfl) ?_
  refine RX.pure (.none rfl) rfl rfl (p_extract rfl rfl) ?_
  refine RX.pure (.none rfl) rfl rfl (p_extract rfl rfl) ?_
  refine RX.pure (.none rfl) rfl rfl (p_assign rfl) ?_
  refine RX.pure (.none rfl) rfl rfl (p_assign rfl) ?_
  refine RX.nil ?_
  refine WP.seq (WP.sregion ?_)
  refine RX.pure (.none rfl) rfl rfl (p_move rfl) ?_
  refine RX.pure (.none rfl) rfl rfl (p_not rfl) ?_
  refine RX.nil ?_
  refine WP.condF rfl (WP.skip ?_)
  refine WP.sregion ?_
  refine RX.pure (.none rfl) rfl rfl (p_move rfl) ?_
  refine RX.pure (.none rfl) rfl rfl (p_move rfl) ?_
  refine RX.eff (.none rfl) rfl rfl rfl (e_call [0, 1] rfl call_27 rfl rfl (out_tri c l cap m i most fv xs sp x hu hx hn ho)) ?_
  rintro _ _ ⟨S1, rfl, rfl⟩
  refine RX.nil ?_
  refine WP.sregion ?_
  refine RX.pure (.none rfl) rfl rfl (p_move rfl) ?_
  refine RX.pure (.none rfl) rfl rfl (p_move rfl) ?_
  refine RX.eff (.none rfl) rfl rfl rfl (e_call [0, 1] rfl call_28 rfl rfl hf) ?_
  rintro _ _ ⟨S1, rfl, rfl⟩
  refine RX.nil ?_
  refine WP.sregion ?_
  refine RX.pure (.none rfl) rfl rfl (p_move rfl) ?_
  refine RX.pure (.none rfl) rfl rfl (p_nilCheck rfl) ?_
  refine RX.pure (.none rfl) rfl rfl (p_fieldAddr rfl fa_54_2) ?_
  (first | refine RX.ld 0 (.none rfl) rfl rfl na_51 rfl rfl ?_ | refine RX.ld 1 (.none rfl) rfl rfl na_51 rfl rfl ?_ | refine RX.ld 2 (.none rfl) rfl rfl na_51 rfl rfl ?_ | refine RX.ld 3 (.none rfl) rfl rfl na_51 rfl rfl ?_ | refine RX.ld 4 (.none rfl) rfl rfl na_51 rfl rfl ?_ | refine RX.ld 5 (.none rfl) rfl rfl na_51 rfl rfl ?_ | refine RX.ld 6 (.none rfl) rfl rfl na_51 rfl rfl ?_ | refine RX.ld 7 (.none rfl) rfl rfl na_51 rfl rfl ?_)
  refine RX.pure (.none rfl) rfl rfl (p_move rfl) ?_
  (first | refine RX.pure (.none rfl) rfl rfl (p_idxSlice0 rfl rfl sl_51 (by omega) (by omega)) ?_ | refine RX.pure (.none rfl) rfl rfl (p_idxSlice rfl rfl sl_51 (by omega) (by omega)) ?_)
  refine RX.pure (.none rfl) rfl rfl (p_fieldAddr rfl fa_87_1) ?_
  refine RX.ldv 1 (.none rfl) rfl rfl ldv_3 rfl (fm_cells huni2 hx2 (it_val hok2) (by decide)) hok2.v ?_
  refine RX.pure (.none rfl) rfl rfl (p_assign rfl) ?_
  refine RX.pure (.none rfl) rfl rfl (p_assign rfl) ?_
  refine RX.nil ?_
  refine WP.ret ?_
  repeat (first | refine sq_ret ?_ | refine bk_ret ?_ | refine lq_ret ?_ | refine cq_ret ?_)
  exact fin2' 4 rfl rfl rfl rfl ⟨by rw [hv2], rfl⟩

theorem getMiss_tri {D : Value → Prop} (hK : KeyTy Tryd.prog 9 D) (c l cap m clk n : Nat) (most : Int) (fv : Value) (es : List MapEntry) (ks : List Value)
    (_hks : ks.length = 1) (_hko : ones ks = true) (hk : D (vv ks)) (hD : ∀ e, e ∈ es → D e.key) (hmiss : ∀ e, e ∈ es → vv ks ≠ e.key) :
    Tri Tryd.prog w0 14 #[.pointer (some ⟨c, 0, none⟩), vv ks] [[(c, cc most m l n cap fv)], [(m, .map ⟨es⟩ clk)]]
      (fun v S' => v = .tuple #[vv zeroIt.val, .bool false] ∧ S' = [[(c, cc most m l n cap fv)], [(m, .map ⟨es⟩ clk)]]) := by
  refine Tri.mk Tryd.func14 rfl rfl rfl ?_
  refine WP.sregion ?_
  refine RX.pure (.none rfl) rfl rfl (p_assign rfl) ?_
  refine RX.pure (.none rfl) rfl rfl (p_assign rfl) ?_
  refine RX.nil ?_
  refine WP.seq (WP.sregion ?_)
  refine RX.pure (.none rfl) rfl rfl (p_move rfl) ?_
  refine RX.pure (.none rfl) rfl rfl (p_eqNilPtr rfl rfl Tryd.underlying49) ?_
  refine RX.pure (.none rfl) rfl rfl (p_move rfl) ?_
  (first | refine RX.skip (.no rfl rfl rfl rfl) rfl rfl ?_ | refine RX.pure (.yes rfl rfl rfl) rfl rfl (p_move rfl) ?_)
  (first | refine RX.skip (.no rfl rfl rfl rfl) rfl rfl ?_ | refine RX.pure (.yes rfl rfl rfl) rfl rfl (p_nilCheck rfl) ?_)
  (first | refine RX.skip (.no rfl rfl rfl rfl) rfl rfl ?_ | refine RX.pure (.yes rfl rfl rfl) rfl rfl (p_fieldAddr rfl fa_54_1) ?_)
  (first | refine RX.skip (.no rfl rfl rfl rfl) rfl rfl ?_ | refine RX.ld 0 (.yes rfl rfl rfl) rfl rfl na_50 rfl rfl ?_ | refine RX.ld 1 (.yes rfl rfl rfl) rfl rfl na_50 rfl rfl ?_ | refine RX.ld 2 (.yes rfl rfl rfl) rfl rfl na_50 rfl rfl ?_ | refine RX.ld 3 (.yes rfl rfl rfl) rfl rfl na_50 rfl rfl ?_ | refine RX.ld 4 (.yes rfl rfl rfl) rfl rfl na_50 rfl rfl ?_ | refine RX.ld 5 (.yes rfl rfl rfl) rfl rfl na_50 rfl rfl ?_ | refine RX.ld 6 (.yes rfl rfl rfl) rfl rfl na_50 rfl rfl ?_ | refine RX.ld 7 (.yes rfl rfl rfl) rfl rfl na_50 rfl rfl ?_)
  (first | refine RX.skip (.no rfl rfl rfl rfl) rfl rfl ?_ | refine RX.pure (.yes rfl rfl rfl) rfl rfl (p_eqNilMap rfl rfl Tryd.underlying50) ?_)
  (first | refine RX.pure (.none rfl) rfl rfl (p_pickT rfl rfl) ?_ | refine RX.pure (.none rfl) rfl rfl (p_pickF rfl rfl) ?_)
  refine RX.nil ?_
  refine WP.condF rfl (WP.skip ?_)
  refine WP.sregion ?_
  refine RX.pure (.none rfl) rfl rfl (p_move rfl) ?_
  refine RX.pure (.none rfl) rfl rfl (p_nilCheck rfl) ?_
  refine RX.pure (.none rfl) rfl rfl (p_fieldAddr rfl fa_54_1) ?_
  (first | refine RX.ld 0 (.none rfl) rfl rfl na_50 rfl rfl ?_ | refine RX.ld 1 (.none rfl) rfl rfl na_50 rfl rfl ?_ | refine RX.ld 2 (.none rfl) rfl rfl na_50 rfl rfl ?_ | refine RX.ld 3 (.none rfl) rfl rfl na_50 rfl rfl ?_ | refine RX.ld 4 (.none rfl) rfl rfl na_50 rfl rfl ?_ | refine RX.ld 5 (.none rfl) rfl rfl na_50 rfl rfl ?_ | refine RX.ld 6 (.none rfl) rfl rfl na_50 rfl rfl ?_ | refine RX.ld 7 (.none rfl) rfl rfl na_50 rfl rfl ?_)
  refine RX.pure (.none rfl) rfl rfl (p_move rfl) ?_
  refine RX.read (.none rfl) rfl rfl rfl (r_lookupMiss 1 rfl rfl Tryd.underlying50 hK rfl hk hD hmiss zv_3) ?_
  refine RX.pure (.none rfl) rfl rfl (p_move rfl) ?_
  refine RX.pure (.none rfl) rfl rfl (p_extract rfl rfl) ?_
  refine RX.pure (.none rfl) rfl rfl (p_extract rfl rfl) ?_
  refine RX.pure (.none rfl) rfl rfl (p_assign rfl) ?_
  refine RX.pure (.none rfl) rfl rfl (p_assign rfl) ?_
  refine RX.nil ?_
  refine WP.seq (WP.sregion ?_)
  refine RX.pure (.none rfl) rfl rfl (p_move rfl) ?_
  refine RX.pure (.none rfl) rfl rfl (p_not rfl) ?_
  refine RX.nil ?_
  refine WP.condT rfl ?_
  refine WP.sregion ?_
  refine RX.pure (.none rfl) rfl rfl (p_move rfl) ?_
  refine RX.pure (.none rfl) rfl rfl (p_assign rfl) ?_
  refine RX.pure (.none rfl) rfl rfl (p_assign rfl) ?_
  refine RX.nil ?_
  refine WP.ret ?_
  repeat (first | refine sq_ret ?_ | refine bk_ret ?_ | refine lq_ret ?_ | refine cq_ret ?_)
  exact fin2' 2 rfl rfl rfl rfl ⟨rfl, rfl⟩

theorem putOld_tri {D : Value → Prop} (hK : KeyTy Tryd.prog 9 D) (c l cap m i clk : Nat) (most : Int) (fv : Value) (xs : List It) (sp : List Value) (x : It) (es : List MapEntry) (j b : Nat) (ks vs : List Value) (Hf : Hp)
    (hu : Oks 1 1 xs) (hx : xs[i]? = some x) (hn : x.newer < xs.length) (ho : x.older < xs.length) (ho2 : olf (outL (xs.set i { x with val := vs }) i) 0 < xs.length) (_hvs : vs.length = 1) (_hvo : ones vs = true)
    (_hks : ks.length = 1) (_hko : ones ks = true) (hk : D (vv ks)) (hD : ∀ e, e ∈ es → D e.key) (hnd : (es.map (·.key)).Nodup) (hj : es[j]? = some ⟨vv ks, .int .i64 i, b⟩) :
    Tri Tryd.prog w0 13 #[.pointer (some ⟨c, 0, none⟩), vv ks, vv vs] [[(c, cc most m l xs.length cap fv)], [(l, li xs sp)], [(m, .map ⟨es⟩ clk)], Hf]
      (fun v S' => v = .tuple #[vv zeroIt.key, .bool false] ∧ S' = [[(c, cc most m l xs.length cap fv)], [(l, li (firstL (outL (xs.set i { x with val := vs }) i) i) sp)], [(m, .map ⟨es⟩ clk)], Hf]) := by
  have hi : i < xs.length := (List.getElem?_eq_some_iff.1 hx).1
  have hok := hu x (List.mem_of_getElem? hx)
  have huni : Uni It.cells 4 xs := hu.uni rfl
  have hu1 : Oks 1 1 (xs.set i { x with val := vs }) := oks_set hu ⟨hok.k, _hvs, hok.ko, _hvo⟩
  have hx1 : (xs.set i { x with val := vs })[i]? = some { x with val := vs } := by simp [hi]
  have hl1 : (xs.set i { x with val := vs }).length = xs.length := by simp
  have hu2 := outL_ok hu1 i
  have hl2 : (outL (xs.set i { x with val := vs }) i).length = xs.length := by rw [outL_len, hl1]
  have ht1 := out_tri (w0 := w0) c l cap m i most fv (xs.set i { x with val := vs }) sp { x with val := vs } hu1 hx1 (by rw [hl1]; exact hn) (by rw [hl1]; exact ho)
  rw [hl1] at ht1
  have ht2 := first_tri (w0 := w0) c l cap m i most fv (outL (xs.set i { x with val := vs }) i) sp hu2 (by omega) (by omega)
  rw [hl2] at ht2
  refine Tri.mk Tryd.func13 rfl rfl rfl ?_
  refine WP.sregion ?_
  refine RX.pure (.none rfl) rfl rfl (p_assign rfl) ?_
  refine RX.pure (.none rfl) rfl rfl (p_assign rfl) ?_
  refine RX.nil ?_
  refine WP.seq (WP.sregion ?_)
  refine RX.pure (.none rfl) rfl rfl (p_move rfl) ?_
  refine RX.pure (.none rfl) rfl rfl (p_eqNilPtr rfl rfl Tryd.underlying49) ?_
  refine RX.pure (.none rfl) rfl rfl (p_move rfl) ?_
  (first | refine RX.skip (.no rfl rfl rfl rfl) rfl rfl ?_ | refine RX.pure (.yes rfl rfl rfl) rfl rfl (p_move rfl) ?_)
  (first | refine RX.skip (.no rfl rfl rfl rfl) rfl rfl ?_ | refine RX.pure (.yes rfl rfl rfl) rfl rfl (p_nilCheck rfl) ?_)
  (first | refine RX.skip (.no rfl rfl rfl rfl) rfl rfl ?_ | refine RX.pure (.yes rfl rfl rfl) rfl rfl (p_fieldAddr rfl fa_54_1) ?_)
  (first | refine RX.skip (.no rfl rfl rfl rfl) rfl rfl ?_ | refine RX.ld 0 (.yes rfl rfl rfl) rfl rfl na_50 rfl rfl ?_ | refine RX.ld 1 (.yes rfl rfl rfl) rfl rfl na_50 rfl rfl ?_ | refine RX.ld 2 (.yes rfl rfl rfl) rfl rfl na_50 rfl rfl ?_ | refine RX.ld 3 (.yes rfl rfl rfl) rfl rfl na_50 rfl rfl ?_ | refine RX.ld 4 (.yes rfl rfl rfl) rfl rfl na_50 rfl rfl ?_ | refine RX.ld 5 (.yes rfl rfl rfl) rfl rfl na_50 rfl rfl ?_ | refine RX.ld 6 (.yes rfl rfl rfl) rfl rfl na_50 rfl rfl ?_ | refine RX.ld 7 (.yes rfl rfl rfl) rfl rfl na_50 rfl rfl ?_)
  (first | refine RX.skip (.no rfl rfl rfl rfl) rfl rfl ?_ | refine RX.pure (.yes rfl rfl rfl) rfl rfl (p_eqNilMap rfl rfl Tryd.underlying50) ?_)
  (first | refine RX.pure (.none rfl) rfl rfl (p_pickT rfl rfl) ?_ | refine RX.pure (.none rfl) rfl rfl (p_pickF rfl rfl) ?_)
  refine RX.nil ?_
  refine WP.condF rfl (WP.skip ?_)
  refine WP.seq (WP.sregion ?_)
  refine RX.pure (.none rfl) rfl rfl (p_move rfl) ?_
  refine RX.pure (.none rfl) rfl rfl (p_nilCheck rfl) ?_
  refine RX.pure (.none rfl) rfl rfl (p_fieldAddr rfl fa_54_1) ?_
  (first | refine RX.ld 0 (.none rfl) rfl rfl na_50 rfl rfl ?_ | refine RX.ld 1 (.none rfl) rfl rfl na_50 rfl rfl ?_ | refine RX.ld 2 (.none rfl) rfl rfl na_50 rfl rfl ?_ | refine RX.ld 3 (.none rfl) rfl rfl na_50 rfl rfl ?_ | refine RX.ld 4 (.none rfl) rfl rfl na_50 rfl rfl ?_ | refine RX.ld 5 (.none rfl) rfl rfl na_50 rfl rfl ?_ | refine RX.ld 6 (.none rfl) rfl rfl na_50 rfl rfl ?_ | refine RX.ld 7 (.none rfl) rfl rfl na_50 rfl rfl ?_)
  refine RX.pure (.none rfl) rfl rfl (p_move rfl) ?_
  refine RX.read (.none rfl) rfl rfl rfl (r_lookupHit 2 rfl rfl Tryd.underlying50 hK rfl hk hD hnd hj rfl) ?_
  refine RX.pure (.none rfl) rfl rfl (p_move rfl) ?_
  refine RX.pure (.none rfl) rfl rfl (p_extract rfl rfl) ?_
  refine RX.pure (.none rfl) rfl rfl (p_extract rfl rfl) ?_
  refine RX.pure (.none rfl) rfl rfl (p_assign rfl) ?_
  refine RX.pure (.none rfl) rfl rfl (p_assign rfl) ?_
  refine RX.nil ?_
  refine WP.sregion ?_
  refine RX.pure (.none rfl) rfl rfl (p_move rfl) ?_
  refine RX.nil ?_
  refine WP.condT rfl ?_
  refine WP.sregion ?_
  refine RX.pure (.none rfl) rfl rfl (p_move rfl) ?_
  refine RX.pure (.none rfl) rfl rfl (p_nilCheck rfl) ?_
  refine RX.pure (.none rfl) rfl rfl (p_fieldAddr rfl fa_54_2) ?_
  (first | refine RX.ld 0 (.none rfl) rfl rfl na_51 rfl rfl ?_ | refine RX.ld 1 (.none rfl) rfl rfl na_51 rfl rfl ?_ | refine RX.ld 2 (.none rfl) rfl rfl na_51 rfl rfl ?_ | refine RX.ld 3 (.none rfl) rfl rfl na_51 rfl rfl ?_ | refine RX.ld 4 (.none rfl) rfl rfl na_51 rfl rfl ?_ | refine RX.ld 5 (.none rfl) rfl rfl na_51 rfl rfl ?_ | refine RX.ld 6 (.none rfl) rfl rfl na_51 rfl rfl ?_ | refine RX.ld 7 (.none rfl) rfl rfl na_51 rfl rfl ?_)
  refine RX.pure (.none rfl) rfl rfl (p_move rfl) ?_
  refine RX.pure (.none rfl) rfl rfl (p_move rfl) ?_
  (first | refine RX.pure (.none rfl) rfl rfl (p_idxSlice0 rfl rfl sl_51 (by omega) (by omega)) ?_ | refine RX.pure (.none rfl) rfl rfl (p_idxSlice rfl rfl sl_51 (by omega) (by omega)) ?_)
  refine RX.pure (.none rfl) rfl rfl (p_fieldAddr rfl fa_87_1) ?_
  refine RX.stv 1 (.none rfl) rfl rfl sz_3 _hvs _hvo rfl (fm_le huni hi (by decide)) _ (fm_put huni hx (by decide) _hvs (it_putVal hok vs)) ?_
  refine RX.nil ?_
  refine WP.sregion ?_
  refine RX.pure (.none rfl) rfl rfl (p_move rfl) ?_
  refine RX.pure (.none rfl) rfl rfl (p_move rfl) ?_
  refine RX.eff (.none rfl) rfl rfl rfl (e_call [0, 1] rfl call_27 rfl rfl ht1) ?_
  rintro _ _ ⟨S1, rfl, rfl⟩
  refine RX.nil ?_
  refine WP.sregion ?_
  refine RX.pure (.none rfl) rfl rfl (p_move rfl) ?_
  refine RX.pure (.none rfl) rfl rfl (p_move rfl) ?_
  refine RX.eff (.none rfl) rfl rfl rfl (e_call [0, 1] rfl call_28 rfl rfl ht2) ?_
  rintro _ _ ⟨S1, rfl, rfl⟩
  refine RX.nil ?_
  refine WP.sregion ?_
  refine RX.pure (.none rfl) rfl rfl (p_move rfl) ?_
  refine RX.pure (.none rfl) rfl rfl (p_assign rfl) ?_
  refine RX.pure (.none rfl) rfl rfl (p_assign rfl) ?_
  refine RX.nil ?_
  refine WP.ret ?_
  repeat (first | refine sq_ret ?_ | refine bk_ret ?_ | refine lq_ret ?_ | refine cq_ret ?_)
  exact fin2' 4 rfl rfl rfl rfl ⟨rfl, rfl⟩

theorem putZero_tri {D : Value → Prop} (hK : KeyTy Tryd.prog 9 D) (c l cap m clk n : Nat) (fv : Value) (es : List MapEntry) (ks vs : List Value)
    (_hks : ks.length = 1) (_hko : ones ks = true) (_hvs : vs.length = 1) (_hvo : ones vs = true) (hk : D (vv ks)) (hD : ∀ e, e ∈ es → D e.key) (hmiss : ∀ e, e ∈ es → vv ks ≠ e.key) :
    Tri Tryd.prog w0 13 #[.pointer (some ⟨c, 0, none⟩), vv ks, vv vs] [[(c, cc 0 m l n cap fv)], [(m, .map ⟨es⟩ clk)]]
      (fun v S' => v = .tuple #[vv ks, .bool true] ∧ S' = [[(c, cc 0 m l n cap fv)], [(m, .map ⟨es⟩ clk)]]) := by
  refine Tri.mk Tryd.func13 rfl rfl rfl ?_
  refine WP.sregion ?_
  refine RX.pure (.none rfl) rfl rfl (p_assign rfl) ?_
  refine RX.pure (.none rfl) rfl rfl (p_assign rfl) ?_
  refine RX.nil ?_
  refine WP.seq (WP.sregion ?_)
  refine RX.pure (.none rfl) rfl rfl (p_move rfl) ?_
  refine RX.pure (.none rfl) rfl rfl (p_eqNilPtr rfl rfl Tryd.underlying49) ?_
  refine RX.pure (.none rfl) rfl rfl (p_move rfl) ?_
  (first | refine RX.skip (.no rfl rfl rfl rfl) rfl rfl ?_ | refine RX.pure (.yes rfl rfl rfl) rfl rfl (p_move rfl) ?_)
  (first | refine RX.skip (.no rfl rfl rfl rfl) rfl rfl ?_ | refine RX.pure (.yes rfl rfl rfl) rfl rfl (p_nilCheck rfl) ?_)
  (first | refine RX.skip (.no rfl rfl rfl rfl) rfl rfl ?_ | refine RX.pure (.yes rfl rfl rfl) rfl rfl (p_fieldAddr rfl fa_54_1) ?_)
  (first | refine RX.skip (.no rfl rfl rfl rfl) rfl rfl ?_ | refine RX.ld 0 (.yes rfl rfl rfl) rfl rfl na_50 rfl rfl ?_ | refine RX.ld 1 (.yes rfl rfl rfl) rfl rfl na_50 rfl rfl ?_ | refine RX.ld 2 (.yes rfl rfl rfl) rfl rfl na_50 rfl rfl ?_ | refine RX.ld 3 (.yes rfl rfl rfl) rfl rfl na_50 rfl rfl ?_ | refine RX.ld 4 (.yes rfl rfl rfl) rfl rfl na_50 rfl rfl ?_ | refine RX.ld 5 (.yes rfl rfl rfl) rfl rfl na_50 rfl rfl ?_ | refine RX.ld 6 (.yes rfl rfl rfl) rfl rfl na_50 rfl rfl ?_ | refine RX.ld 7 (.yes rfl rfl rfl) rfl rfl na_50 rfl rfl ?_)
  (first | refine RX.skip (.no rfl rfl rfl rfl) rfl rfl ?_ | refine RX.pure (.yes rfl rfl rfl) rfl rfl (p_eqNilMap rfl rfl Tryd.underlying50) ?_)
  (first | refine RX.pure (.none rfl) rfl rfl (p_pickT rfl rfl) ?_ | refine RX.pure (.none rfl) rfl rfl (p_pickF rfl rfl) ?_)
  refine RX.nil ?_
  refine WP.condF rfl (WP.skip ?_)
  refine WP.seq (WP.sregion ?_)
  refine RX.pure (.none rfl) rfl rfl (p_move rfl) ?_
  refine RX.pure (.none rfl) rfl rfl (p_nilCheck rfl) ?_
  refine RX.pure (.none rfl) rfl rfl (p_fieldAddr rfl fa_54_1) ?_
  (first | refine RX.ld 0 (.none rfl) rfl rfl na_50 rfl rfl ?_ | refine RX.ld 1 (.none rfl) rfl rfl na_50 rfl rfl ?_ | refine RX.ld 2 (.none rfl) rfl rfl na_50 rfl rfl ?_ | refine RX.ld 3 (.none rfl) rfl rfl na_50 rfl rfl ?_ | refine RX.ld 4 (.none rfl) rfl rfl na_50 rfl rfl ?_ | refine RX.ld 5 (.none rfl) rfl rfl na_50 rfl rfl ?_ | refine RX.ld 6 (.none rfl) rfl rfl na_50 rfl rfl ?_ | refine RX.ld 7 (.none rfl) rfl rfl na_50 rfl rfl ?_)
  refine RX.pure (.none rfl) rfl rfl (p_move rfl) ?_
  refine RX.read (.none rfl) rfl rfl rfl (r_lookupMiss 1 rfl rfl Tryd.underlying50 hK rfl hk hD hmiss zv_3) ?_
  refine RX.pure (.none rfl) rfl rfl (p_move rfl) ?_
  refine RX.pure (.none rfl) rfl rfl (p_extract rfl rfl) ?_
  refine RX.pure (.none rfl) rfl rfl (p_extract rfl rfl) ?_
  refine RX.pure (.none rfl) rfl rfl (p_assign rfl) ?_
  refine RX.pure (.none rfl) rfl rfl (p_assign rfl) ?_
  refine RX.nil ?_
  refine WP.sregion ?_
  refine RX.pure (.none rfl) rfl rfl (p_move rfl) ?_
  refine RX.nil ?_
  refine WP.condF rfl (WP.skip ?_)
  refine WP.seq (WP.sregion ?_)
  refine RX.pure (.none rfl) rfl rfl (p_move rfl) ?_
  refine RX.pure (.none rfl) rfl rfl (p_nilCheck rfl) ?_
  refine RX.pure (.none rfl) rfl rfl (p_fieldAddr rfl fa_54_0) ?_
  (first | refine RX.ld 0 (.none rfl) rfl rfl na_3 rfl rfl ?_ | refine RX.ld 1 (.none rfl) rfl rfl na_3 rfl rfl ?_ | refine RX.ld 2 (.none rfl) rfl rfl na_3 rfl rfl ?_ | refine RX.ld 3 (.none rfl) rfl rfl na_3 rfl rfl ?_ | refine RX.ld 4 (.none rfl) rfl rfl na_3 rfl rfl ?_ | refine RX.ld 5 (.none rfl) rfl rfl na_3 rfl rfl ?_ | refine RX.ld 6 (.none rfl) rfl rfl na_3 rfl rfl ?_ | refine RX.ld 7 (.none rfl) rfl rfl na_3 rfl rfl ?_)
  refine RX.pure (.none rfl) rfl rfl (p_eqInt rfl rfl) ?_
  refine RX.nil ?_
  refine WP.condT rfl ?_
  refine WP.sregion ?_
  refine RX.pure (.none rfl) rfl rfl (p_move rfl) ?_
  refine RX.pure (.none rfl) rfl rfl (p_assign rfl) ?_
  refine RX.pure (.none rfl) rfl rfl (p_assign rfl) ?_
  refine RX.nil ?_
  refine WP.ret ?_
  repeat (first | refine sq_ret ?_ | refine bk_ret ?_ | refine lq_ret ?_ | refine cq_ret ?_)
  exact fin2' 2 rfl rfl rfl rfl ⟨rfl, rfl⟩

theorem putNew_tri {D : Value → Prop} (hK : KeyTy Tryd.prog 9 D) (c l cap m clk : Nat) (most : Int) (fv : Value) (xs : List It) (sp : List Value) (es : List MapEntry) (ks vs : List Value) (fr : List Nat) (Hf : Hp)
    (hu : Oks 1 1 xs) (h0 : 0 < xs.length) (hcap : xs.length ≤ cap) (hmax : cap ≤ maxLen) (hsp : sp.length = (cap - xs.length) * 4) (hbig : xs.length ≤ 1000000) (hfrb : fr.length ≤ 1000000)
    (hks : ks.length = 1) (hko : ones ks = true) (hvs : vs.length = 1) (hvo : ones vs = true)
    (hk : D (vv ks)) (hD : ∀ e, e ∈ es → D e.key) (hnd : (es.map (·.key)).Nodup) (hmiss : ∀ e, e ∈ es → vv ks ≠ e.key) (hmost : most ≠ 0)
    (hf : Vec 3 1 ienc fr fv Hf) (hol : olf xs 0 < xs.length) (hfr : ∀ i, i ∈ fr → 0 < i ∧ i < xs.length)
    (hfull : (es.length : Int) = most → ∃ (x : It) (j : Nat) (en : MapEntry), xs[nwf xs 0]? = some x ∧ x.newer < xs.length ∧ x.older < xs.length ∧ D (vv x.key) ∧ es[j]? = some en ∧ vv x.key = en.key ∧ 0 < nwf xs 0 ∧ olf (outL xs (nwf xs 0)) 0 < xs.length) :
    Tri Tryd.prog w0 13 #[.pointer (some ⟨c, 0, none⟩), vv ks, vv vs] [[(c, cc most m l xs.length cap fv)], [(l, li xs sp)], [(m, .map ⟨es⟩ clk)], Hf]
      (fun v S' => ∃ xs1 es1 fr1 gone was, Made zeroIt xs es fr most xs1 es1 fr1 gone was ∧ ∃ i xs2 fr2 y l' cap' sp' fv' Hf', Room zeroIt xs1 fr1 i xs2 fr2 ∧ xs2[i]? = some y ∧ Vec 3 1 ienc fr2 fv' Hf' ∧ xs2.length ≤ cap' ∧ cap' ≤ maxLen ∧ sp'.length = (cap' - xs2.length) * 4 ∧
        v = .tuple #[gone, .bool was] ∧ S' = [[(c, cc most m l' xs2.length cap' fv')], [(l', li (firstL (xs2.set i { y with key := ks, val := vs }) i) sp')], [(m, .map ⟨es1 ++ [⟨vv ks, .int .i64 i, clk⟩]⟩ (clk + 1))], Hf']) := by
  obtain ⟨x0, hx0⟩ : ∃ x, xs[0]? = some x := ⟨_, List.getElem?_eq_getElem h0⟩
  have hok0 := hu x0 (List.mem_of_getElem? hx0)
  have en0 : nwf xs 0 = x0.newer := by simp [nwf, hx0]
  have huni : Uni It.cells 4 xs := hu.uni rfl
  obtain ⟨pf, cpf, hfv⟩ := hf.slice
  subst hfv
  refine Tri.mk Tryd.func13 rfl rfl rfl ?_
  refine WP.sregion ?_
  refine RX.pure (.none rfl) rfl rfl (p_assign rfl) ?_
  refine RX.pure (.none rfl) rfl rfl (p_assign rfl) ?_
  refine RX.nil ?_
  refine WP.seq (WP.sregion ?_)
  refine RX.pure (.none rfl) rfl rfl (p_move rfl) ?_
  refine RX.pure (.none rfl) rfl rfl (p_eqNilPtr rfl rfl Tryd.underlying49) ?_
  refine RX.pure (.none rfl) rfl rfl (p_move rfl) ?_
  (first | refine RX.skip (.no rfl rfl rfl rfl) rfl rfl ?_ | refine RX.pure (.yes rfl rfl rfl) rfl rfl (p_move rfl) ?_)
  (first | refine RX.skip (.no rfl rfl rfl rfl) rfl rfl ?_ | refine RX.pure (.yes rfl rfl rfl) rfl rfl (p_nilCheck rfl) ?_)
  (first | refine RX.skip (.no rfl rfl rfl rfl) rfl rfl ?_ | refine RX.pure (.yes rfl rfl rfl) rfl rfl (p_fieldAddr rfl fa_54_1) ?_)
  (first | refine RX.skip (.no rfl rfl rfl rfl) rfl rfl ?_ | refine RX.ld 0 (.yes rfl rfl rfl) rfl rfl na_50 rfl rfl ?_ | refine RX.ld 1 (.yes rfl rfl rfl) rfl rfl na_50 rfl rfl ?_ | refine RX.ld 2 (.yes rfl rfl rfl) rfl rfl na_50 rfl rfl ?_ | refine RX.ld 3 (.yes rfl rfl rfl) rfl rfl na_50 rfl rfl ?_ | refine RX.ld 4 (.yes rfl rfl rfl) rfl rfl na_50 rfl rfl ?_ | refine RX.ld 5 (.yes rfl rfl rfl) rfl rfl na_50 rfl rfl ?_ | refine RX.ld 6 (.yes rfl rfl rfl) rfl rfl na_50 rfl rfl ?_ | refine RX.ld 7 (.yes rfl rfl rfl) rfl rfl na_50 rfl rfl ?_)
  (first | refine RX.skip (.no rfl rfl rfl rfl) rfl rfl ?_ | refine RX.pure (.yes rfl rfl rfl) rfl rfl (p_eqNilMap rfl rfl Tryd.underlying50) ?_)
  (first | refine RX.pure (.none rfl) rfl rfl (p_pickT rfl rfl) ?_ | refine RX.pure (.none rfl) rfl rfl (p_pickF rfl rfl) ?_)
  refine RX.nil ?_
  refine WP.condF rfl (WP.skip ?_)
  refine WP.seq (WP.sregion ?_)
  refine RX.pure (.none rfl) rfl rfl (p_move rfl) ?_
  refine RX.pure (.none rfl) rfl rfl (p_nilCheck rfl) ?_
  refine RX.pure (.none rfl) rfl rfl (p_fieldAddr rfl fa_54_1) ?_
  (first | refine RX.ld 0 (.none rfl) rfl rfl na_50 rfl rfl ?_ | refine RX.ld 1 (.none rfl) rfl rfl na_50 rfl rfl ?_ | refine RX.ld 2 (.none rfl) rfl rfl na_50 rfl rfl ?_ | refine RX.ld 3 (.none rfl) rfl rfl na_50 rfl rfl ?_ | refine RX.ld 4 (.none rfl) rfl rfl na_50 rfl rfl ?_ | refine RX.ld 5 (.none rfl) rfl rfl na_50 rfl rfl ?_ | refine RX.ld 6 (.none rfl) rfl rfl na_50 rfl rfl ?_ | refine RX.ld 7 (.none rfl) rfl rfl na_50 rfl rfl ?_)
  refine RX.pure (.none rfl) rfl rfl (p_move rfl) ?_
  refine RX.read (.none rfl) rfl rfl rfl (r_lookupMiss 2 rfl rfl Tryd.underlying50 hK rfl hk hD hmiss zv_3) ?_
  refine RX.pure (.none rfl) rfl rfl (p_move rfl) ?_
  refine RX.pure (.none rfl) rfl rfl (p_extract rfl rfl) ?_
  refine RX.pure (.none rfl) rfl rfl (p_extract rfl rfl) ?_
  refine RX.pure (.none rfl) rfl rfl (p_assign rfl) ?_
  refine RX.pure (.none rfl) rfl rfl (p_assign rfl) ?_
  refine RX.nil ?_
  refine WP.sregion ?_
  refine RX.pure (.none rfl) rfl rfl (p_move rfl) ?_
  refine RX.nil ?_
  refine WP.condF rfl (WP.skip ?_)
  refine WP.seq (WP.sregion ?_)
  refine RX.pure (.none rfl) rfl rfl (p_move rfl) ?_
  refine RX.pure (.none rfl) rfl rfl (p_nilCheck rfl) ?_
  refine RX.pure (.none rfl) rfl rfl (p_fieldAddr rfl fa_54_0) ?_
  (first | refine RX.ld 0 (.none rfl) rfl rfl na_3 rfl rfl ?_ | refine RX.ld 1 (.none rfl) rfl rfl na_3 rfl rfl ?_ | refine RX.ld 2 (.none rfl) rfl rfl na_3 rfl rfl ?_ | refine RX.ld 3 (.none rfl) rfl rfl na_3 rfl rfl ?_ | refine RX.ld 4 (.none rfl) rfl rfl na_3 rfl rfl ?_ | refine RX.ld 5 (.none rfl) rfl rfl na_3 rfl rfl ?_ | refine RX.ld 6 (.none rfl) rfl rfl na_3 rfl rfl ?_ | refine RX.ld 7 (.none rfl) rfl rfl na_3 rfl rfl ?_)
  refine RX.pure (.none rfl) rfl rfl (p_eqInt rfl rfl) ?_
  refine RX.nil ?_
  refine WP.cond rfl (fun h => absurd (of_decide_eq_true h) hmost) (fun _ => WP.skip ?_)
  refine WP.cut (fun ρ S => ∃ xs1 es1 fr1 gone gs was fv1 Hf1, Made zeroIt xs es fr most xs1 es1 fr1 gone was ∧ Oks 1 1 xs1 ∧ xs1.length = xs.length ∧ (∀ e, e ∈ es1 → e ∈ es) ∧ (∀ i, i ∈ fr1 → 0 < i ∧ i < xs.length) ∧ fr1.length ≤ fr.length + 1 ∧ olf xs1 0 < xs.length ∧ Vec 3 1 ienc fr1 fv1 Hf1 ∧
      gone = vv gs ∧ gs.length = 1 ∧ ones gs = true ∧ Sub [(0, .pointer (some ⟨c, 0, none⟩)), (1, vv ks), (2, vv vs), (6, vv gs), (7, .bool was)] ρ ∧ S = [[(c, cc most m l xs.length cap fv1)], [(l, li xs1 sp)], [(m, .map ⟨es1⟩ clk)], Hf1]) ?_ ?_
  · refine WP.sdraw mixed (by kernel_rfl) ?_
    refine RX.pure (.none rfl) rfl rfl (p_move rfl) ?_
    refine RX.pure (.none rfl) rfl rfl (p_nilCheck rfl) ?_
    refine RX.pure (.none rfl) rfl rfl (p_fieldAddr rfl fa_54_1) ?_
    (first | refine RX.ld 0 (.none rfl) rfl rfl na_50 rfl rfl ?_ | refine RX.ld 1 (.none rfl) rfl rfl na_50 rfl rfl ?_ | refine RX.ld 2 (.none rfl) rfl rfl na_50 rfl rfl ?_ | refine RX.ld 3 (.none rfl) rfl rfl na_50 rfl rfl ?_ | refine RX.ld 4 (.none rfl) rfl rfl na_50 rfl rfl ?_ | refine RX.ld 5 (.none rfl) rfl rfl na_50 rfl rfl ?_ | refine RX.ld 6 (.none rfl) rfl rfl na_50 rfl rfl ?_ | refine RX.ld 7 (.none rfl) rfl rfl na_50 rfl rfl ?_)
    (first | refine RX.read (.none rfl) rfl rfl rfl (r_lenMap 0 rfl Tryd.underlying50 rfl) ?_ | refine RX.read (.none rfl) rfl rfl rfl (r_lenMap 1 rfl Tryd.underlying50 rfl) ?_ | refine RX.read (.none rfl) rfl rfl rfl (r_lenMap 2 rfl Tryd.underlying50 rfl) ?_ | refine RX.read (.none rfl) rfl rfl rfl (r_lenMap 3 rfl Tryd.underlying50 rfl) ?_ | refine RX.read (.none rfl) rfl rfl rfl (r_lenMap 4 rfl Tryd.underlying50 rfl) ?_ | refine RX.read (.none rfl) rfl rfl rfl (r_lenMap 5 rfl Tryd.underlying50 rfl) ?_ | refine RX.read (.none rfl) rfl rfl rfl (r_lenMap 6 rfl Tryd.underlying50 rfl) ?_ | refine RX.read (.none rfl) rfl rfl rfl (r_lenMap 7 rfl Tryd.underlying50 rfl) ?_)
    refine RX.pure (.none rfl) rfl rfl (p_move rfl) ?_
    refine RX.pure (.none rfl) rfl rfl (p_nilCheck rfl) ?_
    refine RX.pure (.none rfl) rfl rfl (p_fieldAddr rfl fa_54_0) ?_
    (first | refine RX.ld 0 (.none rfl) rfl rfl na_3 rfl rfl ?_ | refine RX.ld 1 (.none rfl) rfl rfl na_3 rfl rfl ?_ | refine RX.ld 2 (.none rfl) rfl rfl na_3 rfl rfl ?_ | refine RX.ld 3 (.none rfl) rfl rfl na_3 rfl rfl ?_ | refine RX.ld 4 (.none rfl) rfl rfl na_3 rfl rfl ?_ | refine RX.ld 5 (.none rfl) rfl rfl na_3 rfl rfl ?_ | refine RX.ld 6 (.none rfl) rfl rfl na_3 rfl rfl ?_ | refine RX.ld 7 (.none rfl) rfl rfl na_3 rfl rfl ?_)
    refine RX.pure (.none rfl) rfl rfl (p_eqInt rfl rfl) ?_
    refine RX.nil ?_
    refine WP.cond rfl (fun h => ?_) (fun h => ?_)
    · have hfl : (es.length : Int) = most := of_decide_eq_true h
      obtain ⟨x, j, en, hx, hn, ho, hDx, hj, he, hpos, hol2⟩ := hfull hfl
      rw [en0] at hx hpos hol2
      have hi : x0.newer < xs.length := (List.getElem?_eq_some_iff.1 hx).1
      have hok := hu x (List.mem_of_getElem? hx)
      have hr := remove_tri (w0 := w0) hK c l cap m x0.newer clk most _ xs sp x es en j fr Hf hu hx hn ho hDx hD hnd hj he hf (by omega)
      refine WP.sregion ?_
      refine RX.pure (.none rfl) rfl rfl (p_move rfl) ?_
      refine RX.pure (.none rfl) rfl rfl (p_nilCheck rfl) ?_
      refine RX.pure (.none rfl) rfl rfl (p_fieldAddr rfl fa_54_2) ?_
      (first | refine RX.ld 0 (.none rfl) rfl rfl na_51 rfl rfl ?_ | refine RX.ld 1 (.none rfl) rfl rfl na_51 rfl rfl ?_ | refine RX.ld 2 (.none rfl) rfl rfl na_51 rfl rfl ?_ | refine RX.ld 3 (.none rfl) rfl rfl na_51 rfl rfl ?_ | refine RX.ld 4 (.none rfl) rfl rfl na_51 rfl rfl ?_ | refine RX.ld 5 (.none rfl) rfl rfl na_51 rfl rfl ?_ | refine RX.ld 6 (.none rfl) rfl rfl na_51 rfl rfl ?_ | refine RX.ld 7 (.none rfl) rfl rfl na_51 rfl rfl ?_)
      (first | refine RX.pure (.none rfl) rfl rfl (p_idxSlice0 rfl rfl sl_51 (by omega) (by omega)) ?_ | refine RX.pure (.none rfl) rfl rfl (p_idxSlice rfl rfl sl_51 (by omega) (by omega)) ?_)
      refine RX.pure (.none rfl) rfl rfl (p_fieldAddr rfl fa_87_2) ?_
      refine RX.ld 1 (.none rfl) rfl rfl na_3 rfl (fm_get huni hx0 (it_newer hok0 rfl)) ?_
      refine RX.pure (.none rfl) rfl rfl (p_assign rfl) ?_
      refine RX.nil ?_
      refine WP.sregion ?_
      refine RX.pure (.none rfl) rfl rfl (p_move rfl) ?_
      refine RX.pure (.none rfl) rfl rfl (p_nilCheck rfl) ?_
      refine RX.pure (.none rfl) rfl rfl (p_fieldAddr rfl fa_54_2) ?_
      (first | refine RX.ld 0 (.none rfl) rfl rfl na_51 rfl rfl ?_ | refine RX.ld 1 (.none rfl) rfl rfl na_51 rfl rfl ?_ | refine RX.ld 2 (.none rfl) rfl rfl na_51 rfl rfl ?_ | refine RX.ld 3 (.none rfl) rfl rfl na_51 rfl rfl ?_ | refine RX.ld 4 (.none rfl) rfl rfl na_51 rfl rfl ?_ | refine RX.ld 5 (.none rfl) rfl rfl na_51 rfl rfl ?_ | refine RX.ld 6 (.none rfl) rfl rfl na_51 rfl rfl ?_ | refine RX.ld 7 (.none rfl) rfl rfl na_51 rfl rfl ?_)
      refine RX.pure (.none rfl) rfl rfl (p_move rfl) ?_
      (first | refine RX.pure (.none rfl) rfl rfl (p_idxSlice0 rfl rfl sl_51 (by omega) (by omega)) ?_ | refine RX.pure (.none rfl) rfl rfl (p_idxSlice rfl rfl sl_51 (by omega) (by omega)) ?_)
      refine RX.pure (.none rfl) rfl rfl (p_fieldAddr rfl fa_87_0) ?_
      refine RX.ldv 1 (.none rfl) rfl rfl ldv_9 rfl (fm_cells huni hx (it_key hok) (by decide)) hok.k ?_
      refine RX.pure (.none rfl) rfl rfl (p_assign rfl) ?_
      refine RX.pure (.none rfl) rfl rfl (p_assign rfl) ?_
      refine RX.nil ?_
      refine WP.region ?_
      refine RX.pure (.none rfl) rfl rfl (p_move rfl) ?_
      refine RX.pure (.none rfl) rfl rfl (p_move rfl) ?_
      refine RX.eff (.none rfl) rfl rfl rfl (e_call [0, 1, 2, 3] rfl call_29 rfl rfl hr) ?_
      rintro _ _ ⟨S1, ⟨fv', Hf', hV, rfl⟩, rfl⟩
      refine RX.nil ?_
      refine ⟨_, _, _, _, x.key, _, fv', Hf', .inr ⟨hfl, x0.newer, x, j, en, en0.symm, hx, hj, he, rfl, rfl, rfl, rfl, rfl⟩, oks_set (outL_ok hu _) zeroIt_ok, by simp [outL_len], fun e h' => List.mem_of_mem_eraseIdx h', ?_, by simp, ?_, hV, rfl, hok.k, hok.ko, ?_, rfl⟩
      · intro i hi'
        rcases List.mem_append.1 hi' with h1 | h1
        · exact hfr i h1
        · simp at h1; subst h1; exact ⟨hpos, hi⟩
      · rw [olf_set_ne _ _ _ _ (by omega)]; exact hol2
      · repeat (first | exact Sub.nil | refine Sub.cons rfl ?_)
    · have hfl : (es.length : Int) ≠ most := of_decide_eq_false h
      refine WP.skip ?_
      refine ⟨_, _, _, _, zeroIt.key, _, _, Hf, .inl ⟨hfl, rfl, rfl, rfl, rfl, rfl⟩, hu, rfl, fun e h' => h', hfr, by omega, hol, hf, rfl, rfl, rfl, ?_, rfl⟩
      repeat (first | exact Sub.nil | refine Sub.cons rfl ?_)
  rintro ρ S ⟨xs1, es1, fr1, gone, gs, was, fv1, Hf1, hmade, hu1, hl1, hsub, hfr1, hfl1, hol1, hf1, hgone, hgl, hgo, hρ, rfl⟩
  subst hgone
  refine WP.sub hρ ?_
  clear hρ
  obtain ⟨pf1, cpf1, hfv1⟩ := hf1.slice
  subst hfv1
  have huni1 : Uni It.cells 4 xs1 := hu1.uni rfl
  refine WP.sregion ?_
  refine RX.pure (.none rfl) rfl rfl (p_move rfl) ?_
  refine RX.pure (.none rfl) rfl rfl (p_nilCheck rfl) ?_
  refine RX.pure (.none rfl) rfl rfl (p_fieldAddr rfl fa_54_2) ?_
  (first | refine RX.ld 0 (.none rfl) rfl rfl na_51 rfl rfl ?_ | refine RX.ld 1 (.none rfl) rfl rfl na_51 rfl rfl ?_ | refine RX.ld 2 (.none rfl) rfl rfl na_51 rfl rfl ?_ | refine RX.ld 3 (.none rfl) rfl rfl na_51 rfl rfl ?_ | refine RX.ld 4 (.none rfl) rfl rfl na_51 rfl rfl ?_ | refine RX.ld 5 (.none rfl) rfl rfl na_51 rfl rfl ?_ | refine RX.ld 6 (.none rfl) rfl rfl na_51 rfl rfl ?_ | refine RX.ld 7 (.none rfl) rfl rfl na_51 rfl rfl ?_)
  refine RX.pure (.none rfl) rfl rfl (p_lenSlice rfl Tryd.underlying51) ?_
  refine RX.pure (.none rfl) rfl rfl (p_assign rfl) ?_
  refine RX.nil ?_
  refine WP.cut (fun ρ S => ∃ i xs2 fr2 l' cap' sp' fv' Hf', Room zeroIt xs1 fr1 i xs2 fr2 ∧ Oks 1 1 xs2 ∧ 0 < i ∧ i < xs2.length ∧ olf xs2 0 < xs2.length ∧ Vec 3 1 ienc fr2 fv' Hf' ∧ xs2.length ≤ cap' ∧ cap' ≤ maxLen ∧ sp'.length = (cap' - xs2.length) * 4 ∧
      Sub [(0, .pointer (some ⟨c, 0, none⟩)), (1, vv ks), (2, vv vs), (6, vv gs), (7, .bool was), (11, .int .i64 i)] ρ ∧ S = [[(c, cc most m l' xs2.length cap' fv')], [(l', li xs2 sp')], [(m, .map ⟨es1⟩ clk)], Hf']) ?_ ?_
  · refine WP.sregion ?_
    refine RX.pure (.none rfl) rfl rfl (p_move rfl) ?_
    refine RX.pure (.none rfl) rfl rfl (p_nilCheck rfl) ?_
    refine RX.pure (.none rfl) rfl rfl (p_fieldAddr rfl fa_54_3) ?_
    (first | refine RX.ld 0 (.none rfl) rfl rfl na_52 rfl rfl ?_ | refine RX.ld 1 (.none rfl) rfl rfl na_52 rfl rfl ?_ | refine RX.ld 2 (.none rfl) rfl rfl na_52 rfl rfl ?_ | refine RX.ld 3 (.none rfl) rfl rfl na_52 rfl rfl ?_ | refine RX.ld 4 (.none rfl) rfl rfl na_52 rfl rfl ?_ | refine RX.ld 5 (.none rfl) rfl rfl na_52 rfl rfl ?_ | refine RX.ld 6 (.none rfl) rfl rfl na_52 rfl rfl ?_ | refine RX.ld 7 (.none rfl) rfl rfl na_52 rfl rfl ?_)
    refine RX.pure (.none rfl) rfl rfl (p_lenSlice rfl Tryd.underlying52) ?_
    refine RX.pure (.none rfl) rfl rfl (p_assign rfl) ?_
    refine RX.nil ?_
    refine WP.sregion ?_
    refine RX.pure (.none rfl) rfl rfl (p_move rfl) ?_
    refine RX.pure (.none rfl) rfl rfl (p_gtr rfl rfl) ?_
    refine RX.nil ?_
    refine WP.cond rfl (fun h => ?_) (fun h => ?_)
    · have hpos : 0 < (fr1.length : Int) := of_decide_eq_true h
      rcases hf1 with ⟨_, rfl, _⟩ | ⟨f, capf, spf, hs1, rfl, hf2, hf3, hf4⟩
      · simp at hpos
      obtain ⟨rfl, rfl⟩ : pf1 = some ⟨f, 0, none⟩ ∧ cpf1 = capf := by simpa using hs1
      obtain ⟨fr2, i, rfl⟩ : ∃ fr2 i, fr1 = fr2 ++ [i] := ⟨_, _, (List.dropLast_concat_getLast (by intro e; subst e; simp at hpos)).symm⟩
      have hii := hfr1 i (by simp)
      have hlen : fr2.length + 1 ≤ 1000001 := by simp at hfl1; omega
      have hlast : (((fr2 ++ [i]).length : Int) - 1).toNat = fr2.length := by simp
      have hget : (fr2 ++ [i])[(((fr2 ++ [i]).length : Int) - 1).toNat]? = some i := by rw [hlast]; simp
      have hqe : ((fr2 ++ [i]).length : Int) = (fr2.length : Int) + 1 := by simp
      have hcf : (fr2.length : Int) + 1 ≤ cpf1 := by simp at hf2; omega
      have hV : Vec 3 1 ienc fr2 (.slice (some ⟨f, 0, none⟩) (((fr2 ++ [i]).length : Int) - 1).toNat cpf1) [(f, row ((fr2 ++ [i]).flatMap ienc ++ spf) 3)] := by
        refine .inr ⟨f, cpf1, .int .i64 i :: spf, by rw [hlast], by simp, by omega, hf3, ?_⟩
        simp at hf4 ⊢
        omega
      refine WP.sregion ?_
      refine RX.pure (.none rfl) rfl rfl (p_move rfl) ?_
      refine RX.pure (.none rfl) rfl rfl (p_nilCheck rfl) ?_
      refine RX.pure (.none rfl) rfl rfl (p_fieldAddr rfl fa_54_3) ?_
      (first | refine RX.ld 0 (.none rfl) rfl rfl na_52 rfl rfl ?_ | refine RX.ld 1 (.none rfl) rfl rfl na_52 rfl rfl ?_ | refine RX.ld 2 (.none rfl) rfl rfl na_52 rfl rfl ?_ | refine RX.ld 3 (.none rfl) rfl rfl na_52 rfl rfl ?_ | refine RX.ld 4 (.none rfl) rfl rfl na_52 rfl rfl ?_ | refine RX.ld 5 (.none rfl) rfl rfl na_52 rfl rfl ?_ | refine RX.ld 6 (.none rfl) rfl rfl na_52 rfl rfl ?_ | refine RX.ld 7 (.none rfl) rfl rfl na_52 rfl rfl ?_)
      refine RX.pure (.none rfl) rfl rfl (p_move rfl) ?_
      refine RX.pure (.none rfl) rfl rfl (p_sub rfl rfl (wr_i64 (by omega) (by omega))) ?_
      (first | refine RX.pure (.none rfl) rfl rfl (p_idxSlice0 rfl rfl sl_52 (by omega) (by omega)) ?_ | refine RX.pure (.none rfl) rfl rfl (p_idxSlice rfl rfl sl_52 (by omega) (by omega)) ?_)
      refine RX.ld 3 (.none rfl) rfl rfl na_3 rfl (fm_get0 (ienc_uni _) hget rfl) ?_
      refine RX.pure (.none rfl) rfl rfl (p_assign rfl) ?_
      refine RX.nil ?_
      refine WP.region ?_
      refine RX.pure (.none rfl) rfl rfl (p_move rfl) ?_
      refine RX.pure (.none rfl) rfl rfl (p_move rfl) ?_
      refine RX.pure (.none rfl) rfl rfl (p_nilCheck rfl) ?_
      refine RX.pure (.none rfl) rfl rfl (p_fieldAddr rfl fa_54_3) ?_
      (first | refine RX.ld 0 (.none rfl) rfl rfl na_52 rfl rfl ?_ | refine RX.ld 1 (.none rfl) rfl rfl na_52 rfl rfl ?_ | refine RX.ld 2 (.none rfl) rfl rfl na_52 rfl rfl ?_ | refine RX.ld 3 (.none rfl) rfl rfl na_52 rfl rfl ?_ | refine RX.ld 4 (.none rfl) rfl rfl na_52 rfl rfl ?_ | refine RX.ld 5 (.none rfl) rfl rfl na_52 rfl rfl ?_ | refine RX.ld 6 (.none rfl) rfl rfl na_52 rfl rfl ?_ | refine RX.ld 7 (.none rfl) rfl rfl na_52 rfl rfl ?_)
      refine RX.pure (.none rfl) rfl rfl (p_move rfl) ?_
      refine RX.pure (.none rfl) rfl rfl (p_sub rfl rfl (wr_i64 (by omega) (by omega))) ?_
      refine RX.pure (.none rfl) rfl rfl (p_sliceTo rfl sl_52 rfl (by omega) (by omega)) ?_
      refine RX.pure (.none rfl) rfl rfl (p_nilCheck rfl) ?_
      refine RX.pure (.none rfl) rfl rfl (p_fieldAddr rfl fa_54_3) ?_
      (first | refine RX.st 0 (.none rfl) rfl rfl sz_52 rfl rfl rfl _ rfl ?_ | refine RX.st 1 (.none rfl) rfl rfl sz_52 rfl rfl rfl _ rfl ?_ | refine RX.st 2 (.none rfl) rfl rfl sz_52 rfl rfl rfl _ rfl ?_ | refine RX.st 3 (.none rfl) rfl rfl sz_52 rfl rfl rfl _ rfl ?_ | refine RX.st 4 (.none rfl) rfl rfl sz_52 rfl rfl rfl _ rfl ?_ | refine RX.st 5 (.none rfl) rfl rfl sz_52 rfl rfl rfl _ rfl ?_ | refine RX.st 6 (.none rfl) rfl rfl sz_52 rfl rfl rfl _ rfl ?_ | refine RX.st 7 (.none rfl) rfl rfl sz_52 rfl rfl rfl _ rfl ?_)
      refine RX.nil ?_
      refine ⟨i, xs1, fr2, l, cap, sp, _, _, .inl ⟨rfl, rfl⟩, hu1, hii.1, by omega, by omega, hV, by omega, hmax, by rw [hl1]; exact hsp, ?_, by rw [hl1]; rfl⟩
      repeat (first | exact Sub.nil | refine Sub.cons rfl ?_)
    · have hzero : ¬ (0 < (fr1.length : Int)) := of_decide_eq_false h
      have hfr0 : fr1 = [] := List.eq_nil_of_length_eq_zero (by omega)
      have hV1 : Vec 87 4 It.cells xs1 (.slice (some ⟨l, 0, none⟩) xs.length cap) [(l, li xs1 sp)] := .inr ⟨l, cap, sp, by rw [hl1], rfl, by omega, hmax, by rw [hl1]; exact hsp⟩
      refine WP.region ?_
      refine RX.pure (.none rfl) rfl rfl (p_move rfl) ?_
      refine RX.pure (.none rfl) rfl rfl (p_move rfl) ?_
      refine RX.pure (.none rfl) rfl rfl (p_nilCheck rfl) ?_
      refine RX.pure (.none rfl) rfl rfl (p_fieldAddr rfl fa_54_2) ?_
      (first | refine RX.ld 0 (.none rfl) rfl rfl na_51 rfl rfl ?_ | refine RX.ld 1 (.none rfl) rfl rfl na_51 rfl rfl ?_ | refine RX.ld 2 (.none rfl) rfl rfl na_51 rfl rfl ?_ | refine RX.ld 3 (.none rfl) rfl rfl na_51 rfl rfl ?_ | refine RX.ld 4 (.none rfl) rfl rfl na_51 rfl rfl ?_ | refine RX.ld 5 (.none rfl) rfl rfl na_51 rfl rfl ?_ | refine RX.ld 6 (.none rfl) rfl rfl na_51 rfl rfl ?_ | refine RX.ld 7 (.none rfl) rfl rfl na_51 rfl rfl ?_)
      refine RX.pure (.none rfl) rfl rfl (p_buildS zr_87 pl_87 rfl rfl) ?_
      refine RX.eff (.none rfl) rfl rfl rfl (e_buildSlice sl_51 zr_87 rfl (by decide) (by decide) rfl rfl rfl) ?_
      rintro _ _ ⟨n118, rfl, rfl⟩
      refine RX.eff (.none rfl) rfl rfl rfl (e_append (ys := [zeroIt]) 1 rfl rfl sl_51 zr_87 rfl (by decide) by_87 huni1 (Oks.uni (kn := 1) (vn := 1) (fun x hx => by rw [List.mem_singleton.1 hx]; exact zeroIt_ok) rfl) (fun y hy => by rw [List.mem_singleton.1 hy]; rfl) hV1 rfl (.inr ⟨_, _, rfl, RdN.own 4 rfl rfl⟩) (by simp only [List.length_cons, List.length_nil]; omega) (by simp only [maxLen, List.length_cons, List.length_nil]; omega)) ?_
      rintro _ _ ⟨Hl', hl', rfl⟩; rcases hl' with ⟨_, hbad, _⟩ | ⟨l', cap', sp', rfl, rfl, hc1, hc2, hc3⟩; · simp at hbad
      refine RX.pure (.none rfl) rfl rfl (p_nilCheck rfl) ?_
      refine RX.pure (.none rfl) rfl rfl (p_fieldAddr rfl fa_54_2) ?_
      (first | refine RX.st 0 (.none rfl) rfl rfl sz_51 rfl rfl rfl _ rfl ?_ | refine RX.st 1 (.none rfl) rfl rfl sz_51 rfl rfl rfl _ rfl ?_ | refine RX.st 2 (.none rfl) rfl rfl sz_51 rfl rfl rfl _ rfl ?_ | refine RX.st 3 (.none rfl) rfl rfl sz_51 rfl rfl rfl _ rfl ?_ | refine RX.st 4 (.none rfl) rfl rfl sz_51 rfl rfl rfl _ rfl ?_ | refine RX.st 5 (.none rfl) rfl rfl sz_51 rfl rfl rfl _ rfl ?_ | refine RX.st 6 (.none rfl) rfl rfl sz_51 rfl rfl rfl _ rfl ?_ | refine RX.st 7 (.none rfl) rfl rfl sz_51 rfl rfl rfl _ rfl ?_)
      refine RX.take 4 ?_
      refine RX.nil ?_
      refine ⟨xs.length, xs1 ++ [zeroIt], [], l', cap', sp', _, Hf1, .inr ⟨hfr0, rfl, hl1.symm, rfl⟩, oks_append hu1 zeroIt_ok, by omega, by simp; omega, ?_, by rw [← hfr0]; exact hf1, hc1, hc2, hc3, ?_, rfl⟩
      · rw [olf_append _ _ _ (by omega)]; simp; omega
      · repeat (first | exact Sub.nil | refine Sub.cons rfl ?_)
  rintro ρ S ⟨i, xs2, fr2, l', cap', sp', fv', Hf', hroom, hu2, hi0, hi, hol2, hV, hc1, hc2, hc3, hρ, rfl⟩
  refine WP.sub hρ ?_
  clear hρ
  obtain ⟨y, hy⟩ : ∃ y, xs2[i]? = some y := ⟨_, List.getElem?_eq_getElem hi⟩
  have hoky := hu2 y (List.mem_of_getElem? hy)
  have huni2 : Uni It.cells 4 xs2 := hu2.uni rfl
  have hok3 : ({ y with key := ks } : It).Ok 1 1 := ⟨hks, hoky.v, hko, hoky.vo⟩
  have hu3 : Oks 1 1 (xs2.set i { y with key := ks }) := oks_set hu2 hok3
  have huni3 : Uni It.cells 4 (xs2.set i { y with key := ks }) := hu3.uni rfl
  have hy3 : (xs2.set i { y with key := ks })[i]? = some { y with key := ks } := by simp [hi]
  have hi3 : i < (xs2.set i { y with key := ks }).length := by simpa using hi
  have e4 : (xs2.set i { y with key := ks }).set i { y with key := ks, val := vs } = xs2.set i { y with key := ks, val := vs } := by rw [List.set_set]
  have hu4 : Oks 1 1 (xs2.set i { y with key := ks, val := vs }) := oks_set hu2 ⟨hks, hvs, hko, hvo⟩
  have hl4 : (xs2.set i { y with key := ks, val := vs }).length = xs2.length := by simp
  have st1 : (xs2.flatMap It.cells ++ sp').take (i * 4 + 0) ++ ks ++ (xs2.flatMap It.cells ++ sp').drop (i * 4 + 0 + 1) = (xs2.set i { y with key := ks }).flatMap It.cells ++ sp' := fm_put huni2 hy (by decide) hks (it_putKey hoky ks)
  have st2 : ((xs2.set i { y with key := ks }).flatMap It.cells ++ sp').take (i * 4 + 1) ++ vs ++ ((xs2.set i { y with key := ks }).flatMap It.cells ++ sp').drop (i * 4 + 1 + 1) = (xs2.set i { y with key := ks, val := vs }).flatMap It.cells ++ sp' := by
    rw [← e4]; exact fm_put huni3 hy3 (by decide) hvs (it_putVal hok3 vs)
  have ht := first_tri (w0 := w0) c l' cap' m i most fv' (xs2.set i { y with key := ks, val := vs }) sp' hu4 (by omega) (by rw [olf_set_ne _ _ _ _ (by omega), hl4]; exact hol2)
  rw [hl4] at ht
  refine WP.sdraw mixed (by kernel_rfl) ?_
  refine RX.pure (.none rfl) rfl rfl (p_move rfl) ?_
  refine RX.pure (.none rfl) rfl rfl (p_nilCheck rfl) ?_
  refine RX.pure (.none rfl) rfl rfl (p_fieldAddr rfl fa_54_2) ?_
  (first | refine RX.ld 0 (.none rfl) rfl rfl na_51 rfl rfl ?_ | refine RX.ld 1 (.none rfl) rfl rfl na_51 rfl rfl ?_ | refine RX.ld 2 (.none rfl) rfl rfl na_51 rfl rfl ?_ | refine RX.ld 3 (.none rfl) rfl rfl na_51 rfl rfl ?_ | refine RX.ld 4 (.none rfl) rfl rfl na_51 rfl rfl ?_ | refine RX.ld 5 (.none rfl) rfl rfl na_51 rfl rfl ?_ | refine RX.ld 6 (.none rfl) rfl rfl na_51 rfl rfl ?_ | refine RX.ld 7 (.none rfl) rfl rfl na_51 rfl rfl ?_)
  refine RX.pure (.none rfl) rfl rfl (p_move rfl) ?_
  refine RX.pure (.none rfl) rfl rfl (p_move rfl) ?_
  refine RX.pure (.none rfl) rfl rfl (p_nilCheck rfl) ?_
  refine RX.pure (.none rfl) rfl rfl (p_fieldAddr rfl fa_54_2) ?_
  (first | refine RX.ld 0 (.none rfl) rfl rfl na_51 rfl rfl ?_ | refine RX.ld 1 (.none rfl) rfl rfl na_51 rfl rfl ?_ | refine RX.ld 2 (.none rfl) rfl rfl na_51 rfl rfl ?_ | refine RX.ld 3 (.none rfl) rfl rfl na_51 rfl rfl ?_ | refine RX.ld 4 (.none rfl) rfl rfl na_51 rfl rfl ?_ | refine RX.ld 5 (.none rfl) rfl rfl na_51 rfl rfl ?_ | refine RX.ld 6 (.none rfl) rfl rfl na_51 rfl rfl ?_ | refine RX.ld 7 (.none rfl) rfl rfl na_51 rfl rfl ?_)
  refine RX.pure (.none rfl) rfl rfl (p_move rfl) ?_
  refine RX.pure (.none rfl) rfl rfl (p_move rfl) ?_
  refine RX.pure (.none rfl) rfl rfl (p_move rfl) ?_
  (first | refine RX.pure (.none rfl) rfl rfl (p_idxSlice0 rfl rfl sl_51 (by omega) (by omega)) ?_ | refine RX.pure (.none rfl) rfl rfl (p_idxSlice rfl rfl sl_51 (by omega) (by omega)) ?_)
  refine RX.pure (.none rfl) rfl rfl (p_fieldAddr rfl fa_87_0) ?_
  refine RX.stv 1 (.none rfl) rfl rfl sz_9 hks hko rfl (fm_le huni2 hi (by decide)) _ st1 ?_
  (first | refine RX.pure (.none rfl) rfl rfl (p_idxSlice0 rfl rfl sl_51 (by omega) (by omega)) ?_ | refine RX.pure (.none rfl) rfl rfl (p_idxSlice rfl rfl sl_51 (by omega) (by omega)) ?_)
  refine RX.pure (.none rfl) rfl rfl (p_fieldAddr rfl fa_87_1) ?_
  refine RX.stv 1 (.none rfl) rfl rfl sz_3 hvs hvo rfl (fm_le huni3 hi3 (by decide)) _ st2 ?_
  refine RX.nil ?_
  refine WP.sregion ?_
  refine RX.pure (.none rfl) rfl rfl (p_move rfl) ?_
  refine RX.pure (.none rfl) rfl rfl (p_nilCheck rfl) ?_
  refine RX.pure (.none rfl) rfl rfl (p_fieldAddr rfl fa_54_1) ?_
  (first | refine RX.ld 0 (.none rfl) rfl rfl na_50 rfl rfl ?_ | refine RX.ld 1 (.none rfl) rfl rfl na_50 rfl rfl ?_ | refine RX.ld 2 (.none rfl) rfl rfl na_50 rfl rfl ?_ | refine RX.ld 3 (.none rfl) rfl rfl na_50 rfl rfl ?_ | refine RX.ld 4 (.none rfl) rfl rfl na_50 rfl rfl ?_ | refine RX.ld 5 (.none rfl) rfl rfl na_50 rfl rfl ?_ | refine RX.ld 6 (.none rfl) rfl rfl na_50 rfl rfl ?_ | refine RX.ld 7 (.none rfl) rfl rfl na_50 rfl rfl ?_)
  refine RX.pure (.none rfl) rfl rfl (p_move rfl) ?_
  refine RX.pure (.none rfl) rfl rfl (p_move rfl) ?_
  refine RX.eff0 (.none rfl) rfl rfl (e_mapNew 2 rfl rfl rfl Tryd.underlying50 hK rfl hk (fun e he => hD e (hsub e he)) (fun e he => hmiss e (hsub e he))) ?_
  rintro _ _ rfl
  refine RX.nil ?_
  refine WP.sregion ?_
  refine RX.pure (.none rfl) rfl rfl (p_move rfl) ?_
  refine RX.pure (.none rfl) rfl rfl (p_move rfl) ?_
  refine RX.eff (.none rfl) rfl rfl rfl (e_call [0, 1] rfl call_28 rfl rfl ht) ?_
  rintro _ _ ⟨S1, rfl, rfl⟩
  refine RX.nil ?_
  refine WP.sregion ?_
  refine RX.pure (.none rfl) rfl rfl (p_move rfl) ?_
  refine RX.pure (.none rfl) rfl rfl (p_move rfl) ?_
  refine RX.pure (.none rfl) rfl rfl (p_assign rfl) ?_
  refine RX.pure (.none rfl) rfl rfl (p_assign rfl) ?_
  refine RX.nil ?_
  refine WP.ret ?_
  repeat (first | refine sq_ret ?_ | refine bk_ret ?_ | refine lq_ret ?_ | refine cq_ret ?_)
  exact fin2' 4 rfl rfl rfl rfl ⟨xs1, es1, fr1, _, was, hmade, i, xs2, fr2, y, l', cap', sp', fv', Hf', hroom, hy, hV, hc1, hc2, hc3, rfl, by simp; rfl⟩
end
end Go.Proofs.YtpakklmkajjodaaDoor.CSI
