/- The cache's inner functions, walked: out, first, remove (items of 1 and 1 cells). -/
import Derived.Test.YtpakklmkajjodaaDoorFacts
import Derived.Test.YtpakklmkajjodaaDoorCMod2
set_option maxRecDepth 100000
namespace Go.Proofs.YtpakklmkajjodaaDoor.CSI
open Go Go.EL Go.EL.Cache
/-- the cache's own block; the block of its items -/
abbrev cc (most : Int) (m l n cap : Nat) (fv : Value) : Obj := row [.int .i64 most, .map (some m), .slice (some ⟨l, 0, none⟩) n cap, fv] 54
abbrev li (xs : List It) (sp : List Value) : Obj := row (xs.flatMap It.cells ++ sp) 87
abbrev ienc (i : Nat) : List Value := [.int .i64 i]
abbrev zeroIt : It := ⟨[.string ⟨#[]⟩], [.int .i64 0], 0, 0⟩
theorem zeroIt_ok : zeroIt.Ok 1 1 := ⟨rfl, rfl, rfl, rfl⟩
theorem ienc_uni (xs : List Nat) : Uni ienc 1 xs := fun _ _ => rfl
section
variable {w0 : World}
theorem out_tri (c l cap m i : Nat) (most : Int) (fv : Value) (xs : List It) (sp : List Value) (x : It) (hu : Oks 1 1 xs) (hx : xs[i]? = some x) (hn : x.newer < xs.length) (ho : x.older < xs.length) :
    Tri Tryd.prog w0 27 #[.pointer (some ⟨c, 0, none⟩), .int .i64 i] [[(c, cc most m l xs.length cap fv)], [(l, li xs sp)]]
      (fun _ S' => S' = [[(c, cc most m l xs.length cap fv)], [(l, li (outL xs i) sp)]]) := by
  have hi : i < xs.length := (List.getElem?_eq_some_iff.1 hx).1
  have hok := hu x (List.mem_of_getElem? hx)
  have huni : Uni It.cells 4 xs := hu.uni rfl
  obtain ⟨y, hy⟩ : ∃ y, xs[x.newer]? = some y := ⟨_, List.getElem?_eq_getElem hn⟩
  have hoky := hu y (List.mem_of_getElem? hy)
  have hu1 : Oks 1 1 (setO xs x.newer x.older) := setO_ok hu _ _
  have ho1 : x.older < (setO xs x.newer x.older).length := by rw [setO_len]; exact ho
  obtain ⟨z, hz⟩ : ∃ z, (setO xs x.newer x.older)[x.older]? = some z := ⟨_, List.getElem?_eq_getElem ho1⟩
  have hokz := hu1 z (List.mem_of_getElem? hz)
  have e1 := setO_eq (v := x.older) hy
  have e2 := setN_eq (v := x.newer) hz
  have huni1 : Uni It.cells 4 (setO xs x.newer x.older) := hu1.uni rfl
  have st1 : (xs.flatMap It.cells ++ sp).set (x.newer * 4 + 3) (.int .i64 x.older) = (setO xs x.newer x.older).flatMap It.cells ++ sp := by
    rw [e1]; exact fm_set huni hy (by decide) (it_setOlder hoky rfl)
  have st2 : ((setO xs x.newer x.older).flatMap It.cells ++ sp).set (x.older * 4 + 2) (.int .i64 x.newer) = (setN (setO xs x.newer x.older) x.older x.newer).flatMap It.cells ++ sp := by
    rw [e2]; exact fm_set huni1 hz (by decide) (it_setNewer hokz rfl)
  have fin : outL xs i = setN (setO xs x.newer x.older) x.older x.newer := by
    simp [outL, nwf, olf, hx]
  rw [fin]
  clear fin
  refine Tri.mk Tryd.func27 rfl rfl rfl ?_
  refine WP.sregion ?_
  refine RX.pure (.none rfl) rfl rfl (p_move rfl) ?_
  refine RX.pure (.none rfl) rfl rfl (p_nilCheck rfl) ?_
  refine RX.pure (.none rfl) rfl rfl (p_fieldAddr rfl fa_54_2) ?_
  (first | refine RX.ld 0 (.none rfl) rfl rfl na_51 rfl rfl ?_ | refine RX.ld 1 (.none rfl) rfl rfl na_51 rfl rfl ?_ | refine RX.ld 2 (.none rfl) rfl rfl na_51 rfl rfl ?_ | refine RX.ld 3 (.none rfl) rfl rfl na_51 rfl rfl ?_ | refine RX.ld 4 (.none rfl) rfl rfl na_51 rfl rfl ?_ | refine RX.ld 5 (.none rfl) rfl rfl na_51 rfl rfl ?_ | refine RX.ld 6 (.none rfl) rfl rfl na_51 rfl rfl ?_ | refine RX.ld 7 (.none rfl) rfl rfl na_51 rfl rfl ?_)
  refine RX.pure (.none rfl) rfl rfl (p_move rfl) ?_
  (first | refine RX.pure (.none rfl) rfl rfl (p_idxSlice0 rfl rfl sl_51 (by omega) (by omega)) ?_ | refine RX.pure (.none rfl) rfl rfl (p_idxSlice rfl rfl sl_51 (by omega) (by omega)) ?_)
  refine RX.lda 1 (.none rfl) rfl rfl ag_87 rfl (fm_cells0 huni hx (it_whole hok)) (it_len hok rfl) ?_
  refine RX.eff (.none rfl) rfl rfl rfl (e_alloc zr_87) ?_
  rintro _ _ ⟨n4, rfl, rfl⟩
  refine RX.sta 2 (.none rfl) rfl rfl sz_87 (it_len hok rfl) (it_ones hok) rfl rfl _ (put_whole rfl) ?_
  refine RX.nil ?_
  refine WP.sdraw mixed (by kernel_rfl) ?_
  refine RX.pure (.none rfl) rfl rfl (p_move rfl) ?_
  refine RX.pure (.none rfl) rfl rfl (p_nilCheck rfl) ?_
  refine RX.pure (.none rfl) rfl rfl (p_fieldAddr rfl fa_54_2) ?_
  (first | refine RX.ld 0 (.none rfl) rfl rfl na_51 rfl rfl ?_ | refine RX.ld 1 (.none rfl) rfl rfl na_51 rfl rfl ?_ | refine RX.ld 2 (.none rfl) rfl rfl na_51 rfl rfl ?_ | refine RX.ld 3 (.none rfl) rfl rfl na_51 rfl rfl ?_ | refine RX.ld 4 (.none rfl) rfl rfl na_51 rfl rfl ?_ | refine RX.ld 5 (.none rfl) rfl rfl na_51 rfl rfl ?_ | refine RX.ld 6 (.none rfl) rfl rfl na_51 rfl rfl ?_ | refine RX.ld 7 (.none rfl) rfl rfl na_51 rfl rfl ?_)
  refine RX.pure (.none rfl) rfl rfl (p_fieldAddr rfl fa_87_2) ?_
  refine RX.ld 2 (.none rfl) rfl rfl na_3 rfl (it_newer hok rfl) ?_
  refine RX.pure (.none rfl) rfl rfl (p_fieldAddr rfl fa_87_3) ?_
  refine RX.ld 2 (.none rfl) rfl rfl na_3 rfl (it_older hok rfl) ?_
  (first | refine RX.pure (.none rfl) rfl rfl (p_idxSlice0 rfl rfl sl_51 (by omega) (by omega)) ?_ | refine RX.pure (.none rfl) rfl rfl (p_idxSlice rfl rfl sl_51 (by omega) (by omega)) ?_)
  refine RX.pure (.none rfl) rfl rfl (p_fieldAddr rfl fa_87_3) ?_
  refine RX.st 1 (.none rfl) rfl rfl sz_3 rfl rfl (fm_lt huni hn (by decide)) _ st1 ?_
  refine RX.nil ?_
  refine WP.draw mixed (by kernel_rfl) ?_
  refine RX.pure (.none rfl) rfl rfl (p_move rfl) ?_
  refine RX.pure (.none rfl) rfl rfl (p_nilCheck rfl) ?_
  refine RX.pure (.none rfl) rfl rfl (p_fieldAddr rfl fa_54_2) ?_
  (first | refine RX.ld 0 (.none rfl) rfl rfl na_51 rfl rfl ?_ | refine RX.ld 1 (.none rfl) rfl rfl na_51 rfl rfl ?_ | refine RX.ld 2 (.none rfl) rfl rfl na_51 rfl rfl ?_ | refine RX.ld 3 (.none rfl) rfl rfl na_51 rfl rfl ?_ | refine RX.ld 4 (.none rfl) rfl rfl na_51 rfl rfl ?_ | refine RX.ld 5 (.none rfl) rfl rfl na_51 rfl rfl ?_ | refine RX.ld 6 (.none rfl) rfl rfl na_51 rfl rfl ?_ | refine RX.ld 7 (.none rfl) rfl rfl na_51 rfl rfl ?_)
  refine RX.pure (.none rfl) rfl rfl (p_fieldAddr rfl fa_87_3) ?_
  refine RX.ld 2 (.none rfl) rfl rfl na_3 rfl (it_older hok rfl) ?_
  refine RX.pure (.none rfl) rfl rfl (p_fieldAddr rfl fa_87_2) ?_
  refine RX.ld 2 (.none rfl) rfl rfl na_3 rfl (it_newer hok rfl) ?_
  (first | refine RX.pure (.none rfl) rfl rfl (p_idxSlice0 rfl rfl sl_51 (by omega) (by omega)) ?_ | refine RX.pure (.none rfl) rfl rfl (p_idxSlice rfl rfl sl_51 (by omega) (by omega)) ?_)
  refine RX.pure (.none rfl) rfl rfl (p_fieldAddr rfl fa_87_2) ?_
  refine RX.st 1 (.none rfl) rfl rfl sz_3 rfl rfl (fm_lt huni1 ho1 (by decide)) _ st2 ?_
  refine RX.nil ?_
  exact fin0' 2 rfl rfl rfl

theorem first_tri (c l cap m i : Nat) (most : Int) (fv : Value) (xs : List It) (sp : List Value) (hu : Oks 1 1 xs) (hi : i < xs.length) (ho : olf xs 0 < xs.length) :
    Tri Tryd.prog w0 28 #[.pointer (some ⟨c, 0, none⟩), .int .i64 i] [[(c, cc most m l xs.length cap fv)], [(l, li xs sp)]]
      (fun _ S' => S' = [[(c, cc most m l xs.length cap fv)], [(l, li (firstL xs i) sp)]]) := by
  have h0 : 0 < xs.length := by omega
  obtain ⟨x0, hx0⟩ : ∃ x, xs[0]? = some x := ⟨_, List.getElem?_eq_getElem h0⟩
  have hok0 := hu x0 (List.mem_of_getElem? hx0)
  have eo : olf xs 0 = x0.older := by simp [olf, hx0]
  obtain ⟨x, hx⟩ : ∃ x, xs[i]? = some x := ⟨_, List.getElem?_eq_getElem hi⟩
  have hok := hu x (List.mem_of_getElem? hx)
  have huni : Uni It.cells 4 xs := hu.uni rfl
  -- the four stores
  have hu1 : Oks 1 1 (setN xs i 0) := setN_ok hu _ _
  have huni1 : Uni It.cells 4 (setN xs i 0) := hu1.uni rfl
  have hl1 : (setN xs i 0).length = xs.length := setN_len _ _ _
  have hi1 : i < (setN xs i 0).length := by omega
  obtain ⟨x1, hx1⟩ : ∃ x, (setN xs i 0)[i]? = some x := ⟨_, List.getElem?_eq_getElem hi1⟩
  have hok1 := hu1 x1 (List.mem_of_getElem? hx1)
  have hu2 : Oks 1 1 (setO (setN xs i 0) i x0.older) := setO_ok hu1 _ _
  have huni2 : Uni It.cells 4 (setO (setN xs i 0) i x0.older) := hu2.uni rfl
  have hl2 : (setO (setN xs i 0) i x0.older).length = xs.length := by rw [setO_len, hl1]
  have ho2 : x0.older < (setO (setN xs i 0) i x0.older).length := by omega
  obtain ⟨x2, hx2⟩ : ∃ x, (setO (setN xs i 0) i x0.older)[x0.older]? = some x := ⟨_, List.getElem?_eq_getElem ho2⟩
  have hok2 := hu2 x2 (List.mem_of_getElem? hx2)
  have hu3 : Oks 1 1 (setN (setO (setN xs i 0) i x0.older) x0.older i) := setN_ok hu2 _ _
  have huni3 : Uni It.cells 4 (setN (setO (setN xs i 0) i x0.older) x0.older i) := hu3.uni rfl
  have h03 : 0 < (setN (setO (setN xs i 0) i x0.older) x0.older i).length := by rw [setN_len, hl2]; exact h0
  obtain ⟨x3, hx3⟩ : ∃ x, (setN (setO (setN xs i 0) i x0.older) x0.older i)[0]? = some x := ⟨_, List.getElem?_eq_getElem h03⟩
  have hok3 := hu3 x3 (List.mem_of_getElem? hx3)
  have st1 : (xs.flatMap It.cells ++ sp).set (i * 4 + 2) (.int .i64 0) = (setN xs i 0).flatMap It.cells ++ sp := by
    rw [setN_eq hx]; exact fm_set huni hx (by decide) (it_setNewer (v := 0) hok rfl)
  have st2 : ((setN xs i 0).flatMap It.cells ++ sp).set (i * 4 + 3) (.int .i64 x0.older) = (setO (setN xs i 0) i x0.older).flatMap It.cells ++ sp := by
    rw [setO_eq hx1]; exact fm_set huni1 hx1 (by decide) (it_setOlder hok1 rfl)
  have st3 : ((setO (setN xs i 0) i x0.older).flatMap It.cells ++ sp).set (x0.older * 4 + 2) (.int .i64 i) = (setN (setO (setN xs i 0) i x0.older) x0.older i).flatMap It.cells ++ sp := by
    rw [setN_eq hx2]; exact fm_set huni2 hx2 (by decide) (it_setNewer hok2 rfl)
  have st4 : ((setN (setO (setN xs i 0) i x0.older) x0.older i).flatMap It.cells ++ sp).set (0 * 4 + 3) (.int .i64 i) = (setO (setN (setO (setN xs i 0) i x0.older) x0.older i) 0 i).flatMap It.cells ++ sp := by
    rw [setO_eq hx3]; exact fm_set huni3 hx3 (by decide) (it_setOlder hok3 rfl)
  have fin : firstL xs i = setO (setN (setO (setN xs i 0) i x0.older) x0.older i) 0 i := by rw [firstL, eo]
  rw [fin]
  rw [eo] at ho
  clear fin eo
  refine Tri.mk Tryd.func28 rfl rfl rfl ?_
  refine WP.sregion ?_
  refine RX.pure (.none rfl) rfl rfl (p_move rfl) ?_
  refine RX.pure (.none rfl) rfl rfl (p_nilCheck rfl) ?_
  refine RX.pure (.none rfl) rfl rfl (p_fieldAddr rfl fa_54_2) ?_
  (first | refine RX.ld 0 (.none rfl) rfl rfl na_51 rfl rfl ?_ | refine RX.ld 1 (.none rfl) rfl rfl na_51 rfl rfl ?_ | refine RX.ld 2 (.none rfl) rfl rfl na_51 rfl rfl ?_ | refine RX.ld 3 (.none rfl) rfl rfl na_51 rfl rfl ?_ | refine RX.ld 4 (.none rfl) rfl rfl na_51 rfl rfl ?_ | refine RX.ld 5 (.none rfl) rfl rfl na_51 rfl rfl ?_ | refine RX.ld 6 (.none rfl) rfl rfl na_51 rfl rfl ?_ | refine RX.ld 7 (.none rfl) rfl rfl na_51 rfl rfl ?_)
  (first | refine RX.pure (.none rfl) rfl rfl (p_idxSlice0 rfl rfl sl_51 (by omega) (by omega)) ?_ | refine RX.pure (.none rfl) rfl rfl (p_idxSlice rfl rfl sl_51 (by omega) (by omega)) ?_)
  refine RX.pure (.none rfl) rfl rfl (p_fieldAddr rfl fa_87_3) ?_
  refine RX.ld 1 (.none rfl) rfl rfl na_3 rfl (fm_get huni hx0 (it_older hok0 rfl)) ?_
  refine RX.pure (.none rfl) rfl rfl (p_assign rfl) ?_
  refine RX.nil ?_
  refine WP.sdraw mixed (by kernel_rfl) ?_
  refine RX.pure (.none rfl) rfl rfl (p_move rfl) ?_
  refine RX.pure (.none rfl) rfl rfl (p_nilCheck rfl) ?_
  refine RX.pure (.none rfl) rfl rfl (p_fieldAddr rfl fa_54_2) ?_
  (first | refine RX.ld 0 (.none rfl) rfl rfl na_51 rfl rfl ?_ | refine RX.ld 1 (.none rfl) rfl rfl na_51 rfl rfl ?_ | refine RX.ld 2 (.none rfl) rfl rfl na_51 rfl rfl ?_ | refine RX.ld 3 (.none rfl) rfl rfl na_51 rfl rfl ?_ | refine RX.ld 4 (.none rfl) rfl rfl na_51 rfl rfl ?_ | refine RX.ld 5 (.none rfl) rfl rfl na_51 rfl rfl ?_ | refine RX.ld 6 (.none rfl) rfl rfl na_51 rfl rfl ?_ | refine RX.ld 7 (.none rfl) rfl rfl na_51 rfl rfl ?_)
  refine RX.pure (.none rfl) rfl rfl (p_move rfl) ?_
  refine RX.pure (.none rfl) rfl rfl (p_move rfl) ?_
  refine RX.pure (.none rfl) rfl rfl (p_nilCheck rfl) ?_
  refine RX.pure (.none rfl) rfl rfl (p_fieldAddr rfl fa_54_2) ?_
  (first | refine RX.ld 0 (.none rfl) rfl rfl na_51 rfl rfl ?_ | refine RX.ld 1 (.none rfl) rfl rfl na_51 rfl rfl ?_ | refine RX.ld 2 (.none rfl) rfl rfl na_51 rfl rfl ?_ | refine RX.ld 3 (.none rfl) rfl rfl na_51 rfl rfl ?_ | refine RX.ld 4 (.none rfl) rfl rfl na_51 rfl rfl ?_ | refine RX.ld 5 (.none rfl) rfl rfl na_51 rfl rfl ?_ | refine RX.ld 6 (.none rfl) rfl rfl na_51 rfl rfl ?_ | refine RX.ld 7 (.none rfl) rfl rfl na_51 rfl rfl ?_)
  refine RX.pure (.none rfl) rfl rfl (p_move rfl) ?_
  refine RX.pure (.none rfl) rfl rfl (p_move rfl) ?_
  (first | refine RX.pure (.none rfl) rfl rfl (p_idxSlice0 rfl rfl sl_51 (by omega) (by omega)) ?_ | refine RX.pure (.none rfl) rfl rfl (p_idxSlice rfl rfl sl_51 (by omega) (by omega)) ?_)
  refine RX.pure (.none rfl) rfl rfl (p_fieldAddr rfl fa_87_2) ?_
  refine RX.st 1 (.none rfl) rfl rfl sz_3 rfl rfl (fm_lt huni hi (by decide)) _ st1 ?_
  (first | refine RX.pure (.none rfl) rfl rfl (p_idxSlice0 rfl rfl sl_51 (by omega) (by omega)) ?_ | refine RX.pure (.none rfl) rfl rfl (p_idxSlice rfl rfl sl_51 (by omega) (by omega)) ?_)
  refine RX.pure (.none rfl) rfl rfl (p_fieldAddr rfl fa_87_3) ?_
  refine RX.st 1 (.none rfl) rfl rfl sz_3 rfl rfl (fm_lt huni1 hi1 (by decide)) _ st2 ?_
  refine RX.nil ?_
  refine WP.sregion ?_
  refine RX.pure (.none rfl) rfl rfl (p_move rfl) ?_
  refine RX.pure (.none rfl) rfl rfl (p_nilCheck rfl) ?_
  refine RX.pure (.none rfl) rfl rfl (p_fieldAddr rfl fa_54_2) ?_
  (first | refine RX.ld 0 (.none rfl) rfl rfl na_51 rfl rfl ?_ | refine RX.ld 1 (.none rfl) rfl rfl na_51 rfl rfl ?_ | refine RX.ld 2 (.none rfl) rfl rfl na_51 rfl rfl ?_ | refine RX.ld 3 (.none rfl) rfl rfl na_51 rfl rfl ?_ | refine RX.ld 4 (.none rfl) rfl rfl na_51 rfl rfl ?_ | refine RX.ld 5 (.none rfl) rfl rfl na_51 rfl rfl ?_ | refine RX.ld 6 (.none rfl) rfl rfl na_51 rfl rfl ?_ | refine RX.ld 7 (.none rfl) rfl rfl na_51 rfl rfl ?_)
  refine RX.pure (.none rfl) rfl rfl (p_move rfl) ?_
  refine RX.pure (.none rfl) rfl rfl (p_move rfl) ?_
  (first | refine RX.pure (.none rfl) rfl rfl (p_idxSlice0 rfl rfl sl_51 (by omega) (by omega)) ?_ | refine RX.pure (.none rfl) rfl rfl (p_idxSlice rfl rfl sl_51 (by omega) (by omega)) ?_)
  refine RX.pure (.none rfl) rfl rfl (p_fieldAddr rfl fa_87_2) ?_
  refine RX.st 1 (.none rfl) rfl rfl sz_3 rfl rfl (fm_lt huni2 ho2 (by decide)) _ st3 ?_
  refine RX.nil ?_
  refine WP.region ?_
  refine RX.pure (.none rfl) rfl rfl (p_move rfl) ?_
  refine RX.pure (.none rfl) rfl rfl (p_nilCheck rfl) ?_
  refine RX.pure (.none rfl) rfl rfl (p_fieldAddr rfl fa_54_2) ?_
  (first | refine RX.ld 0 (.none rfl) rfl rfl na_51 rfl rfl ?_ | refine RX.ld 1 (.none rfl) rfl rfl na_51 rfl rfl ?_ | refine RX.ld 2 (.none rfl) rfl rfl na_51 rfl rfl ?_ | refine RX.ld 3 (.none rfl) rfl rfl na_51 rfl rfl ?_ | refine RX.ld 4 (.none rfl) rfl rfl na_51 rfl rfl ?_ | refine RX.ld 5 (.none rfl) rfl rfl na_51 rfl rfl ?_ | refine RX.ld 6 (.none rfl) rfl rfl na_51 rfl rfl ?_ | refine RX.ld 7 (.none rfl) rfl rfl na_51 rfl rfl ?_)
  refine RX.pure (.none rfl) rfl rfl (p_move rfl) ?_
  (first | refine RX.pure (.none rfl) rfl rfl (p_idxSlice0 rfl rfl sl_51 (by omega) (by omega)) ?_ | refine RX.pure (.none rfl) rfl rfl (p_idxSlice rfl rfl sl_51 (by omega) (by omega)) ?_)
  refine RX.pure (.none rfl) rfl rfl (p_fieldAddr rfl fa_87_3) ?_
  refine RX.st 1 (.none rfl) rfl rfl sz_3 rfl rfl (fm_lt huni3 h03 (by decide)) _ st4 ?_
  refine RX.nil ?_
  exact fin0' 2 rfl rfl rfl

theorem remove_tri {D : Value → Prop} (hK : KeyTy Tryd.prog 9 D) (c l cap m i clk : Nat) (most : Int) (fv : Value) (xs : List It) (sp : List Value) (x : It) (es : List MapEntry) (en : MapEntry) (j : Nat) (fr : List Nat) (Hf : Hp)
    (hu : Oks 1 1 xs) (hx : xs[i]? = some x) (hn : x.newer < xs.length) (ho : x.older < xs.length)
    (hk : D (vv x.key)) (hD : ∀ e, e ∈ es → D e.key) (hnd : (es.map (·.key)).Nodup) (hj : es[j]? = some en) (he : vv x.key = en.key)
    (hf : Vec 3 1 ienc fr fv Hf) (hb : (fr.length + 1) * 8 ≤ 140737488355328) :
    Tri Tryd.prog w0 29 #[.pointer (some ⟨c, 0, none⟩), .int .i64 i] [[(c, cc most m l xs.length cap fv)], [(l, li xs sp)], [(m, .map ⟨es⟩ clk)], Hf]
      (fun _ S' => ∃ fv' Hf', Vec 3 1 ienc (fr ++ [i]) fv' Hf' ∧ S' = [[(c, cc most m l xs.length cap fv')], [(l, li ((outL xs i).set i zeroIt) sp)], [(m, .map ⟨es.eraseIdx j⟩ clk)], Hf']) := by
  have hi : i < xs.length := (List.getElem?_eq_some_iff.1 hx).1
  have hu1 := outL_ok hu i
  have huni1 : Uni It.cells 4 (outL xs i) := hu1.uni rfl
  have hi1 : i < (outL xs i).length := by rw [outL_len]; exact hi
  obtain ⟨x1, hx1⟩ : ∃ x, (outL xs i)[i]? = some x := ⟨_, List.getElem?_eq_getElem hi1⟩
  have hok1 := hu1 x1 (List.mem_of_getElem? hx1)
  have hk1 : x1.key = x.key := outL_key hx hx1
  obtain ⟨p, cp, rfl⟩ := hf.slice
  refine Tri.mk Tryd.func29 rfl rfl rfl ?_
  refine WP.sregion ?_
  refine RX.pure (.none rfl) rfl rfl (p_move rfl) ?_
  refine RX.pure (.none rfl) rfl rfl (p_move rfl) ?_
  refine RX.eff (.none rfl) rfl rfl rfl (e_call [0, 1] rfl call_27 rfl rfl (out_tri c l cap m i most _ xs sp x hu hx hn ho)) ?_
  rintro _ _ ⟨S1, rfl, rfl⟩
  refine RX.nil ?_
  refine WP.sdraw mixed (by kernel_rfl) ?_
  refine RX.pure (.none rfl) rfl rfl (p_move rfl) ?_
  refine RX.pure (.none rfl) rfl rfl (p_nilCheck rfl) ?_
  refine RX.pure (.none rfl) rfl rfl (p_fieldAddr rfl fa_54_1) ?_
  (first | refine RX.ld 0 (.none rfl) rfl rfl na_50 rfl rfl ?_ | refine RX.ld 1 (.none rfl) rfl rfl na_50 rfl rfl ?_ | refine RX.ld 2 (.none rfl) rfl rfl na_50 rfl rfl ?_ | refine RX.ld 3 (.none rfl) rfl rfl na_50 rfl rfl ?_ | refine RX.ld 4 (.none rfl) rfl rfl na_50 rfl rfl ?_ | refine RX.ld 5 (.none rfl) rfl rfl na_50 rfl rfl ?_ | refine RX.ld 6 (.none rfl) rfl rfl na_50 rfl rfl ?_ | refine RX.ld 7 (.none rfl) rfl rfl na_50 rfl rfl ?_)
  refine RX.pure (.none rfl) rfl rfl (p_move rfl) ?_
  refine RX.pure (.none rfl) rfl rfl (p_nilCheck rfl) ?_
  refine RX.pure (.none rfl) rfl rfl (p_fieldAddr rfl fa_54_2) ?_
  (first | refine RX.ld 0 (.none rfl) rfl rfl na_51 rfl rfl ?_ | refine RX.ld 1 (.none rfl) rfl rfl na_51 rfl rfl ?_ | refine RX.ld 2 (.none rfl) rfl rfl na_51 rfl rfl ?_ | refine RX.ld 3 (.none rfl) rfl rfl na_51 rfl rfl ?_ | refine RX.ld 4 (.none rfl) rfl rfl na_51 rfl rfl ?_ | refine RX.ld 5 (.none rfl) rfl rfl na_51 rfl rfl ?_ | refine RX.ld 6 (.none rfl) rfl rfl na_51 rfl rfl ?_ | refine RX.ld 7 (.none rfl) rfl rfl na_51 rfl rfl ?_)
  refine RX.pure (.none rfl) rfl rfl (p_move rfl) ?_
  (first | refine RX.pure (.none rfl) rfl rfl (p_idxSlice0 rfl rfl sl_51 (by omega) (by omega)) ?_ | refine RX.pure (.none rfl) rfl rfl (p_idxSlice rfl rfl sl_51 (by omega) (by omega)) ?_)
  refine RX.pure (.none rfl) rfl rfl (p_fieldAddr rfl fa_87_0) ?_
  refine RX.ldv 1 (.none rfl) rfl rfl ldv_9 rfl (fm_cells huni1 hx1 (it_key hok1) (by decide)) hok1.k ?_
  refine RX.eff0 (.none rfl) rfl rfl (e_delete 2 rfl rfl Tryd.underlying50 rfl hK rfl (by rw [hk1]; exact hk) hD hnd hj (by rw [hk1]; exact he)) ?_
  rintro _ _ rfl
  refine RX.nil ?_
  refine WP.sregion ?_
  refine RX.pure (.none rfl) rfl rfl (p_move rfl) ?_
  refine RX.pure (.none rfl) rfl rfl (p_nilCheck rfl) ?_
  refine RX.pure (.none rfl) rfl rfl (p_fieldAddr rfl fa_54_2) ?_
  (first | refine RX.ld 0 (.none rfl) rfl rfl na_51 rfl rfl ?_ | refine RX.ld 1 (.none rfl) rfl rfl na_51 rfl rfl ?_ | refine RX.ld 2 (.none rfl) rfl rfl na_51 rfl rfl ?_ | refine RX.ld 3 (.none rfl) rfl rfl na_51 rfl rfl ?_ | refine RX.ld 4 (.none rfl) rfl rfl na_51 rfl rfl ?_ | refine RX.ld 5 (.none rfl) rfl rfl na_51 rfl rfl ?_ | refine RX.ld 6 (.none rfl) rfl rfl na_51 rfl rfl ?_ | refine RX.ld 7 (.none rfl) rfl rfl na_51 rfl rfl ?_)
  refine RX.pure (.none rfl) rfl rfl (p_move rfl) ?_
  refine RX.pure (.none rfl) rfl rfl (p_buildS zr_87 pl_87 rfl rfl) ?_
  (first | refine RX.pure (.none rfl) rfl rfl (p_idxSlice0 rfl rfl sl_51 (by omega) (by omega)) ?_ | refine RX.pure (.none rfl) rfl rfl (p_idxSlice rfl rfl sl_51 (by omega) (by omega)) ?_)
  refine RX.sta 1 (.none rfl) rfl rfl sz_87 rfl rfl rfl (fm_le0 huni1 hi1 (by decide)) _ (fm_put0 (x' := zeroIt) huni1 hx1 rfl rfl rfl) ?_
  refine RX.nil ?_
  refine WP.region ?_
  refine RX.pure (.none rfl) rfl rfl (p_move rfl) ?_
  refine RX.pure (.none rfl) rfl rfl (p_move rfl) ?_
  refine RX.pure (.none rfl) rfl rfl (p_nilCheck rfl) ?_
  refine RX.pure (.none rfl) rfl rfl (p_fieldAddr rfl fa_54_3) ?_
  (first | refine RX.ld 0 (.none rfl) rfl rfl na_52 rfl rfl ?_ | refine RX.ld 1 (.none rfl) rfl rfl na_52 rfl rfl ?_ | refine RX.ld 2 (.none rfl) rfl rfl na_52 rfl rfl ?_ | refine RX.ld 3 (.none rfl) rfl rfl na_52 rfl rfl ?_ | refine RX.ld 4 (.none rfl) rfl rfl na_52 rfl rfl ?_ | refine RX.ld 5 (.none rfl) rfl rfl na_52 rfl rfl ?_ | refine RX.ld 6 (.none rfl) rfl rfl na_52 rfl rfl ?_ | refine RX.ld 7 (.none rfl) rfl rfl na_52 rfl rfl ?_)
  refine RX.pure (.none rfl) rfl rfl (p_move rfl) ?_
  refine RX.eff (.none rfl) rfl rfl rfl (e_buildSlice sl_52 zr_3 rfl (by decide) (by decide) rfl rfl rfl) ?_
  rintro _ _ ⟨n32, rfl, rfl⟩
  refine RX.eff (.none rfl) rfl rfl rfl (e_append (ys := [i]) 3 rfl rfl sl_52 zr_3 rfl (by decide) by_3 (ienc_uni _) (ienc_uni _) (fun _ _ => rfl) hf rfl (.inr ⟨_, _, rfl, RdN.own 4 rfl rfl⟩) (by simpa using hb) (by simp only [maxLen, List.length_cons, List.length_nil]; omega)) ?_
  rintro _ _ ⟨Hf', hf', rfl⟩; obtain ⟨p', cp', rfl⟩ := hf'.slice
  refine RX.pure (.none rfl) rfl rfl (p_nilCheck rfl) ?_
  refine RX.pure (.none rfl) rfl rfl (p_fieldAddr rfl fa_54_3) ?_
  (first | refine RX.st 0 (.none rfl) rfl rfl sz_52 rfl rfl rfl _ rfl ?_ | refine RX.st 1 (.none rfl) rfl rfl sz_52 rfl rfl rfl _ rfl ?_ | refine RX.st 2 (.none rfl) rfl rfl sz_52 rfl rfl rfl _ rfl ?_ | refine RX.st 3 (.none rfl) rfl rfl sz_52 rfl rfl rfl _ rfl ?_ | refine RX.st 4 (.none rfl) rfl rfl sz_52 rfl rfl rfl _ rfl ?_ | refine RX.st 5 (.none rfl) rfl rfl sz_52 rfl rfl rfl _ rfl ?_ | refine RX.st 6 (.none rfl) rfl rfl sz_52 rfl rfl rfl _ rfl ?_ | refine RX.st 7 (.none rfl) rfl rfl sz_52 rfl rfl rfl _ rfl ?_)
  refine RX.nil ?_
  exact fin0' 4 rfl rfl ⟨_, Hf', hf', rfl⟩
end
end Go.Proofs.YtpakklmkajjodaaDoor.CSI
