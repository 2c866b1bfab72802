/- Proved: for every capacity and every list of uses, the law CacheKeeps returns true, and its input reads afterwards as it did before. Conditions: the seventeen listed variables (the sentinel errors of the api package and the type that the errors package keeps) read, when the call begins, as the text of the program lays them; nothing else is asked. -/
import Derived.Test.YtpakklmkajjodaaDoorCKeeps2
import Derived.Test.YtpakklmkajjodaaDoorEL16
import Derived.Test.YtpakklmkajjodaaDoorCards
import Derived.Test.YtpakklmkajjodaaDoorTie
import Derived.Deep.DeepHandedRow
import Derived.Deep.DeepWitnessRowRef
import Derived.LaidMore
import Derived.LaidHandle
set_option maxRecDepth 100000
namespace Go.Proofs.YtpakklmkajjodaaDoor.KeepsP
open Go Go.EL Go.EL.Cache Go.ChangeShapes Go.WideShapes Go.ChangeAt Go.RowKit
theorem own : ownKnob Tryd.prog.godebug = none := by kernel_rfl
theorem laidOut : laidOutB Tryd.prog = true := by kernel_rfl
theorem rows : rowed Tryd.prog Tryd.f5.params.toList = true := by kernel_rfl

theorem cellsS : Tryd.prog.cellsOf 9 = 1 := by kernel_rfl
theorem cellsI : Tryd.prog.cellsOf 3 = 1 := by kernel_rfl
theorem cellsB : Tryd.prog.cellsOf 4 = 1 := by kernel_rfl
theorem choose_map {α β : Type} {f : α → β} : ∀ {ys : List β}, (∀ y, y ∈ ys → ∃ u, f u = y) → ∃ us : List α, us.map f = ys
  | [], _ => ⟨[], rfl⟩
  | y :: ys, h => by
    obtain ⟨u, hu⟩ := h y (List.mem_cons_self ..)
    obtain ⟨us, hus⟩ := choose_map (f := f) (ys := ys) fun z hz => h z (List.mem_cons_of_mem _ hz)
    exact ⟨u :: us, by rw [List.map_cons, hu, hus]⟩
theorem contract (H : Type) (enc : TypeId × Value → H) (W : World) (base : Nat) (args : Array Value) (ds gs : List (DataW H)) (before : List MemPlace)
    (hval : ∀ (j : Nat) t v, Tryd.f5.params[j]? = some t → args[j]? = some v → Value.okWide Tryd.prog W .any base t v)
    (hW : DataW.Whole enc Tryd.prog Tryd.f5.params.toList Rows.cacheKeepsSpec.vars false W args.toList ds gs before) (hL : laidMetH Tryd.prog Rows.cacheKeepsRow.laid W) :
    Calls Tryd.prog 5 args W fun e W' => ∃ v, e = .returned v ∧ Rows.cacheKeepsSpec.post enc Tryd.prog Tryd.f5 false true false false W args v W' := by
  have hW' := hW
  obtain ⟨p, q, hA0, hV, rfl, hfz, hnd⟩ := hW
  have hA : DataW.TrodAll enc Tryd.prog W 0 (fun _ => true) true Tryd.f5.params.toList args.toList ds p := hA0
  rw [Tryd.params5] at hA hval
  obtain ⟨v0, vs0, d0, ds0, p0, q0, hargs, rfl, rfl, h0, r0⟩ := trodAll_cons hA
  obtain ⟨v1, vs1, d1, ds1, p1, q1, rfl, rfl, rfl, h1, r1⟩ := trodAll_cons r0
  obtain ⟨rfl, rfl, rfl⟩ := trodAll_nil r1
  obtain rfl : args = #[v0, v1] := by cases args; simp_all
  obtain ⟨n, rfl, rfl, rfl, hn⟩ := open_int Tryd.underlying3 (hval 0 3 v0 rfl rfl) h0
  obtain ⟨ys, hr, hu, hlen, hy⟩ := open_rows (k := 3) Tryd.underlying65 (by kernel_rfl) (hval 1 65 v1 rfl rfl) h1
  have hrow : ∀ y, y ∈ ys → ∃ u, Use.enc u = y := by
    intro y hm
    have hl : y.length = 3 := hu y hm
    obtain ⟨m, x, hx⟩ := hy y hm
    obtain ⟨xs, m', _, _, _, hxl, hf⟩ := DataW.trod_struct Tryd.underlying70 hx
    match y, hl with
    | [a, b, c], _ =>
      match xs, hxl with
      | [x0, x1, x2], _ =>
        have h0 : DataW.trod enc Tryd.prog W 0 (fun _ => true) true m' 9 (([a, b, c].drop 0).take (Tryd.prog.cellsOf 9)) = some x0 := hf 0 _ rfl
        have h1 : DataW.trod enc Tryd.prog W 0 (fun _ => true) true m' 3 (([a, b, c].drop 1).take (Tryd.prog.cellsOf 3)) = some x1 := hf 1 _ rfl
        have h2 : DataW.trod enc Tryd.prog W 0 (fun _ => true) true m' 4 (([a, b, c].drop 2).take (Tryd.prog.cellsOf 4)) = some x2 := hf 2 _ rfl
        rw [cellsS] at h0
        rw [cellsI] at h1
        rw [cellsB] at h2
        obtain ⟨s, e0, _⟩ := DataW.trod_string Tryd.underlying9 h0
        obtain ⟨k, e1, _⟩ := DataW.trod_int Tryd.underlying3 h1
        obtain ⟨p, e2, _⟩ := DataW.trod_bool Tryd.underlying4 h2
        simp at e0 e1 e2
        subst e0; subst e1; subst e2
        exact ⟨⟨s, k, p⟩, rfl⟩
  obtain ⟨us, hus⟩ := choose_map hrow
  have hr' : ∀ S, RdS W S Use.enc us v1 := fun S => (hr S).conv (by rw [hus]; simp)
  have hul : us.length = ys.length := by rw [← hus]; simp
  have walk : Tri Tryd.prog W 5 #[.int .i64 n, v1] [] (fun v S' => v = .bool true ∧ S' = []) := by
    by_cases hb : n < 0 ∨ 1024 < n
    · obtain ⟨A, hA⟩ := sents_of hL
      exact keeps_out W A hA n v1 hb
    · obtain ⟨m, rfl⟩ := Int.eq_ofNat_of_zero_le (show 0 ≤ n by omega)
      exact keeps_in W m us v1 (by omega) hr' (by omega)
  refine walk.calls.mono fun e W' ⟨v, S', he, ⟨hv, hS⟩, hI⟩ => ⟨v, he, ?_⟩
  subst hv
  exact post_true (tb := 4) laidOut rows rfl rfl Tryd.underlying4 hW' rfl hI

/-- the world that the witness is called in: the variables laid -/
noncomputable abbrev laidWorld (os : Os) : World := World.doorLaid Tryd.prog 400 os
abbrev wargs : Array Value := #[.int .i64 0, .slice none 0 0]
theorem laid_met (os : Os) : laidMetH Tryd.prog Rows.cacheKeepsRow.laid ((laidWorld os).forCall (fun _ _ => 0) ⟨#[], wargs, []⟩).memory :=
  laidMetH_of_parts (laidMet_of_run' 8 (by kernel_rfl) (by kernel_rfl)) (by kernel_rfl)
theorem reads (os : Os) {H : Type} (enc : TypeId × Value → H) : ∃ places, DataW.whole enc Tryd.prog ((laidWorld os).forCall (fun _ _ => 0) ⟨#[], wargs, []⟩).memory Tryd.f5.params.toList Rows.cacheKeepsSpec.vars false wargs.toList 8 = some ([.lit (.int .i64 0), .nil], [], places) :=
  ⟨[], by kernel_rfl⟩
theorem lifted (os : Os) (started : os.Started) (H : Type) (enc : TypeId × Value → H) (F : Stop.Interp) :
    ReturnsInHanded {} Tryd.checked os 5 .any ((OpenSpec.ofChange Rows.cacheKeepsSpec).preRow enc Tryd.prog Tryd.f5 Rows.cacheKeepsRow.domain false Rows.cacheKeepsRow.laid) (((OpenSpec.ofChange Rows.cacheKeepsSpec).at F).post enc Tryd.prog Tryd.f5 false true false false) := by
  obtain ⟨places, hx⟩ := reads os enc
  refine returnsInHanded_of_row (C := Tryd.checked) (s := OpenSpec.ofChange Rows.cacheKeepsSpec) own started (by kernel_rfl) Tryd.func5
    (witness_row_atRef (enc := enc) (C := Tryd.checked) false (laidWorld os) wargs rfl (by kernel_rfl) (by kernel_rfl) (by kernel_rfl)
      (OpenSpec.preRow_of_cond 8 hx (by kernel_rfl) (fun k hk => by cases hk) (by kernel_rfl) (laid_met os))) ?_
  intro W base args ds gs before hval hW _ _ _ hL _ _
  exact contract H enc W base args ds gs before hval hW hL

theorem said : Rows.CacheKeepsSaid :=
  OpenClaim.holds_of_cond 5 Tryd.f5 rfl rfl rfl rfl rfl rfl rfl ⟨rfl, rfl, rfl, rfl, rfl⟩ rfl rfl rfl rfl rfl (by kernel_rfl) Tryd.func5 (by kernel_rfl)
    (of_decide_eq_true (by kernel_rfl)) (by unfold Func.isWrapper; first | (rw [if_pos (by decide +kernel)]; kernel_rfl) | (rw [if_neg (by decide +kernel)]; exact ⟨rfl, rfl⟩))
    (fun os started H enc _ F => by rw [OpenClaim.pre_eq_preRow]; exact lifted os started H enc F)
theorem plain (f : FuncId) (fn : Func) (hf : Tryd.pinned.checked.prog.funcNamed "cartulary/cartularylaw13.CacheKeeps" = some f) (hfn : Tryd.pinned.checked.prog.funcs[f]? = some fn) :
    true = Tryd.pinned.checked.prog.looks [] ∧ ∀ (j : Nat) t, fn.params[j]? = some t → Tryd.pinned.checked.prog.wantsStandIn t = false := by
  obtain rfl : f = 5 := Option.some.inj ((show Tryd.prog.funcNamed "cartulary/cartularylaw13.CacheKeeps" = some 5 by kernel_rfl).symm.trans hf) |>.symm
  obtain rfl : fn = Tryd.f5 := (Option.some.inj (Tryd.func5.symm.trans hfn)).symm
  refine ⟨by kernel_rfl, fun j t ht => ?_⟩
  have hall : (Tryd.f5.params.toList).all (fun t => !Tryd.prog.wantsStandIn t) = true := by kernel_rfl
  have hm := List.all_eq_true.1 hall t (Array.mem_toList_iff.2 (Array.mem_of_getElem? ht))
  exact Bool.not_eq_true' _ ▸ hm

/-- the card -/
theorem card : Rows.CacheKeepsCardSaid :=
  Claim7.holds_tied_plain_at .later [] _ _ _ _ said (fun _ h => by cases h) (by kernel_rfl) (fun _ h => by cases h) cacheKeeps_row_tie rfl ⟨rfl, rfl⟩ (by kernel_rfl) rfl plain (by kernel_rfl)
#print axioms card
end Go.Proofs.YtpakklmkajjodaaDoor.KeepsP
