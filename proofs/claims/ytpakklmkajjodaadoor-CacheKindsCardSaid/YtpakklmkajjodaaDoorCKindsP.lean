/- Proved: for every list of things, the law CacheKinds returns true, and its input reads afterwards as it did before. Conditions: the one listed variable (the ErrArg of the api package) reads, when the call begins, as the text of the program lays it; nothing else is asked. -/
import Derived.Test.YtpakklmkajjodaaDoorCKinds
import Derived.Test.YtpakklmkajjodaaDoorEL16
import Derived.Test.YtpakklmkajjodaaDoorCards
import Derived.Test.YtpakklmkajjodaaDoorTie
import Derived.Deep.DeepHandedRow
import Derived.Deep.DeepWitnessRowRef
import Derived.LaidMore
set_option maxRecDepth 100000
namespace Go.Proofs.YtpakklmkajjodaaDoor.KindsP
open Go Go.EL Go.ChangeShapes Go.WideShapes Go.ChangeAt Go.RowKit
theorem own : ownKnob Tryd.prog.godebug = none := by kernel_rfl
theorem laidOut : laidOutB Tryd.prog = true := by kernel_rfl
theorem rows : rowed Tryd.prog Tryd.f3.params.toList = true := by kernel_rfl

theorem cellsT : Tryd.prog.cellsOf 30 = 3 := by kernel_rfl
theorem cellsH : Tryd.prog.cellsOf 32 = 32 := by kernel_rfl
theorem keyT : Tryd.prog.keyType 30 = true := by kernel_rfl
theorem keyH : Tryd.prog.keyType 32 = true := by kernel_rfl
theorem contract (H : Type) (enc : TypeId × Value → H) (W : World) (base : Nat) (args : Array Value) (ds gs : List (DataW H)) (before : List MemPlace)
    (hval : ∀ (j : Nat) t v, Tryd.f3.params[j]? = some t → args[j]? = some v → Value.okWide Tryd.prog W .any base t v)
    (hW : DataW.Whole enc Tryd.prog Tryd.f3.params.toList Rows.cacheKindsSpec.vars false W args.toList ds gs before) :
    Calls Tryd.prog 3 args W fun e W' => ∃ v, e = .returned v ∧ Rows.cacheKindsSpec.post enc Tryd.prog Tryd.f3 false true false false W args v W' := by
  have hW' := hW
  obtain ⟨p, q, hA0, hV, rfl, hfz, hnd⟩ := hW
  have hA : DataW.TrodAll enc Tryd.prog W 0 (fun _ => true) true Tryd.f3.params.toList args.toList ds p := hA0
  rw [Tryd.params3] at hA hval
  obtain ⟨v0, vs0, d0, ds0, p0, q0, hargs, rfl, rfl, h0, r0⟩ := trodAll_cons hA
  obtain ⟨rfl, rfl, rfl⟩ := trodAll_nil r0
  obtain rfl : args = #[v0] := by cases args; simp_all
  obtain ⟨ys, hr, hu, hlen, hy⟩ := open_rows (k := 35) Tryd.underlying22 (by kernel_rfl) (hval 0 22 v0 rfl rfl) h0
  have hrow : ∀ y, y ∈ ys → (Dk Tryd.prog 30 (vv ((y.drop 0).take 3)) ∧ ones ((y.drop 0).take 3) = true) ∧ Dk Tryd.prog 32 (vv ((y.drop 3).take 32)) ∧ ones ((y.drop 3).take 32) = true := by
    intro y hm
    have hl : y.length = 35 := hu y hm
    obtain ⟨n, x, hx⟩ := hy y hm
    obtain ⟨y0, y1, m, _, _, h0, h1⟩ := trod_struct2 Tryd.underlying40 hx
    have h0' : DataW.trod enc Tryd.prog W 0 (fun _ => true) true m 30 ((y.drop 0).take (Tryd.prog.cellsOf 30)) = some y0 := h0
    have h1' : DataW.trod enc Tryd.prog W 0 (fun _ => true) true m 32 ((y.drop 3).take (Tryd.prog.cellsOf 32)) = some y1 := h1
    rw [cellsT] at h0'
    rw [cellsH] at h1'
    exact ⟨dk_of_trod (k := 3) wideT keyT cellsT (by rw [List.length_take, List.length_drop, hl]; rfl) (by decide) h0', dk_of_trod (k := 32) wideH keyH cellsH (by rw [List.length_take, List.length_drop, hl]; rfl) (by decide) h1'⟩
  have hT : Ths Tryd.prog 30 32 ys := ⟨hu, fun y hm => by
    have hl : y.length = 35 := hu y hm
    obtain ⟨⟨_, h1⟩, _, h2⟩ := hrow y hm
    have e : (y.drop 3).take 32 = y.drop 3 := List.take_of_length_le (by rw [List.length_drop, hl]; decide)
    rw [e] at h2
    rw [← List.take_append_drop 3 y]
    simp only [ones, List.all_append, Bool.and_eq_true] at h1 h2 ⊢
    exact ⟨h1, h2⟩, fun y hm => (hrow y hm).1.1, fun y hm => (hrow y hm).2.1⟩
  refine (kinds_tri W ys v0 hT hr).calls.mono fun e W' ⟨v, S', he, ⟨hv, hS⟩, hI⟩ => ⟨v, he, ?_⟩
  subst hv
  exact post_true (tb := 4) laidOut rows rfl rfl Tryd.underlying4 hW' rfl hI

/-- the world that the witness is called in: the variables laid -/
noncomputable abbrev laidWorld (os : Os) : World := World.doorLaid Tryd.prog 400 os
abbrev wargs : Array Value := #[.slice none 0 0]
theorem laid_met (os : Os) : laidMetH Tryd.prog Rows.cacheKindsRow.laid ((laidWorld os).forCall (fun _ _ => 0) ⟨#[], wargs, []⟩).memory :=
  laidMet_of_run' 8 (by kernel_rfl) (by kernel_rfl)
theorem reads (os : Os) {H : Type} (enc : TypeId × Value → H) : ∃ places, DataW.whole enc Tryd.prog ((laidWorld os).forCall (fun _ _ => 0) ⟨#[], wargs, []⟩).memory Tryd.f3.params.toList Rows.cacheKindsSpec.vars false wargs.toList 8 = some ([.nil], [], places) :=
  ⟨[], by kernel_rfl⟩
theorem lifted (os : Os) (started : os.Started) (H : Type) (enc : TypeId × Value → H) (F : Stop.Interp) :
    ReturnsInHanded {} Tryd.checked os 3 .any ((OpenSpec.ofChange Rows.cacheKindsSpec).preRow enc Tryd.prog Tryd.f3 Rows.cacheKindsRow.domain false Rows.cacheKindsRow.laid) (((OpenSpec.ofChange Rows.cacheKindsSpec).at F).post enc Tryd.prog Tryd.f3 false true false false) := by
  obtain ⟨places, hx⟩ := reads os enc
  refine returnsInHanded_of_row (C := Tryd.checked) (s := OpenSpec.ofChange Rows.cacheKindsSpec) own started (by kernel_rfl) Tryd.func3
    (witness_row_atRef (enc := enc) (C := Tryd.checked) false (laidWorld os) wargs rfl (by kernel_rfl) (by kernel_rfl) (by kernel_rfl)
      (OpenSpec.preRow_of_cond 8 hx (by kernel_rfl) (fun k hk => by cases hk) (by kernel_rfl) (laid_met os))) ?_
  intro W base args ds gs before hval hW _ _ _ _ _ _
  exact contract H enc W base args ds gs before hval hW

theorem said : Rows.CacheKindsSaid :=
  OpenClaim.holds_of_cond 3 Tryd.f3 rfl rfl rfl rfl rfl rfl rfl ⟨rfl, rfl, rfl, rfl, rfl⟩ rfl rfl rfl rfl rfl (by kernel_rfl) Tryd.func3 (by kernel_rfl)
    (of_decide_eq_true (by kernel_rfl)) (by unfold Func.isWrapper; first | (rw [if_pos (by decide +kernel)]; kernel_rfl) | (rw [if_neg (by decide +kernel)]; exact ⟨rfl, rfl⟩))
    (fun os started H enc _ F => by rw [OpenClaim.pre_eq_preRow]; exact lifted os started H enc F)
theorem plain (f : FuncId) (fn : Func) (hf : Tryd.pinned.checked.prog.funcNamed "cartulary/cartularylaw13.CacheKinds" = some f) (hfn : Tryd.pinned.checked.prog.funcs[f]? = some fn) :
    true = Tryd.pinned.checked.prog.looks [] ∧ ∀ (j : Nat) t, fn.params[j]? = some t → Tryd.pinned.checked.prog.wantsStandIn t = false := by
  obtain rfl : f = 3 := Option.some.inj ((show Tryd.prog.funcNamed "cartulary/cartularylaw13.CacheKinds" = some 3 by kernel_rfl).symm.trans hf) |>.symm
  obtain rfl : fn = Tryd.f3 := (Option.some.inj (Tryd.func3.symm.trans hfn)).symm
  refine ⟨by kernel_rfl, fun j t ht => ?_⟩
  have hall : (Tryd.f3.params.toList).all (fun t => !Tryd.prog.wantsStandIn t) = true := by kernel_rfl
  have hm := List.all_eq_true.1 hall t (Array.mem_toList_iff.2 (Array.mem_of_getElem? ht))
  exact Bool.not_eq_true' _ ▸ hm

/-- the card -/
theorem card : Rows.CacheKindsCardSaid :=
  Claim7.holds_tied_plain_at .later [] _ _ _ _ said (fun _ h => by cases h) (by kernel_rfl) (fun _ h => by cases h) cacheKinds_row_tie rfl ⟨rfl, rfl⟩ (by kernel_rfl) rfl plain (by kernel_rfl)
#print axioms card
end Go.Proofs.YtpakklmkajjodaaDoor.KindsP
