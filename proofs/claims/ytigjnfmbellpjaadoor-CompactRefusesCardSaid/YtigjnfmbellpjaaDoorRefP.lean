/- Proved: for every beginning, every list of hashes and every gap, the law CompactRefuses returns true, and its input reads afterwards as it did before. Conditions: the nineteen listed variables (the sentinel errors, the type that the errors package keeps, the table of math/bits, the table of sha) read, when the call begins, as the text of the program lays them; nothing else is asked. -/
import Derived.Test.YtigjnfmbellpjaaDoorREF1
import Derived.Test.YtigjnfmbellpjaaDoorLAW2
import Derived.Test.YtigjnfmbellpjaaDoorEL26
import Derived.Lib.SmallJoins
import Derived.Test.YtigjnfmbellpjaaDoorLAW1
import Derived.Test.YtigjnfmbellpjaaDoorEL11
import Derived.Test.YtigjnfmbellpjaaDoorRows
import Derived.Test.YtigjnfmbellpjaaDoorCards
import Derived.Test.YtigjnfmbellpjaaDoorTie
import Derived.Deep.DeepHandedRow
import Derived.Deep.DeepWitnessRowRef
import Derived.LaidMore
import Derived.LaidHandle
set_option maxRecDepth 100000
namespace Go.Proofs.YtigjnfmbellpjaaDoor.RefP
open Go Go.EL Law Go.ChangeShapes Go.WideShapes Go.ChangeAt Go.RowKit Cmp Sha Coo
theorem own : ownKnob Tryd.prog.godebug = none := by kernel_rfl
theorem laidOut : laidOutB Tryd.prog = true := by kernel_rfl
theorem rows : rowed Tryd.prog Tryd.f7.params.toList = true := by kernel_rfl
theorem contract (H : Type) (enc : TypeId × Value → H) (W : World) (base : Nat) (args : Array Value) (ds gs : List (DataW H)) (before : List MemPlace)
    (hval : ∀ (j : Nat) t v, Tryd.f7.params[j]? = some t → args[j]? = some v → Value.okWide Tryd.prog W .any base t v)
    (hW : DataW.Whole enc Tryd.prog Tryd.f7.params.toList Rows.compactRefusesSpec.vars false W args.toList ds gs before) (hL : laidMetH Tryd.prog Rows.compactRefusesRow.laid W) :
    Calls Tryd.prog 7 args W fun e W' => ∃ v, e = .returned v ∧ Rows.compactRefusesSpec.post enc Tryd.prog Tryd.f7 false true false false W args v W' := by
  have hW' := hW
  obtain ⟨p, q, hA0, hV, rfl, hfz, hnd⟩ := hW
  have hA : DataW.TrodAll enc Tryd.prog W 0 (fun _ => true) true Tryd.f7.params.toList args.toList ds p := hA0
  rw [Tryd.params7] at hA hval
  obtain ⟨v0, vs0, d0, ds0, p0, q0, hargs, rfl, rfl, h0, r0⟩ := trodAll_cons hA
  obtain ⟨v1, vs1, d1, ds1, p1, q1, rfl, rfl, rfl, h1, r1⟩ := trodAll_cons r0
  obtain ⟨v2, vs2, d2, ds2, p2, q2, rfl, rfl, rfl, h2, r2⟩ := trodAll_cons r1
  obtain ⟨rfl, rfl, rfl⟩ := trodAll_nil r2
  obtain rfl : args = #[v0, v1, v2] := by cases args; simp_all
  obtain ⟨beg, rfl, rfl, rfl, wbeg⟩ := open_int Tryd.underlying23 (hval 0 23 v0 rfl rfl) h0
  obtain ⟨hs, hH⟩ := open_hashes (hval 1 24 v1 rfl rfl) h1
  obtain ⟨off, rfl, rfl, rfl, woff⟩ := open_int Tryd.underlying23 (hval 2 23 v2 rfl rfl) h2
  simp [Lit.wf, IntKind.min, IntKind.max, IntKind.signed, IntKind.bits] at wbeg woff
  obtain ⟨beg, rfl⟩ := Int.eq_ofNat_of_zero_le (show 0 ≤ beg by omega)
  obtain ⟨off, rfl⟩ := Int.eq_ofNat_of_zero_le (show 0 ≤ off by omega)
  have hL' : laidMet Tryd.prog ([("math/bits.deBruijn64tab", Rows.laid_math_bits_deBruijn64tab)] ++ (sents ++ rest)) W ∧ handlesMet Tryd.prog [("errors.errorType", Rows.laid_errors_errorType)] W := hL
  have hT : Tab W shaK := tab_sha (laid_drop 17 hL'.1)
  have hD : DeB W := tab_de (laid_drop 0 hL'.1)
  obtain ⟨A, hS⟩ := sents_of ⟨laid_drop 1 hL'.1, hL'.2⟩
  refine (ref_tri (w0 := W) shaK hT hD hS beg off hs v1 hH (by omega) (by omega)).calls.mono fun e W' ⟨v, S', he, ⟨hv, hS⟩, hI⟩ => ⟨v, he, ?_⟩
  subst hv
  exact post_true (tb := 4) laidOut rows rfl rfl Tryd.underlying4 hW' rfl hI

/-- the world that the witness is called in: the variables laid -/
noncomputable abbrev laidWorld (os : Os) : World := World.doorLaid Tryd.prog 400 os
abbrev wargs : Array Value := #[.int .u64 0, .slice none 0 0, .int .u64 0]
theorem laid_met (os : Os) : laidMetH Tryd.prog Rows.compactRefusesRow.laid ((laidWorld os).forCall (fun _ _ => 0) ⟨#[], wargs, []⟩).memory :=
  laidMetH_of_parts (laidMet_of_run' 8 (by kernel_rfl) (by kernel_rfl)) (by kernel_rfl)
theorem reads (os : Os) {H : Type} (enc : TypeId × Value → H) : ∃ places, DataW.whole enc Tryd.prog ((laidWorld os).forCall (fun _ _ => 0) ⟨#[], wargs, []⟩).memory Tryd.f7.params.toList Rows.compactRefusesSpec.vars false wargs.toList 8 = some ([.lit (.int .u64 0), .nil, .lit (.int .u64 0)], [], places) :=
  ⟨[], by kernel_rfl⟩
theorem lifted (os : Os) (started : os.Started) (H : Type) (enc : TypeId × Value → H) (F : Stop.Interp) :
    ReturnsInHanded {} Tryd.checked os 7 .any ((OpenSpec.ofChange Rows.compactRefusesSpec).preRow enc Tryd.prog Tryd.f7 Rows.compactRefusesRow.domain false Rows.compactRefusesRow.laid) (((OpenSpec.ofChange Rows.compactRefusesSpec).at F).post enc Tryd.prog Tryd.f7 false true false false) := by
  obtain ⟨places, hx⟩ := reads os enc
  refine returnsInHanded_of_row (C := Tryd.checked) (s := OpenSpec.ofChange Rows.compactRefusesSpec) own started (by kernel_rfl) Tryd.func7
    (witness_row_atRef (enc := enc) (C := Tryd.checked) false (laidWorld os) wargs rfl (by kernel_rfl) (by kernel_rfl) (by kernel_rfl)
      (OpenSpec.preRow_of_cond 8 hx (by kernel_rfl) (fun k hk => by cases hk) (by kernel_rfl) (laid_met os))) ?_
  intro W base args ds gs before hval hW _ _ _ hL _ _
  exact contract H enc W base args ds gs before hval hW hL

theorem said : Rows.CompactRefusesSaid :=
  OpenClaim.holds_of_cond 7 Tryd.f7 rfl rfl rfl rfl rfl rfl rfl ⟨rfl, rfl, rfl, rfl, rfl⟩ rfl rfl rfl rfl rfl (by kernel_rfl) Tryd.func7 (by kernel_rfl)
    (of_decide_eq_true (by kernel_rfl)) (by unfold Func.isWrapper; first | (rw [if_pos (by decide +kernel)]; kernel_rfl) | (rw [if_neg (by decide +kernel)]; exact ⟨rfl, rfl⟩))
    (fun os started H enc _ F => by rw [OpenClaim.pre_eq_preRow]; exact lifted os started H enc F)
theorem plain (f : FuncId) (fn : Func) (hf : Tryd.pinned.checked.prog.funcNamed "cartulary/cartularylaw09.CompactRefuses" = some f) (hfn : Tryd.pinned.checked.prog.funcs[f]? = some fn) :
    true = Tryd.pinned.checked.prog.looks [] ∧ ∀ (j : Nat) t, fn.params[j]? = some t → Tryd.pinned.checked.prog.wantsStandIn t = false := by
  obtain rfl : f = 7 := Option.some.inj ((show Tryd.prog.funcNamed "cartulary/cartularylaw09.CompactRefuses" = some 7 by kernel_rfl).symm.trans hf) |>.symm
  obtain rfl : fn = Tryd.f7 := (Option.some.inj (Tryd.func7.symm.trans hfn)).symm
  refine ⟨by kernel_rfl, fun j t ht => ?_⟩
  have hall : (Tryd.f7.params.toList).all (fun t => !Tryd.prog.wantsStandIn t) = true := by kernel_rfl
  have hm := List.all_eq_true.1 hall t (Array.mem_toList_iff.2 (Array.mem_of_getElem? ht))
  exact Bool.not_eq_true' _ ▸ hm

/-- the card -/
theorem card : Rows.CompactRefusesCardSaid :=
  Claim7.holds_tied_plain_at .later [] _ _ _ _ said (fun _ h => by cases h) (by kernel_rfl) (fun _ h => by cases h) compactRefuses_row_tie rfl ⟨rfl, rfl⟩ (by kernel_rfl) rfl plain (by kernel_rfl)
#print axioms card
end Go.Proofs.YtigjnfmbellpjaaDoor.RefP
