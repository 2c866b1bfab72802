/- Proved: for every beginning, every list of hashes and every two places, the law CompactCuts returns true, and its input reads afterwards as it did before. Conditions: the six listed variables (four sentinel errors, the table of math/bits, the table of sha) read, when the call begins, as the text of the program lays them; nothing else is asked. -/
import Derived.Test.YtigjnfmbellpjaaDoorCUT4
import Derived.Test.YtigjnfmbellpjaaDoorEL29
import Derived.Lib.SmallJoins
import Derived.Test.YtigjnfmbellpjaaDoorLAW1
import Derived.Test.YtigjnfmbellpjaaDoorEL11
import Derived.Test.YtigjnfmbellpjaaDoorRows
import Derived.Test.YtigjnfmbellpjaaDoorCards
import Derived.Test.YtigjnfmbellpjaaDoorTie
import Derived.Deep.DeepHandedRow
import Derived.Deep.DeepWitnessRowRef
import Derived.LaidMore
set_option maxRecDepth 100000
namespace Go.Proofs.YtigjnfmbellpjaaDoor.CutsP
open Go Go.EL Law Go.ChangeShapes Go.WideShapes Go.ChangeAt Go.RowKit Cmp Sha Coo
theorem own : ownKnob Tryd.prog.godebug = none := by kernel_rfl
theorem laidOut : laidOutB Tryd.prog = true := by kernel_rfl
theorem rows : rowed Tryd.prog Tryd.f5.params.toList = true := by kernel_rfl
/-- a list of hashes within what was handed -/
theorem open_hashesT {H : Type} {enc : TypeId × Value → H} {W : World} {n : Nat} {v : Value} {x : DataW H × List MemPlace} {sp : Nat → Bool} {held : Bool} (h : DataW.trod enc Tryd.prog W 0 sp held n 24 [v] = some x) : ∃ hs : List H32, Held W [] hC hs v := by
  obtain ⟨hsl, hd⟩ := slice_of_trod Tryd.underlying24 h
  obtain ⟨ys, hH, hu, hy⟩ := open_heldS (k := 32) Tryd.underlying24 (by kernel_rfl) hsl hd
  obtain ⟨hs, hhs⟩ := choose_map (f := hC) (ys := ys) fun y hm => by
    obtain ⟨n, x, hx⟩ := hy y hm
    obtain ⟨ns, h1, h2, h3, _⟩ := ints_of_trod Tryd.underlying32 (by kernel_rfl) Tryd.underlying5 (by kernel_rfl) hx
    refine ⟨⟨ns, h2, fun k hk => ?_⟩, h1⟩
    have := h3 k hk
    simp [Lit.wf, IntKind.min, IntKind.max, IntKind.signed, IntKind.bits] at this
    omega
  exact ⟨hs, hH.conv (by rw [hhs]; simp)⟩
theorem contract (H : Type) (enc : TypeId × Value → H) (W : World) (base : Nat) (args : Array Value) (ds gs : List (DataW H)) (before : List MemPlace)
    (hval : ∀ (j : Nat) t v, Tryd.f5.params[j]? = some t → args[j]? = some v → Value.okWide Tryd.prog W .any base t v)
    (hW : DataW.Whole enc Tryd.prog Tryd.f5.params.toList Rows.compactCutsSpec.vars false W args.toList ds gs before) (hL : laidMetH Tryd.prog Rows.compactCutsRow.laid W) :
    Calls Tryd.prog 5 args W fun e W' => ∃ v, e = .returned v ∧ Rows.compactCutsSpec.post enc Tryd.prog Tryd.f5 false true false false W args v W' := by
  have hW' := hW
  obtain ⟨p, q, hA0, hV, rfl, hfz, hnd⟩ := hW
  have hA : DataW.TrodAll enc Tryd.prog W 0 (fun _ => true) true Tryd.f5.params.toList args.toList ds p := hA0
  rw [Tryd.params5] at hA hval
  obtain ⟨v0, vs0, d0, ds0, p0, q0, hargs, rfl, rfl, h0, r0⟩ := trodAll_cons hA
  obtain ⟨rfl, rfl, rfl⟩ := trodAll_nil r0
  obtain rfl : args = #[v0] := by cases args; simp_all
  obtain ⟨u0, u1, u2, u3, y0, y1, y2, y3, n, rfl, _, _, t0, t1, t2, t3⟩ := Go.Joins.open_agg4 Tryd.underlying61 (by kernel_rfl) (by kernel_rfl) (hval 0 61 v0 rfl rfl) h0
  obtain ⟨beg, e0, _, wbeg⟩ := DataW.trod_int Tryd.underlying23 t0
  obtain ⟨A, e2, _, wA⟩ := DataW.trod_int Tryd.underlying5 t2
  obtain ⟨B, e3, _, wB⟩ := DataW.trod_int Tryd.underlying5 t3
  simp only [List.cons.injEq, and_true] at e0 e2 e3
  subst e0; subst e2; subst e3
  obtain ⟨hs, hH⟩ := open_hashesT t1
  simp [Lit.wf, IntKind.min, IntKind.max, IntKind.signed, IntKind.bits] at wbeg wA wB
  obtain ⟨beg, rfl⟩ := Int.eq_ofNat_of_zero_le (show 0 ≤ beg by omega)
  obtain ⟨A, rfl⟩ := Int.eq_ofNat_of_zero_le (show 0 ≤ A by omega)
  obtain ⟨B, rfl⟩ := Int.eq_ofNat_of_zero_le (show 0 ≤ B by omega)
  have hL' : laidMet Tryd.prog Rows.compactCutsRow.laid W := hL
  have hT : Tab W shaK := tab_sha (laid_drop 5 hL')
  have hD : DeB W := tab_de (laid_drop 0 hL')
  refine (cuts_tri (w0 := W) shaK hT hD beg A B hs u1 hH (by omega) (by omega) (by omega)).calls.mono fun e W' ⟨v, S', he, ⟨hv, hS⟩, hI⟩ => ⟨v, he, ?_⟩
  subst hv
  exact post_true (tb := 4) laidOut rows rfl rfl Tryd.underlying4 hW' rfl hI

/-- the world that the witness is called in: the variables laid -/
noncomputable abbrev laidWorld (os : Os) : World := World.doorLaid Tryd.prog 400 os
abbrev wargs : Array Value := #[.agg #[.int .u64 0, .slice none 0 0, .int .u8 0, .int .u8 0]]
theorem laid_met (os : Os) : laidMetH Tryd.prog Rows.compactCutsRow.laid ((laidWorld os).forCall (fun _ _ => 0) ⟨#[], wargs, []⟩).memory :=
  laidMet_of_run' 8 (by kernel_rfl) (by kernel_rfl)
theorem reads (os : Os) {H : Type} (enc : TypeId × Value → H) : ∃ places, DataW.whole enc Tryd.prog ((laidWorld os).forCall (fun _ _ => 0) ⟨#[], wargs, []⟩).memory Tryd.f5.params.toList Rows.compactCutsSpec.vars false wargs.toList 8 = some ([.agg [.lit (.int .u64 0), .nil, .lit (.int .u8 0), .lit (.int .u8 0)]], [], places) :=
  ⟨[], by kernel_rfl⟩
theorem lifted (os : Os) (started : os.Started) (H : Type) (enc : TypeId × Value → H) (F : Stop.Interp) :
    ReturnsInHanded {} Tryd.checked os 5 .any ((OpenSpec.ofChange Rows.compactCutsSpec).preRow enc Tryd.prog Tryd.f5 Rows.compactCutsRow.domain false Rows.compactCutsRow.laid) (((OpenSpec.ofChange Rows.compactCutsSpec).at F).post enc Tryd.prog Tryd.f5 false true false false) := by
  obtain ⟨places, hx⟩ := reads os enc
  refine returnsInHanded_of_row (C := Tryd.checked) (s := OpenSpec.ofChange Rows.compactCutsSpec) own started (by kernel_rfl) Tryd.func5
    (witness_row_atRef (enc := enc) (C := Tryd.checked) false (laidWorld os) wargs rfl (by kernel_rfl) (by kernel_rfl) (by kernel_rfl)
      (OpenSpec.preRow_of_cond 8 hx (by kernel_rfl) (fun k hk => by cases hk) (by kernel_rfl) (laid_met os))) ?_
  intro W base args ds gs before hval hW _ _ _ hL _ _
  exact contract H enc W base args ds gs before hval hW hL

theorem said : Rows.CompactCutsSaid :=
  OpenClaim.holds_of_cond 5 Tryd.f5 rfl rfl rfl rfl rfl rfl rfl ⟨rfl, rfl, rfl, rfl, rfl⟩ rfl rfl rfl rfl rfl (by kernel_rfl) Tryd.func5 (by kernel_rfl)
    (of_decide_eq_true (by kernel_rfl)) (by unfold Func.isWrapper; first | (rw [if_pos (by decide +kernel)]; kernel_rfl) | (rw [if_neg (by decide +kernel)]; exact ⟨rfl, rfl⟩))
    (fun os started H enc _ F => by rw [OpenClaim.pre_eq_preRow]; exact lifted os started H enc F)
theorem plain (f : FuncId) (fn : Func) (hf : Tryd.pinned.checked.prog.funcNamed "cartulary/cartularylaw09.CompactCuts" = some f) (hfn : Tryd.pinned.checked.prog.funcs[f]? = some fn) :
    true = Tryd.pinned.checked.prog.looks [] ∧ ∀ (j : Nat) t, fn.params[j]? = some t → Tryd.pinned.checked.prog.wantsStandIn t = false := by
  obtain rfl : f = 5 := Option.some.inj ((show Tryd.prog.funcNamed "cartulary/cartularylaw09.CompactCuts" = some 5 by kernel_rfl).symm.trans hf) |>.symm
  obtain rfl : fn = Tryd.f5 := (Option.some.inj (Tryd.func5.symm.trans hfn)).symm
  refine ⟨by kernel_rfl, fun j t ht => ?_⟩
  have hall : (Tryd.f5.params.toList).all (fun t => !Tryd.prog.wantsStandIn t) = true := by kernel_rfl
  have hm := List.all_eq_true.1 hall t (Array.mem_toList_iff.2 (Array.mem_of_getElem? ht))
  exact Bool.not_eq_true' _ ▸ hm

/-- the card -/
theorem card : Rows.CompactCutsCardSaid :=
  Claim7.holds_tied_plain_at .later [] _ _ _ _ said (fun _ h => by cases h) (by kernel_rfl) (fun _ h => by cases h) compactCuts_row_tie rfl ⟨rfl, rfl⟩ (by kernel_rfl) rfl plain (by kernel_rfl)
#print axioms card
end Go.Proofs.YtigjnfmbellpjaaDoor.CutsP
