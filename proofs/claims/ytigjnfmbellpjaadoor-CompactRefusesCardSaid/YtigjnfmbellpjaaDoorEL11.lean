/- Part 11: from a contract to a row's answer: the law says true, what it was given reads as it did. -/
import Derived.Test.YtigjnfmbellpjaaDoorEL10
import Derived.WalkKit
import Derived.ProofKit
import Derived.OpenShut
import Derived.Carry
namespace Go.EL
open Go Go.ChangeShapes Go.WideShapes Go.RowKit
theorem Inv.below {W W' : World} {H : Hp} (h : Inv W H W') : Below W.heap.size W W' := ⟨h.os, h.tape, h.output, h.size, h.old⟩
/-- closed: the types of what is given can be read -/
def rowed (P : Program) (ts : List TypeId) : Bool := ts.all fun t => P.readableRec t && decide (t < P.types.size)
section
variable {H : Type} {enc : TypeId × Value → H} {P : Program}
theorem trodAll_carry (hl : laidOutB P = true) {W W' : World} (hb : Below W.heap.size W W') : ∀ {ts : List TypeId} {vs : List Value} {ds : List (DataW H)} {ps : List MemPlace}, rowed P ts = true →
    DataW.TrodAll enc P W 0 (fun _ => true) true ts vs ds ps → DataW.TrodAll enc P W' 0 (fun b => decide (b < W.heap.size)) true ts vs ds ps
  | [], [], [], _, _, h => h
  | [], [], _ :: _, _, _, h => h.elim
  | [], _ :: _, _, _, _, h => h.elim
  | _ :: _, [], _, _, _, h => h.elim
  | _ :: _, _ :: _, [], _, _, h => h.elim
  | t :: ts, v :: vs, d :: ds, ps, ht, h => by
    have hlt := h.lt
    obtain ⟨p, q, h1, h2, e⟩ := h
    simp only [rowed, List.all_cons, Bool.and_eq_true, decide_eq_true_eq] at ht
    exact ⟨p, q, Below.trod hl ht.1.1 ht.1.2 h1 hb (fun x hx => hlt x (by rw [e]; exact List.mem_append_left _ hx)), trodAll_carry hl hb (by simp only [rowed]; simpa using ht.2) h2, e⟩
theorem post_true {fn : Func} {s : ChangeSpec} {W W' : World} {args : Array Value} {ds gs : List (DataW H)} {before : List MemPlace} {tb : TypeId} (hl : laidOutB P = true) (ht : rowed P fn.params.toList = true) (hv : s.vars = []) (hr : fn.resultTypes = #[tb]) (hb : P.underlying tb = some .bool)
    (hW : DataW.Whole enc P fn.params.toList s.vars false W args.toList ds gs before) (hs : s.fn H ds = { results := [.lit (.bool true)], args := ds }) {K : Hp} (hI : Inv W K W') :
    s.post enc P fn false true false false W args (.bool true) W' := by
  have hW' := hW
  obtain ⟨p, q, hA, hV, rfl, hfz, hnd⟩ := hW
  rw [hv] at hV
  obtain ⟨rfl, rfl⟩ : gs = [] ∧ q = [] := by
    cases gs with
    | nil => exact ⟨rfl, hV⟩
    | cons g r => exact hV.elim
  refine ⟨ds, [], _, [], p, [], hW', ?_, ?_, ?_, ?_, fun h => by cases h⟩
  · rw [List.append_nil, hs, hr]
    exact trodAll_cons_mk (shut_bool hb true) trodAll_mk0
  · rw [List.append_nil, hs]
    exact trodAll_carry hl hI.below ht hA
  · rw [List.append_nil, hs, hv]
    rfl
  · exact hI.below.frame _
end
/-- a contract without blocks of one's own, from the world of the call -/
theorem Tri.calls {P : Program} {W : World} {f : FuncId} {args : Array Value} {R : Value → HS → Prop} (h : Tri P W f args [] R) : Calls P f args W (fun e w' => ∃ v S', e = .returned v ∧ R v S' ∧ Inv W S'.flatten w') :=
  (h [] W (Inv.start W)).mono fun _ _ ⟨v, S', he, hR, hI⟩ => ⟨v, S', he, hR, by simpa using hI⟩
end Go.EL
