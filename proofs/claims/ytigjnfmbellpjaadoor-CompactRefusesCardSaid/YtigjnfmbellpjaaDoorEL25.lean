/- Part 25: keys of structs and arrays of numbers: such values can be keys, and are compared. -/
import Derived.Test.YtigjnfmbellpjaaDoorEL16
namespace Go.EL
open Go
section
variable {P : Program}
theorem mapM_some {α β : Type} {f : α → Option β} {g : α → β} : ∀ (l : List α), (∀ x, x ∈ l → f x = some (g x)) → l.mapM f = some (l.map g)
  | [], _ => rfl
  | x :: l, h => by
    rw [List.mapM_cons, h x (List.mem_cons_self ..), mapM_some l fun y hy => h y (List.mem_cons_of_mem _ hy)]
    rfl
theorem kl_int {d : Nat} {t : TypeId} {q : IntKind} {n : Int} (h : P.underlying t = some (.int q)) (hw : (Lit.int q n).wf = true) : P.keyLits (d + 1) t [.int q n] = some [.int q n] := by
  simp [Program.keyLits, h, hw]
theorem kl_array {d : Nat} {t e : TypeId} {q : IntKind} {n : Nat} {ns : List Int} (h : P.underlying t = some (.array n e)) (hc : P.cellsOf t = n) (he : P.underlying e = some (.int q)) (hce : P.cellsOf e = 1) (hl : ns.length = n) (hw : ∀ x, x ∈ ns → (Lit.int q x).wf = true) :
    ∃ ls, P.keyLits (d + 1 + 1) t (ns.map (Value.int q)) = some ls := by
  have hm : (List.range n).mapM (fun i => P.keyLits (d + 1) e (((ns.map (Value.int q)).drop (i * P.cellsOf e)).take (P.cellsOf e))) = some ((List.range n).map fun i => [Lit.int q (ns.getD i 0)]) := by
    refine mapM_some _ fun i hi => ?_
    have hlt : i < ns.length := by have := List.mem_range.1 hi; omega
    have : ((ns.map (Value.int q)).drop (i * P.cellsOf e)).take (P.cellsOf e) = [.int q (ns.getD i 0)] := by
      rw [hce, Nat.mul_one, List.drop_eq_getElem_cons (by simpa using hlt)]
      simp [hlt]
    rw [this]
    exact kl_int he (hw _ (by simp [hlt]))
  refine ⟨((List.range n).map fun i => [Lit.int q (ns.getD i 0)]).flatten, ?_⟩
  unfold Program.keyLits
  simp only [h]
  rw [if_pos (by rw [List.length_map, hc, hl]), hm]
  rfl
theorem dk_of_lits {t : TypeId} {cs : List Value} {ls : List Lit} (hk : P.keyType t = true) (hs : (match P.underlying t with | some (.array _ _) | some (.struct _) => true | _ => false) = true) (hc : cs.length = P.cellsOf t) (h : P.keyLits (P.types.size + 1) t cs = some ls) : Dk P t (.agg ⟨cs⟩) := by
  refine ⟨.string (keyBytes ls), ?_⟩
  have hf : Value.formed P t (.agg ⟨cs⟩) = true := by
    unfold Value.formed
    cases hu : P.underlying t with
    | none => simp [hu] at hs
    | some d => cases d <;> simp [hu] at hs ⊢ <;> exact hc
  unfold keyOf
  cases hu : P.underlying t with
  | none => simp [hu] at hs
  | some d => cases d <;> simp [hu] at hs ⊢ <;> exact ⟨⟨hk, hf⟩, ls, h, rfl⟩
/-- an array of numbers -/
theorem dk_ints {t e : TypeId} {q : IntKind} {n : Nat} {ns : List Int} (hk : P.keyType t = true) (h : P.underlying t = some (.array n e)) (hc : P.cellsOf t = n) (he : P.underlying e = some (.int q)) (hce : P.cellsOf e = 1) (hz : P.types.size ≠ 0) (hl : ns.length = n) (hw : ∀ x, x ∈ ns → (Lit.int q x).wf = true) :
    Dk P t (.agg ⟨ns.map (Value.int q)⟩) := by
  obtain ⟨ls, h1⟩ := kl_array (d := P.types.size - 1) h hc he hce hl hw
  rw [show P.types.size - 1 + 1 + 1 = P.types.size + 1 by omega] at h1
  exact dk_of_lits hk (by simp [h]) (by simp [hc, hl]) h1
/-- a struct of two numbers -/
theorem dk_two {t ta tb : TypeId} {qa qb : IntKind} {fs : Array Field} {fa fb : Field} {a b : Int} (hk : P.keyType t = true) (h : P.underlying t = some (.struct fs)) (hfs : fs = #[fa, fb]) (hna : (fa.name != "_" && fb.name != "_") = true) (hta : fa.type = ta) (htb : fb.type = tb) (hoa : fa.offset = 0) (hob : fb.offset = 1)
    (hc : P.cellsOf t = 2) (ha : P.underlying ta = some (.int qa)) (hb : P.underlying tb = some (.int qb)) (hca : P.cellsOf ta = 1) (hcb : P.cellsOf tb = 1) (hz : P.types.size ≠ 0) (hwa : (Lit.int qa a).wf = true) (hwb : (Lit.int qb b).wf = true) :
    Dk P t (.agg ⟨[.int qa a, .int qb b]⟩) := by
  subst hfs; subst hta; subst htb
  refine dk_of_lits (ls := [.int qa a, .int qb b]) hk (by simp [h]) (by simp [hc]) ?_
  obtain ⟨d, hd⟩ : ∃ d, P.types.size = d + 1 := ⟨P.types.size - 1, by omega⟩
  simp only [Bool.and_eq_true] at hna
  have h1 := kl_int (d := d) ha hwa
  have h2 := kl_int (d := d) hb hwb
  have hm : (#[fa, fb] : Array Field).toList.mapM (fun f => P.keyLits (d + 1) f.type (([Value.int qa a, Value.int qb b].drop f.offset).take (P.cellsOf f.type))) = some [[Lit.int qa a], [Lit.int qb b]] := by
    simp [hca, hcb, hoa, hob, h1, h2]
  rw [hd]
  unfold Program.keyLits
  simp only [h]
  rw [if_pos ⟨by simp [hc], by simpa using hna⟩, hm]
  rfl
end
end Go.EL
