/- Part 10: what is read of slices that one was handed: at any address. -/
import Derived.Test.YtigjnfmbellpjaaDoorEL9
namespace Go.EL
open Go
theorem add_add (a : Addr) (i j : Nat) : (a.add i).add j = a.add (i + j) := by
  unfold Addr.add
  by_cases hi : i = 0
  · simp [hi]
  · by_cases hj : j = 0
    · simp [hi, hj]
    · simp [hi, hj, Nat.add_assoc]
theorem add_zero (a : Addr) : a.add 0 = a := by simp [Addr.add]
section
variable {P : Program} {w0 : World} {S : HS}
theorem RdN.sub {a : Addr} {vs us : List Value} (h : RdN w0 S a vs) (o : Nat) (hu : (vs.drop o).take us.length = us) : RdN w0 S (a.add o) us := by
  intro F w hi j u hj
  rw [add_add]
  refine h F w hi (o + j) u ?_
  have hlt : j < us.length := (List.getElem?_eq_some_iff.1 hj).1
  rw [← hu, List.getElem?_take_of_lt hlt, List.getElem?_drop] at hj
  exact hj
theorem RdN.at {a : Addr} {vs : List Value} {v : Value} (h : RdN w0 S a vs) (o : Nat) (hv : vs[o]? = some v) : Rd w0 S (a.add o) v := fun F w hi => h F w hi o v hv
/-- the elements of a slice handed -/
theorem RdS.elem {α : Type} {enc : α → List Value} {k : Nat} {ys : List α} {a : Addr} {len cap : Nat} (h : RdS w0 S enc ys (.slice (some a) len cap)) (hk : Uni enc k ys) {i o : Nat} {y : α} {v : Value} (hy : ys[i]? = some y) (hv : (enc y)[o]? = some v) : Rd w0 S (a.add (i * k + o)) v := by
  rcases h with ⟨h, _⟩ | ⟨b, c, hb, h⟩
  · cases h
  · injection hb with hb _ _
    injection hb with hb
    subst hb
    exact h.at _ (by have := fm_get hk (sp := []) hy hv; rwa [List.append_nil] at this)
theorem RdS.elems {α : Type} {enc : α → List Value} {k : Nat} {ys : List α} {a : Addr} {len cap : Nat} (h : RdS w0 S enc ys (.slice (some a) len cap)) (hk : Uni enc k ys) {i o n : Nat} {y : α} {vs : List Value} (hy : ys[i]? = some y) (hv : ((enc y).drop o).take n = vs) (hn : o + n ≤ k) (hl : vs.length = n) : RdN w0 S (a.add (i * k + o)) vs := by
  rcases h with ⟨h, _⟩ | ⟨b, c, hb, h⟩
  · cases h
  · injection hb with hb _ _
    injection hb with hb
    subst hb
    exact h.sub _ (by have := fm_cells hk (sp := []) hy hv hn; rwa [List.append_nil, ← hl] at this)
theorem RdS.some {α : Type} {enc : α → List Value} {ys : List α} {v : Value} (h : RdS w0 S enc ys v) (hne : ys ≠ []) : ∃ a c, v = .slice (some a) ys.length c := by
  rcases h with ⟨_, rfl⟩ | ⟨b, c, hb, h⟩
  · exact absurd rfl hne
  · exact ⟨b, c, hb⟩
theorem RdS.conv {α β : Type} {enc : α → List Value} {enc' : β → List Value} {ys : List α} {zs : List β} {v : Value} (h : RdS w0 S enc ys v) (he : ys.map enc = zs.map enc') : RdS w0 S enc' zs v := by
  have hl : ys.length = zs.length := by simpa using congrArg List.length he
  rcases h with ⟨rfl, rfl⟩ | ⟨a, c, rfl, h⟩
  · exact .inl ⟨rfl, by cases zs with | nil => rfl | cons _ _ => cases hl⟩
  · refine .inr ⟨a, c, by rw [hl], ?_⟩
    rw [List.flatMap_def, he, ← List.flatMap_def] at h
    exact h
section pure
variable {ρ : Env} {ds : Option Nat} {ty : TypeId} {pos : String} {aft : Array Edge} {g : Option (Nat × Bool)}
theorem p_idxS {t e : TypeId} {x i : Operand} {n len cap : Nat} {a' : Addr} {k : IntKind} {j : Int} (h : ev ρ x = some (.slice (some a') len cap)) (hi : ev ρ i = some (.int k j)) (ht : sliceOf P t e n = true) (h0 : 0 ≤ j) (h1 : j < len) :
    PureOp P ⟨ds, .indexAddr t x i, ty, pos, aft, g⟩ ρ (.pointer (some (a'.add (j.toNat * n)))) := fun a hs w => by
  obtain ⟨hu, hsz⟩ := sliceOf_und ht
  simp [execOp, hs x _ h, hs i _ hi, Instr.indexAt, underlying, hu, asIntOf, h0, h1, sizeIs_run hsz]
theorem p_faddr {s t : TypeId} {x : Operand} {k n : Nat} {a' : Addr} (h : ev ρ x = some (.pointer (some a'))) (hf : fieldIs P s k n t = true) : PureOp P ⟨ds, .fieldAddr s x k, ty, pos, aft, g⟩ ρ (.pointer (some (a'.add n))) := fun a hs w => by
  obtain ⟨fs, f, hu, hk, ho, ht, m, hm, hsz⟩ := fieldIs_und hf
  subst ho; subst ht
  simp [execOp, hs x _ h, Instr.fieldAt, underlying, hu, hk, Instr.sureAddr, fieldPlace, sizeIs_run hsz, hm]
end pure
end
end Go.EL
