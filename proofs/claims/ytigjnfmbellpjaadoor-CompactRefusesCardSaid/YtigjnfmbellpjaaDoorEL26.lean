/- Part 26: slices that are only read, cut, nil or not. -/
import Derived.Test.YtigjnfmbellpjaaDoorEL21
import Derived.Test.YtigjnfmbellpjaaDoorEL16
import Derived.Stop.LaidErr
namespace Go.EL
open Go
section
variable {P : Program} {w0 : World} {α : Type} {ρ : Env} {ds : Option Nat} {ty : TypeId} {pos : String} {aft : Array Edge} {g : Option (Nat × Bool)}
theorem Held.takeP {HP : Hp} {enc : α → List Value} {k : Nat} (hu : ∀ ys, Uni enc k ys) {ys : List α} {p : Option Addr} {c : Nat} (h : Held w0 HP enc ys (.slice p ys.length c)) (n : Nat) (hn : n ≤ ys.length) : Held w0 HP enc (ys.take n) (.slice p n c) := by
  cases p with
  | some a => exact h.take hu n hn
  | none =>
    rcases h with ⟨e, hnil⟩ | ⟨a, c', e, _⟩
    · injection e with _ e2 e3
      subst hnil; subst e3
      have : n = 0 := by simpa using hn
      subst this
      exact .inl ⟨rfl, rfl⟩
    · injection e with e1; cases e1
theorem Held.dropN {HP : Hp} {enc : α → List Value} {k : Nat} (hu : ∀ ys, Uni enc k ys) {ys : List α} {a : Addr} {n c : Nat} (h : Held w0 HP enc ys (.slice (some a) n c)) (hl : ys.length = n) (m : Nat) (hm : m ≤ n) :
    Held w0 HP enc (ys.drop m) (.slice (some (if c = m then a else a.add (m * k))) (n - m) (c - m)) := by
  subst hl
  exact h.drop hu m hm
theorem p_sliceToH {HP : Hp} {enc : α → List Value} {ys : List α} {p : Option Addr} {c j n : Nat} {t e : TypeId} {x y : Operand} {k : IntKind} (hH : Held w0 HP enc ys (.slice p ys.length c)) (hx : ev ρ x = some (.slice p ys.length c)) (ht : sliceOf P t e n = true) (hy : ev ρ y = some (.int k (j : Nat))) (hj : j ≤ ys.length) :
    PureOp P ⟨ds, .slice t x none (some y) none, ty, pos, aft, g⟩ ρ (.slice p j c) := by
  rcases hH with ⟨e1, hnil⟩ | ⟨a, c', e1, h1, _⟩
  · injection e1 with e0 e2 e3
    subst hnil; subst e3; subst e0
    have : j = 0 := by simpa using hj
    subst this
    exact p_sliceToNil hx ht hy
  · injection e1 with e0 e2 e3
    subst e0; subst e3
    have := p_sliceToG (ds := ds) (ty := ty) (pos := pos) (aft := aft) (g := g) hx ht hy (by omega) (by omega)
    simpa using this
theorem p_sliceMid {t e : TypeId} {x y z : Operand} {n len cap l h : Nat} {a' : Addr} {k1 k2 : IntKind} (hx : ev ρ x = some (.slice (some a') len cap)) (ht : sliceOf P t e n = true) (hy : ev ρ y = some (.int k1 (l : Nat))) (hz : ev ρ z = some (.int k2 (h : Nat))) (h2 : l ≤ h) (h3 : h ≤ cap) :
    PureOp P ⟨ds, .slice t x (some y) (some z) none, ty, pos, aft, g⟩ ρ (.slice (some (if cap = l then a' else a'.add (l * n))) (h - l) (cap - l)) := by
  have := p_sliceG (ds := ds) (ty := ty) (pos := pos) (aft := aft) (g := g) (lo := some y) (hi := some z) (l := l) (h := h) (kl := k1) (kh := k2) hx ht hy (fun e => by cases e) hz (fun e => by cases e) (by omega) (by omega) (by omega)
  simpa using this
end
end Go.EL

/- Part 27: lists that a law is given, opened as slices that are only read; tables that are laid. -/
namespace Go.EL
open Go Go.ChangeShapes Go.WideShapes
theorem choose_map {α β : Type} {f : α → β} : ∀ {ys : List β}, (∀ y, y ∈ ys → ∃ u, f u = y) → ∃ us : List α, us.map f = ys
  | [], _ => ⟨[], rfl⟩
  | y :: ys, h => by
    obtain ⟨u, hu⟩ := h y (List.mem_cons_self ..)
    obtain ⟨us, hus⟩ := choose_map (f := f) (ys := ys) fun z hz => h z (List.mem_cons_of_mem _ hz)
    exact ⟨u :: us, by rw [List.map_cons, hu, hus]⟩
section
variable {H : Type} {enc : TypeId × Value → H} {P : Program} {W : World} {sp : Nat → Bool} {held : Bool}
theorem open_cap {t e b0 : Nat} {v : Value} {d : DataW H} {ps : List MemPlace} {r : Reach} (ht : P.underlying t = some (.slice e)) (hval : Value.okWide P W r b0 t v) (hd : DataW.Trod enc P W 0 sp held t v d ps) : ∃ p n c, v = .slice p n c ∧ n ≤ c ∧ c ≤ maxLen := by
  obtain ⟨fuel, hf⟩ := hd
  obtain ⟨a0, len0, cap0, rfl⟩ := okWide_slice ht hval
  refine ⟨a0, len0, cap0, rfl, ?_⟩
  rcases DataW.trod_slice ht hf with ⟨hc, _⟩ | ⟨a, len, cap, elems, rest, n, _, hc, _, hb, hlc, hcm, _⟩
  · have hc' : [Value.slice a0 len0 cap0] = [.slice none 0 0] := hc
    simp only [List.cons.injEq, Value.slice.injEq, and_true] at hc'
    obtain ⟨rfl, rfl, rfl⟩ := hc'
    exact ⟨Nat.le_refl _, by simp [maxLen]⟩
  · have hc' : [Value.slice a0 len0 cap0] = [.slice (some a) len cap] := hc
    simp only [List.cons.injEq, Value.slice.injEq, and_true] at hc'
    obtain ⟨rfl, rfl, rfl⟩ := hc'
    exact ⟨hlc, hcm⟩
/-- a list that was handed: its elements' rows, that may be read -/
theorem open_held {t e k b0 : Nat} {v : Value} {d : DataW H} {ps : List MemPlace} {r : Reach} (ht : P.underlying t = some (.slice e)) (hk : P.cellsOf e = k) (hval : Value.okWide P W r b0 t v) (hd : DataW.Trod enc P W 0 sp held t v d ps) :
    ∃ ys : List (List Value), Held W [] id ys v ∧ Uni id k ys ∧ ∀ y, y ∈ ys → ∃ n x, DataW.trod enc P W 0 sp held n e y = some x := by
  obtain ⟨ys, h1, h2, h3, h4⟩ := open_rows ht hk hval hd
  obtain ⟨p, n, c, rfl, h5, h6⟩ := open_cap ht hval hd
  refine ⟨ys, ?_, h2, h4⟩
  rcases h1 [] with ⟨e1, rfl⟩ | ⟨a, c', e1, _⟩
  · exact .inl ⟨e1, rfl⟩
  · injection e1 with e0 e2 e3
    subst e0; subst e2; subst e3
    refine .inr ⟨a, c, rfl, h5, h6, fun S i _ => ?_⟩
    rcases h1 S with ⟨e1, _⟩ | ⟨a', c', e1, hr⟩
    · cases e1
    · injection e1 with e0 _ _
      injection e0 with e0
      subst e0
      exact hr
theorem Held.conv {w0 : World} {HP : Hp} {α β : Type} {enc : α → List Value} {enc' : β → List Value} {ys : List α} {zs : List β} {v : Value} (h : Held w0 HP enc ys v) (he : ys.map enc = zs.map enc') : Held w0 HP enc' zs v := by
  have hl : ys.length = zs.length := by simpa using congrArg List.length he
  have hf : ys.flatMap enc = zs.flatMap enc' := by rw [List.flatMap_def, List.flatMap_def, he]
  rcases h with ⟨rfl, rfl⟩ | ⟨a, c, rfl, h1, h2, h3⟩
  · refine .inl ⟨rfl, ?_⟩
    cases zs with
    | nil => rfl
    | cons z zs => simp at hl
  · exact .inr ⟨a, c, by rw [hl], by omega, h2, fun S i hi => by rw [← hf]; exact h3 S i hi⟩
/-- an array of numbers, opened -/
theorem ints_of_trod {t e n m : Nat} {q : IntKind} {cs : List Value} {x : DataW H × List MemPlace} (ht : P.underlying t = some (.array n e)) (hc : P.cellsOf t = n) (he : P.underlying e = some (.int q)) (hce : P.cellsOf e = 1) (h : DataW.trod enc P W 0 sp held m t cs = some x) :
    ∃ ns : List Int, ns.map (Value.int q) = cs ∧ ns.length = n ∧ (∀ k, k ∈ ns → (Lit.int q k).wf = true) ∧ x.1 = .agg (ns.map fun k => .lit (.int q k)) := by
  obtain ⟨xs, m', _, hx, hl, hxl, hf⟩ := DataW.trod_array ht h
  rw [hc] at hl
  have hcell : ∀ i, i < n → ∃ k, cs[i]? = some (.int q k) ∧ (Lit.int q k).wf = true ∧ xs[i]? = some (.lit (.int q k), []) := by
    intro i hi
    have h1 := hf i hi
    have hlt : i < cs.length := by omega
    have hlx : i < xs.length := by omega
    rw [hce, Nat.mul_one, List.drop_eq_getElem_cons hlt, List.take_succ_cons, List.take_zero, List.getElem?_eq_getElem hlx] at h1
    obtain ⟨k, h2, h3, h4⟩ := DataW.trod_int he h1
    simp only [List.cons.injEq, and_true] at h2
    exact ⟨k, by rw [List.getElem?_eq_getElem hlt, h2], h4, by rw [List.getElem?_eq_getElem hlx, h3]⟩
  obtain ⟨ns, hns⟩ := choose_map (f := Value.int q) (ys := cs) fun y hy => by
    obtain ⟨i, hi⟩ := List.mem_iff_getElem?.1 hy
    obtain ⟨k, hk, _⟩ := hcell i (by rw [← hl]; exact (List.getElem?_eq_some_iff.1 hi).1)
    rw [hi] at hk
    exact ⟨k, (Option.some.inj hk).symm⟩
  have hnl : ns.length = n := by rw [← hl, ← hns]; simp
  have hget : ∀ (i : Nat) (k : Int), ns[i]? = some k → (Lit.int q k).wf = true ∧ xs[i]? = some (.lit (.int q k), []) := by
    intro i k hi
    have hlt : i < n := by rw [← hnl]; exact (List.getElem?_eq_some_iff.1 hi).1
    obtain ⟨k', h1, h2, h3⟩ := hcell i hlt
    rw [← hns, List.getElem?_map, hi] at h1
    simp only [Option.map_some, Option.some.injEq, Value.int.injEq, true_and] at h1
    subst h1
    exact ⟨h2, h3⟩
  refine ⟨ns, hns, hnl, fun k hk => ?_, ?_⟩
  · obtain ⟨i, hi⟩ := List.mem_iff_getElem?.1 hk
    exact (hget i k hi).1
  · rw [hx]
    show DataW.agg _ = DataW.agg _
    congr 1
    apply List.ext_getElem?
    intro i
    rw [List.getElem?_map, List.getElem?_map]
    cases hi : ns[i]? with
    | some k => rw [(hget i k hi).2]; rfl
    | none =>
      have : xs[i]? = none := by
        rw [List.getElem?_eq_none_iff] at hi ⊢
        omega
      rw [this]; rfl
end
/-- a table of numbers that is laid -/
theorem tab_of {P : Program} {n : String} {ns : List Int} {q : IntKind} {r : List (String × DataW Unit)} {W : World} {g t e len : Nat} (h : laidMet P ((n, .agg (ns.map fun k => .lit (.int q k))) :: r) W) (hg : P.globalNamed n = some g) (ht : (P.globals[g]?).map (·.type) = some t)
    (hu : P.underlying t = some (.array len e)) (hc : P.cellsOf t = len) (he : P.underlying e = some (.int q)) (hce : P.cellsOf e = 1) : ∀ j, j < len → W.cell? ⟨g, j, none⟩ = some (.int q (ns.getD j 0)) := by
  obtain ⟨ps, ⟨g0, t0, cs0, f0, p0, q0, hg0, ht0, hv0, hd0, _, _⟩, _, _⟩ := h
  obtain rfl := Option.some.inj (hg.symm.trans hg0)
  obtain rfl := Option.some.inj (ht.symm.trans ht0)
  obtain ⟨ms, hms, hml, _, hx⟩ := ints_of_trod hu hc he hce hd0
  have hinj : ns = ms := by
    simp only [DataW.agg.injEq] at hx
    have key : ∀ {x y : List Int}, (x.map fun k => (DataW.lit (.int q k) : DataW Unit)) = y.map (fun k => .lit (.int q k)) → x = y := by
      intro x
      induction x with
      | nil => intro y h; cases y with | nil => rfl | cons _ _ => simp at h
      | cons a x ih => intro y h; cases y with
        | nil => simp at h
        | cons b y => simp only [List.map_cons, List.cons.injEq, DataW.lit.injEq, Lit.int.injEq, true_and] at h; rw [h.1, ih h.2]
    exact key hx
  subst hinj
  intro j hj
  rw [World.var?_cell hg0 hv0 j]
  have : cs0[j]? = cs0.toList[j]? := by simp
  rw [this, ← hms, List.getElem?_map]
  have hlt : j < ns.length := by omega
  simp [hlt]
theorem laid_drop {P : Program} {W : World} : ∀ (k : Nat) {l : List (String × DataW Unit)}, laidMet P l W → laidMet P (l.drop k) W
  | 0, _, h => by simpa using h
  | k + 1, [], h => by simpa using h
  | k + 1, x :: r, h => by rw [List.drop_succ_cons]; exact laid_drop k h.tail
end Go.EL

/- Part 28: a slice against nil. -/
namespace Go.EL
open Go
section
variable {P : Program} {ρ : Env} {ds : Option Nat} {ty : TypeId} {pos : String} {aft : Array Edge} {g : Option (Nat × Bool)}
theorem eq_nilSlice {t e : TypeId} (ht : P.underlying t = some (.slice e)) (p : Option Addr) (n c : Nat) (w : World) : (Op.equal t (.slice p n c) (.slice none 0 0)).run P w = .ok p.isNone w := by
  show (Op.equalIn (9999 + 1) t (.slice p n c) (.slice none 0 0)).run P w = _
  rw [Op.equalIn]
  cases p <;> simp [underlying, ht]
theorem p_eqNilSlice {t yt e : TypeId} {x y : Operand} {p : Option Addr} {n c : Nat} (hx : ev ρ x = some (.slice p n c)) (hy : ev ρ y = some (.slice none 0 0)) (ht : P.underlying t = some (.slice e)) : PureOp P ⟨ds, .binOp .eql t x y yt, ty, pos, aft, g⟩ ρ (.bool p.isNone) := fun a hs w => by
  simp [execOp, hs x _ hx, hs y _ hy, eqGuard, binOp, eq_nilSlice ht]
theorem p_neNilSlice {t yt e : TypeId} {x y : Operand} {p : Option Addr} {n c : Nat} (hx : ev ρ x = some (.slice p n c)) (hy : ev ρ y = some (.slice none 0 0)) (ht : P.underlying t = some (.slice e)) : PureOp P ⟨ds, .binOp .neq t x y yt, ty, pos, aft, g⟩ ρ (.bool !p.isNone) := fun a hs w => by
  simp [execOp, hs x _ hx, hs y _ hy, eqGuard, binOp, eq_nilSlice ht]
end
end Go.EL
namespace Go.EL
open Go
/-! ### slices that are only read, cut anywhere, nil or not -/
/-- where a cut slice begins -/
def cutV (p : Option Addr) (c l n : Nat) : Option Addr := p.map fun a => if c = l then a else a.add (l * n)
section
variable {P : Program} {w0 : World} {α : Type} {ρ : Env} {ds : Option Nat} {ty : TypeId} {pos : String} {aft : Array Edge} {g : Option (Nat × Bool)}
theorem p_sliceMidNil {t e : TypeId} {x y z : Operand} {n : Nat} {k1 k2 : IntKind} (hx : ev ρ x = some (.slice none 0 0)) (ht : sliceOf P t e n = true) (hy : ev ρ y = some (.int k1 0)) (hz : ev ρ z = some (.int k2 0)) :
    PureOp P ⟨ds, .slice t x (some y) (some z) none, ty, pos, aft, g⟩ ρ (.slice none 0 0) := fun a hs w => by
  obtain ⟨hu, hsz⟩ := sliceOf_und ht
  simp [execOp, hs x _ hx, hs y _ hy, hs z _ hz, Instr.sliceAt, underlying, hu, Instr.slice, Instr.sliceBounds, Instr.sliceBound, asIntOf, sizeIs_run hsz]
theorem p_sliceFromNil {t e : TypeId} {x y : Operand} {n : Nat} {k1 : IntKind} (hx : ev ρ x = some (.slice none 0 0)) (ht : sliceOf P t e n = true) (hy : ev ρ y = some (.int k1 0)) :
    PureOp P ⟨ds, .slice t x (some y) none none, ty, pos, aft, g⟩ ρ (.slice none 0 0) := fun a hs w => by
  obtain ⟨hu, hsz⟩ := sliceOf_und ht
  simp [execOp, hs x _ hx, hs y _ hy, Instr.sliceAt, underlying, hu, Instr.slice, Instr.sliceBounds, Instr.sliceBound, asIntOf, sizeIs_run hsz]
variable {HP : Hp} {enc : α → List Value} {ys : List α} {p : Option Addr} {c : Nat}
theorem Held.nilOrSome (hH : Held w0 HP enc ys (.slice p ys.length c)) : (p = none ∧ ys = [] ∧ c = 0) ∨ (∃ a, p = some a) ∧ ys.length ≤ c := by
  rcases hH with ⟨e1, hnil⟩ | ⟨a, c', e1, h1, _⟩
  · injection e1 with e0 e2 e3
    exact .inl ⟨e0, hnil, e3⟩
  · injection e1 with e0 e2 e3
    exact .inr ⟨⟨a, e0⟩, by omega⟩
theorem p_sliceMidH {t e : TypeId} {x y z : Operand} {n l h : Nat} {k1 k2 : IntKind} (hH : Held w0 HP enc ys (.slice p ys.length c)) (hx : ev ρ x = some (.slice p ys.length c)) (ht : sliceOf P t e n = true) (hy : ev ρ y = some (.int k1 (l : Nat))) (hz : ev ρ z = some (.int k2 (h : Nat))) (h2 : l ≤ h) (h3 : h ≤ ys.length) :
    PureOp P ⟨ds, .slice t x (some y) (some z) none, ty, pos, aft, g⟩ ρ (.slice (cutV p c l n) (h - l) (c - l)) := by
  rcases hH.nilOrSome with ⟨rfl, rfl, rfl⟩ | ⟨⟨a, rfl⟩, hc⟩
  · obtain rfl : h = 0 := by simpa using h3
    obtain rfl : l = 0 := by omega
    exact p_sliceMidNil hx ht hy hz
  · exact p_sliceMid hx ht hy hz h2 (by omega)
theorem p_sliceFromH {t e : TypeId} {x y : Operand} {n l : Nat} {k1 : IntKind} (hH : Held w0 HP enc ys (.slice p ys.length c)) (hx : ev ρ x = some (.slice p ys.length c)) (ht : sliceOf P t e n = true) (hy : ev ρ y = some (.int k1 (l : Nat))) (h2 : l ≤ ys.length) :
    PureOp P ⟨ds, .slice t x (some y) none none, ty, pos, aft, g⟩ ρ (.slice (cutV p c l n) (ys.length - l) (c - l)) := by
  rcases hH.nilOrSome with ⟨rfl, rfl, rfl⟩ | ⟨⟨a, rfl⟩, hc⟩
  · obtain rfl : l = 0 := by simpa using h2
    exact p_sliceFromNil hx ht hy
  · have := p_sliceFromG (ds := ds) (ty := ty) (pos := pos) (aft := aft) (g := g) hx ht hy (by omega) (by omega) hc
    simpa [cutV] using this
theorem Held.cut {k : Nat} (hu : ∀ ys, Uni enc k ys) (hH : Held w0 HP enc ys (.slice p ys.length c)) (l h : Nat) (h2 : l ≤ h) (h3 : h ≤ ys.length) : Held w0 HP enc ((ys.take h).drop l) (.slice (cutV p c l k) (h - l) (c - l)) := by
  rcases hH.nilOrSome with ⟨rfl, rfl, rfl⟩ | ⟨⟨a, rfl⟩, hc⟩
  · obtain rfl : h = 0 := by simpa using h3
    obtain rfl : l = 0 := by omega
    exact .inl ⟨rfl, rfl⟩
  · exact (hH.take hu h h3).dropN hu (by rw [List.length_take]; omega) l h2
theorem Held.from {k : Nat} (hu : ∀ ys, Uni enc k ys) (hH : Held w0 HP enc ys (.slice p ys.length c)) (l : Nat) (h2 : l ≤ ys.length) : Held w0 HP enc (ys.drop l) (.slice (cutV p c l k) (ys.length - l) (c - l)) := by
  have := hH.cut hu l ys.length h2 (Nat.le_refl _)
  rwa [List.take_length] at this
end
end Go.EL
namespace Go.EL
open Go
theorem RJ.heap {P : Program} {N : Nat} {w0 : World} {T : HS} {ops : Array Oper} {st : List Nat × List Nat} {k : Nat} {l : List Oper} {K : Env → HS → Prop} {ρ : Env} {S : HS} (U : HS) (he : S = U) (h : RXJ P N w0 T ops st k l K ρ U) : RXJ P N w0 T ops st k l K ρ S := by subst he; exact h
end Go.EL

/- Part 29: a list within what a law is given. -/
namespace Go.EL
open Go Go.ChangeShapes Go.WideShapes
section
variable {H : Type} {enc : TypeId × Value → H} {P : Program} {W : World} {sp : Nat → Bool} {held : Bool}
/-- rows of cells of a slice that was handed -/
theorem open_rowsS {t e k : Nat} {v : Value} {d : DataW H} {ps : List MemPlace} (ht : P.underlying t = some (.slice e)) (hk : P.cellsOf e = k) (hsl : ∃ a n c, v = .slice a n c) (hd : DataW.Trod enc P W 0 sp held t v d ps) :
    ∃ ys : List (List Value), (∀ S, RdS W S id ys v) ∧ Uni id k ys ∧ ys.length ≤ maxLen ∧ ∀ y, y ∈ ys → ∃ n x, DataW.trod enc P W 0 sp held n e y = some x := by
  subst hk
  obtain ⟨fuel, hf⟩ := hd
  obtain ⟨a0, len0, cap0, rfl⟩ := hsl
  rcases DataW.trod_slice ht hf with ⟨hc, _⟩ | ⟨a, len, cap, elems, rest, n, _, hc, _, hb, hlc, hcm, hlen, hel, _⟩
  · have hc' : [Value.slice a0 len0 cap0] = [.slice none 0 0] := hc
    simp only [List.cons.injEq, Value.slice.injEq, and_true] at hc'
    obtain ⟨rfl, rfl, rfl⟩ := hc'
    exact ⟨[], fun S => .inl ⟨rfl, rfl⟩, Uni.nil, by simp, fun y h => by cases h⟩
  · have hc' : [Value.slice a0 len0 cap0] = [.slice (some a) len cap] := hc
    simp only [List.cons.injEq, Value.slice.injEq, and_true] at hc'
    obtain ⟨rfl, rfl, rfl⟩ := hc'
    have hrow : ∀ i, i < len0 → ∃ cs x, W.cells? 0 (a.add (i * P.cellsOf e)) (P.cellsOf e) = some cs ∧ DataW.trod enc P W 0 sp held n e cs = some x := by
      intro i hi
      have h1 := hel i hi
      have h2 : elems[i]? = some elems[i] := by simp
      rw [h2, Option.bind_eq_some_iff] at h1
      obtain ⟨cs, h3, h4⟩ := h1
      exact ⟨cs, _, h3, h4⟩
    let f : Nat → List Value := fun i => (W.cells? 0 (a.add (i * P.cellsOf e)) (P.cellsOf e)).getD []
    have hf1 : ∀ i, i < len0 → W.cells? 0 (a.add (i * P.cellsOf e)) (P.cellsOf e) = some (f i) ∧ ∃ x, DataW.trod enc P W 0 sp held n e (f i) = some x := by
      intro i hi
      obtain ⟨cs, x, h1, h2⟩ := hrow i hi
      have : f i = cs := by simp only [f, h1, Option.getD_some]
      rw [this]
      exact ⟨h1, x, h2⟩
    have hlenf : ∀ i, i < len0 → (f i).length = P.cellsOf e := fun i hi => (World.cells?_some (hf1 i hi).1).2.1
    have hcell : ∀ i, i < len0 → ∀ j, j < P.cellsOf e → W.cell? ((a.add (i * P.cellsOf e)).add j) = (f i)[j]? := fun i hi j hj => (World.cells?_some (hf1 i hi).1).2.2 j hj
    have huni : Uni id (P.cellsOf e) ((List.range len0).map f) := by
      intro y hy
      obtain ⟨i, hi, rfl⟩ := List.mem_map.1 hy
      exact hlenf i (List.mem_range.1 hi)
    refine ⟨(List.range len0).map f, fun S => .inr ⟨a, cap0, by simp, RdN.old ?_⟩, huni, by simp; omega, ?_⟩
    · intro j u hj
      have hlt : j < (((List.range len0).map f).flatMap id).length := (List.getElem?_eq_some_iff.1 hj).1
      rw [fm_length huni] at hlt
      simp only [List.length_map, List.length_range] at hlt
      have hk0 : 0 < P.cellsOf e := Nat.pos_of_ne_zero fun h0 => by rw [h0] at hlt; simp at hlt
      have hi : j / P.cellsOf e < len0 := Nat.div_lt_of_lt_mul (by rw [Nat.mul_comm]; exact hlt)
      have hm : j % P.cellsOf e < P.cellsOf e := Nat.mod_lt _ hk0
      have hj2 : j = j / P.cellsOf e * P.cellsOf e + j % P.cellsOf e := by
        have := Nat.div_add_mod j (P.cellsOf e)
        rw [Nat.mul_comm] at this
        exact this.symm
      have hx : ((List.range len0).map f)[j / P.cellsOf e]? = some (f (j / P.cellsOf e)) := by simp [hi]
      have hv : (f (j / P.cellsOf e))[j % P.cellsOf e]? = some ((f (j / P.cellsOf e))[j % P.cellsOf e]'(by rw [hlenf _ hi]; exact hm)) := by simp
      have h1 := fm_get huni (sp := []) (o := j % P.cellsOf e) hx hv
      rw [List.append_nil, ← hj2, hj] at h1
      rw [hj2, ← add_add, hcell _ hi _ hm, hv, h1]
    · intro y hy
      obtain ⟨i, hi, rfl⟩ := List.mem_map.1 hy
      exact ⟨n, (hf1 i (List.mem_range.1 hi)).2⟩
theorem open_capS {t e : Nat} {v : Value} {d : DataW H} {ps : List MemPlace} (ht : P.underlying t = some (.slice e)) (hsl : ∃ a n c, v = .slice a n c) (hd : DataW.Trod enc P W 0 sp held t v d ps) : ∃ p n c, v = .slice p n c ∧ n ≤ c ∧ c ≤ maxLen := by
  obtain ⟨fuel, hf⟩ := hd
  obtain ⟨a0, len0, cap0, rfl⟩ := hsl
  refine ⟨a0, len0, cap0, rfl, ?_⟩
  rcases DataW.trod_slice ht hf with ⟨hc, _⟩ | ⟨a, len, cap, elems, rest, n, _, hc, _, hb, hlc, hcm, _⟩
  · have hc' : [Value.slice a0 len0 cap0] = [.slice none 0 0] := hc
    simp only [List.cons.injEq, Value.slice.injEq, and_true] at hc'
    obtain ⟨rfl, rfl, rfl⟩ := hc'
    exact ⟨Nat.le_refl _, by simp [maxLen]⟩
  · have hc' : [Value.slice a0 len0 cap0] = [.slice (some a) len cap] := hc
    simp only [List.cons.injEq, Value.slice.injEq, and_true] at hc'
    obtain ⟨rfl, rfl, rfl⟩ := hc'
    exact ⟨hlc, hcm⟩
/-- a list that was handed: its elements' rows, that may be read -/
theorem open_heldS {t e k : Nat} {v : Value} {d : DataW H} {ps : List MemPlace} (ht : P.underlying t = some (.slice e)) (hk : P.cellsOf e = k) (hsl : ∃ a n c, v = .slice a n c) (hd : DataW.Trod enc P W 0 sp held t v d ps) :
    ∃ ys : List (List Value), Held W [] id ys v ∧ Uni id k ys ∧ ∀ y, y ∈ ys → ∃ n x, DataW.trod enc P W 0 sp held n e y = some x := by
  obtain ⟨ys, h1, h2, h3, h4⟩ := open_rowsS ht hk hsl hd
  obtain ⟨p, n, c, rfl, h5, h6⟩ := open_capS ht hsl hd
  refine ⟨ys, ?_, h2, h4⟩
  rcases h1 [] with ⟨e1, rfl⟩ | ⟨a, c', e1, _⟩
  · exact .inl ⟨e1, rfl⟩
  · injection e1 with e0 e2 e3
    subst e0; subst e2; subst e3
    refine .inr ⟨a, c, rfl, h5, h6, fun S i _ => ?_⟩
    rcases h1 S with ⟨e1, _⟩ | ⟨a', c', e1, hr⟩
    · cases e1
    · injection e1 with e0 _ _
      injection e0 with e0
      subst e0
      exact hr
theorem slice_of_trod {t e n : Nat} {v : Value} {x : DataW H × List MemPlace} (ht : P.underlying t = some (.slice e)) (h : DataW.trod enc P W 0 sp held n t [v] = some x) : (∃ a n c, v = .slice a n c) ∧ DataW.Trod enc P W 0 sp held t v x.1 x.2 := by
  rcases DataW.trod_slice ht h with ⟨hc, _⟩ | ⟨a, len, cap, elems, rest, n, _, hc, _⟩
  · simp only [List.cons.injEq, and_true] at hc
    subst hc
    exact ⟨⟨_, _, _, rfl⟩, _, h⟩
  · simp only [List.cons.injEq, and_true] at hc
    subst hc
    exact ⟨⟨_, _, _, rfl⟩, _, h⟩
end
end Go.EL

/- Part 30: a region whose order is drawn, walked by hand: what commutes with all that is left is taken first; where two do not commute, both ways are walked. -/
namespace Go.EL
open Go
section
variable {P : Program} {J : World → Prop} {ops : Array Oper} {st : List Nat × List Nat}
/-- nothing that is left stands before i -/
def rdy (b : Array Nat) (L : List Nat) (i : Nat) : Bool := L.all fun j => !(b.getD i 0).testBit j
def AnyN (P : Program) (J : World → Prop) (ops : Array Oper) (st : List Nat × List Nat) (b : Array Nat) (K : Act → World → Prop) : Nat → List Nat → Act → World → Prop
  | 0, L, a, w => L = [] ∧ K a w
  | n + 1, L, a, w => (L = [] → K a w) ∧ ∀ i, i ∈ L → rdy b L i = true → ∃ o, ops[i]? = some o ∧ SOpJ P J ops (modeOf st i) o (AnyN P J ops st b K n (L.erase i)) a w
theorem AnyN.mono (hJd : ∀ w n, J w → J { w with drawn := n }) {b : Array Nat} {K K' : Act → World → Prop} (hk : ∀ a w, K a w → K' a w) : ∀ (n : Nat) (L : List Nat) (a : Act) (w : World), J w → AnyN P J ops st b K n L a w → AnyN P J ops st b K' n L a w
  | 0, L, a, w, _, h => ⟨h.1, hk _ _ h.2⟩
  | n + 1, L, a, w, hJ, h => ⟨fun e => hk _ _ (h.1 e), fun i hi hr => by
    obtain ⟨o, ho, hs⟩ := h.2 i hi hr
    exact ⟨o, ho, SOpJ.mono hJd hJ hs fun a' w' hJ' h' => AnyN.mono hJd hk n _ a' w' hJ' h'⟩⟩
/-- the order of what is bound -/
structure DrawA (ops : Array Oper) (b : Array Nat) : Prop where
  sel : Region.noSelect ops = true
  down : ∀ j oj, ops[j]? = some oj → ∀ e ∈ oj.after, Region.binds .any e = true → e.on < j
  bits : ∀ j oj, ops[j]? = some oj → ∀ i, (b.getD j 0).testBit i = true → i < j ∧ ∃ e ∈ oj.after, Region.binds .any e = true ∧ (e.on = i ∨ (i < e.on ∧ e.on < j ∧ (b.getD e.on 0).testBit i = true))
def okDrawA (ops : Array Oper) (b : Array Nat) : Bool :=
  Region.noSelect ops &&
  (List.range ops.size).all fun j => match ops[j]? with
    | none => true
    | some o =>
      (o.after.toList.all fun e => !Region.binds .any e || decide (e.on < j)) &&
      decide (b.getD j 0 < 2 ^ j) &&
      (List.range j).all (fun i => !(b.getD j 0).testBit i || o.after.toList.any (fun e => Region.binds .any e && (e.on == i || (decide (i < e.on) && decide (e.on < j) && (b.getD e.on 0).testBit i))))
theorem okDrawA_spec {b : Array Nat} (h : okDrawA ops b = true) : DrawA ops b := by
  simp only [okDrawA, Bool.and_eq_true, List.all_eq_true, List.mem_range] at h
  obtain ⟨hs, h⟩ := h
  have hh : ∀ j oj, ops[j]? = some oj → _ := fun j oj hoj => by
    have h1 := h j (Array.getElem?_eq_some_iff.1 hoj).1
    simp only [hoj, Bool.and_eq_true, List.all_eq_true, List.mem_range] at h1
    exact h1
  refine ⟨hs, fun j oj hoj e he hb => ?_, fun j oj hoj i hb => ?_⟩
  · have := (hh j oj hoj).1.1 e (by simpa using he)
    simpa [hb] using this
  · have hlt : b.getD j 0 < 2 ^ j := of_decide_eq_true (hh j oj hoj).1.2
    have hi : i < j := by
      rcases Nat.lt_or_ge i j with h1 | h1
      · exact h1
      · have := Nat.testBit_lt_two_pow (Nat.lt_of_lt_of_le hlt (Nat.pow_le_pow_right (by decide) h1))
        rw [hb] at this
        cases this
    refine ⟨hi, ?_⟩
    have h2 := (hh j oj hoj).2 i hi
    simp only [hb, Bool.not_true, Bool.false_or] at h2
    obtain ⟨e, he, h3⟩ := List.any_eq_true.1 h2
    simp only [Bool.and_eq_true, Bool.or_eq_true, beq_iff_eq, decide_eq_true_eq] at h3
    exact ⟨e, by simpa using he, h3.1, h3.2.imp id fun h4 => ⟨h4.1.1, h4.1.2, h4.2⟩⟩
theorem DrawA.listed {b : Array Nat} (h : DrawA ops b) (listed : Array Bool) (hcl : ∀ j oj, ops[j]? = some oj → listed.getD j false = true → ∀ e ∈ oj.after, Region.binds .any e = true → listed.getD e.on false = true) :
    ∀ (j : Nat) (oj : Oper), ops[j]? = some oj → (∀ e ∈ oj.after, Region.binds .any e = true → listed.getD e.on false = true) → ∀ i, (b.getD j 0).testBit i = true → listed.getD i false = true := by
  intro j
  induction j using Nat.strongRecOn with
  | _ j ih =>
    intro oj hoj hall i hbit
    obtain ⟨hij, e, he, hb1, hb2⟩ := h.bits j oj hoj i hbit
    have hl := hall e he hb1
    rcases hb2 with rfl | ⟨hie, hlt, hbit'⟩
    · exact hl
    · have hj : j < ops.size := (Array.getElem?_eq_some_iff.1 hoj).1
      have hlt' : e.on < ops.size := by omega
      exact ih e.on hlt ops[e.on] (by simp [hlt']) (fun e' he' hb' => hcl e.on ops[e.on] (by simp [hlt']) hl e' he' hb') i hbit'
theorem wpAny_of_any (hJd : ∀ w n, J w → J { w with drawn := n }) {b : Array Nat} (h : DrawA ops b) {K : Act → World → Prop} {Q : Exit → Act → World → Prop} (hq : ∀ a w, K a w → Q .normal a w) : ∀ (fuel : Nat) (listed : Array Bool) (L : List Nat) (a : Act) (w : World),
    (∀ j oj, ops[j]? = some oj → listed.getD j false = true → ∀ e ∈ oj.after, Region.binds .any e = true → listed.getD e.on false = true) → listed.size = ops.size → L = left ops listed → L.length ≤ fuel → J w →
    AnyN P J ops st b K L.length L a w → wpAny P .any ops Q fuel listed a w := by
  have both : ∀ (listed : Array Bool) (i : Nat), listed.size = ops.size → i < ops.size → (listed.getD i true = false ↔ listed.getD i false = false) := by
    intro listed i hs hi
    have : i < listed.size := by omega
    simp [this]
  have none_left : ∀ (listed : Array Bool), listed.size = ops.size → Region.ready .any ops listed = [] → left ops listed = [] := by
    intro listed hs hr
    cases hl : left ops listed with
    | nil => rfl
    | cons i r =>
      exfalso
      have hm : i ∈ left ops listed := by rw [hl]; exact List.mem_cons_self ..
      obtain ⟨hi, hu⟩ := mem_left.1 hm
      have hmin : ∀ k, k < i → listed.getD k false = true := by
        intro k hk
        cases hb : listed.getD k false with
        | true => rfl
        | false =>
          exfalso
          have hk' : k < ops.size := by omega
          have hkm : k ∈ left ops listed := mem_left.2 ⟨hk', (both listed k hs hk').2 hb⟩
          rw [hl] at hkm
          have hsrt := left_sorted ops listed
          rw [hl] at hsrt
          rcases List.mem_cons.1 hkm with rfl | hkm
          · omega
          · have := (List.pairwise_cons.1 hsrt).1 k hkm
            omega
      have : i ∈ Region.ready .any ops listed := mem_ready.2 ⟨hu, ops[i], by simp [hi], fun e he hb => hmin e.on (h.down i ops[i] (by simp [hi]) e he hb)⟩
      rw [hr] at this
      cases this
  intro fuel
  induction fuel with
  | zero =>
    intro listed L a w hcl hs hL hle hJ hx
    have hnil : L = [] := List.eq_nil_of_length_eq_zero (by omega)
    subst hnil
    refine ⟨?_, hq _ _ hx.2⟩
    cases hr : Region.ready .any ops listed with
    | nil => rfl
    | cons i r =>
      have hm : i ∈ Region.ready .any ops listed := by rw [hr]; exact List.mem_cons_self ..
      obtain ⟨hu, o, ho, _⟩ := mem_ready.1 hm
      have : i ∈ left ops listed := mem_left.2 ⟨(Array.getElem?_eq_some_iff.1 ho).1, hu⟩
      rw [← hL] at this
      cases this
  | succ fuel ih =>
    intro listed L a w hcl hs hL hle hJ hx
    refine ⟨fun hr => ?_, fun i hi => ?_⟩
    · have hnil : L = [] := by rw [hL]; exact none_left listed hs hr
      subst hnil
      exact hq _ _ hx.2
    · obtain ⟨hu, oi, hoi, hall⟩ := mem_ready.1 hi
      have hil : i < ops.size := (Array.getElem?_eq_some_iff.1 hoi).1
      have hm : i ∈ L := by rw [hL]; exact mem_left.2 ⟨hil, hu⟩
      have hr : rdy b L i = true := by
        simp only [rdy, List.all_eq_true, Bool.not_eq_true']
        intro j hj
        cases hb : (b.getD i 0).testBit j with
        | false => rfl
        | true =>
          exfalso
          have h1 := h.listed listed hcl i oi hoi hall j hb
          rw [hL] at hj
          obtain ⟨hjs, hju⟩ := mem_left.1 hj
          rw [(both listed j hs hjs).1 hju] at h1
          cases h1
      obtain ⟨n, hn⟩ : ∃ n, L.length = n + 1 := ⟨L.length - 1, by have := List.length_pos_of_mem hm; omega⟩
      rw [hn] at hx
      obtain ⟨o, ho, hsop⟩ := hx.2 i hm hr
      obtain rfl : o = oi := Option.some.inj (ho.symm.trans hoi)
      have hlen : (L.erase i).length = n := by rw [List.length_erase_of_mem hm]; omega
      refine wpOp_mono (fun a' w' hh => ?_) (SOpJ.wpOp hJd hJ hoi hsop)
      obtain ⟨hJ', hk⟩ := hh
      rw [← hlen] at hk
      refine ih _ (L.erase i) a' w' ?_ (by simp [hs]) ?_ (by omega) hJ' hk
      · intro j oj hoj hl e he hb
        by_cases hij : i = j
        · subst hij
          have : oj = o := Option.some.inj (hoj.symm.trans hoi)
          subst this
          exact getD_set_true (hall e he hb)
        · rw [getD_set_ne false hij] at hl
          exact getD_set_true (hcl j oj hoj hl e he hb)
      · have hnd : L.Nodup := by rw [hL]; exact (left_sorted ops listed).imp (fun h => Nat.ne_of_lt h)
        rw [left_set, ← hL, hnd.erase_eq_filter]
theorem wp_drawA (hJd : ∀ w n, J w → J { w with drawn := n }) {b : Array Nat} (hm : P.follows .mixedOrders = true) (h : DrawA ops b) {K : Act → World → Prop} {Q : Exit → Act → World → Prop} (hq : ∀ a w, K a w → Q .normal a w) {id : Nat} {a : Act} {w : World} (hJ : J { w with drawn := w.drawn + 1 })
    (hx : AnyN P J ops st b K ops.size (List.range ops.size) a { w with drawn := w.drawn + 1 }) : (Code.region id ops true).wp P Q a w := by
  have hl : left ops (Array.replicate ops.size false) = List.range ops.size := by
    unfold left
    refine List.filter_eq_self.2 fun i hi => ?_
    have : i < ops.size := List.mem_range.1 hi
    simp [this]
  refine wp_region_any hm (wpAny_of_any hJd h hq ops.size _ (List.range ops.size) a _ ?_ (by simp) hl.symm (by simp) hJ (by simpa using hx))
  intro j oj hoj hl'
  have : j < ops.size := (Array.getElem?_eq_some_iff.1 hoj).1
  simp [this] at hl'
/-- what commutes with all that is left is taken first -/
theorem AnyN.free (hJd : ∀ w n, J w → J { w with drawn := n }) (hsel : Region.noSelect ops = true) {b : Array Nat} {K : Act → World → Prop} {h : Nat} {oh : Oper} (hoh : ops[h]? = some oh) : ∀ (n : Nat) (L : List Nat) (a : Act) (w : World), L.length = n + 1 → L.Nodup → h ∈ L → (∀ i, i ∈ L → i ≠ h → (b.getD i 0).testBit h = true ∨ harmlessJ ops st i h = true) → (∀ i, i ∈ L → ∃ o, ops[i]? = some o) → J w →
    SOpJ P J ops (modeOf st h) oh (AnyN P J ops st b K n (L.erase h)) a w → AnyN P J ops st b K (n + 1) L a w := by
  intro n
  induction n with
  | zero =>
    intro L a w hl hnd hm hf ho hJ hx
    obtain ⟨x, rfl⟩ := List.length_eq_one_iff.1 hl
    obtain rfl : h = x := by simpa using hm
    exact ⟨fun e => (by cases e), fun i hi _ => by
      obtain rfl : i = h := by simpa using hi
      exact ⟨oh, hoh, hx⟩⟩
  | succ n ih =>
    intro L a w hl hnd hm hf ho hJ hx
    refine ⟨fun e => (by rw [e] at hm; cases hm), fun i hi hr => ?_⟩
    by_cases hih : i = h
    · subst hih
      exact ⟨oh, hoh, hx⟩
    · obtain ⟨oi, hoi⟩ := ho i hi
      refine ⟨oi, hoi, ?_⟩
      have hbit : (b.getD i 0).testBit h = false := by
        simp only [rdy, List.all_eq_true, Bool.not_eq_true'] at hr
        exact hr h hm
      have hharm : harmlessJ ops st i h = true := by
        rcases hf i hi hih with h1 | h1
        · rw [hbit] at h1; cases h1
        · exact h1
      simp only [harmlessJ, hoi, hoh, Bool.and_eq_true] at hharm
      have hmi : i ∈ L.erase h := (List.mem_erase_of_ne hih).2 hi
      have hmh : h ∈ L.erase i := (List.mem_erase_of_ne (Ne.symm hih)).2 hm
      have h2 : SOpJ P J ops (modeOf st h) oh (SOpJ P J ops (modeOf st i) oi (AnyN P J ops st b K n ((L.erase h).erase i))) a w := SOpJ.mono hJd hJ hx fun a' w' hJ' h' => by
        obtain ⟨o, hoo, hs⟩ := h'.2 i hmi (by
          simp only [rdy, List.all_eq_true, Bool.not_eq_true'] at hr ⊢
          exact fun j hj => hr j (List.mem_of_mem_erase hj))
        obtain rfl : o = oi := Option.some.inj (hoo.symm.trans hoi)
        exact hs
      have h3 := SOpJ.swap hJd hharm.1 (Region.noSelect_spec hsel i oi · · hoi) (Region.noSelect_spec hsel h oh · · hoh) hharm.2 hJ h2
      refine SOpJ.mono hJd hJ h3 fun a' w' hJ' h' => ?_
      refine ih (L.erase i) a' w' (by rw [List.length_erase_of_mem hi]; omega) (hnd.erase i) hmh (fun j hj hjh => hf j (List.mem_of_mem_erase hj) hjh) (fun j hj => ho j (List.mem_of_mem_erase hj)) hJ' ?_
      rw [List.erase_comm]
      exact h'
end
/-! ### the same over the state -/
section
variable {P : Program} {N : Nat} {w0 : World} {T : HS} {ops : Array Oper} {st : List Nat × List Nat}
def RXA (P : Program) (N : Nat) (w0 : World) (T : HS) (ops : Array Oper) (st : List Nat × List Nat) (L : List Nat) (K : Env → HS → Prop) (ρ : Env) (S : HS) : Prop :=
  ∀ F a w, Fits N a ρ → Inv w0 (S.flatten ++ (T.flatten ++ F)) w → AnyN P (keeps w0 T) ops st (Region.before ops) (fun a' w' => ∃ ρ' S', K ρ' S' ∧ Fits N a' ρ' ∧ Inv w0 (S'.flatten ++ (T.flatten ++ F)) w') L.length L a w
theorem WP.drawA {id : Nat} {l : List Oper} {Q : Exit → Env → HS → Prop} {ρ : Env} {S S1 : HS} (st : List Nat × List Nat) (idx : List Nat) (L : List Nat) (hL : List.range l.length = L) (hm : P.follows .mixedOrders = true) (hc : okDrawA l.toArray (Region.before l.toArray) = true) (ho : okIdx idx S.length = true) (hT : pick idx S = T) (hS : others idx 0 S = S1)
    (h : RXA P N w0 T l.toArray st L (fun ρ S' => Q .normal ρ (S' ++ T)) ρ S1) : WP P N w0 (.region id l.toArray true) Q ρ S := by
  intro F a w hf hi
  have hp : S.Perm (T ++ S1) := by rw [← hT, ← hS]; exact pick_perm idx ho
  have hi2 : Inv w0 (S1.flatten ++ (T.flatten ++ F)) { w with drawn := w.drawn + 1 } := (hi.drawn _).perm (by
    have h1 : S.flatten.Perm (T.flatten ++ S1.flatten) := by rw [← List.flatten_append]; exact hp.flatten
    rw [← List.append_assoc]
    exact (h1.append_right F).trans (List.perm_append_comm.append_right F))
  subst hL
  have hx := h F a _ hf hi2
  rw [List.length_range] at hx
  refine wp_drawA keeps_drawn hm (okDrawA_spec hc) ?_ (keeps_of hi2) (by simpa using hx)
  rintro a' w' ⟨ρ', S', hq, hf', hi'⟩
  exact ⟨ρ', S' ++ T, hq, hf', by rw [List.flatten_append, List.append_assoc]; exact hi'⟩
theorem RXA.nil {K : Env → HS → Prop} {ρ : Env} {S : HS} (h : K ρ S) : RXA P N w0 T ops st [] K ρ S := fun _ _ _ hf hi => ⟨rfl, ρ, S, h, hf, hi⟩
def okFree (ops : Array Oper) (st : List Nat × List Nat) (L : List Nat) (h : Nat) : Bool :=
  Region.noSelect ops && L.Nodup && L.contains h && (L.all fun i => i == h || ((Region.before ops).getD i 0).testBit h || harmlessJ ops st i h) && L.all fun i => (ops[i]?).isSome
theorem RXA.free {L L' : List Nat} {K : Env → HS → Prop} {ρ : Env} {S : HS} (h : Nat) {o : Oper} (hc : okFree ops st L h = true) (ho : ops[h]? = some o) (hL : L.erase h = L')
    (hx : RXJ P N w0 T ops st h [o] (fun ρ S => RXA P N w0 T ops st L' K ρ S) ρ S) : RXA P N w0 T ops st L K ρ S := by
  intro F a w hf hi
  subst hL
  simp only [okFree, Bool.and_eq_true, List.all_eq_true, Bool.or_eq_true, beq_iff_eq, decide_eq_true_eq] at hc
  obtain ⟨⟨⟨⟨h1, h2⟩, h3⟩, h4⟩, h5⟩ := hc
  have hm : h ∈ L := by simpa using h3
  obtain ⟨n, hn⟩ : ∃ n, L.length = n + 1 := ⟨L.length - 1, by have := List.length_pos_of_mem hm; omega⟩
  rw [hn]
  refine AnyN.free keeps_drawn h1 ho n L a w hn h2 hm (fun i hi' hne => ?_) (fun i hi' => Option.isSome_iff_exists.1 (h5 i hi')) (keeps_of hi) ?_
  · rcases h4 i hi' with (e | e) | e
    · exact absurd e hne
    · exact .inl e
    · exact .inr e
  · have hh := hx F a w hf hi
    refine SOpJ.mono keeps_drawn (keeps_of hi) hh fun a' w' _ hk => ?_
    obtain ⟨ρ', S', hk', hf', hi'⟩ := hk
    have := hk' F a' w' hf' hi'
    rwa [List.length_erase_of_mem hm, hn] at this
def okTwo (ops : Array Oper) (L : List Nat) (i j : Nat) : Bool := L.contains i && L.all fun k => k == i || k == j || !(rdy (Region.before ops) L k)
/-- two may come next: both ways -/
theorem RXA.two {L L1 L2 : List Nat} {K : Env → HS → Prop} {ρ : Env} {S : HS} (i j : Nat) {oi oj : Oper} (hc : okTwo ops L i j = true) (hoi : ops[i]? = some oi) (hoj : ops[j]? = some oj) (hL1 : L.erase i = L1) (hL2 : L.erase j = L2)
    (h1 : RXJ P N w0 T ops st i [oi] (fun ρ S => RXA P N w0 T ops st L1 K ρ S) ρ S) (h2 : RXJ P N w0 T ops st j [oj] (fun ρ S => RXA P N w0 T ops st L2 K ρ S) ρ S) : RXA P N w0 T ops st L K ρ S := by
  intro F a w hf hi
  subst hL1; subst hL2
  simp only [okTwo, Bool.and_eq_true, List.all_eq_true, Bool.or_eq_true, beq_iff_eq, Bool.not_eq_true'] at hc
  obtain ⟨h3, h4⟩ := hc
  have hm : i ∈ L := by simpa using h3
  obtain ⟨n, hn⟩ : ∃ n, L.length = n + 1 := ⟨L.length - 1, by have := List.length_pos_of_mem hm; omega⟩
  rw [hn]
  refine ⟨fun e => (by rw [e] at hm; cases hm), fun k hk hr => ?_⟩
  have use : ∀ (k : Nat) (ok : Oper), k ∈ L → RXJ P N w0 T ops st k [ok] (fun ρ S => RXA P N w0 T ops st (L.erase k) K ρ S) ρ S → SOpJ P (keeps w0 T) ops (modeOf st k) ok (AnyN P (keeps w0 T) ops st (Region.before ops) (fun a' w' => ∃ ρ' S', K ρ' S' ∧ Fits N a' ρ' ∧ Inv w0 (S'.flatten ++ (T.flatten ++ F)) w') n (L.erase k)) a w := by
    intro k ok hk hx
    have hh := hx F a w hf hi
    refine SOpJ.mono keeps_drawn (keeps_of hi) hh fun a' w' _ hk' => ?_
    obtain ⟨ρ', S', hk', hf', hi'⟩ := hk'
    have := hk' F a' w' hf' hi'
    rwa [List.length_erase_of_mem hk, hn] at this
  rcases h4 k hk with (rfl | rfl) | hf'
  · exact ⟨oi, hoi, use k oi hk h1⟩
  · exact ⟨oj, hoj, use k oj hk h2⟩
  · rw [hr] at hf'; cases hf'
end
end Go.EL
