/- Part 26: slices that are only read, cut, nil or not. -/
import Derived.Test.YtigjnfmbellpjaaDoorEL21
import Derived.Test.YtigjnfmbellpjaaDoorEL16
import Derived.Stop.LaidErr
namespace Go.EL
open Go
section
variable {P : Program} {w0 : World} {α : Type} {ρ : Env} {ds : Option Nat} {ty : TypeId} {pos : String} {aft : Array Edge} {g : Option (Nat × Bool)}
theorem Held.takeP {HP : Hp} {enc : α → List Value} {k : Nat} (hu : ∀ ys, Uni enc k ys) {ys : List α} {p : Option Addr} {c : Nat} (h : Held w0 HP enc ys (.slice p ys.length c)) (n : Nat) (hn : n ≤ ys.length) : Held w0 HP enc (ys.take n) (.slice p n c) := by
  cases p with
  | some a => exact h.take hu n hn
  | none =>
    rcases h with ⟨e, hnil⟩ | ⟨a, c', e, _⟩
    · injection e with _ e2 e3
      subst hnil; subst e3
      have : n = 0 := by simpa using hn
      subst this
      exact .inl ⟨rfl, rfl⟩
    · injection e with e1; cases e1
theorem Held.dropN {HP : Hp} {enc : α → List Value} {k : Nat} (hu : ∀ ys, Uni enc k ys) {ys : List α} {a : Addr} {n c : Nat} (h : Held w0 HP enc ys (.slice (some a) n c)) (hl : ys.length = n) (m : Nat) (hm : m ≤ n) :
    Held w0 HP enc (ys.drop m) (.slice (some (if c = m then a else a.add (m * k))) (n - m) (c - m)) := by
  subst hl
  exact h.drop hu m hm
theorem p_sliceToH {HP : Hp} {enc : α → List Value} {ys : List α} {p : Option Addr} {c j n : Nat} {t e : TypeId} {x y : Operand} {k : IntKind} (hH : Held w0 HP enc ys (.slice p ys.length c)) (hx : ev ρ x = some (.slice p ys.length c)) (ht : sliceOf P t e n = true) (hy : ev ρ y = some (.int k (j : Nat))) (hj : j ≤ ys.length) :
    PureOp P ⟨ds, .slice t x none (some y) none, ty, pos, aft, g⟩ ρ (.slice p j c) := by
  rcases hH with ⟨e1, hnil⟩ | ⟨a, c', e1, h1, _⟩
  · injection e1 with e0 e2 e3
    subst hnil; subst e3; subst e0
    have : j = 0 := by simpa using hj
    subst this
    exact p_sliceToNil hx ht hy
  · injection e1 with e0 e2 e3
    subst e0; subst e3
    have := p_sliceToG (ds := ds) (ty := ty) (pos := pos) (aft := aft) (g := g) hx ht hy (by omega) (by omega)
    simpa using this
theorem p_sliceMid {t e : TypeId} {x y z : Operand} {n len cap l h : Nat} {a' : Addr} {k1 k2 : IntKind} (hx : ev ρ x = some (.slice (some a') len cap)) (ht : sliceOf P t e n = true) (hy : ev ρ y = some (.int k1 (l : Nat))) (hz : ev ρ z = some (.int k2 (h : Nat))) (h2 : l ≤ h) (h3 : h ≤ cap) :
    PureOp P ⟨ds, .slice t x (some y) (some z) none, ty, pos, aft, g⟩ ρ (.slice (some (if cap = l then a' else a'.add (l * n))) (h - l) (cap - l)) := by
  have := p_sliceG (ds := ds) (ty := ty) (pos := pos) (aft := aft) (g := g) (lo := some y) (hi := some z) (l := l) (h := h) (kl := k1) (kh := k2) hx ht hy (fun e => by cases e) hz (fun e => by cases e) (by omega) (by omega) (by omega)
  simpa using this
end
end Go.EL

/- Part 27: lists that a law is given, opened as slices that are only read; tables that are laid. -/
namespace Go.EL
open Go Go.ChangeShapes Go.WideShapes
theorem choose_map {α β : Type} {f : α → β} : ∀ {ys : List β}, (∀ y, y ∈ ys → ∃ u, f u = y) → ∃ us : List α, us.map f = ys
  | [], _ => ⟨[], rfl⟩
  | y :: ys, h => by
    obtain ⟨u, hu⟩ := h y (List.mem_cons_self ..)
    obtain ⟨us, hus⟩ := choose_map (f := f) (ys := ys) fun z hz => h z (List.mem_cons_of_mem _ hz)
    exact ⟨u :: us, by rw [List.map_cons, hu, hus]⟩
section
variable {H : Type} {enc : TypeId × Value → H} {P : Program} {W : World} {sp : Nat → Bool} {held : Bool}
theorem open_cap {t e b0 : Nat} {v : Value} {d : DataW H} {ps : List MemPlace} {r : Reach} (ht : P.underlying t = some (.slice e)) (hval : Value.okWide P W r b0 t v) (hd : DataW.Trod enc P W 0 sp held t v d ps) : ∃ p n c, v = .slice p n c ∧ n ≤ c ∧ c ≤ maxLen := by
  obtain ⟨fuel, hf⟩ := hd
  obtain ⟨a0, len0, cap0, rfl⟩ := okWide_slice ht hval
  refine ⟨a0, len0, cap0, rfl, ?_⟩
  rcases DataW.trod_slice ht hf with ⟨hc, _⟩ | ⟨a, len, cap, elems, rest, n, _, hc, _, hb, hlc, hcm, _⟩
  · have hc' : [Value.slice a0 len0 cap0] = [.slice none 0 0] := hc
    simp only [List.cons.injEq, Value.slice.injEq, and_true] at hc'
    obtain ⟨rfl, rfl, rfl⟩ := hc'
    exact ⟨Nat.le_refl _, by simp [maxLen]⟩
  · have hc' : [Value.slice a0 len0 cap0] = [.slice (some a) len cap] := hc
    simp only [List.cons.injEq, Value.slice.injEq, and_true] at hc'
    obtain ⟨rfl, rfl, rfl⟩ := hc'
    exact ⟨hlc, hcm⟩
/-- a list that was handed: its elements' rows, that may be read -/
theorem open_held {t e k b0 : Nat} {v : Value} {d : DataW H} {ps : List MemPlace} {r : Reach} (ht : P.underlying t = some (.slice e)) (hk : P.cellsOf e = k) (hval : Value.okWide P W r b0 t v) (hd : DataW.Trod enc P W 0 sp held t v d ps) :
    ∃ ys : List (List Value), Held W [] id ys v ∧ Uni id k ys ∧ ∀ y, y ∈ ys → ∃ n x, DataW.trod enc P W 0 sp held n e y = some x := by
  obtain ⟨ys, h1, h2, h3, h4⟩ := open_rows ht hk hval hd
  obtain ⟨p, n, c, rfl, h5, h6⟩ := open_cap ht hval hd
  refine ⟨ys, ?_, h2, h4⟩
  rcases h1 [] with ⟨e1, rfl⟩ | ⟨a, c', e1, _⟩
  · exact .inl ⟨e1, rfl⟩
  · injection e1 with e0 e2 e3
    subst e0; subst e2; subst e3
    refine .inr ⟨a, c, rfl, h5, h6, fun S i _ => ?_⟩
    rcases h1 S with ⟨e1, _⟩ | ⟨a', c', e1, hr⟩
    · cases e1
    · injection e1 with e0 _ _
      injection e0 with e0
      subst e0
      exact hr
theorem Held.conv {w0 : World} {HP : Hp} {α β : Type} {enc : α → List Value} {enc' : β → List Value} {ys : List α} {zs : List β} {v : Value} (h : Held w0 HP enc ys v) (he : ys.map enc = zs.map enc') : Held w0 HP enc' zs v := by
  have hl : ys.length = zs.length := by simpa using congrArg List.length he
  have hf : ys.flatMap enc = zs.flatMap enc' := by rw [List.flatMap_def, List.flatMap_def, he]
  rcases h with ⟨rfl, rfl⟩ | ⟨a, c, rfl, h1, h2, h3⟩
  · refine .inl ⟨rfl, ?_⟩
    cases zs with
    | nil => rfl
    | cons z zs => simp at hl
  · exact .inr ⟨a, c, by rw [hl], by omega, h2, fun S i hi => by rw [← hf]; exact h3 S i hi⟩
/-- an array of numbers, opened -/
theorem ints_of_trod {t e n m : Nat} {q : IntKind} {cs : List Value} {x : DataW H × List MemPlace} (ht : P.underlying t = some (.array n e)) (hc : P.cellsOf t = n) (he : P.underlying e = some (.int q)) (hce : P.cellsOf e = 1) (h : DataW.trod enc P W 0 sp held m t cs = some x) :
    ∃ ns : List Int, ns.map (Value.int q) = cs ∧ ns.length = n ∧ (∀ k, k ∈ ns → (Lit.int q k).wf = true) ∧ x.1 = .agg (ns.map fun k => .lit (.int q k)) := by
  obtain ⟨xs, m', _, hx, hl, hxl, hf⟩ := DataW.trod_array ht h
  rw [hc] at hl
  have hcell : ∀ i, i < n → ∃ k, cs[i]? = some (.int q k) ∧ (Lit.int q k).wf = true ∧ xs[i]? = some (.lit (.int q k), []) := by
    intro i hi
    have h1 := hf i hi
    have hlt : i < cs.length := by omega
    have hlx : i < xs.length := by omega
    rw [hce, Nat.mul_one, List.drop_eq_getElem_cons hlt, List.take_succ_cons, List.take_zero, List.getElem?_eq_getElem hlx] at h1
    obtain ⟨k, h2, h3, h4⟩ := DataW.trod_int he h1
    simp only [List.cons.injEq, and_true] at h2
    exact ⟨k, by rw [List.getElem?_eq_getElem hlt, h2], h4, by rw [List.getElem?_eq_getElem hlx, h3]⟩
  obtain ⟨ns, hns⟩ := choose_map (f := Value.int q) (ys := cs) fun y hy => by
    obtain ⟨i, hi⟩ := List.mem_iff_getElem?.1 hy
    obtain ⟨k, hk, _⟩ := hcell i (by rw [← hl]; exact (List.getElem?_eq_some_iff.1 hi).1)
    rw [hi] at hk
    exact ⟨k, (Option.some.inj hk).symm⟩
  have hnl : ns.length = n := by rw [← hl, ← hns]; simp
  have hget : ∀ (i : Nat) (k : Int), ns[i]? = some k → (Lit.int q k).wf = true ∧ xs[i]? = some (.lit (.int q k), []) := by
    intro i k hi
    have hlt : i < n := by rw [← hnl]; exact (List.getElem?_eq_some_iff.1 hi).1
    obtain ⟨k', h1, h2, h3⟩ := hcell i hlt
    rw [← hns, List.getElem?_map, hi] at h1
    simp only [Option.map_some, Option.some.injEq, Value.int.injEq, true_and] at h1
    subst h1
    exact ⟨h2, h3⟩
  refine ⟨ns, hns, hnl, fun k hk => ?_, ?_⟩
  · obtain ⟨i, hi⟩ := List.mem_iff_getElem?.1 hk
    exact (hget i k hi).1
  · rw [hx]
    show DataW.agg _ = DataW.agg _
    congr 1
    apply List.ext_getElem?
    intro i
    rw [List.getElem?_map, List.getElem?_map]
    cases hi : ns[i]? with
    | some k => rw [(hget i k hi).2]; rfl
    | none =>
      have : xs[i]? = none := by
        rw [List.getElem?_eq_none_iff] at hi ⊢
        omega
      rw [this]; rfl
end
/-- a table of numbers that is laid -/
theorem tab_of {P : Program} {n : String} {ns : List Int} {q : IntKind} {r : List (String × DataW Unit)} {W : World} {g t e len : Nat} (h : laidMet P ((n, .agg (ns.map fun k => .lit (.int q k))) :: r) W) (hg : P.globalNamed n = some g) (ht : (P.globals[g]?).map (·.type) = some t)
    (hu : P.underlying t = some (.array len e)) (hc : P.cellsOf t = len) (he : P.underlying e = some (.int q)) (hce : P.cellsOf e = 1) : ∀ j, j < len → W.cell? ⟨g, j, none⟩ = some (.int q (ns.getD j 0)) := by
  obtain ⟨ps, ⟨g0, t0, cs0, f0, p0, q0, hg0, ht0, hv0, hd0, _, _⟩, _, _⟩ := h
  obtain rfl := Option.some.inj (hg.symm.trans hg0)
  obtain rfl := Option.some.inj (ht.symm.trans ht0)
  obtain ⟨ms, hms, hml, _, hx⟩ := ints_of_trod hu hc he hce hd0
  have hinj : ns = ms := by
    simp only [DataW.agg.injEq] at hx
    have key : ∀ {x y : List Int}, (x.map fun k => (DataW.lit (.int q k) : DataW Unit)) = y.map (fun k => .lit (.int q k)) → x = y := by
      intro x
      induction x with
      | nil => intro y h; cases y with | nil => rfl | cons _ _ => simp at h
      | cons a x ih => intro y h; cases y with
        | nil => simp at h
        | cons b y => simp only [List.map_cons, List.cons.injEq, DataW.lit.injEq, Lit.int.injEq, true_and] at h; rw [h.1, ih h.2]
    exact key hx
  subst hinj
  intro j hj
  rw [World.var?_cell hg0 hv0 j]
  have : cs0[j]? = cs0.toList[j]? := by simp
  rw [this, ← hms, List.getElem?_map]
  have hlt : j < ns.length := by omega
  simp [hlt]
theorem laid_drop {P : Program} {W : World} : ∀ (k : Nat) {l : List (String × DataW Unit)}, laidMet P l W → laidMet P (l.drop k) W
  | 0, _, h => by simpa using h
  | k + 1, [], h => by simpa using h
  | k + 1, x :: r, h => by rw [List.drop_succ_cons]; exact laid_drop k h.tail
end Go.EL
