/- Part 4: operations that read, store, make memory; calls. -/
import Derived.Test.YtigjnfmbellpjaaDoorEL3
namespace Go.EL
open Go

section
variable {P : Program} {N : Nat} {w0 : World}

/-! ### what may be read -/
def Rd (w0 : World) (S : HS) (a : Addr) (v : Value) : Prop := ∀ F w, Inv w0 (S.flatten ++ F) w → w.cell? a = some v
def RdN (w0 : World) (S : HS) (a : Addr) (vs : List Value) : Prop := ∀ F w, Inv w0 (S.flatten ++ F) w → ∀ j u, vs[j]? = some u → w.cell? (a.add j) = some u
/-- a row of cells of one's own -/
abbrev row (cs : List Value) (t : TypeId) : Obj := .cells ⟨cs⟩ t (0, 0)

theorem Rd.own {S : HS} {b o : Nat} {cs : Array Value} {t : TypeId} {fr : Nat × Nat} {v : Value} (i : Nat) (h : At S i b (.cells cs t fr)) (hv : cs[o]? = some v) : Rd w0 S ⟨b, o, none⟩ v := by
  intro F w hi
  have := (hi.at h).2
  simp [World.cell?, this, hv]
theorem Rd.old {S : HS} {a : Addr} {v : Value} (h : w0.cell? a = some v) : Rd w0 S a v := by
  intro F w hi
  have hlt : a.block < w0.heap.size := World.block_lt_of_cell? w0 a h
  rw [← h]
  exact World.cell?_of_block (hi.old a.block hlt)
theorem RdN.own {S : HS} {b o : Nat} {cs : Array Value} {t : TypeId} {fr : Nat × Nat} {vs : List Value} (i : Nat) (h : At S i b (.cells cs t fr)) (hv : (cs.toList.drop o).take vs.length = vs) : RdN w0 S ⟨b, o, none⟩ vs := by
  intro F w hi j u hj
  have := (hi.at h).2
  rw [addr_add]
  have hj' : ((cs.toList.drop o).take vs.length)[j]? = some u := by rw [hv]; exact hj
  rw [List.getElem?_take] at hj'
  split at hj'
  · simp [World.cell?, this]
    simpa using hj'
  · cases hj'
theorem RdN.old {S : HS} {a : Addr} {vs : List Value} (h : ∀ j u, vs[j]? = some u → w0.cell? (a.add j) = some u) : RdN w0 S a vs :=
  fun F w hi j u hj => Rd.old (h j u hj) F w hi
theorem RdN.one {S : HS} {a : Addr} {v : Value} (h : Rd w0 S a v) : RdN w0 S a [v] := by
  intro F w hi j u hj
  cases j with
  | zero => simp at hj; subst hj; exact h F w hi
  | succ j => simp at hj

theorem run_loads {w : World} {a : Addr} {vs : List Value} (h : ∀ j u, vs[j]? = some u → w.cell? (a.add j) = some u) : (loadCells a vs.length).run P w = .ok ⟨vs⟩ w := by
  have h2 := run_firstCells_some (P := P) w 1 vs.length a 0 0 vs (by simp) h
  simpa [Builtin.firstCells] using h2

section ops
variable {ρ : Env} {S : HS} {ds : Option Nat} {ty : TypeId} {pos : String} {aft : Array Edge} {g : Option (Nat × Bool)}

theorem r_load {t : TypeId} {x : Operand} {a : Addr} {v : Value} (hx : ev ρ x = some (.pointer (some a))) (ht : notAgg P t = true) (hr : Rd w0 S a v) : ReadOp P w0 ⟨ds, .load t x, ty, pos, aft, g⟩ ρ S v := fun F a' w hs hi => by
  simp [execOp, hs x _ hx, Instr.loadAt, Instr.sureAddr, loadVar, notAgg_run ht, hr F w hi]
theorem r_loadA {t : TypeId} {x : Operand} {a : Addr} {vs : List Value} {n : Nat} (hx : ev ρ x = some (.pointer (some a))) (ht : aggOf P t n = true) (hr : RdN w0 S a vs) (hl : vs.length = n) : ReadOp P w0 ⟨ds, .load t x, ty, pos, aft, g⟩ ρ S (.agg ⟨vs⟩) := fun F a' w hs hi => by
  subst hl
  have h := run_loads (P := P) (hr F w hi)
  simp [execOp, hs x _ hx, Instr.loadAt, Instr.sureAddr, loadVar, aggOf_run ht, sizeIs_run (aggOf_size ht), h]

/-- one cell of a value -/
def one : Value → Bool
  | .agg _ => false
  | .tuple _ => false
  | _ => true
theorem one_cells {v : Value} (h : one v = true) : v.cells = #[v] := by cases v <;> simp [one] at h <;> rfl
def ones (vs : List Value) : Bool := vs.all one
theorem ones_mem {vs : List Value} (h : ones vs = true) : ∀ v ∈ vs, one v = true := fun v hv => by
  simp only [ones, List.all_eq_true] at h
  exact h v hv
theorem one_oneCell {v : Value} (h : one v = true) : v.oneCell' = true := by cases v <;> simp [one] at h <;> rfl

theorem setCell_heap (w : World) (b o : Nat) (v : Value) (cs : Array Value) (t : TypeId) (fr : Nat × Nat) (h : w.heap[b]? = some (.cells cs t fr)) : (w.setCell ⟨b, o, none⟩ v).heap = w.heap.setIfInBounds b (.cells (cs.setIfInBounds o v) t fr) := by
  obtain ⟨hlt, hb⟩ := Array.getElem?_eq_some_iff.1 h
  apply Array.ext
  · simp [World.setCell]
  · intro k h1 h2
    by_cases hk : b = k
    · subst hk
      simp only [World.setCell]
      rw [Array.getElem_modify, if_pos rfl, hb]
      simp
    · simp only [World.setCell]
      rw [Array.getElem_modify, if_neg hk, Array.getElem_setIfInBounds_ne _ hk]

theorem set_same {α : Type} {l : List α} {i : Nat} {x : α} (h : l[i]? = some x) : l.set i x = l := by
  obtain ⟨hlt, he⟩ := List.getElem?_eq_some_iff.1 h
  subst he
  simp
/-- many stores in a row -/
theorem run_stores {S : HS} {F : Hp} {i b : Nat} {t : TypeId} : ∀ (vs cs : List Value) (o k : Nat) (w : World), Inv w0 (S.flatten ++ F) w → At S i b (row cs t) → (∀ v ∈ vs, one v = true) → o + k + vs.length ≤ cs.length →
    ∃ w', (storeCells ⟨b, o, none⟩ vs k).run P w = .ok () w' ∧ Inv w0 ((S.set i [(b, row (cs.take (o + k) ++ vs ++ cs.drop (o + k + vs.length)) t)]).flatten ++ F) w'
  | [], cs, o, k, w, hi, ha, _, _ => by
    refine ⟨w, by simp [storeCells], ?_⟩
    have : S.set i [(b, row (cs.take (o + k) ++ [] ++ cs.drop (o + k + ([] : List Value).length)) t)] = S := by
      simp only [List.append_nil, List.length_nil, Nat.add_zero, List.take_append_drop]
      exact set_same ha
    rw [this]
    exact hi
  | v :: vs, cs, o, k, w, hi, ha, h1, hl => by
    simp only [List.length_cons] at hl
    have hb := hi.at ha
    have hc : w.cell? ⟨b, o + k, none⟩ = some (cs[o + k]'(by omega)) := by
      have hlt : o + k < cs.length := by omega
      simp [World.cell?, hb.2, row, hlt]
    have hfz : w.frozen? ⟨b, o + k, none⟩ = false := by
      simp [World.frozen?, hb.2, row]
    have hv := h1 v (List.mem_cons_self ..)
    have hi' := hi.setAt (o' := row (cs.set (o + k) v) t) ha (w.setCell ⟨b, o + k, none⟩ v) rfl rfl rfl (by rw [setCell_heap w b (o + k) v _ t (0, 0) hb.2]; simp [row])
    have ha' : At (S.set i [(b, row (cs.set (o + k) v) t)]) i b (row (cs.set (o + k) v) t) := by
      have : i < S.length := (List.getElem?_eq_some_iff.1 ha).1
      simp [At, this]
    obtain ⟨w', hr, hI⟩ := run_stores vs (cs.set (o + k) v) o (k + 1) (w.setCell ⟨b, o + k, none⟩ v) hi' ha' (fun u hu => h1 u (List.mem_cons_of_mem _ hu)) (by simp; omega)
    refine ⟨w', ?_, ?_⟩
    · rw [storeCells]
      have hst : (store (Addr.add ⟨b, o, none⟩ k) v).run P w = .ok () (w.setCell ⟨b, o + k, none⟩ v) := by
        rw [addr_add]
        unfold store
        cases v <;> simp [one] at hv <;> simp [Sem.run, hc, hfz]
      simp [hst, hr]
    · have hlt : o + k < cs.length := by omega
      have h2 : (cs.set (o + k) v).take (o + (k + 1)) = cs.take (o + k) ++ [v] := by
        rw [show o + (k + 1) = (o + k) + 1 from by omega, List.take_succ_eq_append_getElem (by simpa using hlt), List.take_set_of_le (Nat.le_refl _)]
        simp
      have h3 : (cs.set (o + k) v).drop (o + (k + 1) + vs.length) = cs.drop (o + k + (v :: vs).length) := by
        rw [List.drop_set_of_lt (by omega)]
        congr 1
        simp; omega
      have e0 : (cs.set (o + k) v).take (o + (k + 1)) ++ vs ++ (cs.set (o + k) v).drop (o + (k + 1) + vs.length) = cs.take (o + k) ++ (v :: vs) ++ cs.drop (o + k + (v :: vs).length) := by
        rw [h2, h3]
        simp
      rw [List.set_set, e0] at hI
      exact hI

theorem e_store {t : TypeId} {x y : Operand} {b o : Nat} {cs : List Value} {T : TypeId} {v : Value} (i : Nat) (hx : ev ρ x = some (.pointer (some ⟨b, o, none⟩))) (hy : ev ρ y = some v) (ht : sizeIs P t 1 = true) (hv : one v = true) (ha : At S i b (row cs T)) (ho : Nat.blt o cs.length = true) :
    EffOp P w0 ⟨ds, .store t x y, ty, pos, aft, g⟩ ρ S (fun _ S' => S' = S.set i [(b, row (cs.set o v) T)]) := fun F a w hs hi => by
  have ho : o < cs.length := by simpa using ho
  obtain ⟨w', hr, hI⟩ := run_stores (P := P) [v] cs o 0 w hi ha (by simpa using hv) (by simp; omega)
  have hrun : (execOp a.eval ⟨ds, .store t x y, ty, pos, aft, g⟩).run P w = .ok .skip w' := by
    simp [execOp, hs x _ hx, hs y _ hy, Instr.storeAt, Instr.sureAddr, storeVar, one_cells hv, sizeIs_run ht, hr]
  unfold Yld
  rw [hrun]
  refine ⟨_, rfl, ?_⟩
  have e : cs.set o v = cs.take (o + 0) ++ [v] ++ cs.drop (o + 0 + [v].length) := by
    rw [List.set_eq_take_append_cons_drop]
    simp [ho]
  rw [e]
  exact hI
theorem e_storeA {t : TypeId} {x y : Operand} {b o n : Nat} {cs vs : List Value} {T : TypeId} (i : Nat) (hx : ev ρ x = some (.pointer (some ⟨b, o, none⟩))) (hy : ev ρ y = some (.agg ⟨vs⟩)) (ht : sizeIs P t n = true) (hl : vs.length = n) (hv : ones vs = true) (ha : At S i b (row cs T)) (ho : Nat.ble (o + n) cs.length = true) :
    EffOp P w0 ⟨ds, .store t x y, ty, pos, aft, g⟩ ρ S (fun _ S' => S' = S.set i [(b, row (cs.take o ++ vs ++ cs.drop (o + n)) T)]) := fun F a w hs hi => by
  subst hl
  have ho := Nat.le_of_ble_eq_true ho
  obtain ⟨w', hr, hI⟩ := run_stores (P := P) vs cs o 0 w hi ha (ones_mem hv) (by omega)
  have hrun : (execOp a.eval ⟨ds, .store t x y, ty, pos, aft, g⟩).run P w = .ok .skip w' := by
    simp [execOp, hs x _ hx, hs y _ hy, Instr.storeAt, Instr.sureAddr, storeVar, Value.cells, sizeIs_run ht, hr]
  unfold Yld
  rw [hrun]
  exact ⟨_, rfl, hI⟩

/-! ### new memory -/
theorem Inv.grow {F : Hp} {w : World} {o : Obj} (hi : Inv w0 (S.flatten ++ F) w) (w' : World) (ho : w'.os = w.os) (ht : w'.tape = w.tape) (hu : w'.output = w.output) (hh : w'.heap = w.heap.push o) :
    Inv w0 ((S ++ [[(w.heap.size, o)]]).flatten ++ F) w' := by
  have h1 := hi.push o w' ho ht hu hh
  refine h1.perm ?_
  simp only [List.flatten_append, List.flatten_cons, List.flatten_nil, List.append_nil, List.append_assoc, List.singleton_append]
  exact (List.perm_middle).symm
def zeroIs (P : Program) (t : TypeId) (zs : List Value) : Prop := ∃ i z, P.info? t = some i ∧ i.zero = some z ∧ z.cells = ⟨zs⟩
theorem zeroIs_mk {t : TypeId} {zs : List Value} (h : ((P.info? t).bind (·.zero)).map (·.cells.toList) = some zs) : zeroIs P t zs := by
  cases hi : P.info? t with
  | none => simp [hi] at h
  | some i =>
    cases hz : i.zero with
    | none => simp [hi, hz] at h
    | some z => exact ⟨i, z, hi, hz, by simp [hi, hz] at h; rw [← h]⟩
theorem zeroIs_run {t : TypeId} {zs : List Value} (h : zeroIs P t zs) : ∃ z, z.cells = ⟨zs⟩ ∧ ∀ w, (zeroValue t).run P w = .ok z w := by
  obtain ⟨i, z, hi, hz, hc⟩ := h
  exact ⟨z, hc, fun w => by simp [zeroValue, typeInfo, hi, hz]⟩

def New (S : HS) (cs : List Value) (T : TypeId) (v : Value) (S' : HS) : Prop := ∃ n, v = .pointer (some ⟨n, 0, none⟩) ∧ S' = S ++ [[(n, row cs T)]]
theorem e_alloc {t : TypeId} {zs : List Value} (hz : zeroIs P t zs) : EffOp P w0 ⟨ds, .alloc t, ty, pos, aft, g⟩ ρ S (New S zs t) := fun F a w hs hi => by
  obtain ⟨z, hc, hz⟩ := zeroIs_run hz
  have hrun : (execOp a.eval ⟨ds, .alloc t, ty, pos, aft, g⟩).run P w = .ok (.value (.pointer (some ⟨w.heap.size, 0, none⟩))) { w with heap := w.heap.push (row zs t) } := by
    simp [execOp, Instr.alloc, hz, newVar, newRow, newObj, hc, Sem.run, row]
  unfold Yld
  rw [hrun]
  exact ⟨_, ⟨w.heap.size, rfl, rfl⟩, Inv.grow (o := row zs t) hi _ rfl rfl rfl rfl⟩
theorem e_box {t : TypeId} {x : Operand} {v : Value} {cs : List Value} (hx : ev ρ x = some v) (hc : v.cells = ⟨cs⟩) : EffOp P w0 ⟨ds, .box t x, ty, pos, aft, g⟩ ρ S (New S cs t) := fun F a w hs hi => by
  have hrun : (execOp a.eval ⟨ds, .box t x, ty, pos, aft, g⟩).run P w = .ok (.value (.pointer (some ⟨w.heap.size, 0, none⟩))) { w with heap := w.heap.push (row cs t) } := by
    simp [execOp, Instr.box, hs x _ hx, newVar, newRow, newObj, hc, Sem.run, row]
  unfold Yld
  rw [hrun]
  exact ⟨_, ⟨w.heap.size, rfl, rfl⟩, Inv.grow (o := row cs t) hi _ rfl rfl rfl rfl⟩
def NewMap (S : HS) (v : Value) (S' : HS) : Prop := ∃ n, v = .map (some n) ∧ S' = S ++ [[(n, .map #[] 0)]]
theorem e_makeMap {t : TypeId} : EffOp P w0 ⟨ds, .makeMap t none, ty, pos, aft, g⟩ ρ S (NewMap S) := fun F a w hs hi => by
  have hrun : (execOp a.eval ⟨ds, .makeMap t none, ty, pos, aft, g⟩).run P w = .ok (.value (.map (some w.heap.size))) { w with heap := w.heap.push (.map #[] 0) } := by
    simp [execOp, Instr.makeMap, newObj, Sem.run]
  unfold Yld
  rw [hrun]
  exact ⟨_, ⟨w.heap.size, rfl, rfl⟩, Inv.grow (o := .map #[] 0) hi _ rfl rfl rfl rfl⟩

/-! ### calls -/
def okIdx : List Nat → Nat → Bool
  | [], _ => true
  | i :: r, n => Nat.blt i n && !r.contains i && okIdx r n
def keep (p : Nat → Bool) : Nat → HS → HS
  | _, [] => []
  | k, c :: S => bif p k then c :: keep p (k + 1) S else keep p (k + 1) S
theorem others_eq (l : List Nat) : ∀ (S : HS) (k : Nat), others l k S = keep (fun j => !l.contains j) k S
  | [], k => by simp [others, keep]
  | c :: S, k => by
    simp only [others, keep, others_eq l S (k + 1)]
    cases l.contains k <;> rfl
theorem keep_congr {p q : Nat → Bool} : ∀ (S : HS) (k : Nat), (∀ j, k ≤ j → p j = q j) → keep p k S = keep q k S
  | [], _, _ => rfl
  | c :: S, k, h => by
    simp only [keep, h k (Nat.le_refl _), keep_congr S (k + 1) (fun j hj => h j (by omega))]
theorem keep_all : ∀ (S : HS) (k : Nat), keep (fun _ => true) k S = S
  | [], _ => rfl
  | c :: S, k => by simp [keep, keep_all S (k + 1)]
theorem keep_one {p q : Nat → Bool} {i : Nat} (hp : p i = true) (hq : q i = false) (he : ∀ j, j ≠ i → p j = q j) : ∀ (S : HS) (k : Nat) (c : Hp), k ≤ i → S[i - k]? = some c → (keep p k S).Perm (c :: keep q k S)
  | [], k, c, _, h => by simp at h
  | x :: S, k, c, hk, h => by
    by_cases e : k = i
    · subst e
      simp only [Nat.sub_self, List.getElem?_cons_zero, Option.some.injEq] at h
      subst h
      simp only [keep, hp, hq, cond_true, cond_false]
      rw [keep_congr S (k + 1) (fun j hj => he j (by omega))]
    · have h1 : S[i - (k + 1)]? = some c := by
        have : i - k = (i - (k + 1)) + 1 := by omega
        rw [this] at h
        simpa using h
      have ih := keep_one hp hq he S (k + 1) c (by omega) h1
      simp only [keep, he k e]
      cases q k
      · exact ih
      · exact (ih.cons x).trans (List.Perm.swap _ _ _)
theorem pick_perm {S : HS} : ∀ (l : List Nat), okIdx l S.length = true → S.Perm (pick l S ++ others l 0 S)
  | [], _ => by
    rw [others_eq]
    simp only [pick, List.nil_append]
    have : keep (fun j => !([] : List Nat).contains j) 0 S = S := by simpa using keep_all S 0
    rw [this]
  | i :: r, h => by
    simp only [okIdx, Bool.and_eq_true, Bool.not_eq_true'] at h
    obtain ⟨⟨h1, h2⟩, h3⟩ := h
    have ih := pick_perm r h3
    have hlt : i < S.length := by simpa using h1
    refine ih.trans ?_
    simp only [pick, List.cons_append]
    have hsp : (others r 0 S).Perm (S.getD i [] :: others (i :: r) 0 S) := by
      rw [others_eq, others_eq]
      refine keep_one (i := i) (by simp only [h2]; rfl) (by simp) (fun j hj => ?_) S 0 _ (Nat.zero_le _) (by simp [hlt])
      simp [hj]
    exact (List.Perm.append_left _ hsp).trans List.perm_middle

theorem e_call {f : FuncId} {xs : Array Operand} {vs : List Value} {tys : Array TypeId} {T : HS} {R : Value → HS → Prop} (idx : List Nat) (hx : evs ρ xs.toList = some vs) (hf : callOk P f = true) (ho : okIdx idx S.length = true) (hT : pick idx S = T) (h : Tri P w0 f ⟨vs⟩ T R) :
    EffOp P w0 ⟨ds, .call ⟨.value (.func f), xs, tys⟩, ty, pos, aft, g⟩ ρ S (fun v S' => ∃ S1, R v S1 ∧ S' = S1 ++ others idx 0 S) := fun F a w hs hi => by
  subst hT
  have hargs : xs.map a.eval = ⟨vs⟩ := by
    have := evs_spec hs _ _ hx
    apply Array.toList_inj.1
    simpa using this
  have hrun : (execOp a.eval ⟨ds, .call ⟨.value (.func f), xs, tys⟩, ty, pos, aft, g⟩).run P w = .ok (.enter f ⟨vs⟩) w := by
    unfold callOk at hf
    cases hfn : P.funcs[f]? with
    | none => simp [hfn] at hf
    | some fn =>
      simp only [hfn, Bool.and_eq_true, bne_iff_ne, ne_eq] at hf
      obtain ⟨h1, h2⟩ := hf
      have h3 : fn.body ≠ none := by cases hb : fn.body <;> simp [hb] at h2 ⊢
      simp [execOp, resolve, Act.eval, Deferred.ofValue, invoke, callFunc, hfn, h1, h3, hargs]
  unfold Yld
  rw [hrun]
  have hp : S.flatten.Perm ((pick idx S).flatten ++ (others idx 0 S).flatten) := by
    have := (pick_perm idx ho).flatten
    simpa using this
  have hi' : Inv w0 ((pick idx S).flatten ++ ((others idx 0 S).flatten ++ F)) w := by
    have := hi.perm (hp.append_right F)
    simpa [List.append_assoc] using this
  refine (h _ w hi').mono ?_
  rintro e w' ⟨v, S1, rfl, hR, hI⟩
  refine ⟨v, rfl, S1 ++ others idx 0 S, ⟨S1, hR, rfl⟩, ?_⟩
  simpa [List.append_assoc] using hI
end ops
end
end Go.EL
