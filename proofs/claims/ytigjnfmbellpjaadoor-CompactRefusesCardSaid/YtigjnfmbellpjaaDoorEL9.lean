/- Part 9: literals, make, values of one or more cells alike, cut slices. -/
import Derived.Test.YtigjnfmbellpjaaDoorEL8
namespace Go.EL
open Go

/-- a value of so many cells -/
def vv : List Value → Value
  | [v] => v
  | vs => .agg ⟨vs⟩
theorem vv_agg {vs : List Value} (h : vs.length ≠ 1) : vv vs = .agg ⟨vs⟩ := by
  match vs, h with
  | [], _ => rfl
  | [_], h => simp at h
  | _ :: _ :: _, _ => rfl
theorem vv_cells {vs : List Value} (h : ones vs = true) : (vv vs).cells = ⟨vs⟩ := by
  match vs, h with
  | [], _ => rfl
  | [v], h =>
    have h1 : one v = true := by simpa [ones] using h
    exact one_cells h1
  | _ :: _ :: _, _ => rfl

section
variable {P : Program} {N : Nat} {w0 : World}
def ldv (P : Program) (t : TypeId) (n : Nat) : Bool := sizeIs P t n && (bif notAgg P t then Nat.beq n 1 else aggOf P t n && !(Nat.beq n 1))

section ops
variable {ρ : Env} {S : HS} {ds : Option Nat} {ty : TypeId} {pos : String} {aft : Array Edge} {g : Option (Nat × Bool)}
theorem r_loadV {t : TypeId} {x : Operand} {a : Addr} {vs : List Value} {n : Nat} (hx : ev ρ x = some (.pointer (some a))) (ht : ldv P t n = true) (hr : RdN w0 S a vs) (hl : vs.length = n) : ReadOp P w0 ⟨ds, .load t x, ty, pos, aft, g⟩ ρ S (vv vs) := by
  unfold ldv at ht
  simp only [Bool.and_eq_true] at ht
  obtain ⟨_, ht⟩ := ht
  cases hn : notAgg P t with
  | true =>
    simp only [hn, cond_true] at ht
    have := Nat.of_beq ht
    subst this
    match vs, hl with
    | [v], _ =>
      refine r_load (v := vv [v]) hx hn (fun F w hi => ?_)
      have h1 := hr F w hi 0 v rfl
      show w.cell? a = some v
      simpa [Addr.add] using h1
  | false =>
    simp only [hn, cond_false, Bool.and_eq_true, Bool.not_eq_true'] at ht
    have h1 : vs.length ≠ 1 := by
      rw [hl]
      intro e
      rw [e] at ht
      exact absurd ht.2 (by simp)
    rw [vv_agg h1]
    exact r_loadA hx ht.1 hr hl
theorem e_storeV {t : TypeId} {x y : Operand} {b o n : Nat} {cs vs : List Value} {T : TypeId} (i : Nat) (hx : ev ρ x = some (.pointer (some ⟨b, o, none⟩))) (hy : ev ρ y = some (vv vs)) (ht : sizeIs P t n = true) (hl : vs.length = n) (hv : ones vs = true) (ha : At S i b (row cs T)) (ho : Nat.ble (o + n) cs.length = true) :
    EffOp P w0 ⟨ds, .store t x y, ty, pos, aft, g⟩ ρ S (fun _ S' => S' = S.set i [(b, row (cs.take o ++ vs ++ cs.drop (o + n)) T)]) := fun F a w hs hi => by
  subst hl
  have ho := Nat.le_of_ble_eq_true ho
  obtain ⟨w', hr, hI⟩ := run_stores (P := P) vs cs o 0 w hi ha (ones_mem hv) (by omega)
  have hrun : (execOp a.eval ⟨ds, .store t x y, ty, pos, aft, g⟩).run P w = .ok .skip w' := by
    simp [execOp, hs x _ hx, hs y _ hy, Instr.storeAt, Instr.sureAddr, storeVar, vv_cells hv, sizeIs_run ht, hr]
  unfold Yld
  rw [hrun]
  exact ⟨_, rfl, hI⟩

/-! ### literals -/
def placesOf (P : Program) (t : TypeId) : Option (List (Nat × Nat)) := match P.underlying t with
  | some (.struct fs) => fs.toList.mapM fun f => (P.info? f.type).map fun i => (f.offset, i.size)
  | _ => none
def fillL (place : Nat → Option (Nat × Nat)) : List Value → List (Nat × Value) → Option (List Value)
  | cs, [] => some cs
  | cs, (i, v) :: r => match place i with
    | none => none
    | some (off, size) => bif !(Nat.beq v.cells.size size) || Nat.blt cs.length (off + v.cells.size) then none else fillL place (cs.take off ++ v.cells.toList ++ cs.drop (off + v.cells.size)) r
theorem foldl_set (vs : List Value) : ∀ (cs : List Value) (off k : Nat), off + k + vs.length ≤ cs.length →
    (vs.zipIdx k).foldl (fun (cs : Array Value) p => cs.setIfInBounds (off + p.2) p.1) ⟨cs⟩ = ⟨cs.take (off + k) ++ vs ++ cs.drop (off + k + vs.length)⟩ := by
  induction vs with
  | nil => intro cs off k _; simp
  | cons v vs ih =>
    intro cs off k h
    simp only [List.length_cons] at h
    have hlt : off + k < cs.length := by omega
    simp only [List.zipIdx_cons, List.foldl_cons]
    have e : (⟨cs⟩ : Array Value).setIfInBounds (off + k) v = ⟨cs.set (off + k) v⟩ := by simp
    rw [e, ih _ _ _ (by simp; omega)]
    congr 1
    have h2 : (cs.set (off + k) v).take (off + (k + 1)) = cs.take (off + k) ++ [v] := by
      rw [show off + (k + 1) = (off + k) + 1 from by omega, List.take_succ_eq_append_getElem (by simpa using hlt), List.take_set_of_le (Nat.le_refl _)]
      simp
    have h3 : (cs.set (off + k) v).drop (off + (k + 1) + vs.length) = cs.drop (off + k + (v :: vs).length) := by
      rw [List.drop_set_of_lt (by omega)]
      congr 1
      simp; omega
    rw [h2, h3]
    simp
theorem fill_eq (place : Nat → Option (Nat × Nat)) : ∀ (ps : List (Nat × Value)) (cs : List Value), Instr.fill place ⟨cs⟩ ps = (fillL place cs ps).map (fun l => ⟨l⟩)
  | [], cs => rfl
  | (i, v) :: r, cs => by
    simp only [Instr.fill, fillL]
    cases place i with
    | none => rfl
    | some p =>
      obtain ⟨off, size⟩ := p
      simp only [List.size_toArray]
      have hf : off + v.cells.size ≤ cs.length → v.cells.zipIdx.foldl (fun (cs : Array Value) (p : Value × Nat) => cs.setIfInBounds (off + p.2) p.1) ⟨cs⟩ = ⟨cs.take off ++ v.cells.toList ++ cs.drop (off + v.cells.size)⟩ := by
        intro hle
        have := foldl_set v.cells.toList cs off 0 (by simp; omega)
        rw [← Array.foldl_toList]
        simpa using this
      have ih := fill_eq place r (cs.take off ++ v.cells.toList ++ cs.drop (off + v.cells.size))
      by_cases h1 : v.cells.size = size
      · by_cases h2 : off + v.cells.size ≤ cs.length
        · have e1 : Nat.beq v.cells.size size = true := by rw [h1]; exact Nat.beq_self _
          have e2 : Nat.blt cs.length (off + v.cells.size) = false := by
            cases hb : Nat.blt cs.length (off + v.cells.size) with
            | false => rfl
            | true => simp at hb; omega
          simp only [e1, e2, Bool.not_true, Bool.or_false, cond_false]
          rw [← ih, ← hf h2]
          simp [h1]
          omega
        · have e2 : Nat.blt cs.length (off + v.cells.size) = true := by simp; omega
          simp only [e2, Bool.or_true, cond_true]
          simp
          omega
      · have e1 : Nat.beq v.cells.size size = false := Nat.beq_eq_false h1
        simp only [e1, Bool.not_false, Bool.true_or, cond_true]
        simp [h1]
def evParts (ρ : Env) : List (Nat × Operand) → Option (List (Nat × Value))
  | [] => some []
  | (i, x) :: r => match ev ρ x with
    | none => none
    | some v => match evParts ρ r with
      | none => none
      | some vs => some ((i, v) :: vs)
theorem evParts_spec {a : Act} (hs : Sees ρ a) : ∀ (xs : List (Nat × Operand)) (vs : List (Nat × Value)), evParts ρ xs = some vs → xs.map (fun p => (p.1, a.eval p.2)) = vs
  | [], vs, h => by simp [evParts] at h; subst h; rfl
  | (i, x) :: r, vs, h => by
    simp only [evParts] at h
    cases hx : ev ρ x with
    | none => simp [hx] at h
    | some v =>
      cases hr : evParts ρ r with
      | none => simp [hx, hr] at h
      | some us =>
        simp [hx, hr] at h
        subst h
        simp [hs x v hx, evParts_spec hs r us hr]
theorem built_struct {t : TypeId} {zs : List Value} {pl : List (Nat × Nat)} (hz : zeroIs P t zs) (hp : placesOf P t = some pl) (ps : List (Nat × Value)) : P.built t ps = (fillL (fun i => pl[i]?) zs ps).map (fun l => ⟨l⟩) := by
  obtain ⟨it, z, hi, hz, hc⟩ := hz
  unfold placesOf at hp
  unfold Program.built
  cases hu : P.underlying t with
  | none => simp [hu] at hp
  | some d =>
    cases d <;> simp only [hu] at hp <;> try (cases hp; done)
    simp only [hi, hz, hp, hc]
    rw [← fill_eq]
    simp
theorem built_array {t e : TypeId} {zs : List Value} {len k : Nat} (hz : zeroIs P t zs) (ha : arrayOf P t len e k = true) (ps : List (Nat × Value)) : P.built t ps = (fillL (fun i => some (i * k, k)) zs ps).map (fun l => ⟨l⟩) := by
  obtain ⟨it, z, hi, hz, hc⟩ := hz
  obtain ⟨hu, hsz⟩ := arrayOf_und ha
  unfold Program.built
  unfold sizeIs at hsz
  cases he : P.info? e with
  | none => simp [he] at hsz
  | some ie =>
    simp only [he] at hsz
    have := Nat.of_beq hsz
    subst this
    simp only [hi, hz, hu, he, hc]
    rw [← fill_eq]
theorem p_buildS {t : TypeId} {zs cs : List Value} {pl : List (Nat × Nat)} {parts : Array (Nat × Operand)} {vals : List (Nat × Value)} (hz : zeroIs P t zs) (hp : placesOf P t = some pl) (hv : evParts ρ parts.toList = some vals) (hf : fillL (fun i => pl[i]?) zs vals = some cs) :
    PureOp P ⟨ds, .build t parts, ty, pos, aft, g⟩ ρ (.agg ⟨cs⟩) := fun a hs w => by
  have hb : P.built t (parts.map fun (i, x) => (i, a.eval x)).toList = some ⟨cs⟩ := by
    rw [built_struct hz hp]
    have := evParts_spec hs _ _ hv
    rw [Array.toList_map, this, hf]
    rfl
  simp [execOp, run_build w t _ _ hb]
theorem p_buildA {t e : TypeId} {zs cs : List Value} {len k : Nat} {parts : Array (Nat × Operand)} {vals : List (Nat × Value)} (hz : zeroIs P t zs) (ha : arrayOf P t len e k = true) (hv : evParts ρ parts.toList = some vals) (hf : fillL (fun i => some (i * k, k)) zs vals = some cs) :
    PureOp P ⟨ds, .build t parts, ty, pos, aft, g⟩ ρ (.agg ⟨cs⟩) := fun a hs w => by
  have hb : P.built t (parts.map fun (i, x) => (i, a.eval x)).toList = some ⟨cs⟩ := by
    rw [built_array hz ha]
    have := evParts_spec hs _ _ hv
    rw [Array.toList_map, this, hf]
    rfl
  simp [execOp, run_build w t _ _ hb]

/-- a slice's literal -/
def NewSlice (S : HS) (cs : List Value) (T : TypeId) (len cap : Nat) (v : Value) (S' : HS) : Prop := ∃ n, v = .slice (some ⟨n, 0, none⟩) len cap ∧ S' = S ++ [[(n, row cs T)]]
theorem madeCells_eq {zs : List Value} {k : Nat} (hk : zs.length = k) (h0 : k ≠ 0) (n : Nat) : (madeCells ⟨zs⟩ (n * k)).toList = (List.replicate n zs).flatten := by
  subst hk
  apply List.ext_getElem?
  intro j
  have hl : ((List.replicate n zs).flatten).length = n * zs.length := by simp
  by_cases hj : j < n * zs.length
  · have h1 : (madeCells ⟨zs⟩ (n * zs.length)).toList[j]? = some (zs[j % zs.length]'(Nat.mod_lt _ (by omega))) := by
      simp only [madeCells, Array.toList_map, Array.toList_range, List.getElem?_map, List.getElem?_range hj, Option.map_some]
      have hm : j % zs.length < zs.length := Nat.mod_lt _ (by omega)
      simp [hm]
    rw [h1]
    clear h1 hl
    induction n generalizing j with
    | zero => simp at hj
    | succ n ih =>
      rw [List.replicate_succ, List.flatten_cons]
      by_cases h2 : j < zs.length
      · rw [List.getElem?_append_left h2]
        simp [Nat.mod_eq_of_lt h2, h2]
      · rw [List.getElem?_append_right (by omega), ← ih (j - zs.length) (by rw [Nat.add_mul] at hj; omega)]
        congr 2
        exact Nat.mod_eq_sub_mod (by omega)
  · rw [List.getElem?_eq_none (by simp [size_madeCells]; omega), List.getElem?_eq_none (by omega)]
theorem e_makeSlice {t e : TypeId} {x y : Operand} {kl kc : IntKind} {l c : Int} {n by' : Nat} {zs : List Value} (hx : ev ρ x = some (.int kl l)) (hy : ev ρ y = some (.int kc c)) (ht : sliceOf P t e n = true) (hz : zeroIs P e zs) (hzl : zs.length = n) (hn : n ≠ 0) (hby : bytesIs P e by' = true)
    (h0 : 0 ≤ l) (h1 : l ≤ c) (hb : (by' : Int) * c ≤ 281474976710656) (h63 : c ≤ 9223372036854775807) : EffOp P w0 ⟨ds, .makeSlice t x y, ty, pos, aft, g⟩ ρ S (NewSlice S ((List.replicate c.toNat zs).flatten) e l.toNat c.toNat) := fun F a w hs hi => by
  obtain ⟨hu, hsz⟩ := sliceOf_und ht
  obtain ⟨inf, z, hinf, hzero, hc⟩ := hz
  obtain ⟨inf', hinf', hby'⟩ := bytesIs_info hby
  have hie : inf' = inf := Option.some.inj (hinf'.symm.trans hinf)
  subst hie
  have hsize : inf'.size = n := by
    unfold sizeIs at hsz
    simp only [hinf] at hsz
    exact Nat.of_beq hsz
  have hr := run_make (P := P) w t e inf' z hu hinf hzero kl kc l c h0 h1 (by rw [hby']; exact hb) h63
  have hcells : madeCells z.cells (c.toNat * inf'.size) = ⟨(List.replicate c.toNat zs).flatten⟩ := by
    rw [hc, hsize]
    apply Array.toList_inj.1
    exact madeCells_eq hzl hn c.toNat
  rw [hcells] at hr
  have hrun : (execOp a.eval ⟨ds, .makeSlice t x y, ty, pos, aft, g⟩).run P w = .ok (.value (.slice (some ⟨w.heap.size, 0, none⟩) l.toNat c.toNat)) (w.alloc (row (List.replicate c.toNat zs).flatten e)) := by
    simp [execOp, hs x _ hx, hs y _ hy, hr]
  unfold Yld
  rw [hrun]
  exact ⟨_, ⟨w.heap.size, rfl, rfl⟩, Inv.grow (o := row (List.replicate c.toNat zs).flatten e) hi _ rfl rfl rfl rfl⟩
theorem e_buildSlice {t e : TypeId} {zs cs : List Value} {len k : Nat} {parts : Array (Nat × Operand)} {vals : List (Nat × Value)} (ht : sliceOf P t e k = true) (hz : zeroIs P e zs) (hzl : zs.length = k) (hk : k ≠ 0) (hlen : len ≠ 0) (h24 : Nat.ble (len * k) 16777216 = true) (hv : evParts ρ parts.toList = some vals)
    (hf : fillL (fun i => some (i * k, k)) ((List.replicate len zs).flatten) vals = some cs) : EffOp P w0 ⟨ds, .buildSlice t len parts, ty, pos, aft, g⟩ ρ S (NewSlice S cs e len len) := fun F a w hs hi => by
  obtain ⟨hu, hsz⟩ := sliceOf_und ht
  obtain ⟨z, hc, hz⟩ := zeroIs_run hz
  have h24 := Nat.le_of_ble_eq_true h24
  have hvals := evParts_spec hs _ _ hv
  have hrow : (Array.range (len * k)).map (fun j => z.cells[j % z.cells.size]!) = ⟨(List.replicate len zs).flatten⟩ := by
    rw [hc]
    apply Array.toList_inj.1
    exact madeCells_eq hzl hk len
  have hfill : Instr.fill (fun i => some (i * k, k)) ⟨(List.replicate len zs).flatten⟩ (parts.map fun (i, x) => (i, a.eval x)).toList = some ⟨cs⟩ := by
    rw [fill_eq, Array.toList_map, hvals, hf]
    rfl
  have hrun : (execOp a.eval ⟨ds, .buildSlice t len parts, ty, pos, aft, g⟩).run P w = .ok (.value (.slice (some ⟨w.heap.size, 0, none⟩) len len)) { w with heap := w.heap.push (row cs e) } := by
    have h0 : len * k ≠ 0 := fun h => (Nat.mul_eq_zero.1 h).elim hlen hk
    have hn : ¬ (16777216 < len * k) := by omega
    simp only [execOp, Instr.buildSlice, underlying, Sem.run_bind, run_program, Result.andThen_ok, hu, Sem.run_pure, sizeIs_run hsz, if_neg hn, if_neg h0, hz, Sem.run_ite, gt_iff_lt]
    rw [hrow, hfill]
    simp [newRow, newObj, Sem.run, row]
  unfold Yld
  rw [hrun]
  exact ⟨_, ⟨w.heap.size, rfl, rfl⟩, Inv.grow (o := row cs e) hi _ rfl rfl rfl rfl⟩

theorem e_buildSlice0 {t e : TypeId} {k : Nat} (ht : sliceOf P t e k = true) : EffOp P w0 ⟨ds, .buildSlice t 0 #[], ty, pos, aft, g⟩ ρ S (NewSlice S [] e 0 0) := fun F a w hs hi => by
  obtain ⟨hu, hsz⟩ := sliceOf_und ht
  have hrun : (execOp a.eval ⟨ds, .buildSlice t 0 #[], ty, pos, aft, g⟩).run P w = .ok (.value (.slice (some ⟨w.heap.size, 0, none⟩) 0 0)) { w with heap := w.heap.push (row [] e) } := by
    simp [execOp, Instr.buildSlice, underlying, hu, sizeIs_run hsz, newRow, newObj, Instr.fill, Sem.run, row, Array.range_zero']
  unfold Yld
  rw [hrun]
  exact ⟨_, ⟨w.heap.size, rfl, rfl⟩, Inv.grow (o := row [] e) hi _ rfl rfl rfl rfl⟩

/-! ### cut slices -/
theorem p_sliceTo {t e : TypeId} {x y : Operand} {n b o len cap : Nat} {h : Int} {k : IntKind} (hx : ev ρ x = some (.slice (some ⟨b, o, none⟩) len cap)) (ht : sliceOf P t e n = true) (hy : ev ρ y = some (.int k h)) (h1 : 0 ≤ h) (h2 : h ≤ cap) :
    PureOp P ⟨ds, .slice t x none (some y) none, ty, pos, aft, g⟩ ρ (.slice (some ⟨b, o, none⟩) h.toNat cap) := by
  have := p_slice (ds := ds) (ty := ty) (pos := pos) (aft := aft) (g := g) (lo := none) (hi := some y) (l := 0) (kl := .i64) (kh := k) hx ht rfl (fun _ => rfl) hy (fun e => by cases e) (Int.le_refl _) h1 h2
  simpa using this
theorem p_sliceToNil {t e : TypeId} {x y : Operand} {n : Nat} {k : IntKind} (hx : ev ρ x = some (.slice none 0 0)) (ht : sliceOf P t e n = true) (hy : ev ρ y = some (.int k 0)) :
    PureOp P ⟨ds, .slice t x none (some y) none, ty, pos, aft, g⟩ ρ (.slice none 0 0) := fun a hs w => by
  obtain ⟨hu, hsz⟩ := sliceOf_und ht
  simp [execOp, hs x _ hx, hs y _ hy, Instr.sliceAt, underlying, hu, Instr.slice, Instr.sliceBounds, Instr.sliceBound, asIntOf, sizeIs_run hsz]
theorem p_sliceFrom {t e : TypeId} {x y : Operand} {n b o len cap : Nat} {l : Int} {k : IntKind} (hx : ev ρ x = some (.slice (some ⟨b, o, none⟩) len cap)) (ht : sliceOf P t e n = true) (hy : ev ρ y = some (.int k l)) (h1 : 0 ≤ l) (h2 : l ≤ len) (h3 : len ≤ cap) :
    PureOp P ⟨ds, .slice t x (some y) none none, ty, pos, aft, g⟩ ρ (.slice (some (if cap = l.toNat then ⟨b, o, none⟩ else ⟨b, o + l.toNat * n, none⟩)) (len - l.toNat) (cap - l.toNat)) := by
  have := p_slice (ds := ds) (ty := ty) (pos := pos) (aft := aft) (g := g) (lo := some y) (hi := none) (h := len) (kl := k) (kh := .i64) hx ht hy (fun e => by cases e) rfl (fun _ => rfl) h1 h2 (by omega)
  simpa using this
end ops

section
variable {ops : Array Oper} {rest : List Oper} {K : Env → HS → Prop} {ρ : Env} {S : HS} {d : Nat} {ty : TypeId} {pos : String} {aft : Array Edge} {g : Option (Nat × Bool)}
theorem RX.ldv (i : Nat) {t : TypeId} {x : Operand} {b o n : Nat} {cs : List Value} {T : TypeId} {fr : Nat × Nat} {vs : List Value} (hw : Wnt ops ρ ⟨some d, .load t x, ty, pos, aft, g⟩) (hN : Nat.blt d N = true) (hx : ev ρ x = some (.pointer (some ⟨b, o, none⟩))) (ht : ldv P t n = true)
    (ha : At S i b (.cells ⟨cs⟩ T fr)) (hv : (cs.drop o).take n = vs) (hl : vs.length = n) (h : RX P N w0 ops rest K ((d, vv vs) :: ρ) S) : RX P N w0 ops (⟨some d, .load t x, ty, pos, aft, g⟩ :: rest) K ρ S :=
  RX.read hw rfl hN rfl (r_loadV hx ht (RdN.own i ha (by rw [hl]; exact hv)) hl) h
theorem RX.stv (i : Nat) {t : TypeId} {x y : Operand} {b o n : Nat} {cs vs : List Value} {T : TypeId} (hw : Wnt ops ρ ⟨none, .store t x y, ty, pos, aft, g⟩) (hx : ev ρ x = some (.pointer (some ⟨b, o, none⟩))) (hy : ev ρ y = some (vv vs)) (ht : sizeIs P t n = true) (hl : vs.length = n) (hv : ones vs = true)
    (ha : At S i b (row cs T)) (ho : Nat.ble (o + n) cs.length = true) (cs' : List Value) (hc : cs.take o ++ vs ++ cs.drop (o + n) = cs') (h : RX P N w0 ops rest K ρ (S.set i [(b, row cs' T)])) : RX P N w0 ops (⟨none, .store t x y, ty, pos, aft, g⟩ :: rest) K ρ S := by
  subst hc
  exact RX.eff0 hw rfl rfl (e_storeV i hx hy ht hl hv ha ho) (fun v S' hS => by subst hS; exact h)
end
end
end Go.EL
