/- Part 3: the walk of a region over the state, and what each operation asks. -/
import Derived.Test.YtigjnfmbellpjaaDoorEL2
namespace Go.EL
open Go

section
variable {P : Program} {N : Nat} {w0 : World} {ops : Array Oper}

def RX (P : Program) (N : Nat) (w0 : World) (ops : Array Oper) (l : List Oper) (K : Env → HS → Prop) (ρ : Env) (S : HS) : Prop :=
  ∀ F a w, Fits N a ρ → Inv w0 (S.flatten ++ F) w → LexL P ops (fun a' w' => ∃ ρ' S', K ρ' S' ∧ Fits N a' ρ' ∧ Inv w0 (S'.flatten ++ F) w') l a w

theorem WP.region {id : Nat} {l : List Oper} {Q : Exit → Env → HS → Prop} {ρ : Env} {S : HS} (h : RX P N w0 l.toArray l (fun ρ S => Q .normal ρ S) ρ S) : WP P N w0 (.region id l.toArray false) Q ρ S :=
  fun F a w hf hi => wp_text (fun _ _ h => h) (lex_range (h F a w hf hi))
theorem WP.draw {id : Nat} {l : List Oper} {Q : Exit → Env → HS → Prop} {ρ : Env} {S : HS} (hm : P.follows .mixedOrders = true) (hc : okDraw l.toArray (Region.before l.toArray) = true) (h : RX P N w0 l.toArray l (fun ρ S => Q .normal ρ S) ρ S) : WP P N w0 (.region id l.toArray true) Q ρ S :=
  fun F a w hf hi => wp_draw hm (okDraw_spec hc) (fun _ _ h => h) (lex_range (h F a { w with drawn := w.drawn + 1 } hf (hi.drawn _)))
/-- a region, and what stands behind it -/
theorem WP.sregion {id : Nat} {l : List Oper} {y : Code} {Q : Exit → Env → HS → Prop} {ρ : Env} {S : HS} (h : RX P N w0 l.toArray l (fun ρ S => WP P N w0 y Q ρ S) ρ S) : WP P N w0 (.seq (.region id l.toArray false) y) Q ρ S :=
  .seq (.region h)
theorem WP.sdraw {id : Nat} {l : List Oper} {y : Code} {Q : Exit → Env → HS → Prop} {ρ : Env} {S : HS} (hm : P.follows .mixedOrders = true) (hc : okDraw l.toArray (Region.before l.toArray) = true) (h : RX P N w0 l.toArray l (fun ρ S => WP P N w0 y Q ρ S) ρ S) : WP P N w0 (.seq (.region id l.toArray true) y) Q ρ S :=
  .seq (.draw hm hc h)

/-! ### guards -/
def Wnt (ops : Array Oper) (ρ : Env) (o : Oper) : Prop := ∀ a, Sees ρ a → Region.wanted o (yielded ops a.tmps) = true
def Unw (ops : Array Oper) (ρ : Env) (o : Oper) : Prop := ∀ a, Sees ρ a → Region.wanted o (yielded ops a.tmps) = false
theorem Wnt.none {ρ : Env} {o : Oper} (h : o.guard = none) : Wnt ops ρ o := fun a _ => by simp [Region.wanted, h]
theorem sees_tmp {ρ : Env} {a : Act} {t : Nat} {v : Value} (hs : Sees ρ a) (h : look ρ t = some v) : a.tmps.getD t undef = v := hs (.tmp t) v h
theorem Wnt.yes {ρ : Env} {o : Oper} {j t : Nat} {b : Bool} (hg : o.guard = some (j, b)) (ht : (ops[j]?).bind (·.dst) = some t) (hv : look ρ t = some (.bool b)) : Wnt ops ρ o := by
  intro a hs
  have h := sees_tmp hs hv
  have h1 : a.tmps[t]? = some (.bool b) := by
    cases hx : a.tmps[t]? with
    | none => simp [hx, undef] at h
    | some u => simp [hx] at h; rw [h]
  simp [Region.wanted, hg, yielded, ht, h1]
def notB (v : Value) (b : Bool) : Bool := match v with
  | .bool x => x != b
  | _ => true
theorem Unw.no {ρ : Env} {o : Oper} {j t : Nat} {b : Bool} {v : Value} (hg : o.guard = some (j, b)) (ht : (ops[j]?).bind (·.dst) = some t) (hv : look ρ t = some v) (hn : notB v b = true) : Unw ops ρ o := by
  intro a hs
  have h := sees_tmp hs hv
  have : yielded ops a.tmps j ≠ some b := by
    simp only [yielded, ht, Option.bind_some]
    cases hx : a.tmps[t]? with
    | none => simp
    | some u =>
      simp [hx] at h
      subst h
      cases u <;> simp [notB] at hn ⊢
      exact hn
  simp only [Region.wanted, hg]
  exact beq_eq_false_iff_ne.2 this

/-! ### the rules of a region -/
def PureOp (P : Program) (o : Oper) (ρ : Env) (v : Value) : Prop := ∀ a, Sees ρ a → ∀ w, (execOp a.eval o).run P w = .ok (.value v) w
def ReadOp (P : Program) (w0 : World) (o : Oper) (ρ : Env) (S : HS) (v : Value) : Prop := ∀ F a w, Sees ρ a → Inv w0 (S.flatten ++ F) w → (execOp a.eval o).run P w = .ok (.value v) w
def EffOp (P : Program) (w0 : World) (o : Oper) (ρ : Env) (S : HS) (R : Value → HS → Prop) : Prop :=
  ∀ F a w, Sees ρ a → Inv w0 (S.flatten ++ F) w → Yld P o a w (fun v w' => ∃ S', R v S' ∧ Inv w0 (S'.flatten ++ F) w')
def isPure : Op → Bool := fun o => match clsOf o with | .pure => true | _ => false
def isEff : Op → Bool := fun o => match clsOf o with | .eff => true | _ => false

theorem RX.nil {K : Env → HS → Prop} {ρ : Env} {S : HS} (h : K ρ S) : RX P N w0 ops [] K ρ S := fun _ _ _ hf hi => ⟨ρ, S, h, hf, hi⟩
theorem RX.pure {o : Oper} {rest : List Oper} {K : Env → HS → Prop} {ρ : Env} {S : HS} {d : Nat} {v : Value} (hw : Wnt ops ρ o) (hd : o.dst = some d) (hN : Nat.blt d N = true) (hp : PureOp P o ρ v)
    (h : RX P N w0 ops rest K ((d, v) :: ρ) S) : RX P N w0 ops (o :: rest) K ρ S := by
  intro F a w hf hi
  have hr := hp a hf.sees
  refine .inl ⟨hw a hf.sees, ?_⟩
  have hk := h F (a.put o.dst v) w (by rw [hd]; exact hf.put hN v) hi
  cases hc : clsOf o.op <;> simp only
  · exact ⟨v, hr, hk⟩
  · exact ⟨v, hr w, hk⟩
  · unfold Yld
    rw [hr w]
    exact hk
theorem RX.read {o : Oper} {rest : List Oper} {K : Env → HS → Prop} {ρ : Env} {S : HS} {d : Nat} {v : Value} (hw : Wnt ops ρ o) (hd : o.dst = some d) (hN : Nat.blt d N = true) (hcl : isPure o.op = false) (hp : ReadOp P w0 o ρ S v)
    (h : RX P N w0 ops rest K ((d, v) :: ρ) S) : RX P N w0 ops (o :: rest) K ρ S := by
  intro F a w hf hi
  have hr := hp F a w hf.sees hi
  refine .inl ⟨hw a hf.sees, ?_⟩
  have hk := h F (a.put o.dst v) w (by rw [hd]; exact hf.put hN v) hi
  unfold isPure at hcl
  cases hc : clsOf o.op <;> simp only [hc] at hcl ⊢
  · cases hcl
  · exact ⟨v, hr, hk⟩
  · unfold Yld
    rw [hr]
    exact hk
theorem RX.eff {o : Oper} {rest : List Oper} {K : Env → HS → Prop} {ρ : Env} {S : HS} {d : Nat} {R : Value → HS → Prop} (hw : Wnt ops ρ o) (hd : o.dst = some d) (hN : Nat.blt d N = true) (hcl : isEff o.op = true) (hp : EffOp P w0 o ρ S R)
    (h : ∀ v S', R v S' → RX P N w0 ops rest K ((d, v) :: ρ) S') : RX P N w0 ops (o :: rest) K ρ S := by
  intro F a w hf hi
  refine .inl ⟨hw a hf.sees, ?_⟩
  unfold isEff at hcl
  cases hc : clsOf o.op <;> simp only [hc] at hcl ⊢ <;> try (cases hcl)
  refine (hp F a w hf.sees hi).mono ?_
  rintro v w' ⟨S', hR, hi'⟩
  exact h v S' hR F (a.put o.dst v) w' (by rw [hd]; exact hf.put hN v) hi'
theorem RX.eff0 {o : Oper} {rest : List Oper} {K : Env → HS → Prop} {ρ : Env} {S : HS} {R : Value → HS → Prop} (hw : Wnt ops ρ o) (hd : o.dst = none) (hcl : isEff o.op = true) (hp : EffOp P w0 o ρ S R)
    (h : ∀ v S', R v S' → RX P N w0 ops rest K ρ S') : RX P N w0 ops (o :: rest) K ρ S := by
  intro F a w hf hi
  refine .inl ⟨hw a hf.sees, ?_⟩
  unfold isEff at hcl
  cases hc : clsOf o.op <;> simp only [hc] at hcl ⊢ <;> try (cases hcl)
  refine (hp F a w hf.sees hi).mono ?_
  rintro v w' ⟨S', hR, hi'⟩
  exact h v S' hR F (a.put o.dst v) w' (by rw [hd]; exact hf.none v) hi'
theorem RX.skip {o : Oper} {rest : List Oper} {K : Env → HS → Prop} {ρ : Env} {S : HS} {d : Nat} (hu : Unw ops ρ o) (hd : o.dst = some d) (hN : Nat.blt d N = true) (h : RX P N w0 ops rest K ((d, undef) :: ρ) S) : RX P N w0 ops (o :: rest) K ρ S :=
  fun F a w hf hi => .inr ⟨hu a hf.sees, h F (a.put o.dst undef) w (by rw [hd]; exact hf.put hN undef) hi⟩
theorem RX.sub {l : List Oper} {K : Env → HS → Prop} {ρ ρ' : Env} {S : HS} (hs : Sub ρ' ρ) (h : RX P N w0 ops l K ρ' S) : RX P N w0 ops l K ρ S := fun F a w hf hi => h F a w (hf.sub hs) hi
theorem RX.perm {l : List Oper} {K : Env → HS → Prop} {ρ : Env} {S T : HS} (hp : S.flatten.Perm T.flatten) (h : RX P N w0 ops l K ρ T) : RX P N w0 ops l K ρ S := fun F a w hf hi => h F a w hf (hi.perm (hp.append_right F))

/-! ### operands -/
def evs (ρ : Env) : List Operand → Option (List Value)
  | [] => some []
  | x :: r => match ev ρ x with
    | none => none
    | some v => match evs ρ r with
      | none => none
      | some vs => some (v :: vs)
theorem evs_spec {ρ : Env} {a : Act} (hs : Sees ρ a) : ∀ (xs : List Operand) (vs : List Value), evs ρ xs = some vs → xs.map a.eval = vs
  | [], vs, h => by simp [evs] at h; subst h; rfl
  | x :: r, vs, h => by
    simp only [evs] at h
    cases hx : ev ρ x with
    | none => simp [hx] at h
    | some v =>
      cases hr : evs ρ r with
      | none => simp [hx, hr] at h
      | some us =>
        simp [hx, hr] at h
        subst h
        simp [hs x v hx, evs_spec hs r us hr]

/-! ### closed facts on types -/
def notAgg (P : Program) (t : TypeId) : Bool := match P.underlying t with
  | some (.struct _) => false
  | some (.array _ _) => false
  | some _ => true
  | none => false
def sizeIs (P : Program) (t : TypeId) (n : Nat) : Bool := match P.info? t with
  | some i => Nat.beq i.size n
  | none => false
def bytesIs (P : Program) (t : TypeId) (n : Nat) : Bool := match P.info? t with
  | some i => Nat.beq i.bytes n
  | none => false
def aggOf (P : Program) (t : TypeId) (n : Nat) : Bool := (match P.underlying t with
  | some (.struct _) => true
  | some (.array _ _) => true
  | _ => false) && sizeIs P t n
def fieldIs (P : Program) (s : TypeId) (k off : Nat) (t : TypeId) : Bool := match P.underlying s with
  | some (.struct fs) => (match fs[k]? with
    | some f => Nat.beq f.offset off && Nat.beq f.type t && (match P.info? f.type with | some i => !(Nat.beq i.size 0) | none => false)
    | none => false)
  | _ => false
def sliceOf (P : Program) (t e : TypeId) (n : Nat) : Bool := (match P.underlying t with
  | some (.slice x) => Nat.beq x e
  | _ => false) && sizeIs P e n
def arrayOf (P : Program) (t : TypeId) (len : Nat) (e : TypeId) (n : Nat) : Bool := (match P.underlying t with
  | some (.array l x) => Nat.beq l len && Nat.beq x e
  | _ => false) && sizeIs P e n
def callOk (P : Program) (f : FuncId) : Bool := match P.funcs[f]? with
  | some fn => fn.name != "runtime.NumGoroutine" && fn.body.isSome
  | none => false
def kindIs (P : Program) (t : TypeId) (d : TypeDesc) : Prop := P.underlying t = some d

theorem Nat.of_beq {a b : Nat} (h : Nat.beq a b = true) : a = b := Nat.eq_of_beq_eq_true h
theorem sizeIs_run {t : TypeId} {n : Nat} (h : sizeIs P t n = true) (w : World) : (sizeOf t).run P w = .ok n w := by
  unfold sizeIs at h
  cases hi : P.info? t with
  | none => simp [hi] at h
  | some i =>
    simp only [hi] at h
    simp [sizeOf, typeInfo, hi, Nat.of_beq h]
theorem bytesIs_info {t : TypeId} {n : Nat} (h : bytesIs P t n = true) : ∃ i, P.info? t = some i ∧ i.bytes = n := by
  unfold bytesIs at h
  cases hi : P.info? t with
  | none => simp [hi] at h
  | some i =>
    simp only [hi] at h
    exact ⟨i, rfl, Nat.of_beq h⟩
theorem notAgg_run {t : TypeId} (h : notAgg P t = true) (w : World) : (isAgg t).run P w = .ok false w := by
  unfold notAgg at h
  cases hu : P.underlying t with
  | none => simp [hu] at h
  | some d => cases d <;> simp [hu] at h <;> simp [isAgg, underlying, hu]
theorem aggOf_run {t : TypeId} {n : Nat} (h : aggOf P t n = true) (w : World) : (isAgg t).run P w = .ok true w := by
  unfold aggOf at h
  simp only [Bool.and_eq_true] at h
  obtain ⟨h, _⟩ := h
  cases hu : P.underlying t with
  | none => simp [hu] at h
  | some d => cases d <;> simp [hu] at h <;> simp [isAgg, underlying, hu]
theorem aggOf_size {t : TypeId} {n : Nat} (h : aggOf P t n = true) : sizeIs P t n = true := by
  unfold aggOf at h
  simp only [Bool.and_eq_true] at h
  exact h.2
theorem sliceOf_und {t e : TypeId} {n : Nat} (h : sliceOf P t e n = true) : P.underlying t = some (.slice e) ∧ sizeIs P e n = true := by
  unfold sliceOf at h
  simp only [Bool.and_eq_true] at h
  obtain ⟨h, h2⟩ := h
  cases hu : P.underlying t with
  | none => simp [hu] at h
  | some d =>
    cases d <;> simp only [hu] at h <;> try (cases h)
    rw [Nat.of_beq h]
    exact ⟨rfl, h2⟩
theorem arrayOf_und {t e : TypeId} {len n : Nat} (h : arrayOf P t len e n = true) : P.underlying t = some (.array len e) ∧ sizeIs P e n = true := by
  unfold arrayOf at h
  simp only [Bool.and_eq_true] at h
  obtain ⟨h, h2⟩ := h
  cases hu : P.underlying t with
  | none => simp [hu] at h
  | some d =>
    cases d <;> simp only [hu, Bool.and_eq_true] at h <;> try (cases h)
    rename_i l x h3 h4
    rw [Nat.of_beq h3, Nat.of_beq h4]
    exact ⟨rfl, h2⟩
theorem fieldIs_und {s t : TypeId} {k off : Nat} (h : fieldIs P s k off t = true) : ∃ fs f, P.underlying s = some (.struct fs) ∧ fs[k]? = some f ∧ f.offset = off ∧ f.type = t ∧ ∃ n, n ≠ 0 ∧ sizeIs P t n = true := by
  unfold fieldIs at h
  cases hu : P.underlying s with
  | none => simp [hu] at h
  | some d =>
    cases d <;> simp only [hu] at h <;> try (cases h)
    rename_i fs
    cases hf : fs[k]? with
    | none => simp [hf] at h
    | some f =>
      simp only [hf, Bool.and_eq_true] at h
      obtain ⟨⟨h1, h2⟩, h3⟩ := h
      have e2 := Nat.of_beq h2
      refine ⟨fs, f, rfl, hf, Nat.of_beq h1, e2, ?_⟩
      rw [e2] at h3
      cases hi : P.info? t with
      | none => simp [hi] at h3
      | some i =>
        simp only [hi, Bool.not_eq_true'] at h3
        refine ⟨i.size, fun h0 => ?_, by simp [sizeIs, hi]⟩
        rw [h0] at h3
        cases h3

/-! ### operations that ask nothing of the world -/
section pure
variable {ρ : Env} {ds : Option Nat} {ty : TypeId} {pos : String} {aft : Array Edge} {g : Option (Nat × Bool)}

theorem p_move {x : Operand} {v : Value} (h : ev ρ x = some v) : PureOp P ⟨ds, .move x, ty, pos, aft, g⟩ ρ v := fun a hs w => by
  simp [execOp, hs x v h]
theorem p_assign {x : Operand} {v : Value} (h : ev ρ x = some v) : PureOp P ⟨ds, .assign x, ty, pos, aft, g⟩ ρ v := fun a hs w => by
  simp [execOp, hs x v h]
theorem p_pickT {c x y : Operand} {v : Value} (hc : ev ρ c = some (.bool true)) (h : ev ρ x = some v) : PureOp P ⟨ds, .pick c x y, ty, pos, aft, g⟩ ρ v := fun a hs w => by
  simp [execOp, hs c _ hc, hs x v h, asBool]
theorem p_pickF {c x y : Operand} {v : Value} (hc : ev ρ c = some (.bool false)) (h : ev ρ y = some v) : PureOp P ⟨ds, .pick c x y, ty, pos, aft, g⟩ ρ v := fun a hs w => by
  simp [execOp, hs c _ hc, hs y v h, asBool]
theorem p_nilCheck {x : Operand} {b : Addr} (h : ev ρ x = some (.pointer (some b))) : PureOp P ⟨ds, .nilCheck x, ty, pos, aft, g⟩ ρ (.pointer (some b)) := fun a hs w => by
  simp [execOp, hs x _ h]
theorem p_not {t : TypeId} {x : Operand} {b : Bool} (h : ev ρ x = some (.bool b)) : PureOp P ⟨ds, .unOp .not t x, ty, pos, aft, g⟩ ρ (.bool !b) := fun a hs w => by
  simp [execOp, hs x _ h, Op.unary]
theorem addr_add (b o n : Nat) : (⟨b, o, none⟩ : Addr).add n = ⟨b, o + n, none⟩ := by
  unfold Addr.add
  split
  · subst_vars; rfl
  · rfl
theorem p_fieldAddr {s t : TypeId} {x : Operand} {k n b o : Nat} (h : ev ρ x = some (.pointer (some ⟨b, o, none⟩))) (hf : fieldIs P s k n t = true) : PureOp P ⟨ds, .fieldAddr s x k, ty, pos, aft, g⟩ ρ (.pointer (some ⟨b, o + n, none⟩)) := fun a hs w => by
  obtain ⟨fs, f, hu, hk, ho, ht, m, hm, hsz⟩ := fieldIs_und hf
  subst ho; subst ht
  simp [execOp, hs x _ h, Instr.fieldAt, underlying, hu, hk, Instr.sureAddr, fieldPlace, sizeIs_run hsz, hm, addr_add]
theorem p_idxSlice {t e : TypeId} {x i : Operand} {n b o len cap : Nat} {k : IntKind} {j : Int} (h : ev ρ x = some (.slice (some ⟨b, o, none⟩) len cap)) (hi : ev ρ i = some (.int k j)) (ht : sliceOf P t e n = true) (h0 : 0 ≤ j) (h1 : j < len) :
    PureOp P ⟨ds, .indexAddr t x i, ty, pos, aft, g⟩ ρ (.pointer (some ⟨b, o + j.toNat * n, none⟩)) := fun a hs w => by
  obtain ⟨hu, hsz⟩ := sliceOf_und ht
  simp [execOp, hs x _ h, hs i _ hi, Instr.indexAt, underlying, hu, asIntOf, h0, h1, sizeIs_run hsz, addr_add]
theorem p_idxSlice0 {t e : TypeId} {x i : Operand} {n b len cap : Nat} {k : IntKind} {j : Int} (h : ev ρ x = some (.slice (some ⟨b, 0, none⟩) len cap)) (hi : ev ρ i = some (.int k j)) (ht : sliceOf P t e n = true) (h0 : 0 ≤ j) (h1 : j < len) :
    PureOp P ⟨ds, .indexAddr t x i, ty, pos, aft, g⟩ ρ (.pointer (some ⟨b, j.toNat * n, none⟩)) := by
  have := p_idxSlice (ds := ds) (ty := ty) (pos := pos) (aft := aft) (g := g) h hi ht h0 h1
  rwa [Nat.zero_add] at this
theorem p_idxArr {t e : TypeId} {x i : Operand} {n b o len : Nat} {k : IntKind} {j : Int} (h : ev ρ x = some (.pointer (some ⟨b, o, none⟩))) (hi : ev ρ i = some (.int k j)) (ht : arrayOf P t len e n = true) (h0 : 0 ≤ j) (h1 : j < len) :
    PureOp P ⟨ds, .indexAddr t x i, ty, pos, aft, g⟩ ρ (.pointer (some ⟨b, o + j.toNat * n, none⟩)) := fun a hs w => by
  obtain ⟨hu, hsz⟩ := arrayOf_und ht
  simp [execOp, hs x _ h, hs i _ hi, Instr.indexAt, underlying, hu, asIntOf, Instr.sureAddr, h0, h1, sizeIs_run hsz, addr_add]
theorem p_idxArr0 {t e : TypeId} {x i : Operand} {n b len : Nat} {k : IntKind} {j : Int} (h : ev ρ x = some (.pointer (some ⟨b, 0, none⟩))) (hi : ev ρ i = some (.int k j)) (ht : arrayOf P t len e n = true) (h0 : 0 ≤ j) (h1 : j < len) :
    PureOp P ⟨ds, .indexAddr t x i, ty, pos, aft, g⟩ ρ (.pointer (some ⟨b, j.toNat * n, none⟩)) := by
  have := p_idxArr (ds := ds) (ty := ty) (pos := pos) (aft := aft) (g := g) h hi ht h0 h1
  rwa [Nat.zero_add] at this
theorem p_extract {x : Operand} {vs : Array Value} {k : Nat} {v : Value} (h : ev ρ x = some (.tuple vs)) (hk : vs[k]? = some v) : PureOp P ⟨ds, .extract x k, ty, pos, aft, g⟩ ρ v := fun a hs w => by
  simp [execOp, hs x _ h, Instr.extract, hk]
theorem p_iface {t : TypeId} {x : Operand} {v : Value} (h : ev ρ x = some v) (ht : (match P.underlying t with | some (.interface _) => false | some _ => true | none => false) = true) : PureOp P ⟨ds, .makeInterface t x, ty, pos, aft, g⟩ ρ (.iface t v) := fun a hs w => by
  cases hu : P.underlying t with
  | none => simp [hu] at ht
  | some d => cases d <;> simp [hu] at ht <;> simp [execOp, hs x _ h, Instr.makeInterface, underlying, hu]
theorem p_convInt {s t : TypeId} {x : Operand} {k k' : IntKind} {n m : Int} {ds' : TypeDesc} (h : ev ρ x = some (.int k n)) (hs' : P.underlying s = some ds') (ht : P.underlying t = some (.int k')) (hm : k'.wrap n = m) : PureOp P ⟨ds, .convert s t x, ty, pos, aft, g⟩ ρ (.int k' m) := fun a hs w => by
  subst hm
  cases ds' <;> simp [execOp, hs x _ h, convert, underlying, hs', ht, Conv.intToInt]

theorem eq_bool {t : TypeId} (ht : P.underlying t = some .bool) (m n : Bool) (w : World) : (Op.equal t (.bool m) (.bool n)).run P w = .ok (m == n) w := by
  show (Op.equalIn (9999 + 1) t (.bool m) (.bool n)).run P w = _
  rw [Op.equalIn]
  simp [underlying, ht]
theorem eq_nilPtr {t e : TypeId} (ht : P.underlying t = some (.pointer e)) (p : Option Addr) (w : World) : (Op.equal t (.pointer p) (.pointer none)).run P w = .ok p.isNone w := by
  show (Op.equalIn (9999 + 1) t (.pointer p) (.pointer none)).run P w = _
  rw [Op.equalIn]
  cases p <;> simp [underlying, ht]
theorem eq_nilMap {t k e : TypeId} (ht : P.underlying t = some (.map k e)) (p : Option Nat) (w : World) : (Op.equal t (.map p) (.map none)).run P w = .ok p.isNone w := by
  show (Op.equalIn (9999 + 1) t (.map p) (.map none)).run P w = _
  rw [Op.equalIn]
  cases p <;> simp [underlying, ht]
theorem eq_nilIface {t : TypeId} {ms : Array (String × TypeId)} (ht : P.underlying t = some (.interface ms)) {v : Value} (hv : v = .nilIface ∨ ∃ t u, v = .iface t u) (w : World) : (Op.equal t v .nilIface).run P w = .ok (match v with | .nilIface => true | _ => false) w := by
  show (Op.equalIn (9999 + 1) t v .nilIface).run P w = _
  rw [Op.equalIn]
  rcases hv with rfl | ⟨t', u, rfl⟩ <;> simp [underlying, ht]
theorem eq_int {t : TypeId} {k : IntKind} (ht : P.underlying t = some (.int k)) (k' : IntKind) (m n : Int) (w : World) : (Op.equal t (.int k' m) (.int k' n)).run P w = .ok (m == n) w := by
  show (Op.equalIn (9999 + 1) t (.int k' m) (.int k' n)).run P w = _
  rw [Op.equalIn]
  simp [underlying, ht]
/-- integers -/
theorem p_add {t yt : TypeId} {x y : Operand} {k : IntKind} {m n r : Int} (hx : ev ρ x = some (.int k m)) (hy : ev ρ y = some (.int k n)) (hr : k.wrap (m + n) = r) : PureOp P ⟨ds, .binOp .add t x y yt, ty, pos, aft, g⟩ ρ (.int k r) := fun a hs w => by
  subst hr; simp [execOp, hs x _ hx, hs y _ hy, eqGuard, binOp, Op.intArith]
theorem p_sub {t yt : TypeId} {x y : Operand} {k : IntKind} {m n r : Int} (hx : ev ρ x = some (.int k m)) (hy : ev ρ y = some (.int k n)) (hr : k.wrap (m - n) = r) : PureOp P ⟨ds, .binOp .sub t x y yt, ty, pos, aft, g⟩ ρ (.int k r) := fun a hs w => by
  subst hr; simp [execOp, hs x _ hx, hs y _ hy, eqGuard, binOp, Op.intArith]
theorem p_mul {t yt : TypeId} {x y : Operand} {k : IntKind} {m n r : Int} (hx : ev ρ x = some (.int k m)) (hy : ev ρ y = some (.int k n)) (hr : k.wrap (m * n) = r) : PureOp P ⟨ds, .binOp .mul t x y yt, ty, pos, aft, g⟩ ρ (.int k r) := fun a hs w => by
  subst hr; simp [execOp, hs x _ hx, hs y _ hy, eqGuard, binOp, Op.intArith]
theorem p_quo {t yt : TypeId} {x y : Operand} {k : IntKind} {m n r : Int} (hx : ev ρ x = some (.int k m)) (hy : ev ρ y = some (.int k n)) (h0 : n ≠ 0) (hr : k.wrap (m.tdiv n) = r) : PureOp P ⟨ds, .binOp .quo t x y yt, ty, pos, aft, g⟩ ρ (.int k r) := fun a hs w => by
  subst hr; simp [execOp, hs x _ hx, hs y _ hy, eqGuard, binOp, Op.intDiv, h0]
theorem p_rem {t yt : TypeId} {x y : Operand} {k : IntKind} {m n r : Int} (hx : ev ρ x = some (.int k m)) (hy : ev ρ y = some (.int k n)) (h0 : n ≠ 0) (hr : m.tmod n = r) : PureOp P ⟨ds, .binOp .rem t x y yt, ty, pos, aft, g⟩ ρ (.int k r) := fun a hs w => by
  subst hr; simp [execOp, hs x _ hx, hs y _ hy, eqGuard, binOp, Op.intDiv, h0]
theorem p_lss {t yt : TypeId} {x y : Operand} {k : IntKind} {m n : Int} (hx : ev ρ x = some (.int k m)) (hy : ev ρ y = some (.int k n)) : PureOp P ⟨ds, .binOp .lss t x y yt, ty, pos, aft, g⟩ ρ (.bool (decide (m < n))) := fun a hs w => by
  simp [execOp, hs x _ hx, hs y _ hy, eqGuard, binOp, Op.intCmp]
theorem p_leq {t yt : TypeId} {x y : Operand} {k : IntKind} {m n : Int} (hx : ev ρ x = some (.int k m)) (hy : ev ρ y = some (.int k n)) : PureOp P ⟨ds, .binOp .leq t x y yt, ty, pos, aft, g⟩ ρ (.bool (decide (m ≤ n))) := fun a hs w => by
  simp [execOp, hs x _ hx, hs y _ hy, eqGuard, binOp, Op.intCmp]
theorem p_gtr {t yt : TypeId} {x y : Operand} {k : IntKind} {m n : Int} (hx : ev ρ x = some (.int k m)) (hy : ev ρ y = some (.int k n)) : PureOp P ⟨ds, .binOp .gtr t x y yt, ty, pos, aft, g⟩ ρ (.bool (decide (n < m))) := fun a hs w => by
  simp [execOp, hs x _ hx, hs y _ hy, eqGuard, binOp, Op.intCmp]
theorem p_geq {t yt : TypeId} {x y : Operand} {k : IntKind} {m n : Int} (hx : ev ρ x = some (.int k m)) (hy : ev ρ y = some (.int k n)) : PureOp P ⟨ds, .binOp .geq t x y yt, ty, pos, aft, g⟩ ρ (.bool (decide (n ≤ m))) := fun a hs w => by
  simp [execOp, hs x _ hx, hs y _ hy, eqGuard, binOp, Op.intCmp]
theorem p_eqInt {t yt : TypeId} {x y : Operand} {k : IntKind} {m n : Int} (hx : ev ρ x = some (.int k m)) (hy : ev ρ y = some (.int k n)) : PureOp P ⟨ds, .binOp .eql t x y yt, ty, pos, aft, g⟩ ρ (.bool (decide (m = n))) := fun a hs w => by
  have : (m == n) = decide (m = n) := by rw [Bool.eq_iff_iff]; simp
  simp [execOp, hs x _ hx, hs y _ hy, eqGuard, binOp, Op.intCmp, this]
theorem p_neInt {t yt : TypeId} {x y : Operand} {k : IntKind} {m n : Int} (hx : ev ρ x = some (.int k m)) (hy : ev ρ y = some (.int k n)) : PureOp P ⟨ds, .binOp .neq t x y yt, ty, pos, aft, g⟩ ρ (.bool (decide (m ≠ n))) := fun a hs w => by
  have : (m != n) = decide (m ≠ n) := by rw [Bool.eq_iff_iff]; simp
  simp [execOp, hs x _ hx, hs y _ hy, eqGuard, binOp, Op.intCmp, this]
/-- strings -/
theorem bytes_beq (a b : ByteArray) : (a == b) = true ↔ a = b := by
  obtain ⟨⟨x⟩⟩ := a
  obtain ⟨⟨y⟩⟩ := b
  show ((⟨x⟩ : Array UInt8) == ⟨y⟩) = true ↔ _
  simp
theorem bytes_dec (a b : ByteArray) : (a.toList == b.toList) = decide (a = b) := by
  rw [← beq_toListBytes, Bool.eq_iff_iff, bytes_beq]
  simp
theorem p_eqStr {t yt : TypeId} {x y : Operand} {m n : ByteArray} (hx : ev ρ x = some (.string m)) (hy : ev ρ y = some (.string n)) : PureOp P ⟨ds, .binOp .eql t x y yt, ty, pos, aft, g⟩ ρ (.bool (decide (m = n))) := fun a hs w => by
  simp [execOp, hs x _ hx, hs y _ hy, eqGuard, binOp, Op.stringOp, bytes_dec]
theorem p_neStr {t yt : TypeId} {x y : Operand} {m n : ByteArray} (hx : ev ρ x = some (.string m)) (hy : ev ρ y = some (.string n)) : PureOp P ⟨ds, .binOp .neq t x y yt, ty, pos, aft, g⟩ ρ (.bool !(decide (m = n))) := fun a hs w => by
  simp [execOp, hs x _ hx, hs y _ hy, eqGuard, binOp, Op.stringOp, bytes_dec]
/-- bools -/
theorem p_eqBool {t yt : TypeId} {x y : Operand} {m n : Bool} (hx : ev ρ x = some (.bool m)) (hy : ev ρ y = some (.bool n)) (ht : P.underlying t = some .bool) : PureOp P ⟨ds, .binOp .eql t x y yt, ty, pos, aft, g⟩ ρ (.bool (m == n)) := fun a hs w => by
  simp [execOp, hs x _ hx, hs y _ hy, eqGuard, binOp, eq_bool ht]
theorem p_neBool {t yt : TypeId} {x y : Operand} {m n : Bool} (hx : ev ρ x = some (.bool m)) (hy : ev ρ y = some (.bool n)) (ht : P.underlying t = some .bool) : PureOp P ⟨ds, .binOp .neq t x y yt, ty, pos, aft, g⟩ ρ (.bool !(m == n)) := fun a hs w => by
  simp [execOp, hs x _ hx, hs y _ hy, eqGuard, binOp, eq_bool ht]
/-- a pointer, a map, an interface value against nil -/
theorem p_eqNilPtr {t yt e : TypeId} {x y : Operand} {p : Option Addr} (hx : ev ρ x = some (.pointer p)) (hy : ev ρ y = some (.pointer none)) (ht : P.underlying t = some (.pointer e)) : PureOp P ⟨ds, .binOp .eql t x y yt, ty, pos, aft, g⟩ ρ (.bool p.isNone) := fun a hs w => by
  simp [execOp, hs x _ hx, hs y _ hy, eqGuard, binOp, eq_nilPtr ht]
theorem p_neNilPtr {t yt e : TypeId} {x y : Operand} {p : Option Addr} (hx : ev ρ x = some (.pointer p)) (hy : ev ρ y = some (.pointer none)) (ht : P.underlying t = some (.pointer e)) : PureOp P ⟨ds, .binOp .neq t x y yt, ty, pos, aft, g⟩ ρ (.bool !p.isNone) := fun a hs w => by
  simp [execOp, hs x _ hx, hs y _ hy, eqGuard, binOp, eq_nilPtr ht]
theorem p_eqNilMap {t yt k e : TypeId} {x y : Operand} {p : Option Nat} (hx : ev ρ x = some (.map p)) (hy : ev ρ y = some (.map none)) (ht : P.underlying t = some (.map k e)) : PureOp P ⟨ds, .binOp .eql t x y yt, ty, pos, aft, g⟩ ρ (.bool p.isNone) := fun a hs w => by
  simp [execOp, hs x _ hx, hs y _ hy, eqGuard, binOp, eq_nilMap ht]
theorem p_eqNilIface {t yt : TypeId} {ms : Array (String × TypeId)} {x : Operand} {v : Value} (hx : ev ρ x = some v) (hv : v = .nilIface ∨ ∃ t u, v = .iface t u) (ht : P.underlying t = some (.interface ms)) :
    PureOp P ⟨ds, .binOp .eql t x (.const .nilIface) yt, ty, pos, aft, g⟩ ρ (.bool (match v with | .nilIface => true | _ => false)) := fun a hs w => by
  have e : a.eval (.const .nilIface) = .nilIface := rfl
  have hq := eq_nilIface ht hv w
  rcases hv with rfl | ⟨t', u, rfl⟩ <;> simp [execOp, hs x _ hx, e, eqGuard, binOp, hq]
theorem p_neNilIface {t yt : TypeId} {ms : Array (String × TypeId)} {x : Operand} {v : Value} (hx : ev ρ x = some v) (hv : v = .nilIface ∨ ∃ t u, v = .iface t u) (ht : P.underlying t = some (.interface ms)) :
    PureOp P ⟨ds, .binOp .neq t x (.const .nilIface) yt, ty, pos, aft, g⟩ ρ (.bool (match v with | .nilIface => false | _ => true)) := fun a hs w => by
  have e : a.eval (.const .nilIface) = .nilIface := rfl
  have hq := eq_nilIface ht hv w
  rcases hv with rfl | ⟨t', u, rfl⟩ <;> simp [execOp, hs x _ hx, e, eqGuard, binOp, hq]
/-- len of a slice, a string -/
theorem p_lenSlice {t e : TypeId} {x : Operand} {p : Option Addr} {len cap : Nat} (hx : ev ρ x = some (.slice p len cap)) (ht : P.underlying t = some (.slice e)) : PureOp P ⟨ds, .call ⟨.builtin .len, #[x], #[t]⟩, ty, pos, aft, g⟩ ρ (.int .i64 len) := fun a hs w => by
  simp [execOp, resolve, invoke, builtin, Builtin.len_, hs x _ hx, underlying, ht, goInt]
theorem p_lenStr {t : TypeId} {x : Operand} {s : ByteArray} (hx : ev ρ x = some (.string s)) (ht : P.underlying t = some .string) : PureOp P ⟨ds, .call ⟨.builtin .len, #[x], #[t]⟩, ty, pos, aft, g⟩ ρ (.int .i64 s.size) := fun a hs w => by
  simp [execOp, resolve, invoke, builtin, Builtin.len_, hs x _ hx, underlying, ht, goInt]
/-- slices of slices -/
theorem p_slice {t e : TypeId} {x : Operand} {lo hi : Option Operand} {n b o len cap : Nat} {l h : Int} {kl kh : IntKind} (hx : ev ρ x = some (.slice (some ⟨b, o, none⟩) len cap)) (ht : sliceOf P t e n = true)
    (hl : (match lo with | none => some (Value.int kl l) | some y => ev ρ y) = some (.int kl l)) (hl0 : lo = none → l = 0) (hh : (match hi with | none => some (Value.int kh h) | some y => ev ρ y) = some (.int kh h)) (hh0 : hi = none → h = len)
    (h1 : 0 ≤ l) (h2 : l ≤ h) (h3 : h ≤ cap) :
    PureOp P ⟨ds, .slice t x lo hi none, ty, pos, aft, g⟩ ρ (.slice (some (if cap = l.toNat then ⟨b, o, none⟩ else ⟨b, o + l.toNat * n, none⟩)) (h.toNat - l.toNat) (cap - l.toNat)) := fun a hs w => by
  obtain ⟨hu, hsz⟩ := sliceOf_und ht
  have hb : (Instr.sliceBounds true len cap (lo.map a.eval) (hi.map a.eval) none).run P w = .ok (l.toNat, h.toNat, cap) w := by
    cases lo with
    | none =>
      have e1 := hl0 rfl
      subst e1
      cases hi with
      | none =>
        have e2 := hh0 rfl
        subst e2
        simp [Instr.sliceBounds]
      | some y =>
        have := hs y _ hh
        have h4 : h ≤ (cap : Int) := h3
        simp [Instr.sliceBounds, this, Instr.sliceBound, asIntOf, h4]
        omega
    | some z =>
      have hz := hs z _ hl
      cases hi with
      | none =>
        have e2 := hh0 rfl
        subst e2
        have : l ≤ (len : Int) := h2
        simp [Instr.sliceBounds, hz, Instr.sliceBound, asIntOf, h1, this]
      | some y =>
        have := hs y _ hh
        have h6 : 0 ≤ h := by omega
        have h7 : max h 0 = h := Int.max_eq_left h6
        have h8 : ¬ h < l := by omega
        simp [Instr.sliceBounds, this, hz, Instr.sliceBound, asIntOf, h1, h3, h6, h7, h8]
  simp only [execOp, hs x _ hx, Instr.sliceAt, underlying, Sem.run_bind, run_program, Result.andThen_ok, hu, Sem.run_pure, Instr.slice, Option.map_none, hb, sizeIs_run hsz]
  by_cases hc : cap = l.toNat <;> simp [hc, addr_add]
end pure
end
end Go.EL
