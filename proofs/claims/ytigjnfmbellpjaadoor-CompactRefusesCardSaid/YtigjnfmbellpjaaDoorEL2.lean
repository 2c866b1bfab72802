/- Part 2: regions. An operation is of one of three classes: it asks nothing of the world; it only reads; anything else. A region whose unordered pairs are all harmless may be walked in the order of the text, whatever order is drawn. -/
import Derived.Test.YtigjnfmbellpjaaDoorEL1
namespace Go.EL
open Go

inductive Cls where
  | pure | read | eff
def clsOf : Op → Cls
  | .move _ | .assign _ | .pick .. | .nilCheck _ | .unOp .. | .fieldAddr .. | .field .. | .indexAddr .. | .index .. | .slice .. | .extract .. | .build .. | .makeInterface .. => .pure
  | .binOp .eql .. | .binOp .neq .. => .read
  | .binOp .. => .pure
  | .load .. | .lookup .. => .read
  | .call { callee := .builtin .len, .. } | .call { callee := .builtin .cap, .. } => .read
  | .call { callee := .builtin .min, .. } | .call { callee := .builtin .max, .. } => .pure
  | _ => .eff
def Cls.compat : Cls → Cls → Bool
  | .pure, _ => true
  | _, .pure => true
  | .read, .read => true
  | _, _ => false

section
variable {P : Program} {ops : Array Oper}

/-- what an operation yields: a value and a world -/
def Yld (P : Program) (o : Oper) (a : Act) (w : World) (R : Value → World → Prop) : Prop :=
  match (execOp a.eval o).run P w with
  | .ok (.value v) w' => R v w'
  | .ok .skip w' => R undef w'
  | .ok (.enter f args) w' => Calls P f args w' (fun e w'' => ∃ v, e = .returned v ∧ R v w'')
  | _ => False
theorem Yld.mono {o : Oper} {a : Act} {w : World} {R R' : Value → World → Prop} (h : Yld P o a w R) (hr : ∀ v w', R v w' → R' v w') : Yld P o a w R' := by
  unfold Yld at *
  generalize (execOp a.eval o).run P w = r at *
  cases r with
  | ok n w' =>
    cases n <;> first
      | exact hr _ _ h
      | exact h.mono fun _ _ ⟨v, he, hR⟩ => ⟨v, he, hr _ _ hR⟩
      | exact h
  | halt x w' => exact h
theorem Yld.wp {o : Oper} {a : Act} {w : World} {K : Act → World → Prop} {Q : Exit → Act → World → Prop} (h : Yld P o a w (fun v w' => K (a.put o.dst v) w')) : o.wp P a w K Q := by
  unfold Yld at h
  unfold Oper.wp
  generalize (execOp a.eval o).run P w = r at *
  cases r with
  | ok n w' =>
    cases n <;> first
      | exact h
      | (refine h.mono ?_
         rintro e w'' ⟨v, rfl, hR⟩
         exact hR)
      | exact h.elim
  | halt x w' => exact h.elim
/-- it yields something -/
theorem Yld.some {o : Oper} {a : Act} {w : World} {R : Value → World → Prop} (h : Yld P o a w R) : ∃ v w', R v w' := by
  unfold Yld at h
  generalize (execOp a.eval o).run P w = r at *
  cases r with
  | ok n w' =>
    cases n <;> first
      | exact ⟨_, _, h⟩
      | (obtain ⟨e, w'', fr, ⟨v, _, hR⟩, _⟩ := h []
         exact ⟨v, w'', hR⟩)
      | exact h.elim
  | halt x w' => exact h.elim

/-- one operation, of a class -/
def SOp (P : Program) (ops : Array Oper) (o : Oper) (K : Act → World → Prop) (a : Act) (w : World) : Prop :=
  (Region.wanted o (yielded ops a.tmps) = true ∧ match clsOf o.op with
    | .pure => ∃ v, (∀ w', (execOp a.eval o).run P w' = .ok (.value v) w') ∧ K (a.put o.dst v) w
    | .read => ∃ v, (execOp a.eval o).run P w = .ok (.value v) w ∧ K (a.put o.dst v) w
    | .eff => Yld P o a w (fun v w' => K (a.put o.dst v) w')) ∨
  (Region.wanted o (yielded ops a.tmps) = false ∧ K (a.put o.dst undef) w)
theorem SOp.mono {o : Oper} {K K' : Act → World → Prop} {a : Act} {w : World} (h : SOp P ops o K a w) (hk : ∀ a w, K a w → K' a w) : SOp P ops o K' a w := by
  rcases h with ⟨hw, h⟩ | ⟨hw, h⟩
  · refine .inl ⟨hw, ?_⟩
    cases hc : clsOf o.op <;> simp only [hc] at h ⊢
    · exact let ⟨v, h1, h2⟩ := h; ⟨v, h1, hk _ _ h2⟩
    · exact let ⟨v, h1, h2⟩ := h; ⟨v, h1, hk _ _ h2⟩
    · exact h.mono fun _ _ => hk _ _
  · exact .inr ⟨hw, hk _ _ h⟩
theorem SOp.wpOp {o : Oper} {i : Nat} {K : Act → World → Prop} {Q : Exit → Act → World → Prop} {a : Act} {w : World} (hi : ops[i]? = some o) (h : SOp P ops o K a w) : wpOp P ops Q i K a w := by
  unfold Go.wpOp
  simp only [hi]
  rcases h with ⟨hw, h⟩ | ⟨hw, h⟩
  · rw [if_pos hw]
    refine .inl ?_
    cases hc : clsOf o.op <;> simp only [hc] at h
    · obtain ⟨v, h1, h2⟩ := h
      unfold Oper.wp
      rw [h1 w]
      exact h2
    · obtain ⟨v, h1, h2⟩ := h
      unfold Oper.wp
      rw [h1]
      exact h2
    · exact h.wp
  · rw [if_neg (by simp [hw])]
    exact h

/-- two neighbours change places -/
theorem SOp.swap {oi oj : Oper} (hap : oi.apart ops oj = true) (hsi : ∀ cs b, oi.op ≠ .select cs b) (hsj : ∀ cs b, oj.op ≠ .select cs b)
    (hc : (clsOf oi.op).compat (clsOf oj.op) = true) {K : Act → World → Prop} {a : Act} {w : World} (h : SOp P ops oj (SOp P ops oi K) a w) : SOp P ops oi (SOp P ops oj K) a w := by
  obtain ⟨h1, h2, h3⟩ := Oper.apart_spec hap
  -- what oi does is the same behind oj's store into its slot, and the other way round
  have ei : ∀ u, execOp (a.put oj.dst u).eval oi = execOp a.eval oi := fun u => execOp_put oi hsi a oj.dst u h3
  have wi : ∀ u, Region.wanted oi (yielded ops (a.put oj.dst u).tmps) = Region.wanted oi (yielded ops a.tmps) := fun u => wanted_put oi a oj.dst u h3
  have ej : ∀ u, execOp (a.put oi.dst u).eval oj = execOp a.eval oj := fun u => execOp_put oj hsj a oi.dst u h1
  have wj : ∀ u, Region.wanted oj (yielded ops (a.put oi.dst u).tmps) = Region.wanted oj (yielded ops a.tmps) := fun u => wanted_put oj a oi.dst u h1
  have pc : ∀ v u, (a.put oi.dst v).put oj.dst u = (a.put oj.dst u).put oi.dst v := fun v u => Act.put_comm a v u h2
  have yi : ∀ u w R, Yld P oi (a.put oj.dst u) w R = Yld P oi a w R := fun u w R => by unfold Yld; rw [ei]
  have yj : ∀ u w R, Yld P oj (a.put oi.dst u) w R = Yld P oj a w R := fun u w R => by unfold Yld; rw [ej]
  rcases h with ⟨hwj, h⟩ | ⟨hwj, h⟩
  · -- oj is wanted
    by_cases hwi : Region.wanted oi (yielded ops a.tmps) = true
    · refine .inl ⟨hwi, ?_⟩
      -- the inner step's left side
      have inner : ∀ u w', SOp P ops oi K (a.put oj.dst u) w' → match clsOf oi.op with
          | .pure => ∃ v, (∀ w', (execOp a.eval oi).run P w' = .ok (.value v) w') ∧ K ((a.put oj.dst u).put oi.dst v) w'
          | .read => ∃ v, (execOp a.eval oi).run P w' = .ok (.value v) w' ∧ K ((a.put oj.dst u).put oi.dst v) w'
          | .eff => Yld P oi a w' (fun v w'' => K ((a.put oj.dst u).put oi.dst v) w'') := by
        intro u w' hs
        rcases hs with ⟨_, hs⟩ | ⟨hn, _⟩
        · cases hci : clsOf oi.op <;> simp only [hci] at hs ⊢
          · simpa only [ei] using hs
          · simpa only [ei] using hs
          · simpa only [yi] using hs
        · rw [wi, hwi] at hn; cases hn
      cases hci : clsOf oi.op <;> cases hcj : clsOf oj.op <;> simp only [hci, hcj, Cls.compat] at hc h inner ⊢ <;> try (cases hc)
      · -- pure, pure
        obtain ⟨u, hu, hs⟩ := h
        obtain ⟨v, hv, hk⟩ := inner u w hs
        exact ⟨v, hv, .inl ⟨by rw [wj]; exact hwj, by simp only [hcj]; exact ⟨u, by simpa only [ej] using hu, by rw [pc]; exact hk⟩⟩⟩
      · -- pure, read
        obtain ⟨u, hu, hs⟩ := h
        obtain ⟨v, hv, hk⟩ := inner u w hs
        exact ⟨v, hv, .inl ⟨by rw [wj]; exact hwj, by simp only [hcj]; exact ⟨u, by simpa only [ej] using hu, by rw [pc]; exact hk⟩⟩⟩
      · -- pure, eff
        obtain ⟨u0, w0, hs0⟩ := h.some
        obtain ⟨v, hv, _⟩ := inner u0 w0 hs0
        refine ⟨v, hv, .inl ⟨by rw [wj]; exact hwj, ?_⟩⟩
        simp only [hcj, yj]
        refine h.mono fun u w' hs => ?_
        obtain ⟨v', hv', hk⟩ := inner u w' hs
        have : v' = v := by
          have := (hv' w).symm.trans (hv w)
          simpa using this
        subst this
        rw [pc]; exact hk
      · -- read, pure
        obtain ⟨u, hu, hs⟩ := h
        obtain ⟨v, hv, hk⟩ := inner u w hs
        exact ⟨v, hv, .inl ⟨by rw [wj]; exact hwj, by simp only [hcj]; exact ⟨u, by simpa only [ej] using hu, by rw [pc]; exact hk⟩⟩⟩
      · -- read, read
        obtain ⟨u, hu, hs⟩ := h
        obtain ⟨v, hv, hk⟩ := inner u w hs
        exact ⟨v, hv, .inl ⟨by rw [wj]; exact hwj, by simp only [hcj]; exact ⟨u, by simpa only [ej] using hu, by rw [pc]; exact hk⟩⟩⟩
      · -- eff, pure
        obtain ⟨u, hu, hs⟩ := h
        refine (inner u w hs).mono fun v w' hk => .inl ⟨by rw [wj]; exact hwj, ?_⟩
        simp only [hcj]
        exact ⟨u, by simpa only [ej] using hu, by rw [pc]; exact hk⟩
    · have hwi' : Region.wanted oi (yielded ops a.tmps) = false := by simpa using hwi
      refine .inr ⟨hwi', .inl ⟨by rw [wj]; exact hwj, ?_⟩⟩
      have inner : ∀ u w', SOp P ops oi K (a.put oj.dst u) w' → K ((a.put oj.dst u).put oi.dst undef) w' := by
        intro u w' hs
        rcases hs with ⟨hn, _⟩ | ⟨_, hs⟩
        · rw [wi, hwi'] at hn; cases hn
        · exact hs
      cases hcj : clsOf oj.op <;> simp only [hcj] at h ⊢
      · obtain ⟨u, hu, hs⟩ := h
        exact ⟨u, by simpa only [ej] using hu, by rw [pc]; exact inner u w hs⟩
      · obtain ⟨u, hu, hs⟩ := h
        exact ⟨u, by simpa only [ej] using hu, by rw [pc]; exact inner u w hs⟩
      · simp only [yj]
        exact h.mono fun u w' hs => by rw [pc]; exact inner u w' hs
  · -- oj is passed over
    rcases h with ⟨hwi, h⟩ | ⟨hwi, h⟩
    · rw [wi] at hwi
      refine .inl ⟨hwi, ?_⟩
      cases hci : clsOf oi.op <;> simp only [hci] at h ⊢
      · obtain ⟨v, hv, hk⟩ := h
        exact ⟨v, by simpa only [ei] using hv, .inr ⟨by rw [wj]; exact hwj, by rw [pc]; exact hk⟩⟩
      · obtain ⟨v, hv, hk⟩ := h
        exact ⟨v, by simpa only [ei] using hv, .inr ⟨by rw [wj]; exact hwj, by rw [pc]; exact hk⟩⟩
      · simp only [yi] at h
        exact h.mono fun v w' hk => .inr ⟨by rw [wj]; exact hwj, by rw [pc]; exact hk⟩
    · rw [wi] at hwi
      exact .inr ⟨hwi, .inr ⟨by rw [wj]; exact hwj, by rw [pc]; exact h⟩⟩

/-- the operations, in the order of their numbers -/
def Lex (P : Program) (ops : Array Oper) (Q : Act → World → Prop) : List Nat → Act → World → Prop
  | [], a, w => Q a w
  | i :: r, a, w => match ops[i]? with
    | none => Lex P ops Q r a w
    | some o => SOp P ops o (Lex P ops Q r) a w

def harmless (ops : Array Oper) (i j : Nat) : Bool :=
  match ops[i]?, ops[j]? with
  | some oi, some oj => oi.apart ops oj && (clsOf oi.op).compat (clsOf oj.op)
  | _, _ => true

theorem Lex.front (hsel : Region.noSelect ops = true) {Q : Act → World → Prop} {i : Nat} {ks : List Nat} : ∀ (js : List Nat), (∀ j ∈ js, harmless ops i j = true) →
    ∀ a w, Lex P ops Q (js ++ i :: ks) a w → Lex P ops Q (i :: (js ++ ks)) a w
  | [], _, _, _, h => h
  | j :: js, hj, a, w, h => by
    have ih := Lex.front hsel (i := i) (ks := ks) (Q := Q) js (fun k hk => hj k (List.mem_cons_of_mem _ hk))
    have hh := hj j (List.mem_cons_self ..)
    simp only [List.cons_append, Lex] at h ⊢
    cases hoi : ops[i]? with
    | none =>
      simp only
      cases hoj : ops[j]? with
      | none =>
        simp only [hoj] at h
        have := ih a w h
        simpa only [Lex, hoi] using this
      | some oj =>
        simp only [hoj] at h ⊢
        refine h.mono fun a' w' h' => ?_
        have := ih a' w' h'
        simpa only [Lex, hoi] using this
    | some oi =>
      simp only
      cases hoj : ops[j]? with
      | none =>
        simp only [hoj] at h
        have := ih a w h
        simpa only [Lex, hoi, hoj] using this
      | some oj =>
        simp only [hoj] at h ⊢
        simp only [harmless, hoi, hoj, Bool.and_eq_true] at hh
        have h2 : SOp P ops oj (SOp P ops oi (Lex P ops Q (js ++ ks))) a w := h.mono fun a' w' h' => by
          have := ih a' w' h'
          simpa only [Lex, hoi] using this
        exact SOp.swap hh.1 (Region.noSelect_spec hsel i oi · · hoi) (Region.noSelect_spec hsel j oj · · hoj) hh.2 h2

/-- what is still to come -/
def left (ops : Array Oper) (listed : Array Bool) : List Nat := (List.range ops.size).filter fun i => !listed.getD i true

def okDraw (ops : Array Oper) (b : Array Nat) : Bool :=
  Region.noSelect ops &&
  (List.range ops.size).all fun j => match ops[j]? with
    | none => true
    | some o =>
      (o.after.toList.all fun e => !Region.binds .any e || decide (e.on < j)) &&
      (List.range j).all (fun i => !(b.getD j 0).testBit i || o.after.toList.any (fun e => Region.binds .any e && (e.on == i || (decide (i < e.on) && decide (e.on < j) && (b.getD e.on 0).testBit i)))) &&
      (List.range j).all (fun i => (b.getD j 0).testBit i || harmless ops j i)

structure Draw (ops : Array Oper) (b : Array Nat) : Prop where
  sel : Region.noSelect ops = true
  down : ∀ j oj, ops[j]? = some oj → ∀ e ∈ oj.after, Region.binds .any e = true → e.on < j
  bits : ∀ j oj, ops[j]? = some oj → ∀ i, i < j → (b.getD j 0).testBit i = true → ∃ e ∈ oj.after, Region.binds .any e = true ∧ (e.on = i ∨ (i < e.on ∧ e.on < j ∧ (b.getD e.on 0).testBit i = true))
  harm : ∀ j oj, ops[j]? = some oj → ∀ i, i < j → (b.getD j 0).testBit i = true ∨ harmless ops j i = true
theorem okDraw_spec {b : Array Nat} (h : okDraw ops b = true) : Draw ops b := by
  simp only [okDraw, Bool.and_eq_true, List.all_eq_true, List.mem_range] at h
  obtain ⟨hs, h⟩ := h
  have hh : ∀ j oj, ops[j]? = some oj → _ := fun j oj hoj => by
    have h1 := h j (Array.getElem?_eq_some_iff.1 hoj).1
    simp only [hoj, Bool.and_eq_true, List.all_eq_true, List.mem_range] at h1
    exact h1
  refine ⟨hs, fun j oj hoj e he hb => ?_, fun j oj hoj i hi hb => ?_, fun j oj hoj i hi => ?_⟩
  · have := (hh j oj hoj).1.1 e (by simpa using he)
    simpa [hb] using this
  · have h2 := (hh j oj hoj).1.2 i hi
    simp only [hb, Bool.not_true, Bool.false_or] at h2
    obtain ⟨e, he, h3⟩ := List.any_eq_true.1 h2
    simp only [Bool.and_eq_true, Bool.or_eq_true, beq_iff_eq, decide_eq_true_eq] at h3
    exact ⟨e, by simpa using he, h3.1, h3.2.imp id fun h4 => ⟨h4.1.1, h4.1.2, h4.2⟩⟩
  · have := (hh j oj hoj).2 i hi
    simpa using this

theorem Draw.listed {b : Array Nat} (h : Draw ops b) (listed : Array Bool) (hcl : ∀ j oj, ops[j]? = some oj → listed.getD j false = true → ∀ e ∈ oj.after, Region.binds .any e = true → listed.getD e.on false = true) :
    ∀ (j : Nat) (oj : Oper), ops[j]? = some oj → (∀ e ∈ oj.after, Region.binds .any e = true → listed.getD e.on false = true) → ∀ i, i < j → (b.getD j 0).testBit i = true → listed.getD i false = true := by
  intro j
  induction j using Nat.strongRecOn with
  | _ j ih =>
    intro oj hoj hall i hij hbit
    obtain ⟨e, he, hb1, hb2⟩ := h.bits j oj hoj i hij hbit
    have hl := hall e he hb1
    rcases hb2 with rfl | ⟨hie, hlt, hbit'⟩
    · exact hl
    · have hj : j < ops.size := (Array.getElem?_eq_some_iff.1 hoj).1
      have hlt' : e.on < ops.size := by omega
      exact ih e.on hlt ops[e.on] (by simp [hlt']) (fun e' he' hb' => hcl e.on ops[e.on] (by simp [hlt']) hl e' he' hb') i hie hbit'

theorem mem_left {listed : Array Bool} {i : Nat} : i ∈ left ops listed ↔ i < ops.size ∧ listed.getD i true = false := by
  simp [left, List.mem_filter]
theorem left_sorted (ops : Array Oper) (listed : Array Bool) : (left ops listed).Pairwise (· < ·) := List.Pairwise.filter _ List.pairwise_lt_range
theorem left_set (ops : Array Oper) (listed : Array Bool) (i : Nat) : left ops (listed.setIfInBounds i true) = (left ops listed).filter (fun k => k != i) := by
  unfold left
  rw [List.filter_filter]
  apply List.filter_congr
  intro k _
  by_cases hk : i = k
  · subst hk
    rcases Nat.lt_or_ge i listed.size with h | h
    · simp [h]
    · simp [Array.getElem?_eq_none h]
  · rw [getD_set_ne true hk]
    have : (k != i) = true := by simp; exact fun e => hk e.symm
    simp [this]

theorem wpAny_of_lex {b : Array Nat} (h : Draw ops b) {K : Act → World → Prop} {Q : Exit → Act → World → Prop} (hq : ∀ a w, K a w → Q .normal a w) : ∀ (fuel : Nat) (listed : Array Bool) (a : Act) (w : World),
    (∀ j oj, ops[j]? = some oj → listed.getD j false = true → ∀ e ∈ oj.after, Region.binds .any e = true → listed.getD e.on false = true) → listed.size = ops.size → (left ops listed).length ≤ fuel →
    Lex P ops K (left ops listed) a w → wpAny P .any ops Q fuel listed a w := by
  have both : ∀ (listed : Array Bool) (i : Nat), listed.size = ops.size → i < ops.size → (listed.getD i true = false ↔ listed.getD i false = false) := by
    intro listed i hs hi
    have : i < listed.size := by omega
    simp [this]
  have none_left : ∀ (listed : Array Bool), listed.size = ops.size → Region.ready .any ops listed = [] → left ops listed = [] := by
    intro listed hs hr
    cases hl : left ops listed with
    | nil => rfl
    | cons i r =>
      exfalso
      have hm : i ∈ left ops listed := by rw [hl]; exact List.mem_cons_self ..
      obtain ⟨hi, hu⟩ := mem_left.1 hm
      have hmin : ∀ k, k < i → listed.getD k false = true := by
        intro k hk
        cases hb : listed.getD k false with
        | true => rfl
        | false =>
          exfalso
          have hk' : k < ops.size := by omega
          have hkm : k ∈ left ops listed := mem_left.2 ⟨hk', (both listed k hs hk').2 hb⟩
          rw [hl] at hkm
          have hsrt := left_sorted ops listed
          rw [hl] at hsrt
          rcases List.mem_cons.1 hkm with rfl | hkm
          · omega
          · have := (List.pairwise_cons.1 hsrt).1 k hkm
            omega
      have : i ∈ Region.ready .any ops listed := mem_ready.2 ⟨hu, ops[i], by simp [hi], fun e he hb => hmin e.on (h.down i ops[i] (by simp [hi]) e he hb)⟩
      rw [hr] at this
      cases this
  intro fuel
  induction fuel with
  | zero =>
    intro listed a w hcl hs hle hx
    have hnil : left ops listed = [] := List.eq_nil_of_length_eq_zero (by omega)
    rw [hnil] at hx
    refine ⟨?_, hq _ _ hx⟩
    cases hr : Region.ready .any ops listed with
    | nil => rfl
    | cons i r =>
      have hm : i ∈ Region.ready .any ops listed := by rw [hr]; exact List.mem_cons_self ..
      obtain ⟨hu, o, ho, _⟩ := mem_ready.1 hm
      have : i ∈ left ops listed := mem_left.2 ⟨(Array.getElem?_eq_some_iff.1 ho).1, hu⟩
      rw [hnil] at this
      cases this
  | succ fuel ih =>
    intro listed a w hcl hs hle hx
    refine ⟨fun hr => ?_, fun i hi => ?_⟩
    · rw [none_left listed hs hr] at hx
      exact hq _ _ hx
    · obtain ⟨hu, oi, hoi, hall⟩ := mem_ready.1 hi
      have hil : i < ops.size := (Array.getElem?_eq_some_iff.1 hoi).1
      have hm : i ∈ left ops listed := mem_left.2 ⟨hil, hu⟩
      obtain ⟨js, ks, hsp⟩ := List.append_of_mem hm
      have hsrt := left_sorted ops listed
      rw [hsp] at hsrt
      obtain ⟨_, hks, hjk⟩ := List.pairwise_append.1 hsrt
      have hjlt : ∀ j ∈ js, j < i := fun j hj => hjk j hj i (List.mem_cons_self ..)
      have hklt : ∀ k ∈ ks, i < k := fun k hk => (List.pairwise_cons.1 hks).1 k hk
      have hharm : ∀ j ∈ js, harmless ops i j = true := by
        intro j hj
        have hjm : j ∈ left ops listed := by rw [hsp]; exact List.mem_append_left _ hj
        obtain ⟨hjs, hju⟩ := mem_left.1 hjm
        rcases h.harm i oi hoi j (hjlt j hj) with hb | hb
        · have := h.listed listed hcl i oi hoi hall j (hjlt j hj) hb
          rw [(both listed j hs hjs).1 hju] at this
          cases this
        · exact hb
      rw [hsp] at hx
      have hx' := Lex.front h.sel js hharm a w hx
      simp only [Lex, hoi] at hx'
      refine SOp.wpOp hoi (hx'.mono fun a' w' hk => ?_)
      have hleft : left ops (listed.setIfInBounds i true) = js ++ ks := by
        rw [left_set, hsp, List.filter_append, List.filter_cons]
        have h1 : js.filter (fun k => k != i) = js := List.filter_eq_self.2 fun k hk => by have := hjlt k hk; simp; omega
        have h2 : ks.filter (fun k => k != i) = ks := List.filter_eq_self.2 fun k hk => by have := hklt k hk; simp; omega
        simp [h1, h2]
      refine ih _ a' w' ?_ (by simp [hs]) ?_ ?_
      · intro j oj hoj hl e he hb
        by_cases hij : i = j
        · subst hij
          have : oj = oi := Option.some.inj (hoj.symm.trans hoi)
          subst this
          exact getD_set_true (hall e he hb)
        · rw [getD_set_ne false hij] at hl
          exact getD_set_true (hcl j oj hoj hl e he hb)
      · rw [hleft]
        rw [hsp] at hle
        simp only [List.length_append, List.length_cons] at hle ⊢
        omega
      · rw [hleft]; exact hk

theorem wp_draw {b : Array Nat} (hm : P.follows .mixedOrders = true) (h : Draw ops b) {K : Act → World → Prop} {Q : Exit → Act → World → Prop} (hq : ∀ a w, K a w → Q .normal a w) {id : Nat} {a : Act} {w : World}
    (hx : Lex P ops K (List.range ops.size) a { w with drawn := w.drawn + 1 }) : (Code.region id ops true).wp P Q a w := by
  have hl : left ops (Array.replicate ops.size false) = List.range ops.size := by
    unfold left
    refine List.filter_eq_self.2 fun i hi => ?_
    have : i < ops.size := List.mem_range.1 hi
    simp [this]
  refine wp_region_any hm (wpAny_of_lex h hq ops.size _ a _ ?_ (by simp) (by rw [hl]; simp) (by rw [hl]; exact hx))
  intro j oj hoj hl'
  have : j < ops.size := (Array.getElem?_eq_some_iff.1 hoj).1
  simp [this] at hl'

/-- the same, for a region that keeps the order of the text -/
theorem wpOps_of_lex {K : Act → World → Prop} {Q : Exit → Act → World → Prop} (hq : ∀ a w, K a w → Q .normal a w) : ∀ (l : List Nat) (a : Act) (w : World), Lex P ops K l a w → wpOps P ops Q l a w
  | [], a, w, h => hq a w h
  | i :: r, a, w, h => by
    rw [wpOps_cons]
    simp only [Lex] at h
    cases ho : ops[i]? with
    | none =>
      simp only [ho] at h
      simp only [wpOp, ho]
      exact wpOps_of_lex hq r a w h
    | some o =>
      simp only [ho] at h
      exact SOp.wpOp ho (h.mono fun a' w' hk => wpOps_of_lex hq r a' w' hk)
theorem wp_text {K : Act → World → Prop} {Q : Exit → Act → World → Prop} (hq : ∀ a w, K a w → Q .normal a w) {id : Nat} {a : Act} {w : World} (hx : Lex P ops K (List.range ops.size) a w) : (Code.region id ops false).wp P Q a w :=
  wp_region (wpOps_of_lex hq _ a w hx)

/-- the operations themselves, one behind the other -/
def LexL (P : Program) (ops : Array Oper) (Q : Act → World → Prop) : List Oper → Act → World → Prop
  | [], a, w => Q a w
  | o :: r, a, w => SOp P ops o (LexL P ops Q r) a w
theorem lex_of_list {Q : Act → World → Prop} : ∀ (l : List Oper) (k : Nat), (∀ j, l[j]? = ops[k + j]?) → ∀ a w, LexL P ops Q l a w → Lex P ops Q (List.range' k l.length) a w
  | [], _, _, _, _, h => h
  | o :: l, k, hk, a, w, h => by
    have h0 : ops[k]? = some o := by simpa using (hk 0).symm
    simp only [List.length_cons, List.range'_succ, Lex, h0]
    exact SOp.mono h fun a' w' h' => lex_of_list l (k + 1) (fun j => by have := hk (j + 1); simpa [Nat.add_assoc, Nat.add_comm 1 j] using this) a' w' h'
theorem lex_range {Q : Act → World → Prop} {l : List Oper} {a : Act} {w : World} (h : LexL P l.toArray Q l a w) : Lex P l.toArray Q (List.range l.toArray.size) a w := by
  have := lex_of_list (ops := l.toArray) l 0 (by simp) a w h
  simpa [List.range_eq_range'] using this
end
end Go.EL
