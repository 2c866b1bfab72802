/- Part 14: a region that draws its order, where loads may be drawn to either side of stores or calls: what such a load reads is kept apart and never written in the region. -/
import Derived.Test.YtigjnfmbellpjaaDoorEL13
namespace Go.EL
open Go

/-- how an operation is taken: as it is; as one that reads what is kept apart; as a call that leaves the world as it is -/
inductive Mode where
  | asis | stab | quiet
def modeOf (st : List Nat × List Nat) (k : Nat) : Mode := if st.1.contains k then .stab else if st.2.contains k then .quiet else .asis
def clsJ (s : Mode) (o : Op) : Cls := match s with
  | .stab => .pure
  | .quiet => .read
  | .asis => clsOf o
/-- it yields this, and the world is as it was, but for the count of what was drawn -/
def Still (P : Program) (o : Oper) (a : Act) (w : World) (v : Value) : Prop := ∀ n, Yld P o a { w with drawn := n } (fun v' w' => v' = v ∧ ∃ m, w' = { w with drawn := m })
theorem Still.of_run {P : Program} {o : Oper} {a : Act} {w : World} {v : Value} (h : ∀ n, (execOp a.eval o).run P { w with drawn := n } = .ok (.value v) { w with drawn := n }) : Still P o a w v := by
  intro n
  unfold Yld
  rw [h n]
  exact ⟨rfl, n, rfl⟩

section
variable {P : Program} {J : World → Prop} {ops : Array Oper} {st : List Nat × List Nat}
/-- one operation, of a class; what is kept apart stays -/
def SOpJ (P : Program) (J : World → Prop) (ops : Array Oper) (s : Mode) (o : Oper) (K : Act → World → Prop) (a : Act) (w : World) : Prop :=
  (Region.wanted o (yielded ops a.tmps) = true ∧ match clsJ s o.op with
    | .pure => ∃ v, (∀ w', J w' → (execOp a.eval o).run P w' = .ok (.value v) w') ∧ K (a.put o.dst v) w
    | .read => ∃ v, Still P o a w v ∧ ∀ m, K (a.put o.dst v) { w with drawn := m }
    | .eff => Yld P o a w (fun v w' => J w' ∧ K (a.put o.dst v) w')) ∨
  (Region.wanted o (yielded ops a.tmps) = false ∧ K (a.put o.dst undef) w)
theorem SOpJ.mono (hJd : ∀ w n, J w → J { w with drawn := n }) {s : Mode} {o : Oper} {K K' : Act → World → Prop} {a : Act} {w : World} (hJ : J w) (h : SOpJ P J ops s o K a w) (hk : ∀ a w, J w → K a w → K' a w) : SOpJ P J ops s o K' a w := by
  rcases h with ⟨hw, h⟩ | ⟨hw, h⟩
  · refine .inl ⟨hw, ?_⟩
    cases hc : clsJ s o.op <;> simp only [hc] at h ⊢
    · exact let ⟨v, h1, h2⟩ := h; ⟨v, h1, hk _ _ hJ h2⟩
    · exact let ⟨v, h1, h2⟩ := h; ⟨v, h1, fun m => hk _ _ (hJd _ m hJ) (h2 m)⟩
    · exact h.mono fun _ _ hh => ⟨hh.1, hk _ _ hh.1 hh.2⟩
  · exact .inr ⟨hw, hk _ _ hJ h⟩
theorem SOpJ.wpOp (hJd : ∀ w n, J w → J { w with drawn := n }) {s : Mode} {o : Oper} {i : Nat} {K : Act → World → Prop} {Q : Exit → Act → World → Prop} {a : Act} {w : World} (hJ : J w) (hi : ops[i]? = some o) (h : SOpJ P J ops s o K a w) : wpOp P ops Q i (fun a w => J w ∧ K a w) a w := by
  unfold Go.wpOp
  simp only [hi]
  rcases h with ⟨hw, h⟩ | ⟨hw, h⟩
  · rw [if_pos hw]
    refine .inl ?_
    cases hc : clsJ s o.op <;> simp only [hc] at h
    · obtain ⟨v, h1, h2⟩ := h
      unfold Oper.wp
      rw [h1 w hJ]
      exact ⟨hJ, h2⟩
    · obtain ⟨v, h1, h2⟩ := h
      exact Yld.wp (Yld.mono (h1 w.drawn) fun v' w' hh => by obtain ⟨rfl, m, rfl⟩ := hh; exact ⟨hJd _ m hJ, h2 m⟩)
    · exact Yld.wp h
  · rw [if_neg (by simp [hw])]
    exact ⟨hJ, h⟩

/-- two neighbours change places -/
theorem SOpJ.swap (hJd : ∀ w n, J w → J { w with drawn := n }) {si sj : Mode} {oi oj : Oper} (hap : oi.apart ops oj = true) (hsi : ∀ cs b, oi.op ≠ .select cs b) (hsj : ∀ cs b, oj.op ≠ .select cs b)
    (hc : (clsJ si oi.op).compat (clsJ sj oj.op) = true) {K : Act → World → Prop} {a : Act} {w : World} (hJ : J w) (h : SOpJ P J ops sj oj (SOpJ P J ops si oi K) a w) : SOpJ P J ops si oi (SOpJ P J ops sj oj K) a w := by
  obtain ⟨h1, h2, h3⟩ := Oper.apart_spec hap
  have ei : ∀ u, execOp (a.put oj.dst u).eval oi = execOp a.eval oi := fun u => execOp_put oi hsi a oj.dst u h3
  have wi : ∀ u, Region.wanted oi (yielded ops (a.put oj.dst u).tmps) = Region.wanted oi (yielded ops a.tmps) := fun u => wanted_put oi a oj.dst u h3
  have ej : ∀ u, execOp (a.put oi.dst u).eval oj = execOp a.eval oj := fun u => execOp_put oj hsj a oi.dst u h1
  have wj : ∀ u, Region.wanted oj (yielded ops (a.put oi.dst u).tmps) = Region.wanted oj (yielded ops a.tmps) := fun u => wanted_put oj a oi.dst u h1
  have pc : ∀ v u, (a.put oi.dst v).put oj.dst u = (a.put oj.dst u).put oi.dst v := fun v u => Act.put_comm a v u h2
  have yi : ∀ u w R, Yld P oi (a.put oj.dst u) w R = Yld P oi a w R := fun u w R => by unfold Yld; rw [ei]
  have si' : ∀ u w v, Still P oi (a.put oj.dst u) w v = Still P oi a w v := fun u w v => by unfold Still; simp only [yi]
  have yj : ∀ u w R, Yld P oj (a.put oi.dst u) w R = Yld P oj a w R := fun u w R => by unfold Yld; rw [ej]
  have sj' : ∀ u w v, Still P oj (a.put oi.dst u) w v = Still P oj a w v := fun u w v => by unfold Still; simp only [yj]
  rcases h with ⟨hwj, h⟩ | ⟨hwj, h⟩
  · by_cases hwi : Region.wanted oi (yielded ops a.tmps) = true
    · refine .inl ⟨hwi, ?_⟩
      have inner : ∀ u w', SOpJ P J ops si oi K (a.put oj.dst u) w' → match clsJ si oi.op with
          | .pure => ∃ v, (∀ w', J w' → (execOp a.eval oi).run P w' = .ok (.value v) w') ∧ K ((a.put oj.dst u).put oi.dst v) w'
          | .read => ∃ v, Still P oi a w' v ∧ ∀ m, K ((a.put oj.dst u).put oi.dst v) { w' with drawn := m }
          | .eff => Yld P oi a w' (fun v w'' => J w'' ∧ K ((a.put oj.dst u).put oi.dst v) w'') := by
        intro u w' hs
        rcases hs with ⟨_, hs⟩ | ⟨hn, _⟩
        · cases hci : clsJ si oi.op <;> simp only [hci] at hs ⊢
          · simpa only [ei] using hs
          · obtain ⟨v, hv, hk⟩ := hs; exact ⟨v, by rw [si'] at hv; exact hv, hk⟩
          · simpa only [yi] using hs
        · rw [wi, hwi] at hn; cases hn
      cases hci : clsJ si oi.op <;> cases hcj : clsJ sj oj.op <;> simp only [hci, hcj, Cls.compat] at hc h inner ⊢ <;> try (cases hc)
      · obtain ⟨u, hu, hs⟩ := h
        obtain ⟨v, hv, hk⟩ := inner u w hs
        exact ⟨v, hv, .inl ⟨by rw [wj]; exact hwj, by simp only [hcj]; exact ⟨u, by simpa only [ej] using hu, by rw [pc]; exact hk⟩⟩⟩
      · obtain ⟨u, hu, hs⟩ := h
        obtain ⟨v, hv, _⟩ := inner u w (hs w.drawn)
        refine ⟨v, hv, .inl ⟨by rw [wj]; exact hwj, ?_⟩⟩
        simp only [hcj]
        refine ⟨u, by simpa only [sj'] using hu, fun m => ?_⟩
        obtain ⟨v', hv', hk⟩ := inner u _ (hs m)
        have : v' = v := by
          have := (hv' w hJ).symm.trans (hv w hJ)
          simpa using this
        subst this
        rw [pc]; exact hk
      · obtain ⟨u0, w0, hJ0, hs0⟩ := h.some
        obtain ⟨v, hv, _⟩ := inner u0 w0 hs0
        refine ⟨v, hv, .inl ⟨by rw [wj]; exact hwj, ?_⟩⟩
        simp only [hcj, yj]
        refine h.mono fun u w' ⟨hJ', hs⟩ => ?_
        obtain ⟨v', hv', hk⟩ := inner u w' hs
        have : v' = v := by
          have := (hv' w hJ).symm.trans (hv w hJ)
          simpa using this
        subst this
        exact ⟨hJ', by rw [pc]; exact hk⟩
      · obtain ⟨u, hu, hs⟩ := h
        obtain ⟨v, hv, hk⟩ := inner u w hs
        exact ⟨v, hv, fun m => .inl ⟨by rw [wj]; exact hwj, by simp only [hcj]; exact ⟨u, by simpa only [ej] using hu, by rw [pc]; exact hk m⟩⟩⟩
      · obtain ⟨u, hu, hs⟩ := h
        obtain ⟨v, hv, hk⟩ := inner u w (hs w.drawn)
        exact ⟨v, hv, fun m => .inl ⟨by rw [wj]; exact hwj, by simp only [hcj]; exact ⟨u, by rw [sj']; exact hu, fun m' => by rw [pc]; exact hk m'⟩⟩⟩
      · obtain ⟨u, hu, hs⟩ := h
        refine (inner u w hs).mono fun v w' hk => ⟨hk.1, .inl ⟨by rw [wj]; exact hwj, ?_⟩⟩
        simp only [hcj]
        exact ⟨u, by simpa only [ej] using hu, by rw [pc]; exact hk.2⟩
    · have hwi' : Region.wanted oi (yielded ops a.tmps) = false := by simpa using hwi
      refine .inr ⟨hwi', .inl ⟨by rw [wj]; exact hwj, ?_⟩⟩
      have inner : ∀ u w', SOpJ P J ops si oi K (a.put oj.dst u) w' → K ((a.put oj.dst u).put oi.dst undef) w' := by
        intro u w' hs
        rcases hs with ⟨hn, _⟩ | ⟨_, hs⟩
        · rw [wi, hwi'] at hn; cases hn
        · exact hs
      cases hcj : clsJ sj oj.op <;> simp only [hcj] at h ⊢
      · obtain ⟨u, hu, hs⟩ := h
        exact ⟨u, by simpa only [ej] using hu, by rw [pc]; exact inner u w hs⟩
      · obtain ⟨u, hu, hs⟩ := h
        exact ⟨u, by rw [sj']; exact hu, fun m => by rw [pc]; exact inner u _ (hs m)⟩
      · simp only [yj]
        exact h.mono fun u w' hs => ⟨hs.1, by rw [pc]; exact inner u w' hs.2⟩
  · rcases h with ⟨hwi, h⟩ | ⟨hwi, h⟩
    · rw [wi] at hwi
      refine .inl ⟨hwi, ?_⟩
      cases hci : clsJ si oi.op <;> simp only [hci] at h ⊢
      · obtain ⟨v, hv, hk⟩ := h
        exact ⟨v, by simpa only [ei] using hv, .inr ⟨by rw [wj]; exact hwj, by rw [pc]; exact hk⟩⟩
      · obtain ⟨v, hv, hk⟩ := h
        exact ⟨v, by rw [si'] at hv; exact hv, fun m => .inr ⟨by rw [wj]; exact hwj, by rw [pc]; exact hk m⟩⟩
      · simp only [yi] at h
        exact h.mono fun v w' hk => ⟨hk.1, .inr ⟨by rw [wj]; exact hwj, by rw [pc]; exact hk.2⟩⟩
    · rw [wi] at hwi
      exact .inr ⟨hwi, .inr ⟨by rw [wj]; exact hwj, by rw [pc]; exact h⟩⟩

/-- the operations, in the order of their numbers -/
def LexJ (P : Program) (J : World → Prop) (ops : Array Oper) (st : List Nat × List Nat) (Q : Act → World → Prop) : List Nat → Act → World → Prop
  | [], a, w => Q a w
  | i :: r, a, w => match ops[i]? with
    | none => LexJ P J ops st Q r a w
    | some o => SOpJ P J ops (modeOf st i) o (LexJ P J ops st Q r) a w

def harmlessJ (ops : Array Oper) (st : List Nat × List Nat) (i j : Nat) : Bool :=
  match ops[i]?, ops[j]? with
  | some oi, some oj => oi.apart ops oj && (clsJ (modeOf st i) oi.op).compat (clsJ (modeOf st j) oj.op)
  | _, _ => true

theorem LexJ.front (hJd : ∀ w n, J w → J { w with drawn := n }) (hsel : Region.noSelect ops = true) {Q : Act → World → Prop} {i : Nat} {ks : List Nat} : ∀ (js : List Nat), (∀ j ∈ js, harmlessJ ops st i j = true) →
    ∀ a w, J w → LexJ P J ops st Q (js ++ i :: ks) a w → LexJ P J ops st Q (i :: (js ++ ks)) a w
  | [], _, _, _, _, h => h
  | j :: js, hj, a, w, hJ, h => by
    have ih := LexJ.front hJd hsel (i := i) (ks := ks) (Q := Q) js (fun k hk => hj k (List.mem_cons_of_mem _ hk))
    have hh := hj j (List.mem_cons_self ..)
    simp only [List.cons_append, LexJ] at h ⊢
    cases hoi : ops[i]? with
    | none =>
      simp only
      cases hoj : ops[j]? with
      | none =>
        simp only [hoj] at h
        have := ih a w hJ h
        simpa only [LexJ, hoi] using this
      | some oj =>
        simp only [hoj] at h ⊢
        refine SOpJ.mono hJd hJ h fun a' w' hJ' h' => ?_
        have := ih a' w' hJ' h'
        simpa only [LexJ, hoi] using this
    | some oi =>
      simp only
      cases hoj : ops[j]? with
      | none =>
        simp only [hoj] at h
        have := ih a w hJ h
        simpa only [LexJ, hoi, hoj] using this
      | some oj =>
        simp only [hoj] at h ⊢
        simp only [harmlessJ, hoi, hoj, Bool.and_eq_true] at hh
        have h2 : SOpJ P J ops (modeOf st j) oj (SOpJ P J ops (modeOf st i) oi (LexJ P J ops st Q (js ++ ks))) a w := SOpJ.mono hJd hJ h fun a' w' hJ' h' => by
          have := ih a' w' hJ' h'
          simpa only [LexJ, hoi] using this
        exact SOpJ.swap hJd hh.1 (Region.noSelect_spec hsel i oi · · hoi) (Region.noSelect_spec hsel j oj · · hoj) hh.2 hJ h2

def okDrawJ (ops : Array Oper) (b : Array Nat) (st : List Nat × List Nat) : Bool :=
  Region.noSelect ops &&
  (List.range ops.size).all fun j => match ops[j]? with
    | none => true
    | some o =>
      (o.after.toList.all fun e => !Region.binds .any e || decide (e.on < j)) &&
      (List.range j).all (fun i => !(b.getD j 0).testBit i || o.after.toList.any (fun e => Region.binds .any e && (e.on == i || (decide (i < e.on) && decide (e.on < j) && (b.getD e.on 0).testBit i)))) &&
      (List.range j).all (fun i => (b.getD j 0).testBit i || harmlessJ ops st j i)

structure DrawJ (ops : Array Oper) (b : Array Nat) (st : List Nat × List Nat) : Prop where
  sel : Region.noSelect ops = true
  down : ∀ j oj, ops[j]? = some oj → ∀ e ∈ oj.after, Region.binds .any e = true → e.on < j
  bits : ∀ j oj, ops[j]? = some oj → ∀ i, i < j → (b.getD j 0).testBit i = true → ∃ e ∈ oj.after, Region.binds .any e = true ∧ (e.on = i ∨ (i < e.on ∧ e.on < j ∧ (b.getD e.on 0).testBit i = true))
  harm : ∀ j oj, ops[j]? = some oj → ∀ i, i < j → (b.getD j 0).testBit i = true ∨ harmlessJ ops st j i = true
theorem okDrawJ_spec {b : Array Nat} (h : okDrawJ ops b st = true) : DrawJ ops b st := by
  simp only [okDrawJ, Bool.and_eq_true, List.all_eq_true, List.mem_range] at h
  obtain ⟨hs, h⟩ := h
  have hh : ∀ j oj, ops[j]? = some oj → _ := fun j oj hoj => by
    have h1 := h j (Array.getElem?_eq_some_iff.1 hoj).1
    simp only [hoj, Bool.and_eq_true, List.all_eq_true, List.mem_range] at h1
    exact h1
  refine ⟨hs, fun j oj hoj e he hb => ?_, fun j oj hoj i hi hb => ?_, fun j oj hoj i hi => ?_⟩
  · have := (hh j oj hoj).1.1 e (by simpa using he)
    simpa [hb] using this
  · have h2 := (hh j oj hoj).1.2 i hi
    simp only [hb, Bool.not_true, Bool.false_or] at h2
    obtain ⟨e, he, h3⟩ := List.any_eq_true.1 h2
    simp only [Bool.and_eq_true, Bool.or_eq_true, beq_iff_eq, decide_eq_true_eq] at h3
    exact ⟨e, by simpa using he, h3.1, h3.2.imp id fun h4 => ⟨h4.1.1, h4.1.2, h4.2⟩⟩
  · have := (hh j oj hoj).2 i hi
    simpa using this

theorem DrawJ.listed {b : Array Nat} (h : DrawJ ops b st) (listed : Array Bool) (hcl : ∀ j oj, ops[j]? = some oj → listed.getD j false = true → ∀ e ∈ oj.after, Region.binds .any e = true → listed.getD e.on false = true) :
    ∀ (j : Nat) (oj : Oper), ops[j]? = some oj → (∀ e ∈ oj.after, Region.binds .any e = true → listed.getD e.on false = true) → ∀ i, i < j → (b.getD j 0).testBit i = true → listed.getD i false = true := by
  intro j
  induction j using Nat.strongRecOn with
  | _ j ih =>
    intro oj hoj hall i hij hbit
    obtain ⟨e, he, hb1, hb2⟩ := h.bits j oj hoj i hij hbit
    have hl := hall e he hb1
    rcases hb2 with rfl | ⟨hie, hlt, hbit'⟩
    · exact hl
    · have hj : j < ops.size := (Array.getElem?_eq_some_iff.1 hoj).1
      have hlt' : e.on < ops.size := by omega
      exact ih e.on hlt ops[e.on] (by simp [hlt']) (fun e' he' hb' => hcl e.on ops[e.on] (by simp [hlt']) hl e' he' hb') i hie hbit'

theorem wpAny_of_lexJ (hJd : ∀ w n, J w → J { w with drawn := n }) {b : Array Nat} (h : DrawJ ops b st) {K : Act → World → Prop} {Q : Exit → Act → World → Prop} (hq : ∀ a w, K a w → Q .normal a w) : ∀ (fuel : Nat) (listed : Array Bool) (a : Act) (w : World),
    (∀ j oj, ops[j]? = some oj → listed.getD j false = true → ∀ e ∈ oj.after, Region.binds .any e = true → listed.getD e.on false = true) → listed.size = ops.size → (left ops listed).length ≤ fuel → J w →
    LexJ P J ops st K (left ops listed) a w → wpAny P .any ops Q fuel listed a w := by
  have both : ∀ (listed : Array Bool) (i : Nat), listed.size = ops.size → i < ops.size → (listed.getD i true = false ↔ listed.getD i false = false) := by
    intro listed i hs hi
    have : i < listed.size := by omega
    simp [this]
  have none_left : ∀ (listed : Array Bool), listed.size = ops.size → Region.ready .any ops listed = [] → left ops listed = [] := by
    intro listed hs hr
    cases hl : left ops listed with
    | nil => rfl
    | cons i r =>
      exfalso
      have hm : i ∈ left ops listed := by rw [hl]; exact List.mem_cons_self ..
      obtain ⟨hi, hu⟩ := mem_left.1 hm
      have hmin : ∀ k, k < i → listed.getD k false = true := by
        intro k hk
        cases hb : listed.getD k false with
        | true => rfl
        | false =>
          exfalso
          have hk' : k < ops.size := by omega
          have hkm : k ∈ left ops listed := mem_left.2 ⟨hk', (both listed k hs hk').2 hb⟩
          rw [hl] at hkm
          have hsrt := left_sorted ops listed
          rw [hl] at hsrt
          rcases List.mem_cons.1 hkm with rfl | hkm
          · omega
          · have := (List.pairwise_cons.1 hsrt).1 k hkm
            omega
      have : i ∈ Region.ready .any ops listed := mem_ready.2 ⟨hu, ops[i], by simp [hi], fun e he hb => hmin e.on (h.down i ops[i] (by simp [hi]) e he hb)⟩
      rw [hr] at this
      cases this
  intro fuel
  induction fuel with
  | zero =>
    intro listed a w hcl hs hle hJ hx
    have hnil : left ops listed = [] := List.eq_nil_of_length_eq_zero (by omega)
    rw [hnil] at hx
    refine ⟨?_, hq _ _ hx⟩
    cases hr : Region.ready .any ops listed with
    | nil => rfl
    | cons i r =>
      have hm : i ∈ Region.ready .any ops listed := by rw [hr]; exact List.mem_cons_self ..
      obtain ⟨hu, o, ho, _⟩ := mem_ready.1 hm
      have : i ∈ left ops listed := mem_left.2 ⟨(Array.getElem?_eq_some_iff.1 ho).1, hu⟩
      rw [hnil] at this
      cases this
  | succ fuel ih =>
    intro listed a w hcl hs hle hJ hx
    refine ⟨fun hr => ?_, fun i hi => ?_⟩
    · rw [none_left listed hs hr] at hx
      exact hq _ _ hx
    · obtain ⟨hu, oi, hoi, hall⟩ := mem_ready.1 hi
      have hil : i < ops.size := (Array.getElem?_eq_some_iff.1 hoi).1
      have hm : i ∈ left ops listed := mem_left.2 ⟨hil, hu⟩
      obtain ⟨js, ks, hsp⟩ := List.append_of_mem hm
      have hsrt := left_sorted ops listed
      rw [hsp] at hsrt
      obtain ⟨_, hks, hjk⟩ := List.pairwise_append.1 hsrt
      have hjlt : ∀ j ∈ js, j < i := fun j hj => hjk j hj i (List.mem_cons_self ..)
      have hklt : ∀ k ∈ ks, i < k := fun k hk => (List.pairwise_cons.1 hks).1 k hk
      have hharm : ∀ j ∈ js, harmlessJ ops st i j = true := by
        intro j hj
        have hjm : j ∈ left ops listed := by rw [hsp]; exact List.mem_append_left _ hj
        obtain ⟨hjs, hju⟩ := mem_left.1 hjm
        rcases h.harm i oi hoi j (hjlt j hj) with hb | hb
        · have := h.listed listed hcl i oi hoi hall j (hjlt j hj) hb
          rw [(both listed j hs hjs).1 hju] at this
          cases this
        · exact hb
      rw [hsp] at hx
      have hx' := LexJ.front hJd h.sel js hharm a w hJ hx
      simp only [LexJ, hoi] at hx'
      have hleft : left ops (listed.setIfInBounds i true) = js ++ ks := by
        rw [left_set, hsp, List.filter_append, List.filter_cons]
        have h1 : js.filter (fun k => k != i) = js := List.filter_eq_self.2 fun k hk => by have := hjlt k hk; simp; omega
        have h2 : ks.filter (fun k => k != i) = ks := List.filter_eq_self.2 fun k hk => by have := hklt k hk; simp; omega
        simp [h1, h2]
      refine wpOp_mono (fun a' w' hh => ?_) (SOpJ.wpOp hJd hJ hoi hx')
      obtain ⟨hJ', hk⟩ := hh
      refine ih _ a' w' ?_ (by simp [hs]) ?_ hJ' ?_
      · intro j oj hoj hl e he hb
        by_cases hij : i = j
        · subst hij
          have : oj = oi := Option.some.inj (hoj.symm.trans hoi)
          subst this
          exact getD_set_true (hall e he hb)
        · rw [getD_set_ne false hij] at hl
          exact getD_set_true (hcl j oj hoj hl e he hb)
      · rw [hleft]
        rw [hsp] at hle
        simp only [List.length_append, List.length_cons] at hle ⊢
        omega
      · rw [hleft]; exact hk

theorem wp_drawJ (hJd : ∀ w n, J w → J { w with drawn := n }) {b : Array Nat} (hm : P.follows .mixedOrders = true) (h : DrawJ ops b st) {K : Act → World → Prop} {Q : Exit → Act → World → Prop} (hq : ∀ a w, K a w → Q .normal a w) {id : Nat} {a : Act} {w : World} (hJ : J { w with drawn := w.drawn + 1 })
    (hx : LexJ P J ops st K (List.range ops.size) a { w with drawn := w.drawn + 1 }) : (Code.region id ops true).wp P Q a w := by
  have hl : left ops (Array.replicate ops.size false) = List.range ops.size := by
    unfold left
    refine List.filter_eq_self.2 fun i hi => ?_
    have : i < ops.size := List.mem_range.1 hi
    simp [this]
  refine wp_region_any hm (wpAny_of_lexJ hJd h hq ops.size _ a _ ?_ (by simp) (by rw [hl]; simp) hJ (by rw [hl]; exact hx))
  intro j oj hoj hl'
  have : j < ops.size := (Array.getElem?_eq_some_iff.1 hoj).1
  simp [this] at hl'

/-- the operations themselves, one behind the other -/
def LexJL (P : Program) (J : World → Prop) (ops : Array Oper) (st : List Nat × List Nat) (Q : Act → World → Prop) : Nat → List Oper → Act → World → Prop
  | _, [], a, w => Q a w
  | k, o :: r, a, w => SOpJ P J ops (modeOf st k) o (LexJL P J ops st Q (k + 1) r) a w
theorem lexJ_of_list (hJd : ∀ w n, J w → J { w with drawn := n }) {Q : Act → World → Prop} : ∀ (l : List Oper) (k : Nat), (∀ j, l[j]? = ops[k + j]?) → ∀ a w, J w → LexJL P J ops st Q k l a w → LexJ P J ops st Q (List.range' k l.length) a w
  | [], _, _, _, _, _, h => h
  | o :: l, k, hk, a, w, hJ, h => by
    have h0 : ops[k]? = some o := by simpa using (hk 0).symm
    simp only [List.length_cons, List.range'_succ, LexJ, h0]
    exact SOpJ.mono hJd hJ h fun a' w' hJ' h' => lexJ_of_list hJd l (k + 1) (fun j => by have := hk (j + 1); simpa [Nat.add_assoc, Nat.add_comm 1 j] using this) a' w' hJ' h'
theorem lexJ_range (hJd : ∀ w n, J w → J { w with drawn := n }) {Q : Act → World → Prop} {l : List Oper} {a : Act} {w : World} (hJ : J w) (h : LexJL P J l.toArray st Q 0 l a w) : LexJ P J l.toArray st Q (List.range l.toArray.size) a w := by
  have := lexJ_of_list hJd (ops := l.toArray) l 0 (by simp) a w hJ h
  simpa [List.range_eq_range'] using this
end

section
variable {P : Program} {N : Nat} {w0 : World} {T : HS} {ops : Array Oper} {st : List Nat × List Nat} {k : Nat}
def keeps (w0 : World) (T : HS) (w : World) : Prop := ∃ F, Inv w0 (T.flatten ++ F) w
def RXJ (P : Program) (N : Nat) (w0 : World) (T : HS) (ops : Array Oper) (st : List Nat × List Nat) (k : Nat) (l : List Oper) (K : Env → HS → Prop) (ρ : Env) (S : HS) : Prop :=
  ∀ F a w, Fits N a ρ → Inv w0 (S.flatten ++ (T.flatten ++ F)) w → LexJL P (keeps w0 T) ops st (fun a' w' => ∃ ρ' S', K ρ' S' ∧ Fits N a' ρ' ∧ Inv w0 (S'.flatten ++ (T.flatten ++ F)) w') k l a w
theorem keeps_drawn (w : World) (n : Nat) (h : keeps w0 T w) : keeps w0 T { w with drawn := n } := h.elim fun F hi => ⟨F, hi.drawn n⟩
theorem keeps_of {S : HS} {F : Hp} {w : World} (h : Inv w0 (S.flatten ++ (T.flatten ++ F)) w) : keeps w0 T w := ⟨F ++ S.flatten, h.perm (by
  rw [← List.append_assoc T.flatten]
  exact List.perm_append_comm)⟩
theorem WP.drawJ {id : Nat} {l : List Oper} {Q : Exit → Env → HS → Prop} {ρ : Env} {S S1 : HS} (st : List Nat × List Nat) (idx : List Nat) (hm : P.follows .mixedOrders = true) (hc : okDrawJ l.toArray (Region.before l.toArray) st = true) (ho : okIdx idx S.length = true) (hT : pick idx S = T) (hS : others idx 0 S = S1)
    (h : RXJ P N w0 T l.toArray st 0 l (fun ρ S' => Q .normal ρ (S' ++ T)) ρ S1) : WP P N w0 (.region id l.toArray true) Q ρ S := by
  intro F a w hf hi
  have hp : S.Perm (T ++ S1) := by rw [← hT, ← hS]; exact pick_perm idx ho
  have hi2 : Inv w0 (S1.flatten ++ (T.flatten ++ F)) { w with drawn := w.drawn + 1 } := (hi.drawn _).perm (by
    have h1 : S.flatten.Perm (T.flatten ++ S1.flatten) := by rw [← List.flatten_append]; exact hp.flatten
    rw [← List.append_assoc]
    exact (h1.append_right F).trans (List.perm_append_comm.append_right F))
  refine wp_drawJ keeps_drawn hm (okDrawJ_spec hc) ?_ (keeps_of hi2) (lexJ_range keeps_drawn (keeps_of hi2) (h F a _ hf hi2))
  rintro a' w' ⟨ρ', S', hq, hf', hi'⟩
  exact ⟨ρ', S' ++ T, hq, hf', by rw [List.flatten_append, List.append_assoc]; exact hi'⟩
theorem WP.sdrawJ {id : Nat} {l : List Oper} {y : Code} {Q : Exit → Env → HS → Prop} {ρ : Env} {S S1 : HS} (st : List Nat × List Nat) (idx : List Nat) (hm : P.follows .mixedOrders = true) (hc : okDrawJ l.toArray (Region.before l.toArray) st = true) (ho : okIdx idx S.length = true) (hT : pick idx S = T) (hS : others idx 0 S = S1)
    (h : RXJ P N w0 T l.toArray st 0 l (fun ρ S' => WP P N w0 y Q ρ (S' ++ T)) ρ S1) : WP P N w0 (.seq (.region id l.toArray true) y) Q ρ S :=
  .seq (.drawJ st idx hm hc ho hT hS h)

theorem RJ.nil {K : Env → HS → Prop} {ρ : Env} {S : HS} (h : K ρ S) : RXJ P N w0 T ops st k [] K ρ S := fun _ _ _ hf hi => ⟨ρ, S, h, hf, hi⟩
/-- what is kept apart is read -/
theorem RJ.stab {o : Oper} {rest : List Oper} {K : Env → HS → Prop} {ρ : Env} {S : HS} {d : Nat} {v : Value} (hw : Wnt ops ρ o) (hd : o.dst = some d) (hN : Nat.blt d N = true) (hp : ReadOp P w0 o ρ T v)
    (h : RXJ P N w0 T ops st (k + 1) rest K ((d, v) :: ρ) S) : RXJ P N w0 T ops st k (o :: rest) K ρ S := by
  intro F a w hf hi
  have hr : ∀ w', keeps w0 T w' → (execOp a.eval o).run P w' = .ok (.value v) w' := fun w' ⟨F', hi'⟩ => hp F' a w' hf.sees hi'
  refine .inl ⟨hw a hf.sees, ?_⟩
  have hk := h F (a.put o.dst v) w (by rw [hd]; exact hf.put hN v) hi
  cases hc : clsJ (modeOf st k) o.op <;> simp only
  · exact ⟨v, hr, hk⟩
  · exact ⟨v, .of_run fun n => hr _ (keeps_drawn _ n (keeps_of hi)), fun m => h F (a.put o.dst v) _ (by rw [hd]; exact hf.put hN v) (hi.drawn m)⟩
  · unfold Yld
    rw [hr w (keeps_of hi)]
    exact ⟨keeps_of hi, hk⟩
theorem RJ.pure {o : Oper} {rest : List Oper} {K : Env → HS → Prop} {ρ : Env} {S : HS} {d : Nat} {v : Value} (hw : Wnt ops ρ o) (hd : o.dst = some d) (hN : Nat.blt d N = true) (hp : PureOp P o ρ v)
    (h : RXJ P N w0 T ops st (k + 1) rest K ((d, v) :: ρ) S) : RXJ P N w0 T ops st k (o :: rest) K ρ S :=
  RJ.stab hw hd hN (fun _ a w hs _ => hp a hs w) h
theorem RJ.read {o : Oper} {rest : List Oper} {K : Env → HS → Prop} {ρ : Env} {S : HS} {d : Nat} {v : Value} (hw : Wnt ops ρ o) (hd : o.dst = some d) (hN : Nat.blt d N = true) (hcl : isPure o.op = false) (hst : modeOf st k = .asis) (hp : ReadOp P w0 o ρ S v)
    (h : RXJ P N w0 T ops st (k + 1) rest K ((d, v) :: ρ) S) : RXJ P N w0 T ops st k (o :: rest) K ρ S := by
  intro F a w hf hi
  have hr := hp _ a w hf.sees hi
  refine .inl ⟨hw a hf.sees, ?_⟩
  have hk := h F (a.put o.dst v) w (by rw [hd]; exact hf.put hN v) hi
  unfold isPure at hcl
  rw [hst]
  cases hc : clsOf o.op <;> simp only [hc, clsJ] at hcl ⊢
  · cases hcl
  · exact ⟨v, .of_run fun n => hp _ a _ hf.sees (hi.drawn n), fun m => h F (a.put o.dst v) _ (by rw [hd]; exact hf.put hN v) (hi.drawn m)⟩
  · unfold Yld
    rw [hr]
    exact ⟨keeps_of hi, hk⟩
/-- a call that leaves the world as it is -/
def StillOp (P : Program) (o : Oper) (ρ : Env) (v : Value) : Prop := ∀ a w, Sees ρ a → Still P o a w v
theorem RJ.still {o : Oper} {rest : List Oper} {K : Env → HS → Prop} {ρ : Env} {S : HS} {d : Nat} {v : Value} (hw : Wnt ops ρ o) (hd : o.dst = some d) (hN : Nat.blt d N = true) (hst : modeOf st k = .quiet) (hp : StillOp P o ρ v)
    (h : RXJ P N w0 T ops st (k + 1) rest K ((d, v) :: ρ) S) : RXJ P N w0 T ops st k (o :: rest) K ρ S := by
  intro F a w hf hi
  refine .inl ⟨hw a hf.sees, ?_⟩
  have hk := h F (a.put o.dst v) w (by rw [hd]; exact hf.put hN v) hi
  rw [hst]
  simp only [clsJ]
  exact ⟨v, hp a w hf.sees, fun m => h F (a.put o.dst v) _ (by rw [hd]; exact hf.put hN v) (hi.drawn m)⟩
theorem RX.still {o : Oper} {rest : List Oper} {K : Env → HS → Prop} {ρ : Env} {S : HS} {d : Nat} {v : Value} (hw : Wnt ops ρ o) (hd : o.dst = some d) (hN : Nat.blt d N = true) (hcl : isEff o.op = true) (hp : StillOp P o ρ v)
    (h : RX P N w0 ops rest K ((d, v) :: ρ) S) : RX P N w0 ops (o :: rest) K ρ S :=
  RX.eff (R := fun u S' => u = v ∧ S' = S) hw hd hN hcl (fun F a w hs hi => (hp a w hs w.drawn).mono fun u w' ⟨hu, m, hww⟩ => ⟨S, ⟨hu, rfl⟩, by subst hww; exact hi.drawn m⟩) (fun u S' ⟨hu, hS⟩ => by subst hu; subst hS; exact h)
/-- a function that leaves the world as it is, but for the count of what was drawn -/
def Quiet (P : Program) (f : FuncId) (args : Array Value) (v : Value) : Prop := ∀ w, Calls P f args w (fun e w' => e = .returned v ∧ ∃ m, w' = { w with drawn := m })
theorem s_call {f : FuncId} {xs : Array Operand} {vs : List Value} {tys : Array TypeId} {v : Value} {ρ : Env} {ds : Option Nat} {ty : TypeId} {pos : String} {aft : Array Edge} {g : Option (Nat × Bool)} (hx : evs ρ xs.toList = some vs) (hf : callOk P f = true) (h : Quiet P f ⟨vs⟩ v) :
    StillOp P ⟨ds, .call ⟨.value (.func f), xs, tys⟩, ty, pos, aft, g⟩ ρ v := fun a w hs n => by
  have hargs : xs.map a.eval = ⟨vs⟩ := by
    have := evs_spec hs _ _ hx
    apply Array.toList_inj.1
    simpa using this
  have hrun : (execOp a.eval ⟨ds, .call ⟨.value (.func f), xs, tys⟩, ty, pos, aft, g⟩).run P { w with drawn := n } = .ok (.enter f ⟨vs⟩) { w with drawn := n } := by
    unfold callOk at hf
    cases hfn : P.funcs[f]? with
    | none => simp [hfn] at hf
    | some fn =>
      simp only [hfn, Bool.and_eq_true, bne_iff_ne, ne_eq] at hf
      obtain ⟨h1, h2⟩ := hf
      have h3 : fn.body ≠ none := by cases hb : fn.body <;> simp [hb] at h2 ⊢
      simp [execOp, resolve, Act.eval, Deferred.ofValue, invoke, callFunc, hfn, h1, h3, hargs]
  unfold Yld
  rw [hrun]
  refine (h _).mono ?_
  rintro e w' ⟨rfl, m, rfl⟩
  exact ⟨v, rfl, rfl, m, rfl⟩
theorem RJ.eff {o : Oper} {rest : List Oper} {K : Env → HS → Prop} {ρ : Env} {S : HS} {d : Nat} {R : Value → HS → Prop} (hw : Wnt ops ρ o) (hd : o.dst = some d) (hN : Nat.blt d N = true) (hcl : isEff o.op = true) (hst : modeOf st k = .asis) (hp : EffOp P w0 o ρ S R)
    (h : ∀ v S', R v S' → RXJ P N w0 T ops st (k + 1) rest K ((d, v) :: ρ) S') : RXJ P N w0 T ops st k (o :: rest) K ρ S := by
  intro F a w hf hi
  refine .inl ⟨hw a hf.sees, ?_⟩
  unfold isEff at hcl
  rw [hst]
  cases hc : clsOf o.op <;> simp only [hc, clsJ] at hcl ⊢ <;> try (cases hcl)
  refine (hp _ a w hf.sees hi).mono ?_
  rintro v w' ⟨S', hR, hi'⟩
  exact ⟨keeps_of hi', h v S' hR F (a.put o.dst v) w' (by rw [hd]; exact hf.put hN v) hi'⟩
theorem RJ.eff0 {o : Oper} {rest : List Oper} {K : Env → HS → Prop} {ρ : Env} {S : HS} {R : Value → HS → Prop} (hw : Wnt ops ρ o) (hd : o.dst = none) (hcl : isEff o.op = true) (hst : modeOf st k = .asis) (hp : EffOp P w0 o ρ S R)
    (h : ∀ v S', R v S' → RXJ P N w0 T ops st (k + 1) rest K ρ S') : RXJ P N w0 T ops st k (o :: rest) K ρ S := by
  intro F a w hf hi
  refine .inl ⟨hw a hf.sees, ?_⟩
  unfold isEff at hcl
  rw [hst]
  cases hc : clsOf o.op <;> simp only [hc, clsJ] at hcl ⊢ <;> try (cases hcl)
  refine (hp _ a w hf.sees hi).mono ?_
  rintro v w' ⟨S', hR, hi'⟩
  exact ⟨keeps_of hi', h v S' hR F (a.put o.dst v) w' (by rw [hd]; exact hf.none v) hi'⟩
theorem RJ.skip {o : Oper} {rest : List Oper} {K : Env → HS → Prop} {ρ : Env} {S : HS} {d : Nat} (hu : Unw ops ρ o) (hd : o.dst = some d) (hN : Nat.blt d N = true) (h : RXJ P N w0 T ops st (k + 1) rest K ((d, undef) :: ρ) S) : RXJ P N w0 T ops st k (o :: rest) K ρ S :=
  fun F a w hf hi => .inr ⟨hu a hf.sees, h F (a.put o.dst undef) w (by rw [hd]; exact hf.put hN undef) hi⟩
theorem RJ.say {l : List Oper} {K : Env → HS → Prop} {ρ : Env} {S : HS} {t : Nat} {v : Value} (hv : look ρ t = some v) (u : Value) (he : v = u) (h : RXJ P N w0 T ops st k l K ((t, u) :: ρ) S) : RXJ P N w0 T ops st k l K ρ S := by
  subst he
  exact fun F a w hf hi => h F a w (hf.sub (Sub.cons hv Sub.refl)) hi
/- short forms -/
section
variable {rest : List Oper} {K : Env → HS → Prop} {ρ : Env} {S : HS} {d : Nat} {ty : TypeId} {pos : String} {aft : Array Edge} {g : Option (Nat × Bool)}
theorem RJ.put (i : Nat) {t : TypeId} {x y : Operand} {b o : Nat} {cs : List Value} {U : TypeId} {v : Value} (hw : Wnt ops ρ ⟨none, .store t x y, ty, pos, aft, g⟩) (hst : modeOf st k = .asis) (hx : ev ρ x = some (.pointer (some ⟨b, o, none⟩))) (hy : ev ρ y = some v) (ht : sizeIs P t 1 = true) (hv : one v = true)
    (ha : At S i b (row cs U)) (ho : Nat.blt o cs.length = true) (cs' : List Value) (hc : cs.set o v = cs') (h : RXJ P N w0 T ops st (k + 1) rest K ρ (S.set i [(b, row cs' U)])) : RXJ P N w0 T ops st k (⟨none, .store t x y, ty, pos, aft, g⟩ :: rest) K ρ S := by
  subst hc
  exact RJ.eff0 hw rfl rfl hst (e_store i hx hy ht hv ha ho) (fun v S' hS => by subst hS; exact h)
theorem RJ.stv (i : Nat) {t : TypeId} {x y : Operand} {b o n : Nat} {cs vs : List Value} {U : TypeId} (hw : Wnt ops ρ ⟨none, .store t x y, ty, pos, aft, g⟩) (hst : modeOf st k = .asis) (hx : ev ρ x = some (.pointer (some ⟨b, o, none⟩))) (hy : ev ρ y = some (vv vs)) (ht : sizeIs P t n = true) (hl : vs.length = n) (hv : ones vs = true)
    (ha : At S i b (row cs U)) (ho : Nat.ble (o + n) cs.length = true) (cs' : List Value) (hc : cs.take o ++ vs ++ cs.drop (o + n) = cs') (h : RXJ P N w0 T ops st (k + 1) rest K ρ (S.set i [(b, row cs' U)])) : RXJ P N w0 T ops st k (⟨none, .store t x y, ty, pos, aft, g⟩ :: rest) K ρ S := by
  subst hc
  exact RJ.eff0 hw rfl rfl hst (e_storeV i hx hy ht hl hv ha ho) (fun v S' hS => by subst hS; exact h)
end
end
end Go.EL
