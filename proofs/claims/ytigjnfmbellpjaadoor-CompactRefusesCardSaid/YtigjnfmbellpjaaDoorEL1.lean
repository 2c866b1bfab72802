/- A small logic over the kit's 'Code.wp': the state is a list of bindings of slots and a list of owned blocks; what lay in the heap when the law was entered is never written. Part 1: the state, the rules of control, regions that draw their order. -/
import Derived.WalkKit
namespace Go.EL
open Go

/-! ### slots -/
abbrev Env := List (Nat × Value)
def look : Env → Nat → Option Value
  | [], _ => none
  | (j, v) :: r, i => match Nat.beq j i with
    | true => some v
    | false => look r i
def ev (ρ : Env) : Operand → Option Value
  | .tmp t => look ρ t
  | .const v => some v
  | .global g => some (.pointer (some ⟨g, 0, none⟩))
  | .func f => some (.func (.func f) #[] #[])
/-- what the operations see of a frame -/
def Sees (ρ : Env) (a : Act) : Prop := ∀ x v, ev ρ x = some v → a.eval x = v
structure Fits (N : Nat) (a : Act) (ρ : Env) : Prop where
  size : a.tmps.size = N
  defers : a.defers = []
  get : ∀ i v, look ρ i = some v → a.tmps.getD i undef = v

theorem Nat.beq_eq_false {a b : Nat} (h : a ≠ b) : Nat.beq a b = false := by
  cases hb : Nat.beq a b with
  | false => rfl
  | true => exact absurd (Nat.eq_of_beq_eq_true hb) h
theorem Nat.beq_self (a : Nat) : Nat.beq a a = true := by
  cases hb : Nat.beq a a with
  | true => rfl
  | false => exact absurd rfl (Nat.ne_of_beq_eq_false hb)
theorem look_cons_self (i : Nat) (v : Value) (r : Env) : look ((i, v) :: r) i = some v := by
  simp only [look, Nat.beq_self]
theorem look_cons_ne {i j : Nat} (h : j ≠ i) (v : Value) (r : Env) : look ((j, v) :: r) i = look r i := by
  have : Nat.beq j i = false := Nat.beq_eq_false h
  simp only [look, this]

theorem Fits.sees {N : Nat} {a : Act} {ρ : Env} (h : Fits N a ρ) : Sees ρ a := by
  intro x v hx
  cases x with
  | tmp t => exact h.get t v hx
  | const u => simpa [ev, Act.eval] using hx
  | global g => simpa [ev, Act.eval] using hx
  | func f => simpa [ev, Act.eval] using hx

theorem Fits.put {N : Nat} {a : Act} {ρ : Env} (h : Fits N a ρ) {d : Nat} (hd : Nat.blt d N = true) (v : Value) : Fits N (a.put (some d) v) ((d, v) :: ρ) := by
  have hlt : d < a.tmps.size := by rw [h.size]; simpa using hd
  refine ⟨by simp [Act.put, h.size], by simp [Act.put, h.defers], fun i u hi => ?_⟩
  by_cases hdi : d = i
  · subst hdi
    rw [look_cons_self] at hi
    obtain rfl := Option.some.inj hi
    simp [Act.put, hlt]
  · rw [look_cons_ne hdi] at hi
    have := h.get i u hi
    simp only [Act.put, Array.getD_eq_getD_getElem?] at this ⊢
    rw [Array.getElem?_setIfInBounds_ne hdi]
    exact this

theorem Fits.none {N : Nat} {a : Act} {ρ : Env} (h : Fits N a ρ) (v : Value) : Fits N (a.put none v) ρ := h

/-- fewer bindings -/
def Sub (ρ' ρ : Env) : Prop := ∀ i v, look ρ' i = some v → look ρ i = some v
theorem Sub.nil {ρ : Env} : Sub [] ρ := fun _ _ h => by cases h
theorem Sub.cons {r ρ : Env} {i : Nat} {v : Value} (h : look ρ i = some v) (hr : Sub r ρ) : Sub ((i, v) :: r) ρ := by
  intro j u hj
  by_cases hij : i = j
  · subst hij
    rw [look_cons_self] at hj
    obtain rfl := Option.some.inj hj
    exact h
  · rw [look_cons_ne hij] at hj
    exact hr j u hj
theorem Sub.refl {ρ : Env} : Sub ρ ρ := fun _ _ h => h
theorem Sub.trans {a b c : Env} (h : Sub a b) (h' : Sub b c) : Sub a c := fun i v hi => h' i v (h i v hi)
theorem Fits.sub {N : Nat} {a : Act} {ρ ρ' : Env} (h : Fits N a ρ) (hs : Sub ρ' ρ) : Fits N a ρ' := ⟨h.size, h.defers, fun i v hi => h.get i v (hs i v hi)⟩

/-- the arguments' slots -/
def enum : Nat → List Value → Env
  | _, [] => []
  | k, v :: r => (k, v) :: enum (k + 1) r
theorem look_enum : ∀ (l : List Value) (k i : Nat) (v : Value), look (enum k l) i = some v → k ≤ i ∧ l[i - k]? = some v
  | [], _, _, _, h => by cases h
  | x :: r, k, i, v, h => by
    by_cases hki : k = i
    · subst hki
      simp only [enum] at h
      rw [look_cons_self] at h
      simpa using h
    · simp only [enum] at h
      rw [look_cons_ne hki] at h
      obtain ⟨h1, h2⟩ := look_enum r (k + 1) i v h
      refine ⟨by omega, ?_⟩
      have : i - k = (i - (k + 1)) + 1 := by omega
      rw [this]
      simpa using h2

/-! ### the heap -/
abbrev Hp := List (Nat × Obj)
abbrev HS := List Hp
structure Inv (w0 : World) (H : Hp) (w : World) : Prop where
  os : w.os = w0.os
  tape : w.tape = w0.tape
  output : w.output = w0.output
  size : w0.heap.size ≤ w.heap.size
  old : ∀ b, b < w0.heap.size → w.heap[b]? = w0.heap[b]?
  nodup : (H.map (·.1)).Nodup
  own : ∀ p, p ∈ H → w0.heap.size ≤ p.1 ∧ w.heap[p.1]? = some p.2

theorem Inv.perm {w0 w : World} {H H' : Hp} (h : Inv w0 H w) (hp : H.Perm H') : Inv w0 H' w :=
  ⟨h.os, h.tape, h.output, h.size, h.old, (hp.map _).nodup_iff.1 h.nodup, fun p hp' => h.own p (hp.mem_iff.2 hp')⟩
theorem Inv.start (w0 : World) : Inv w0 [] w0 := ⟨rfl, rfl, rfl, Nat.le_refl _, fun _ _ => rfl, by simp, fun _ h => by cases h⟩
theorem Inv.drawn {w0 w : World} {H : Hp} (h : Inv w0 H w) (n : Nat) : Inv w0 H { w with drawn := n } := ⟨h.os, h.tape, h.output, h.size, h.old, h.nodup, h.own⟩
theorem Inv.drop {w0 w : World} {H K : Hp} (h : Inv w0 (H ++ K) w) : Inv w0 H w :=
  ⟨h.os, h.tape, h.output, h.size, h.old, by have := h.nodup; rw [List.map_append] at this; exact (List.nodup_append.1 this).1, fun p hp => h.own p (List.mem_append_left _ hp)⟩

/-- a new block -/
theorem Inv.push {w0 w : World} {H : Hp} (h : Inv w0 H w) (o : Obj) (w' : World) (ho : w'.os = w.os) (ht : w'.tape = w.tape) (hu : w'.output = w.output) (hh : w'.heap = w.heap.push o) :
    Inv w0 ((w.heap.size, o) :: H) w' := by
  have hs : w'.heap.size = w.heap.size + 1 := by rw [hh]; simp
  refine ⟨ho.trans h.os, ht.trans h.tape, hu.trans h.output, by have := h.size; omega, fun b hb => ?_, ?_, fun p hp => ?_⟩
  · have hlt : b < w.heap.size := Nat.lt_of_lt_of_le hb h.size
    rw [hh, Array.getElem?_push, if_neg (by omega)]
    exact h.old b hb
  · simp only [List.map_cons, List.nodup_cons]
    refine ⟨fun hm => ?_, h.nodup⟩
    obtain ⟨p, hp, he⟩ := List.mem_map.1 hm
    have h2 := (h.own p hp).2
    rw [he] at h2
    simp at h2
  · rcases List.mem_cons.1 hp with rfl | hp
    · exact ⟨h.size, by rw [hh]; simp⟩
    · obtain ⟨h1, h2⟩ := h.own p hp
      refine ⟨h1, ?_⟩
      have hlt : p.1 < w.heap.size := (Array.getElem?_eq_some_iff.1 h2).1
      rw [hh, Array.getElem?_push, if_neg (by omega)]
      exact h2

/-- a block turned -/
theorem Inv.set {w0 w : World} {K : Hp} {b : Nat} {o o' : Obj} (h : Inv w0 ((b, o) :: K) w) (w' : World) (ho : w'.os = w.os) (ht : w'.tape = w.tape) (hu : w'.output = w.output)
    (hh : w'.heap = w.heap.setIfInBounds b o') : Inv w0 ((b, o') :: K) w' := by
  obtain ⟨hb1, hb2⟩ := h.own (b, o) (List.mem_cons_self ..)
  have hlt : b < w.heap.size := (Array.getElem?_eq_some_iff.1 hb2).1
  have hn := h.nodup
  simp only [List.map_cons, List.nodup_cons] at hn
  refine ⟨ho.trans h.os, ht.trans h.tape, hu.trans h.output, by rw [hh]; simpa using h.size, fun c hc => ?_, by simpa using hn, fun p hp => ?_⟩
  · have hne : b ≠ c := by have := hb1; simp only at this; omega
    rw [hh, Array.getElem?_setIfInBounds_ne hne]
    exact h.old c hc
  · rcases List.mem_cons.1 hp with rfl | hp
    · exact ⟨hb1, by rw [hh]; simp [hlt]⟩
    · obtain ⟨h1, h2⟩ := h.own p (List.mem_cons_of_mem _ hp)
      have hne : b ≠ p.1 := fun e => hn.1 (e ▸ List.mem_map.2 ⟨p, hp, rfl⟩)
      exact ⟨h1, by rw [hh, Array.getElem?_setIfInBounds_ne hne]; exact h2⟩

/-! ### a place among the chunks -/
theorem flatten_pick {S : HS} {i : Nat} {c : Hp} (h : S[i]? = some c) : S.flatten.Perm (c ++ (S.eraseIdx i).flatten) := by
  induction S generalizing i with
  | nil => cases h
  | cons x S ih =>
    cases i with
    | zero =>
      simp only [List.getElem?_cons_zero, Option.some.injEq] at h
      subst h
      simp
    | succ i =>
      simp only [List.getElem?_cons_succ] at h
      have := ih h
      simp only [List.flatten_cons, List.eraseIdx_cons_succ]
      refine (this.append_left x).trans ?_
      rw [← List.append_assoc, ← List.append_assoc]
      exact List.Perm.append_right _ List.perm_append_comm
theorem flatten_set {S : HS} {i : Nat} {c c' : Hp} (h : S[i]? = some c) : (S.set i c').flatten.Perm (c' ++ (S.eraseIdx i).flatten) := by
  induction S generalizing i with
  | nil => cases h
  | cons x S ih =>
    cases i with
    | zero => simp
    | succ i =>
      simp only [List.getElem?_cons_succ] at h
      have := ih h
      simp only [List.set_cons_succ, List.flatten_cons, List.eraseIdx_cons_succ]
      refine (this.append_left x).trans ?_
      rw [← List.append_assoc, ← List.append_assoc]
      exact List.Perm.append_right _ List.perm_append_comm

/-- block b is the whole of some chunk, and holds o -/
def At (S : HS) (i : Nat) (b : Nat) (o : Obj) : Prop := S[i]? = some [(b, o)]
theorem Inv.at {w0 w : World} {S : HS} {F : Hp} {i b : Nat} {o : Obj} (h : Inv w0 (S.flatten ++ F) w) (ha : At S i b o) : w0.heap.size ≤ b ∧ w.heap[b]? = some o := by
  have hp := (flatten_pick ha).append_right F
  have := (h.perm hp).own (b, o) (by simp)
  exact this
theorem Inv.setAt {w0 w : World} {S : HS} {F : Hp} {i b : Nat} {o o' : Obj} (h : Inv w0 (S.flatten ++ F) w) (ha : At S i b o) (w' : World) (ho : w'.os = w.os) (ht : w'.tape = w.tape) (hu : w'.output = w.output)
    (hh : w'.heap = w.heap.setIfInBounds b o') : Inv w0 ((S.set i [(b, o')]).flatten ++ F) w' := by
  have hp := (flatten_pick ha).append_right F
  have h1 := h.perm hp
  have h2 : Inv w0 ((b, o') :: ((S.eraseIdx i).flatten ++ F)) w' := Inv.set (o := o) (K := (S.eraseIdx i).flatten ++ F) h1 w' ho ht hu hh
  exact h2.perm ((flatten_set (c' := [(b, o')]) ha).append_right F).symm

theorem Inv.take {w0 w : World} {S : HS} {F : Hp} (h : Inv w0 (S.flatten ++ F) w) (n : Nat) : Inv w0 ((S.take n).flatten ++ F) w := by
  have hp : (S.flatten ++ F).Perm (((S.take n).flatten ++ F) ++ (S.drop n).flatten) := by
    have e : S.flatten = (S.take n).flatten ++ (S.drop n).flatten := by rw [← List.flatten_append, List.take_append_drop]
    rw [e, List.append_assoc, List.append_assoc]
    exact List.Perm.append_left _ List.perm_append_comm
  exact (h.perm hp).drop

/-! ### contracts -/
def Tri (P : Program) (w0 : World) (f : FuncId) (args : Array Value) (S : HS) (R : Value → HS → Prop) : Prop :=
  ∀ F w, Inv w0 (S.flatten ++ F) w → Calls P f args w (fun e w' => ∃ v S', e = .returned v ∧ R v S' ∧ Inv w0 (S'.flatten ++ F) w')

theorem Tri.mono {P : Program} {w0 : World} {f : FuncId} {args : Array Value} {S : HS} {R R' : Value → HS → Prop} (h : Tri P w0 f args S R) (hr : ∀ v S', R v S' → R' v S') : Tri P w0 f args S R' :=
  fun F w hi => (h F w hi).mono fun _ _ ⟨v, S', he, hR, hI⟩ => ⟨v, S', he, hr _ _ hR, hI⟩
theorem Tri.pre {P : Program} {w0 : World} {f : FuncId} {args : Array Value} {S T : HS} {R : Value → HS → Prop} (h : Tri P w0 f args T R) (hp : S.flatten.Perm T.flatten) : Tri P w0 f args S R :=
  fun F w hi => h F w (hi.perm (hp.append_right F))
theorem Tri.frame {P : Program} {w0 : World} {f : FuncId} {args : Array Value} {S T : HS} {R : Value → HS → Prop} (h : Tri P w0 f args S R) :
    Tri P w0 f args (S ++ T) (fun v S' => ∃ S1, R v S1 ∧ S' = S1 ++ T) := by
  intro F w hi
  have hi' : Inv w0 (S.flatten ++ (T.flatten ++ F)) w := by simpa [List.append_assoc] using hi
  refine (h _ w hi').mono fun e w' ⟨v, S', he, hR, hI⟩ => ⟨v, S' ++ T, he, ⟨S', hR, rfl⟩, ?_⟩
  simpa [List.append_assoc] using hI

/-! ### picking chunks for a call -/
def pick : List Nat → HS → HS
  | [], _ => []
  | i :: r, S => (S.getD i []) :: pick r S
def others : List Nat → Nat → HS → HS
  | _, _, [] => []
  | l, k, c :: S => bif l.contains k then others l (k + 1) S else c :: others l (k + 1) S

/-! ### control -/
section
variable {P : Program} {N : Nat} {w0 : World}

def WP (P : Program) (N : Nat) (w0 : World) (c : Code) (Q : Exit → Env → HS → Prop) (ρ : Env) (S : HS) : Prop :=
  ∀ F a w, Fits N a ρ → Inv w0 (S.flatten ++ F) w →
    c.wp P (fun e a' w' => ∃ ρ' S', Q e ρ' S' ∧ Fits N a' ρ' ∧ Inv w0 (S'.flatten ++ F) w') a w

theorem WP.mono {c : Code} {Q Q' : Exit → Env → HS → Prop} {ρ : Env} {S : HS} (h : WP P N w0 c Q ρ S) (hq : ∀ e ρ S, Q e ρ S → Q' e ρ S) : WP P N w0 c Q' ρ S :=
  fun F a w hf hi => wp_mono (h F a w hf hi) fun _ _ _ ⟨ρ', S', q, f, i⟩ => ⟨ρ', S', hq _ _ _ q, f, i⟩
theorem WP.sub {c : Code} {Q : Exit → Env → HS → Prop} {ρ ρ' : Env} {S : HS} (hs : Sub ρ' ρ) (h : WP P N w0 c Q ρ' S) : WP P N w0 c Q ρ S :=
  fun F a w hf hi => h F a w (hf.sub hs) hi
theorem WP.perm {c : Code} {Q : Exit → Env → HS → Prop} {ρ : Env} {S T : HS} (hp : S.flatten.Perm T.flatten) (h : WP P N w0 c Q ρ T) : WP P N w0 c Q ρ S :=
  fun F a w hf hi => h F a w hf (hi.perm (hp.append_right F))

def sq (P : Program) (N : Nat) (w0 : World) (y : Code) (Q : Exit → Env → HS → Prop) : Exit → Env → HS → Prop
  | .normal, ρ, S => WP P N w0 y Q ρ S
  | e, ρ, S => Q e ρ S
theorem WP.seq {x y : Code} {Q : Exit → Env → HS → Prop} {ρ : Env} {S : HS} (h : WP P N w0 x (sq P N w0 y Q) ρ S) : WP P N w0 (.seq x y) Q ρ S := by
  intro F a w hf hi
  refine wp_seq (wp_mono (h F a w hf hi) ?_)
  rintro e a' w' ⟨ρ', S', q, f, i⟩
  cases e with
  | normal => exact q F a' w' f i
  | exit id => exact ⟨ρ', S', q, f, i⟩
  | goto l => exact ⟨ρ', S', q, f, i⟩
  | ret => exact ⟨ρ', S', q, f, i⟩
  | panic ch => exact ⟨ρ', S', q, f, i⟩
  | outgrown => exact ⟨ρ', S', q, f, i⟩
def bk (id : Nat) (Q : Exit → Env → HS → Prop) : Exit → Env → HS → Prop
  | .exit i, ρ, S => match Nat.beq i id with
    | true => Q .normal ρ S
    | false => Q (.exit i) ρ S
  | e, ρ, S => Q e ρ S
theorem WP.block {id : Nat} {c : Code} {Q : Exit → Env → HS → Prop} {ρ : Env} {S : HS} (h : WP P N w0 c (bk id Q) ρ S) : WP P N w0 (.block id c) Q ρ S := by
  intro F a w hf hi
  refine wp_block (wp_mono (h F a w hf hi) ?_)
  rintro e a' w' ⟨ρ', S', q, f, i⟩
  cases e with
  | normal => exact ⟨ρ', S', q, f, i⟩
  | exit k =>
    simp only [Exit.inBlock]
    simp only [bk] at q
    by_cases hk : k = id
    · subst hk
      simp only [Nat.beq_self] at q
      simp only [if_true]
      exact ⟨ρ', S', q, f, i⟩
    · have : Nat.beq k id = false := Nat.beq_eq_false hk
      simp only [this] at q
      simp only [hk, if_false]
      exact ⟨ρ', S', q, f, i⟩
  | goto l => exact ⟨ρ', S', q, f, i⟩
  | ret => exact ⟨ρ', S', q, f, i⟩
  | panic ch => exact ⟨ρ', S', q, f, i⟩
  | outgrown => exact ⟨ρ', S', q, f, i⟩
theorem WP.skip {Q : Exit → Env → HS → Prop} {ρ : Env} {S : HS} (h : Q .normal ρ S) : WP P N w0 .skip Q ρ S := fun _ _ _ hf hi => wp_skip ⟨ρ, S, h, hf, hi⟩
theorem WP.exit {id : Nat} {Q : Exit → Env → HS → Prop} {ρ : Env} {S : HS} (h : Q (.exit id) ρ S) : WP P N w0 (.exit id) Q ρ S := fun _ _ _ hf hi => wp_exit ⟨ρ, S, h, hf, hi⟩
theorem WP.ret {Q : Exit → Env → HS → Prop} {ρ : Env} {S : HS} (h : Q .ret ρ S) : WP P N w0 .ret Q ρ S := fun _ _ _ hf hi => wp_ret ⟨ρ, S, h, hf, hi⟩
theorem WP.condT {c : Operand} {x y : Code} {Q : Exit → Env → HS → Prop} {ρ : Env} {S : HS} (hc : ev ρ c = some (.bool true)) (h : WP P N w0 x Q ρ S) : WP P N w0 (.cond c x y) Q ρ S :=
  fun F a w hf hi => wp_cond_true (hf.sees _ _ hc) (h F a w hf hi)
theorem WP.condF {c : Operand} {x y : Code} {Q : Exit → Env → HS → Prop} {ρ : Env} {S : HS} (hc : ev ρ c = some (.bool false)) (h : WP P N w0 y Q ρ S) : WP P N w0 (.cond c x y) Q ρ S :=
  fun F a w hf hi => wp_cond_false (hf.sees _ _ hc) (h F a w hf hi)
theorem WP.cond {c : Operand} {x y : Code} {Q : Exit → Env → HS → Prop} {ρ : Env} {S : HS} {t : Bool} (hc : ev ρ c = some (.bool t)) (h1 : t = true → WP P N w0 x Q ρ S) (h2 : t = false → WP P N w0 y Q ρ S) :
    WP P N w0 (.cond c x y) Q ρ S := by
  cases t
  · exact WP.condF hc (h2 rfl)
  · exact WP.condT hc (h1 rfl)

def lq (I : Nat → Env → HS → Prop) (n : Nat) (Q : Exit → Env → HS → Prop) : Exit → Env → HS → Prop
  | .normal, ρ, S => ∃ m, m < n ∧ I m ρ S
  | e, ρ, S => Q e ρ S
/-- A loop: the relation 'I n' at every head, n falling. -/
theorem WP.loop {c : Code} {Q : Exit → Env → HS → Prop} {ρ : Env} {S : HS} (I : Nat → Env → HS → Prop) (n : Nat) (h0 : I n ρ S) (hr : ∀ n ρ S, I n ρ S → WP P N w0 c (lq I n Q) ρ S) : WP P N w0 (.loop c) Q ρ S := by
  intro F a w hf hi b k cs
  have key : ∀ n ρ S a w, I n ρ S → Fits N a ρ → Inv w0 (S.flatten ++ F) w →
      ∃ e a' w', (∃ ρ' S', Q e ρ' S' ∧ Fits N a' ρ' ∧ Inv w0 (S'.flatten ++ F) w') ∧ Arrives P (Go.lone (b.at a (.code c :: .inLoop c :: k)) cs w) b k cs e a' w' := by
    intro n
    induction n using Nat.strongRecOn with
    | _ n ih =>
      intro ρ S a w hI hf hi
      obtain ⟨e, a₁, w₁, ⟨ρ', S', q, f, i⟩, harr⟩ := hr n ρ S hI F a w hf hi b (.inLoop c :: k) cs
      cases e with
      | normal =>
        obtain ⟨m, hm, hI'⟩ := q
        obtain ⟨e₂, a₂, w₂, hq₂, harr₂⟩ := ih m hm ρ' S' a₁ w₁ hI' f i
        exact ⟨e₂, a₂, w₂, hq₂, .of_steps (Steps.trans harr (.one step_inLoop)) harr₂⟩
      | exit id => exact ⟨_, a₁, w₁, ⟨ρ', S', q, f, i⟩, .pass (x := .inLoop c) rfl (fun _ _ => .inl (by simp)) harr⟩
      | goto l => exact ⟨_, a₁, w₁, ⟨ρ', S', q, f, i⟩, .pass (x := .inLoop c) rfl (fun _ _ => .inl (by simp)) harr⟩
      | ret => exact ⟨_, a₁, w₁, ⟨ρ', S', q, f, i⟩, .pass (x := .inLoop c) rfl (fun _ _ => .inl (by simp)) harr⟩
      | panic ch => exact ⟨_, a₁, w₁, ⟨ρ', S', q, f, i⟩, .pass (x := .inLoop c) rfl (fun _ _ => .inl (by simp)) harr⟩
      | outgrown => exact ⟨_, a₁, w₁, ⟨ρ', S', q, f, i⟩, .pass (x := .inLoop c) rfl (fun _ _ => .inl (by simp)) harr⟩
  obtain ⟨e, a', w', hq, harr⟩ := key n ρ S a w h0 hf hi
  exact ⟨e, a', w', hq, .of_steps (.one step_loop) harr⟩

/-! ### the function -/
def post (P : Program) (w0 : World) (fn : Func) (R : Value → HS → Prop) (e : Exit) (ρ : Env) (S : HS) : Prop :=
  (match e with | .normal => True | .ret => True | _ => False) ∧ ∃ v n, (∀ F a w, Sees ρ a → Inv w0 (S.flatten ++ F) w → (results fn a.tmps).run P w = .ok v w) ∧ R v (S.take n)

theorem Tri.mk {f : FuncId} {fn : Func} {c : Code} {args : Array Value} {S : HS} {R : Value → HS → Prop} (hf : P.funcs[f]? = some fn) (hb : fn.body = some c) (hn : fn.ntmps = N) (hs : Nat.ble args.size N = true)
    (h : WP P N w0 c (post P w0 fn R) (enum 0 args.toList) S) : Tri P w0 f args S R := by
  intro F w hi
  refine calls_of_wp hf hb ?_
  have hle : args.size ≤ N := by simpa using hs
  have hfit : Fits N { tmps := args ++ Array.replicate (fn.ntmps - args.size) undef, defers := [] } (enum 0 args.toList) := by
    refine ⟨by simp [hn]; omega, rfl, fun i v hv => ?_⟩
    obtain ⟨_, h2⟩ := look_enum _ _ _ _ hv
    have h3 : args[i]? = some v := by simpa using h2
    have hlt : i < args.size := (Array.getElem?_eq_some_iff.1 h3).1
    simp only [Array.getD_eq_getD_getElem?]
    rw [Array.getElem?_append_left hlt, h3]
    rfl
  refine wp_mono (h F _ w hfit hi) ?_
  rintro e a' w' ⟨ρ', S', ⟨he, v, n, hr, hR⟩, f', i'⟩
  cases e with
  | normal => exact ⟨f'.defers, v, hr F a' w' f'.sees i', v, S'.take n, rfl, hR, i'.take n⟩
  | ret => exact ⟨f'.defers, v, hr F a' w' f'.sees i', v, S'.take n, rfl, hR, i'.take n⟩
  | exit id => exact he.elim
  | goto l => exact he.elim
  | panic ch => exact he.elim
  | outgrown => exact he.elim

theorem fin0' (n : Nat) {fn : Func} {R : Value → HS → Prop} {ρ : Env} {S : HS} {e : Exit} (hn : fn.results = #[]) (he : (match e with | .normal => True | .ret => True | _ => False) = True)  (h : R (.tuple #[]) (S.take n)) : post P w0 fn R e ρ S :=
  ⟨by rw [he]; trivial, .tuple #[], n, fun _ _ _ _ _ => results_none hn _ _ _, h⟩
theorem fin0 {fn : Func} {R : Value → HS → Prop} {ρ : Env} {S : HS} {e : Exit} (hn : fn.results = #[]) (he : (match e with | .normal => True | .ret => True | _ => False) = True)  (h : R (.tuple #[]) S) : post P w0 fn R e ρ S :=
  fin0' S.length hn he  (by rw [List.take_length]; exact h)
theorem fin1' (n : Nat) {fn : Func} {R : Value → HS → Prop} {ρ : Env} {S : HS} {e : Exit} {t : Nat} {v : Value} (hn : fn.results = #[.tmp t]) (he : (match e with | .normal => True | .ret => True | _ => False) = True) (hv' : look ρ t = some v) (h : R (v) (S.take n)) : post P w0 fn R e ρ S :=
  ⟨by rw [he]; trivial, v, n, fun _ a _ hs _ => by rw [results_tmp hn]; rw [show a.tmps.getD t undef = v from hs (.tmp t) v hv'], h⟩
theorem fin1 {fn : Func} {R : Value → HS → Prop} {ρ : Env} {S : HS} {e : Exit} {t : Nat} {v : Value} (hn : fn.results = #[.tmp t]) (he : (match e with | .normal => True | .ret => True | _ => False) = True) (hv' : look ρ t = some v) (h : R (v) S) : post P w0 fn R e ρ S :=
  fin1' S.length hn he hv' (by rw [List.take_length]; exact h)
theorem fin2' (n : Nat) {fn : Func} {R : Value → HS → Prop} {ρ : Env} {S : HS} {e : Exit} {t u : Nat} {v x : Value} (hn : fn.results = #[.tmp t, .tmp u]) (he : (match e with | .normal => True | .ret => True | _ => False) = True) (hv' : look ρ t = some v) (hx' : look ρ u = some x) (h : R (.tuple #[v, x]) (S.take n)) : post P w0 fn R e ρ S :=
  ⟨by rw [he]; trivial, .tuple #[v, x], n, fun _ a _ hs _ => by rw [results_tmp2 hn]; rw [show a.tmps.getD t undef = v from hs (.tmp t) v hv', show a.tmps.getD u undef = x from hs (.tmp u) x hx'], h⟩
theorem fin2 {fn : Func} {R : Value → HS → Prop} {ρ : Env} {S : HS} {e : Exit} {t u : Nat} {v x : Value} (hn : fn.results = #[.tmp t, .tmp u]) (he : (match e with | .normal => True | .ret => True | _ => False) = True) (hv' : look ρ t = some v) (hx' : look ρ u = some x) (h : R (.tuple #[v, x]) S) : post P w0 fn R e ρ S :=
  fin2' S.length hn he hv' hx' (by rw [List.take_length]; exact h)
theorem fin3' (n : Nat) {fn : Func} {R : Value → HS → Prop} {ρ : Env} {S : HS} {e : Exit} {t u s : Nat} {v x y : Value} (hn : fn.results = #[.tmp t, .tmp u, .tmp s]) (he : (match e with | .normal => True | .ret => True | _ => False) = True) (hv' : look ρ t = some v) (hx' : look ρ u = some x) (hy' : look ρ s = some y) (h : R (.tuple #[v, x, y]) (S.take n)) : post P w0 fn R e ρ S :=
  ⟨by rw [he]; trivial, .tuple #[v, x, y], n, fun _ a w hs _ => by
    have h1 : a.tmps.getD t undef = v := hs (.tmp t) v hv'
    have h2 : a.tmps.getD u undef = x := hs (.tmp u) x hx'
    have h3 : a.tmps.getD s undef = y := hs (.tmp s) y hy'
    simp only [results, hn]
    simp
    exact ⟨by simpa using h1, by simpa using h2, by simpa using h3⟩, h⟩
theorem fin3 {fn : Func} {R : Value → HS → Prop} {ρ : Env} {S : HS} {e : Exit} {t u s : Nat} {v x y : Value} (hn : fn.results = #[.tmp t, .tmp u, .tmp s]) (he : (match e with | .normal => True | .ret => True | _ => False) = True) (hv' : look ρ t = some v) (hx' : look ρ u = some x) (hy' : look ρ s = some y) (h : R (.tuple #[v, x, y]) S) : post P w0 fn R e ρ S :=
  fin3' S.length hn he hv' hx' hy' (by rw [List.take_length]; exact h)
end
end Go.EL
