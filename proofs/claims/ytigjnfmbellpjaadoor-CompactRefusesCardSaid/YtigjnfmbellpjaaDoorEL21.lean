/- Part 21: scopes that are not jumped in; a row as a slice; slices that are only read, cut. -/
import Derived.Test.YtigjnfmbellpjaaDoorEL17
import Derived.Scope
namespace Go.EL
open Go
section
variable {P : Program} {N : Nat} {w0 : World}
def ng (Q : Exit → Env → HS → Prop) : Exit → Env → HS → Prop
  | .goto _, _, _ => False
  | e, ρ, S => Q e ρ S
theorem WP.scope {c : Code} {Q : Exit → Env → HS → Prop} {ρ : Env} {S : HS} (h : WP P N w0 c (ng Q) ρ S) : WP P N w0 (.scope c) Q ρ S := by
  intro F a w hf hi
  refine wp_scope_straight (wp_mono (h F a w hf hi) ?_)
  rintro e a' w' ⟨ρ', S', q, f, i⟩
  cases e with
  | goto l => exact q.elim
  | normal => exact ⟨ρ', S', q, f, i⟩
  | exit k => exact ⟨ρ', S', q, f, i⟩
  | ret => exact ⟨ρ', S', q, f, i⟩
  | panic ch => exact ⟨ρ', S', q, f, i⟩
  | outgrown => exact ⟨ρ', S', q, f, i⟩
theorem WP.label {l : Nat} {Q : Exit → Env → HS → Prop} {ρ : Env} {S : HS} (h : Q .normal ρ S) : WP P N w0 (.label l) Q ρ S := fun _ _ _ hf hi => wp_label ⟨ρ, S, h, hf, hi⟩
theorem ng_normal {Q : Exit → Env → HS → Prop} {ρ : Env} {S : HS} (h : Q .normal ρ S) : ng Q .normal ρ S := h
theorem ng_exit {Q : Exit → Env → HS → Prop} {ρ : Env} {S : HS} {i : Nat} (h : Q (.exit i) ρ S) : ng Q (.exit i) ρ S := h
theorem ng_ret {Q : Exit → Env → HS → Prop} {ρ : Env} {S : HS} (h : Q .ret ρ S) : ng Q .ret ρ S := h
section pure
variable {ρ : Env} {ds : Option Nat} {ty : TypeId} {pos : String} {aft : Array Edge} {g : Option (Nat × Bool)}
/-- x[:] of an array -/
theorem p_sliceArr {t e : TypeId} {x : Operand} {len k : Nat} {a' : Addr} (hx : ev ρ x = some (.pointer (some a'))) (ht : arrayOf P t len e k = true) :
    PureOp P ⟨ds, .slice t x none none none, ty, pos, aft, g⟩ ρ (.slice (some a') len len) := fun a hs w => by
  obtain ⟨hu, hsz⟩ := arrayOf_und ht
  have e0 : a'.add 0 = a' := add_zero a'
  simp [execOp, hs x _ hx, Instr.sliceAt, underlying, hu, Instr.sureAddr, Instr.sliceBounds, sizeIs_run hsz, e0]
theorem p_sliceG {t e : TypeId} {x : Operand} {lo hi : Option Operand} {n len cap : Nat} {a' : Addr} {l h : Int} {kl kh : IntKind} (hx : ev ρ x = some (.slice (some a') len cap)) (ht : sliceOf P t e n = true)
    (hl : (match lo with | none => some (Value.int kl l) | some y => ev ρ y) = some (.int kl l)) (hl0 : lo = none → l = 0) (hh : (match hi with | none => some (Value.int kh h) | some y => ev ρ y) = some (.int kh h)) (hh0 : hi = none → h = len)
    (h1 : 0 ≤ l) (h2 : l ≤ h) (h3 : h ≤ cap) :
    PureOp P ⟨ds, .slice t x lo hi none, ty, pos, aft, g⟩ ρ (.slice (some (if cap = l.toNat then a' else a'.add (l.toNat * n))) (h.toNat - l.toNat) (cap - l.toNat)) := fun a hs w => by
  obtain ⟨hu, hsz⟩ := sliceOf_und ht
  have hb : (Instr.sliceBounds true len cap (lo.map a.eval) (hi.map a.eval) none).run P w = .ok (l.toNat, h.toNat, cap) w := by
    cases lo with
    | none =>
      have e1 := hl0 rfl
      subst e1
      cases hi with
      | none =>
        have e2 := hh0 rfl
        subst e2
        simp [Instr.sliceBounds]
      | some y =>
        have := hs y _ hh
        have h4 : h ≤ (cap : Int) := h3
        simp [Instr.sliceBounds, this, Instr.sliceBound, asIntOf, h4]
        omega
    | some z =>
      have hz := hs z _ hl
      cases hi with
      | none =>
        have e2 := hh0 rfl
        subst e2
        have : l ≤ (len : Int) := h2
        simp [Instr.sliceBounds, hz, Instr.sliceBound, asIntOf, h1, this]
      | some y =>
        have := hs y _ hh
        have h6 : 0 ≤ h := by omega
        have h7 : max h 0 = h := Int.max_eq_left h6
        have h8 : ¬ h < l := by omega
        simp [Instr.sliceBounds, this, hz, Instr.sliceBound, asIntOf, h1, h3, h6, h7, h8]
  simp only [execOp, hs x _ hx, Instr.sliceAt, underlying, Sem.run_bind, run_program, Result.andThen_ok, hu, Sem.run_pure, Instr.slice, Option.map_none, hb, sizeIs_run hsz]
  by_cases hc : cap = l.toNat <;> simp [hc]
end pure
end
/-! ### slices that are only read -/
section
variable {α : Type} {w0 : World}
/-- a slice that may be read, as long as the chunk HP is there ([]: what one was handed) -/
def Held (w0 : World) (HP : Hp) (enc : α → List Value) (ys : List α) (v : Value) : Prop :=
  (v = .slice none 0 0 ∧ ys = []) ∨ ∃ a c, v = .slice (some a) ys.length c ∧ ys.length ≤ c ∧ c ≤ maxLen ∧ ∀ (S : HS) (i : Nat), S[i]? = some HP → RdN w0 S a (ys.flatMap enc)
theorem Held.len {HP : Hp} {enc : α → List Value} {ys : List α} {v : Value} (h : Held w0 HP enc ys v) : ∃ p c, v = .slice p ys.length c ∧ ys.length ≤ c ∧ c ≤ maxLen := by
  rcases h with ⟨rfl, rfl⟩ | ⟨a, c, rfl, h1, h2, _⟩
  · exact ⟨none, 0, rfl, by simp, by simp [maxLen]⟩
  · exact ⟨_, c, rfl, h1, h2⟩
theorem Held.rd {HP : Hp} {enc : α → List Value} {ys : List α} {v : Value} (h : Held w0 HP enc ys v) {S : HS} {i : Nat} (hi : S[i]? = some HP) : RdS w0 S enc ys v := by
  rcases h with ⟨rfl, rfl⟩ | ⟨a, c, rfl, _, _, h3⟩
  · exact .inl ⟨rfl, rfl⟩
  · exact .inr ⟨a, c, rfl, h3 S i hi⟩
theorem Held.addr {HP : Hp} {enc : α → List Value} {ys : List α} {v : Value} (h : Held w0 HP enc ys v) (hne : ys ≠ []) : ∃ a c, v = .slice (some a) ys.length c ∧ ys.length ≤ c ∧ c ≤ maxLen := by
  rcases h with ⟨_, e⟩ | ⟨a, c, rfl, h1, h2, _⟩
  · exact absurd e hne
  · exact ⟨a, c, rfl, h1, h2⟩
theorem Held.take {HP : Hp} {enc : α → List Value} {k : Nat} (hu : ∀ ys, Uni enc k ys) {ys : List α} {a : Addr} {c : Nat} (h : Held w0 HP enc ys (.slice (some a) ys.length c)) (n : Nat) (hn : n ≤ ys.length) : Held w0 HP enc (ys.take n) (.slice (some a) n c) := by
  rcases h with ⟨e, _⟩ | ⟨a', c', e, h1, h2, h3⟩
  · cases e
  · injection e with e1 _ e3
    injection e1 with e1
    subst e1; subst e3
    refine .inr ⟨a, c, by rw [List.length_take, Nat.min_eq_left hn], by simp; omega, h2, fun S i hi => ?_⟩
    have h4 := h3 S i hi
    have h5 := fm_take' (hu ys) ([] : List Value) n hn
    simp only [List.append_nil] at h5
    have h6 := RdN.sub h4 0 (us := (ys.take n).flatMap enc) (by
      rw [fm_length (hu _), List.length_take, Nat.min_eq_left hn, List.drop_zero, h5])
    rw [add_zero] at h6
    exact h6
theorem Held.drop {HP : Hp} {enc : α → List Value} {k : Nat} (hu : ∀ ys, Uni enc k ys) {ys : List α} {a : Addr} {c : Nat} (h : Held w0 HP enc ys (.slice (some a) ys.length c)) (n : Nat) (hn : n ≤ ys.length) :
    Held w0 HP enc (ys.drop n) (.slice (some (if c = n then a else a.add (n * k))) (ys.length - n) (c - n)) := by
  rcases h with ⟨e, _⟩ | ⟨a', c', e, h1, h2, h3⟩
  · cases e
  · injection e with e1 _ e3
    injection e1 with e1
    subst e1; subst e3
    refine .inr ⟨_, c - n, by rw [List.length_drop], by simp; omega, by omega, fun S i hi => ?_⟩
    have h4 := h3 S i hi
    have h5 := fm_drop (hu ys) ([] : List Value) n hn
    simp only [List.append_nil] at h5
    by_cases hc : c = n
    · rw [if_pos hc]
      have : ys.drop n = [] := List.drop_eq_nil_of_le (by omega)
      rw [this]
      intro F w hI j u hu'
      simp at hu'
    · rw [if_neg hc]
      refine RdN.sub h4 (n * k) ?_
      rw [h5, List.take_length]
theorem Vec.held {e : TypeId} {k : Nat} {enc : α → List Value} {xs : List α} {v : Value} {H : Hp} (h : Vec e k enc xs v H) : Held w0 H enc xs v := by
  rcases h with ⟨rfl, rfl, _⟩ | ⟨b, cap, sp, rfl, rfl, h1, h2, _⟩
  · exact .inl ⟨rfl, rfl⟩
  · exact .inr ⟨_, cap, rfl, h1, h2, fun S i hi => RdN.own i hi (by simp)⟩
end
section
variable {P : Program} {ρ : Env} {ds : Option Nat} {ty : TypeId} {pos : String} {aft : Array Edge} {g : Option (Nat × Bool)}
theorem p_sliceToG {t e : TypeId} {x y : Operand} {n len cap : Nat} {a' : Addr} {h : Int} {k : IntKind} (hx : ev ρ x = some (.slice (some a') len cap)) (ht : sliceOf P t e n = true) (hy : ev ρ y = some (.int k h)) (h1 : 0 ≤ h) (h2 : h ≤ cap) :
    PureOp P ⟨ds, .slice t x none (some y) none, ty, pos, aft, g⟩ ρ (.slice (some a') h.toNat cap) := by
  have := p_sliceG (ds := ds) (ty := ty) (pos := pos) (aft := aft) (g := g) (lo := none) (hi := some y) (l := 0) (kl := .i64) (kh := k) hx ht rfl (fun _ => rfl) hy (fun e => by cases e) (Int.le_refl _) h1 h2
  simpa [add_zero] using this
theorem p_sliceFromG {t e : TypeId} {x y : Operand} {n len cap : Nat} {a' : Addr} {l : Int} {k : IntKind} (hx : ev ρ x = some (.slice (some a') len cap)) (ht : sliceOf P t e n = true) (hy : ev ρ y = some (.int k l)) (h1 : 0 ≤ l) (h2 : l ≤ len) (h3 : len ≤ cap) :
    PureOp P ⟨ds, .slice t x (some y) none none, ty, pos, aft, g⟩ ρ (.slice (some (if cap = l.toNat then a' else a'.add (l.toNat * n))) (len - l.toNat) (cap - l.toNat)) := by
  have := p_sliceG (ds := ds) (ty := ty) (pos := pos) (aft := aft) (g := g) (lo := some y) (hi := none) (h := len) (kl := k) (kh := .i64) hx ht hy (fun e => by cases e) rfl (fun _ => rfl) h1 h2 (by omega)
  simpa using this
theorem p_neg {t : TypeId} {x : Operand} {k : IntKind} {m r : Int} (hx : ev ρ x = some (.int k m)) (hr : k.wrap (-m) = r) : PureOp P ⟨ds, .unOp .neg t x, ty, pos, aft, g⟩ ρ (.int k r) := fun a hs w => by
  subst hr; simp [execOp, hs x _ hx, Op.unary, Op.intArith]
end
end Go.EL

/- Part 22: chunks forgotten, chunks in another order. -/
namespace Go.EL
open Go
section
variable {P : Program} {N : Nat} {w0 : World} {ops : Array Oper}
theorem Inv.only {S : HS} {F : Hp} {w : World} (idx : List Nat) (ho : okIdx idx S.length = true) (h : Inv w0 (S.flatten ++ F) w) : Inv w0 ((pick idx S).flatten ++ F) w := by
  have hp : (S.flatten ++ F).Perm (((pick idx S).flatten ++ F) ++ (others idx 0 S).flatten) := by
    have h1 : S.flatten.Perm ((pick idx S).flatten ++ (others idx 0 S).flatten) := by rw [← List.flatten_append]; exact (pick_perm idx ho).flatten
    refine (h1.append_right F).trans ?_
    rw [List.append_assoc, List.append_assoc]
    exact List.Perm.append_left _ List.perm_append_comm
  exact (h.perm hp).drop
/-- these chunks, in this order; the others are forgotten -/
theorem WP.only {c : Code} {Q : Exit → Env → HS → Prop} {ρ : Env} {S T : HS} (idx : List Nat) (ho : okIdx idx S.length = true) (hT : pick idx S = T) (h : WP P N w0 c Q ρ T) : WP P N w0 c Q ρ S := by
  subst hT
  exact fun F a w hf hi => h F a w hf (hi.only idx ho)
theorem RX.only {l : List Oper} {K : Env → HS → Prop} {ρ : Env} {S T : HS} (idx : List Nat) (ho : okIdx idx S.length = true) (hT : pick idx S = T) (h : RX P N w0 ops l K ρ T) : RX P N w0 ops l K ρ S := by
  subst hT
  exact fun F a w hf hi => h F a w hf (hi.only idx ho)
theorem Inv.nilChunk {S : HS} {F : Hp} {w : World} (h : Inv w0 (S.flatten ++ F) w) : Inv w0 ((S ++ [[]]).flatten ++ F) w := by simpa using h
/-- a chunk of nothing more -/
theorem WP.nilChunk {c : Code} {Q : Exit → Env → HS → Prop} {ρ : Env} {S T : HS} (hT : S ++ [[]] = T) (h : WP P N w0 c Q ρ T) : WP P N w0 c Q ρ S := by
  subst hT
  exact fun F a w hf hi => h F a w hf hi.nilChunk
/-- a contract at an empty chunk -/
theorem Tri.void {f : FuncId} {args : Array Value} {R : Value → Prop} (h : Tri P w0 f args [[]] (fun v S' => R v ∧ S' = [[]])) : Tri P w0 f args [] (fun v S' => R v ∧ S' = []) :=
  fun F w hi => (h F w (by simpa using hi)).mono fun _ _ ⟨v, S', he, ⟨hR, hS⟩, hI⟩ => ⟨v, [], he, ⟨hR, rfl⟩, by subst hS; simpa using hI⟩
end
end Go.EL

/- Part 23: shifts of numbers that are not negative. -/
namespace Go.EL
open Go
theorem bShr_nat (k : IntKind) (m n : Nat) (h : n ≤ k.bits) : bShr k (m : Int) (n : Int) = ((m / 2 ^ n : Nat) : Int) := by
  rw [bShr, Int.toNat_natCast, Nat.min_eq_left h, Int.fdiv_eq_ediv_of_nonneg _ (Int.pow_nonneg (by decide))]
  norm_cast
theorem shr63 (n : Nat) (h : n ≤ 63) : bShr .u64 9223372036854775808 (n : Int) = ((2 ^ (63 - n) : Nat) : Int) := by
  rw [show (9223372036854775808 : Int) = ((2 ^ 63 : Nat) : Int) by decide, bShr_nat .u64 _ n (by simp [IntKind.bits]; omega)]
  congr 1
  rw [show (2 : Nat) ^ 63 = 2 ^ (63 - n) * 2 ^ n by rw [← Nat.pow_add]; congr 1; omega]
  exact Nat.mul_div_cancel _ (Nat.pow_pos (by decide))
theorem wrap_u64 (n : Nat) (h : n < 18446744073709551616) : IntKind.wrap .u64 (n : Int) = (n : Int) := wr_u64 (by omega) (by omega)
theorem bShl_nat (m n : Nat) (h : n ≤ 64) (hm : m * 2 ^ n < 18446744073709551616) : bShl .u64 (m : Int) (n : Int) = ((m * 2 ^ n : Nat) : Int) := by
  rw [bShl, Int.toNat_natCast, show min n (IntKind.bits .u64) = n from Nat.min_eq_left h]
  have : (m : Int) * 2 ^ n = ((m * 2 ^ n : Nat) : Int) := by norm_cast
  rw [this]
  exact wrap_u64 _ hm
end Go.EL

/- Part 24: a region that draws its order but for its last operations, which stand behind all others: there what was kept apart may be written. -/
namespace Go.EL
open Go
section
variable {P : Program} {J : World → Prop} {ops : Array Oper} {st : List Nat × List Nat}
def okDrawT (ops : Array Oper) (b : Array Nat) (st : List Nat × List Nat) (m : Nat) : Bool :=
  Region.noSelect ops &&
  (List.range ops.size).all fun j => match ops[j]? with
    | none => true
    | some o =>
      (o.after.toList.all fun e => !Region.binds .any e || decide (e.on < j)) &&
      (List.range j).all (fun i => !(b.getD j 0).testBit i || o.after.toList.any (fun e => Region.binds .any e && (e.on == i || (decide (i < e.on) && decide (e.on < j) && (b.getD e.on 0).testBit i)))) &&
      (List.range j).all (fun i => (b.getD j 0).testBit i || (decide (j < m) && harmlessJ ops st j i))
structure DrawT (ops : Array Oper) (b : Array Nat) (st : List Nat × List Nat) (m : Nat) : Prop where
  sel : Region.noSelect ops = true
  down : ∀ j oj, ops[j]? = some oj → ∀ e ∈ oj.after, Region.binds .any e = true → e.on < j
  bits : ∀ j oj, ops[j]? = some oj → ∀ i, i < j → (b.getD j 0).testBit i = true → ∃ e ∈ oj.after, Region.binds .any e = true ∧ (e.on = i ∨ (i < e.on ∧ e.on < j ∧ (b.getD e.on 0).testBit i = true))
  harm : ∀ j oj, ops[j]? = some oj → ∀ i, i < j → (b.getD j 0).testBit i = true ∨ (j < m ∧ harmlessJ ops st j i = true)
theorem okDrawT_spec {b : Array Nat} {m : Nat} (h : okDrawT ops b st m = true) : DrawT ops b st m := by
  simp only [okDrawT, Bool.and_eq_true, List.all_eq_true, List.mem_range] at h
  obtain ⟨hs, h⟩ := h
  have hh : ∀ j oj, ops[j]? = some oj → _ := fun j oj hoj => by
    have h1 := h j (Array.getElem?_eq_some_iff.1 hoj).1
    simp only [hoj, Bool.and_eq_true, List.all_eq_true, List.mem_range] at h1
    exact h1
  refine ⟨hs, fun j oj hoj e he hb => ?_, fun j oj hoj i hi hb => ?_, fun j oj hoj i hi => ?_⟩
  · have := (hh j oj hoj).1.1 e (by simpa using he)
    simpa [hb] using this
  · have h2 := (hh j oj hoj).1.2 i hi
    simp only [hb, Bool.not_true, Bool.false_or] at h2
    obtain ⟨e, he, h3⟩ := List.any_eq_true.1 h2
    simp only [Bool.and_eq_true, Bool.or_eq_true, beq_iff_eq, decide_eq_true_eq] at h3
    exact ⟨e, by simpa using he, h3.1, h3.2.imp id fun h4 => ⟨h4.1.1, h4.1.2, h4.2⟩⟩
  · have := (hh j oj hoj).2 i hi
    simpa using this
theorem DrawT.listed {b : Array Nat} {m : Nat} (h : DrawT ops b st m) (listed : Array Bool) (hcl : ∀ j oj, ops[j]? = some oj → listed.getD j false = true → ∀ e ∈ oj.after, Region.binds .any e = true → listed.getD e.on false = true) :
    ∀ (j : Nat) (oj : Oper), ops[j]? = some oj → (∀ e ∈ oj.after, Region.binds .any e = true → listed.getD e.on false = true) → ∀ i, i < j → (b.getD j 0).testBit i = true → listed.getD i false = true := by
  intro j
  induction j using Nat.strongRecOn with
  | _ j ih =>
    intro oj hoj hall i hij hbit
    obtain ⟨e, he, hb1, hb2⟩ := h.bits j oj hoj i hij hbit
    have hl := hall e he hb1
    rcases hb2 with rfl | ⟨hie, hlt, hbit'⟩
    · exact hl
    · have hj : j < ops.size := (Array.getElem?_eq_some_iff.1 hoj).1
      have hlt' : e.on < ops.size := by omega
      exact ih e.on hlt ops[e.on] (by simp [hlt']) (fun e' he' hb' => hcl e.on ops[e.on] (by simp [hlt']) hl e' he' hb') i hie hbit'
theorem wpAny_of_lexT (hJd : ∀ w n, J w → J { w with drawn := n }) {b : Array Nat} {m : Nat} (h : DrawT ops b st m) {K : Act → World → Prop} {Q : Exit → Act → World → Prop} (hq : ∀ a w, K a w → Q .normal a w) : ∀ (fuel : Nat) (listed : Array Bool) (pre suf : List Nat) (a : Act) (w : World),
    (∀ j oj, ops[j]? = some oj → listed.getD j false = true → ∀ e ∈ oj.after, Region.binds .any e = true → listed.getD e.on false = true) → listed.size = ops.size → left ops listed = pre ++ suf → (pre ++ suf).length ≤ fuel → (∀ i ∈ pre, i < m) → (∀ i ∈ suf, m ≤ i) → (pre ≠ [] → J w) →
    LexJ P J ops st (fun a w => Lex P ops K suf a w) pre a w → wpAny P .any ops Q fuel listed a w := by
  have both : ∀ (listed : Array Bool) (i : Nat), listed.size = ops.size → i < ops.size → (listed.getD i true = false ↔ listed.getD i false = false) := by
    intro listed i hs hi
    have : i < listed.size := by omega
    simp [this]
  have none_left : ∀ (listed : Array Bool), listed.size = ops.size → Region.ready .any ops listed = [] → left ops listed = [] := by
    intro listed hs hr
    cases hl : left ops listed with
    | nil => rfl
    | cons i r =>
      exfalso
      have hm : i ∈ left ops listed := by rw [hl]; exact List.mem_cons_self ..
      obtain ⟨hi, hu⟩ := mem_left.1 hm
      have hmin : ∀ k, k < i → listed.getD k false = true := by
        intro k hk
        cases hb : listed.getD k false with
        | true => rfl
        | false =>
          exfalso
          have hk' : k < ops.size := by omega
          have hkm : k ∈ left ops listed := mem_left.2 ⟨hk', (both listed k hs hk').2 hb⟩
          rw [hl] at hkm
          have hsrt := left_sorted ops listed
          rw [hl] at hsrt
          rcases List.mem_cons.1 hkm with rfl | hkm
          · omega
          · have := (List.pairwise_cons.1 hsrt).1 k hkm
            omega
      have : i ∈ Region.ready .any ops listed := mem_ready.2 ⟨hu, ops[i], by simp [hi], fun e he hb => hmin e.on (h.down i ops[i] (by simp [hi]) e he hb)⟩
      rw [hr] at this
      cases this
  intro fuel
  induction fuel with
  | zero =>
    intro listed pre suf a w hcl hs hls hle hp hsf hJ hx
    have hnil : pre ++ suf = [] := List.eq_nil_of_length_eq_zero (by omega)
    obtain ⟨rfl, rfl⟩ := List.append_eq_nil_iff.1 hnil
    refine ⟨?_, hq _ _ hx⟩
    cases hr : Region.ready .any ops listed with
    | nil => rfl
    | cons i r =>
      have hm : i ∈ Region.ready .any ops listed := by rw [hr]; exact List.mem_cons_self ..
      obtain ⟨hu, o, ho, _⟩ := mem_ready.1 hm
      have : i ∈ left ops listed := mem_left.2 ⟨(Array.getElem?_eq_some_iff.1 ho).1, hu⟩
      rw [hls] at this
      cases this
  | succ fuel ih =>
    intro listed pre suf a w hcl hs hls hle hp hsf hJ hx
    refine ⟨fun hr => ?_, fun i hi => ?_⟩
    · have hnil := none_left listed hs hr
      rw [hls] at hnil
      obtain ⟨rfl, rfl⟩ := List.append_eq_nil_iff.1 hnil
      exact hq _ _ hx
    · obtain ⟨hu, oi, hoi, hall⟩ := mem_ready.1 hi
      have hil : i < ops.size := (Array.getElem?_eq_some_iff.1 hoi).1
      have hm : i ∈ left ops listed := mem_left.2 ⟨hil, hu⟩
      have hcl' : ∀ j oj, ops[j]? = some oj → (listed.setIfInBounds i true).getD j false = true → ∀ e ∈ oj.after, Region.binds .any e = true → (listed.setIfInBounds i true).getD e.on false = true := by
        intro j oj hoj hl e he hb
        by_cases hij : i = j
        · subst hij
          have : oj = oi := Option.some.inj (hoj.symm.trans hoi)
          subst this
          exact getD_set_true (hall e he hb)
        · rw [getD_set_ne false hij] at hl
          exact getD_set_true (hcl j oj hoj hl e he hb)
      have hsrt := left_sorted ops listed
      have hleft := left_set ops listed i
      rw [hls] at hm hsrt hleft
      rcases List.mem_append.1 hm with hip | his
      · -- among the first
        obtain ⟨js, ks, rfl⟩ := List.append_of_mem hip
        rw [List.append_assoc, List.cons_append] at hsrt
        obtain ⟨_, hks, hjk⟩ := List.pairwise_append.1 hsrt
        have hjlt : ∀ j ∈ js, j < i := fun j hj => hjk j hj i (List.mem_cons_self ..)
        have hklt : ∀ k ∈ ks ++ suf, i < k := fun k hk => (List.pairwise_cons.1 hks).1 k hk
        have him : i < m := hp i (by simp)
        have hharm : ∀ j ∈ js, harmlessJ ops st i j = true := by
          intro j hj
          have hjm : j ∈ left ops listed := by rw [hls]; simp [hj]
          obtain ⟨hjs, hju⟩ := mem_left.1 hjm
          rcases h.harm i oi hoi j (hjlt j hj) with hb | hb
          · have := h.listed listed hcl i oi hoi hall j (hjlt j hj) hb
            rw [(both listed j hs hjs).1 hju] at this
            cases this
          · exact hb.2
        have hJw := hJ (by simp)
        have hx' := LexJ.front hJd h.sel js hharm a w hJw hx
        simp only [LexJ, hoi] at hx'
        have hleft' : left ops (listed.setIfInBounds i true) = (js ++ ks) ++ suf := by
          rw [hleft, List.append_assoc, List.filter_append, List.cons_append, List.filter_cons]
          have h1 : js.filter (fun k => k != i) = js := List.filter_eq_self.2 fun k hk => by have := hjlt k hk; simp; omega
          have h2 : (ks ++ suf).filter (fun k => k != i) = ks ++ suf := List.filter_eq_self.2 fun k hk => by have := hklt k hk; simp; omega
          simp [h1, h2]
        refine wpOp_mono (fun a' w' hh => ?_) (SOpJ.wpOp hJd hJw hoi hx')
        obtain ⟨hJ', hk⟩ := hh
        refine ih _ (js ++ ks) suf a' w' hcl' (by simp [hs]) hleft' ?_ (fun k hk => hp k ?_) hsf (fun _ => hJ') hk
        · simp only [List.length_append, List.length_cons] at hle ⊢
          omega
        · rcases List.mem_append.1 hk with hk | hk <;> simp [hk]
      · -- one of the last: nothing stands before it
        have him : m ≤ i := hsf i his
        have hbefore : ∀ j ∈ pre ++ suf, ¬ j < i := by
          intro j hj hlt
          have hjm : j ∈ left ops listed := by rw [hls]; exact hj
          obtain ⟨hjs, hju⟩ := mem_left.1 hjm
          rcases h.harm i oi hoi j hlt with hb | hb
          · have := h.listed listed hcl i oi hoi hall j hlt hb
            rw [(both listed j hs hjs).1 hju] at this
            cases this
          · omega
        have hpre : pre = [] := by
          cases pre with
          | nil => rfl
          | cons j pre =>
            exfalso
            have := hp j (List.mem_cons_self ..)
            exact hbefore j (by simp) (by omega)
        subst hpre
        cases suf with
        | nil => cases his
        | cons j suf =>
          have hji : j = i := by
            rcases List.mem_cons.1 his with e | hi'
            · exact e.symm
            · exfalso
              have h1 := (List.pairwise_cons.1 hsrt).1 i hi'
              exact hbefore j (by simp) h1
          subst hji
          simp only [LexJ, Lex, hoi] at hx
          have hleft' : left ops (listed.setIfInBounds j true) = [] ++ suf := by
            rw [hleft, List.nil_append, List.filter_cons]
            have h2 : suf.filter (fun k => k != j) = suf := List.filter_eq_self.2 fun k hk => by have := (List.pairwise_cons.1 hsrt).1 k hk; simp; omega
            simp [h2]
          refine SOp.wpOp hoi (hx.mono fun a' w' hk => ?_)
          refine ih _ [] suf a' w' hcl' (by simp [hs]) hleft' ?_ (fun _ hk => by cases hk) (fun k hk => hsf k (List.mem_cons_of_mem _ hk)) (fun e => absurd rfl e) hk
          simp only [List.nil_append, List.length_cons] at hle ⊢
          omega
theorem wp_drawT (hJd : ∀ w n, J w → J { w with drawn := n }) {b : Array Nat} {m : Nat} (hmx : P.follows .mixedOrders = true) (h : DrawT ops b st m) (hms : m ≤ ops.size) {K : Act → World → Prop} {Q : Exit → Act → World → Prop} (hq : ∀ a w, K a w → Q .normal a w) {id : Nat} {a : Act} {w : World} (hJ : J { w with drawn := w.drawn + 1 })
    (hx : LexJ P J ops st (fun a w => Lex P ops K (List.range' m (ops.size - m)) a w) (List.range' 0 m) a { w with drawn := w.drawn + 1 }) : (Code.region id ops true).wp P Q a w := by
  have hl : left ops (Array.replicate ops.size false) = List.range' 0 m ++ List.range' m (ops.size - m) := by
    have e : left ops (Array.replicate ops.size false) = List.range ops.size := by
      unfold left
      refine List.filter_eq_self.2 fun i hi => ?_
      have : i < ops.size := List.mem_range.1 hi
      simp [this]
    rw [e, List.range_eq_range']
    have := List.range'_append (s := 0) (m := m) (n := ops.size - m) (step := 1)
    rw [show m + (ops.size - m) = ops.size by omega] at this
    simpa using this.symm
  refine wp_region_any hmx (wpAny_of_lexT hJd h hq ops.size _ _ _ a _ ?_ (by simp) hl (by simp; omega) (fun i hi => by simp at hi; omega) (fun i hi => by simp at hi; omega) (fun _ => hJ) hx)
  intro j oj hoj hl'
  have : j < ops.size := (Array.getElem?_eq_some_iff.1 hoj).1
  simp [this] at hl'
end
section
variable {P : Program} {N : Nat} {w0 : World} {T : HS} {ops : Array Oper}
theorem LexJL.mono {J : World → Prop} (hJd : ∀ w n, J w → J { w with drawn := n }) {st : List Nat × List Nat} {Q Q' : Act → World → Prop} (hq : ∀ a w, Q a w → Q' a w) : ∀ (l : List Oper) (k : Nat) (a : Act) (w : World), J w → LexJL P J ops st Q k l a w → LexJL P J ops st Q' k l a w
  | [], _, a, w, _, h => hq a w h
  | o :: r, k, a, w, hJ, h => SOpJ.mono hJd hJ h fun a' w' hJ' h' => LexJL.mono hJd hq r (k + 1) a' w' hJ' h'
theorem lexJ_of_part {J : World → Prop} (hJd : ∀ w n, J w → J { w with drawn := n }) {st : List Nat × List Nat} {Q : Act → World → Prop} : ∀ (l : List Oper) (k : Nat), (∀ j, j < l.length → l[j]? = ops[k + j]?) → ∀ a w, J w → LexJL P J ops st Q k l a w → LexJ P J ops st Q (List.range' k l.length) a w
  | [], _, _, _, _, _, h => h
  | o :: l, k, hk, a, w, hJ, h => by
    have h0 : ops[k]? = some o := by simpa using (hk 0 (by simp)).symm
    simp only [List.length_cons, List.range'_succ, LexJ, h0]
    exact SOpJ.mono hJd hJ h fun a' w' hJ' h' => lexJ_of_part hJd l (k + 1) (fun j hj => by have := hk (j + 1) (by simpa using hj); simpa [Nat.add_assoc, Nat.add_comm 1 j] using this) a' w' hJ' h'
theorem WP.drawT {id : Nat} {l l1 l2 : List Oper} {Q : Exit → Env → HS → Prop} {ρ : Env} {S S1 : HS} (st : List Nat × List Nat) (idx : List Nat) (m : Nat) (hl1 : l.take m = l1) (hl2 : l.drop m = l2) (hm : P.follows .mixedOrders = true) (hc : okDrawT l.toArray (Region.before l.toArray) st m = true) (hml : Nat.ble m l.length = true) (ho : okIdx idx S.length = true) (hT : pick idx S = T) (hS : others idx 0 S = S1)
    (h : RXJ P N w0 T l.toArray st 0 l1 (fun ρ S' => RX P N w0 l.toArray l2 (fun ρ S => Q .normal ρ S) ρ (S' ++ T)) ρ S1) : WP P N w0 (.region id l.toArray true) Q ρ S := by
  intro F a w hf hi
  have hp : S.Perm (T ++ S1) := by rw [← hT, ← hS]; exact pick_perm idx ho
  have hi2 : Inv w0 (S1.flatten ++ (T.flatten ++ F)) { w with drawn := w.drawn + 1 } := (hi.drawn _).perm (by
    have h1 : S.flatten.Perm (T.flatten ++ S1.flatten) := by rw [← List.flatten_append]; exact hp.flatten
    rw [← List.append_assoc]
    exact (h1.append_right F).trans (List.perm_append_comm.append_right F))
  have hml' : m ≤ l.length := Nat.le_of_ble_eq_true hml
  have hlen : l1.length = m := by rw [← hl1, List.length_take]; omega
  refine wp_drawT keeps_drawn hm (okDrawT_spec hc) (by simpa using hml') (K := fun a' w' => ∃ ρ' S', Q .normal ρ' S' ∧ Fits N a' ρ' ∧ Inv w0 (S'.flatten ++ F) w') (fun _ _ h => h) (keeps_of hi2) ?_
  have hx := h F a _ hf hi2
  have h1 := lexJ_of_part keeps_drawn (ops := l.toArray) l1 0 (fun j hj => by
    have : j < m := by omega
    rw [← hl1]; simp [List.getElem?_take, this]) a _ (keeps_of hi2) (LexJL.mono keeps_drawn (Q' := fun a w => Lex P l.toArray (fun a' w' => ∃ ρ' S', Q .normal ρ' S' ∧ Fits N a' ρ' ∧ Inv w0 (S'.flatten ++ F) w') (List.range' m (l.toArray.size - m)) a w) (fun a' w' hh => ?_) l1 0 a _ (keeps_of hi2) hx)
  · rw [hlen] at h1
    exact h1
  · obtain ⟨ρ', S', hr, hf', hi'⟩ := hh
    have h2 := hr F a' w' hf' (by rw [List.flatten_append, List.append_assoc]; exact hi')
    have h3 := lex_of_list (ops := l.toArray) l2 m (fun j => by rw [← hl2]; simp) a' w' h2
    have h4 : l2.length = l.toArray.size - m := by rw [← hl2]; simp
    rw [h4] at h3
    exact h3
theorem WP.sdrawT {id : Nat} {l l1 l2 : List Oper} {y : Code} {Q : Exit → Env → HS → Prop} {ρ : Env} {S S1 : HS} (st : List Nat × List Nat) (idx : List Nat) (m : Nat) (hl1 : l.take m = l1) (hl2 : l.drop m = l2) (hm : P.follows .mixedOrders = true) (hc : okDrawT l.toArray (Region.before l.toArray) st m = true) (hml : Nat.ble m l.length = true) (ho : okIdx idx S.length = true) (hT : pick idx S = T) (hS : others idx 0 S = S1)
    (h : RXJ P N w0 T l.toArray st 0 l1 (fun ρ S' => RX P N w0 l.toArray l2 (fun ρ S => WP P N w0 y Q ρ S) ρ (S' ++ T)) ρ S1) : WP P N w0 (.seq (.region id l.toArray true) y) Q ρ S :=
  .seq (.drawT st idx m hl1 hl2 hm hc hml ho hT hS h)
end
/-! ### chunks opened and closed -/
section
variable {P : Program} {N : Nat} {w0 : World}
theorem WP.open1 {c : Code} {Q : Exit → Env → HS → Prop} {ρ : Env} {x : Nat × Obj} {H : Hp} {T : HS} (h : WP P N w0 c Q ρ ([x] :: H :: T)) : WP P N w0 c Q ρ ((x :: H) :: T) := WP.perm (T := [x] :: H :: T) (by simp) h
theorem WP.close1 {c : Code} {Q : Exit → Env → HS → Prop} {ρ : Env} {x : Nat × Obj} {H : Hp} {T : HS} (h : WP P N w0 c Q ρ ((x :: H) :: T)) : WP P N w0 c Q ρ ([x] :: H :: T) := WP.perm (T := (x :: H) :: T) (by simp) h
theorem RX.close1 {ops : Array Oper} {l : List Oper} {K : Env → HS → Prop} {ρ : Env} {x : Nat × Obj} {H : Hp} {T : HS} (h : RX P N w0 ops l K ρ ((x :: H) :: T)) : RX P N w0 ops l K ρ ([x] :: H :: T) := RX.perm (T := (x :: H) :: T) (by simp) h
end
/-- a literal of one element -/
theorem fill_one {k : Nat} {zs cs : List Value} (hz : zs.length = k) (hc : cs.length = k) : fillL (fun i => some (i * k, k)) ((List.replicate 1 zs).flatten) [(0, .agg ⟨cs⟩)] = some cs := by
  have hb : Nat.blt k k = false := by
    cases h : Nat.blt k k with
    | false => rfl
    | true => rw [Nat.blt_eq] at h; exact absurd h (Nat.lt_irrefl k)
  simp [fillL, Value.cells, hz, hc]
  rw [List.drop_eq_nil_of_le (by omega), hb]
  simp
/-- a slice's last forgotten -/
theorem Vec.pop {α : Type} {e : TypeId} {k : Nat} {enc : α → List Value} {xs : List α} {x : α} {b cap : Nat} {H : Hp} (hu : (enc x).length = k) (h : Vec e k enc (xs ++ [x]) (.slice (some ⟨b, 0, none⟩) (xs.length + 1) cap) H) : Vec e k enc xs (.slice (some ⟨b, 0, none⟩) xs.length cap) H := by
  rcases h with ⟨e, _⟩ | ⟨b', cap', sp, e, rfl, h1, h2, h3⟩
  · cases e
  · simp only [List.length_append, List.length_singleton] at e h1 h3
    injection e with e1 _ e3
    injection e1 with e1
    injection e1 with e1
    subst e1; subst e3
    refine .inr ⟨b, cap, enc x ++ sp, rfl, by simp, by omega, h2, ?_⟩
    rw [List.length_append, hu, h3, Nat.add_comm, ← Nat.succ_mul]
    congr 1
    omega
end Go.EL
