/- Part 5: small things: sums that do not wrap, what may be forgotten. -/
import Derived.Test.YtigjnfmbellpjaaDoorEL4
namespace Go.EL
open Go
theorem wr_i64 {x : Int} (h1 : -9223372036854775808 ≤ x) (h2 : x ≤ 9223372036854775807) : IntKind.wrap .i64 x = x := by
  unfold IntKind.wrap; simp only [IntKind.bits, IntKind.signed, Bool.true_and]
  split <;> rename_i h <;> simp at h <;> omega
theorem wr_i32 {x : Int} (h1 : -2147483648 ≤ x) (h2 : x ≤ 2147483647) : IntKind.wrap .i32 x = x := by
  unfold IntKind.wrap; simp only [IntKind.bits, IntKind.signed, Bool.true_and]
  split <;> rename_i h <;> simp at h <;> omega
theorem wr_u64 {x : Int} (h1 : 0 ≤ x) (h2 : x ≤ 18446744073709551615) : IntKind.wrap .u64 x = x := by
  unfold IntKind.wrap; simp only [IntKind.bits, IntKind.signed, Bool.false_and, Bool.false_eq_true, if_false]
  omega
theorem wr_u32 {x : Int} (h1 : 0 ≤ x) (h2 : x ≤ 4294967295) : IntKind.wrap .u32 x = x := by
  unfold IntKind.wrap; simp only [IntKind.bits, IntKind.signed, Bool.false_and, Bool.false_eq_true, if_false]
  omega
theorem wr_u8 {x : Int} (h1 : 0 ≤ x) (h2 : x ≤ 255) : IntKind.wrap .u8 x = x := by
  unfold IntKind.wrap; simp only [IntKind.bits, IntKind.signed, Bool.false_and, Bool.false_eq_true, if_false]
  omega
section
variable {P : Program} {N : Nat} {w0 : World} {ops : Array Oper}
/-- the chunks behind the first n are forgotten -/
theorem WP.take {c : Code} {Q : Exit → Env → HS → Prop} {ρ : Env} {S : HS} (n : Nat) (h : WP P N w0 c Q ρ (S.take n)) : WP P N w0 c Q ρ S := fun F a w hf hi => h F a w hf (hi.take n)
theorem RX.take {l : List Oper} {K : Env → HS → Prop} {ρ : Env} {S : HS} (n : Nat) (h : RX P N w0 ops l K ρ (S.take n)) : RX P N w0 ops l K ρ S := fun F a w hf hi => h F a w hf (hi.take n)
/- short forms: a load, a store at chunk i -/
section
variable {rest : List Oper} {K : Env → HS → Prop} {ρ : Env} {S : HS} {d : Nat} {ty : TypeId} {pos : String} {aft : Array Edge} {g : Option (Nat × Bool)}
theorem RX.ld (i : Nat) {t : TypeId} {x : Operand} {b o : Nat} {cs : List Value} {T : TypeId} {fr : Nat × Nat} {v : Value} (hw : Wnt ops ρ ⟨some d, .load t x, ty, pos, aft, g⟩) (hN : Nat.blt d N = true) (hx : ev ρ x = some (.pointer (some ⟨b, o, none⟩))) (ht : notAgg P t = true)
    (ha : At S i b (.cells ⟨cs⟩ T fr)) (hv : cs[o]? = some v) (h : RX P N w0 ops rest K ((d, v) :: ρ) S) : RX P N w0 ops (⟨some d, .load t x, ty, pos, aft, g⟩ :: rest) K ρ S :=
  RX.read hw rfl hN rfl (r_load hx ht (Rd.own i ha (by simpa using hv))) h
theorem RX.lda (i : Nat) {t : TypeId} {x : Operand} {b o n : Nat} {cs : List Value} {T : TypeId} {fr : Nat × Nat} {vs : List Value} (hw : Wnt ops ρ ⟨some d, .load t x, ty, pos, aft, g⟩) (hN : Nat.blt d N = true) (hx : ev ρ x = some (.pointer (some ⟨b, o, none⟩))) (ht : aggOf P t n = true)
    (ha : At S i b (.cells ⟨cs⟩ T fr)) (hv : (cs.drop o).take n = vs) (hl : vs.length = n) (h : RX P N w0 ops rest K ((d, .agg ⟨vs⟩) :: ρ) S) : RX P N w0 ops (⟨some d, .load t x, ty, pos, aft, g⟩ :: rest) K ρ S :=
  RX.read hw rfl hN rfl (r_loadA hx ht (RdN.own i ha (by rw [hl]; exact hv)) hl) h
theorem RX.st (i : Nat) {t : TypeId} {x y : Operand} {b o : Nat} {cs : List Value} {T : TypeId} {v : Value} (hw : Wnt ops ρ ⟨none, .store t x y, ty, pos, aft, g⟩) (hx : ev ρ x = some (.pointer (some ⟨b, o, none⟩))) (hy : ev ρ y = some v) (ht : sizeIs P t 1 = true) (hv : one v = true)
    (ha : At S i b (row cs T)) (ho : Nat.blt o cs.length = true) (cs' : List Value) (hc : cs.set o v = cs') (h : RX P N w0 ops rest K ρ (S.set i [(b, row cs' T)])) : RX P N w0 ops (⟨none, .store t x y, ty, pos, aft, g⟩ :: rest) K ρ S := by
  subst hc
  exact RX.eff0 hw rfl rfl (e_store i hx hy ht hv ha ho) (fun v S' hS => by subst hS; exact h)
theorem RX.sta (i : Nat) {t : TypeId} {x y : Operand} {b o n : Nat} {cs vs : List Value} {T : TypeId} (hw : Wnt ops ρ ⟨none, .store t x y, ty, pos, aft, g⟩) (hx : ev ρ x = some (.pointer (some ⟨b, o, none⟩))) (hy : ev ρ y = some (.agg ⟨vs⟩)) (ht : sizeIs P t n = true) (hl : vs.length = n) (hv : ones vs = true)
    (ha : At S i b (row cs T)) (ho : Nat.ble (o + n) cs.length = true) (cs' : List Value) (hc : cs.take o ++ vs ++ cs.drop (o + n) = cs') (h : RX P N w0 ops rest K ρ (S.set i [(b, row cs' T)])) : RX P N w0 ops (⟨none, .store t x y, ty, pos, aft, g⟩ :: rest) K ρ S := by
  subst hc
  exact RX.eff0 hw rfl rfl (e_storeA i hx hy ht hl hv ha ho) (fun v S' hS => by subst hS; exact h)
end
/-- a state between -/
def cq (M : Env → HS → Prop) (Q : Exit → Env → HS → Prop) : Exit → Env → HS → Prop
  | .normal, ρ, S => M ρ S
  | e, ρ, S => Q e ρ S
theorem WP.cut {x y : Code} {Q : Exit → Env → HS → Prop} {ρ : Env} {S : HS} (M : Env → HS → Prop) (h : WP P N w0 x (cq M Q) ρ S) (h2 : ∀ ρ S, M ρ S → WP P N w0 y Q ρ S) : WP P N w0 (.seq x y) Q ρ S := by
  refine .seq (h.mono fun e ρ' S' q => ?_)
  cases e with
  | normal => exact h2 _ _ q
  | exit id => exact q
  | goto l => exact q
  | ret => exact q
  | panic ch => exact q
  | outgrown => exact q
/- a return, an exit, on their way out -/
section
variable {y : Code} {Q : Exit → Env → HS → Prop} {M : Env → HS → Prop} {I : Nat → Env → HS → Prop} {ρ : Env} {S : HS} {n i id : Nat}
theorem sq_ret (h : Q .ret ρ S) : sq P N w0 y Q .ret ρ S := h
theorem bk_ret (h : Q .ret ρ S) : bk id Q .ret ρ S := h
theorem cq_ret (h : Q .ret ρ S) : cq M Q .ret ρ S := h
theorem lq_ret (h : Q .ret ρ S) : lq I n Q .ret ρ S := h
theorem sq_exit (h : Q (.exit i) ρ S) : sq P N w0 y Q (.exit i) ρ S := h
theorem cq_exit (h : Q (.exit i) ρ S) : cq M Q (.exit i) ρ S := h
theorem lq_exit (h : Q (.exit i) ρ S) : lq I n Q (.exit i) ρ S := h
theorem bk_exit (h : Q .normal ρ S) : bk id Q (.exit id) ρ S := by
  simp only [bk, Nat.beq_self]; exact h
theorem bk_exit' (hne : Nat.beq i id = false) (h : Q (.exit i) ρ S) : bk id Q (.exit i) ρ S := by
  simp only [bk, hne]; exact h
theorem sq_normal (h : WP P N w0 y Q ρ S) : sq P N w0 y Q .normal ρ S := h
theorem bk_normal (h : Q .normal ρ S) : bk id Q .normal ρ S := h
theorem cq_normal (h : M ρ S) : cq M Q .normal ρ S := h
theorem lq_normal (m : Nat) (hm : m < n) (h : I m ρ S) : lq I n Q .normal ρ S := ⟨m, hm, h⟩
end
/-- a contract's answer, the chunks in another order -/
theorem Tri.out {f : FuncId} {args : Array Value} {S : HS} {R R' : Value → HS → Prop} (h : Tri P w0 f args S R) (hr : ∀ v S', R v S' → ∃ T, R' v T ∧ S'.flatten.Perm T.flatten) : Tri P w0 f args S R' :=
  fun F w hi => (h F w hi).mono fun _ _ ⟨v, S', he, hR, hI⟩ => let ⟨T, hT, hp⟩ := hr v S' hR; ⟨v, T, he, hT, hI.perm (hp.append_right F)⟩
/-- a slot's Bool is decided -/
theorem RX.cases {l : List Oper} {K : Env → HS → Prop} {ρ : Env} {S : HS} {t : Nat} {c : Bool} (hv : look ρ t = some (.bool c)) (h1 : c = true → RX P N w0 ops l K ((t, .bool true) :: ρ) S) (h2 : c = false → RX P N w0 ops l K ((t, .bool false) :: ρ) S) : RX P N w0 ops l K ρ S := by
  cases c
  · exact RX.sub (Sub.cons hv Sub.refl) (h2 rfl)
  · exact RX.sub (Sub.cons hv Sub.refl) (h1 rfl)
/-- a slot's value, said otherwise -/
theorem RX.say {l : List Oper} {K : Env → HS → Prop} {ρ : Env} {S : HS} {t : Nat} {v : Value} (hv : look ρ t = some v) (u : Value) (he : v = u) (h : RX P N w0 ops l K ((t, u) :: ρ) S) : RX P N w0 ops l K ρ S := by
  subst he
  exact RX.sub (Sub.cons hv Sub.refl) h
/-- the heap, said otherwise -/
theorem WP.heap {c : Code} {Q : Exit → Env → HS → Prop} {ρ : Env} {S : HS} (T : HS) (he : S = T) (h : WP P N w0 c Q ρ T) : WP P N w0 c Q ρ S := by subst he; exact h
theorem RX.heap {l : List Oper} {K : Env → HS → Prop} {ρ : Env} {S : HS} (T : HS) (he : S = T) (h : RX P N w0 ops l K ρ T) : RX P N w0 ops l K ρ S := by subst he; exact h
end
end Go.EL
