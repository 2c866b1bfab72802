/- Part 13: results that lie in cells; whole rows put and taken. -/
import Derived.Test.YtigjnfmbellpjaaDoorEL12
namespace Go.EL
open Go
theorem take_all {cs : List Value} {n : Nat} (h : cs.length = n) : (cs.drop 0).take n = cs := by subst h; simp
theorem take_all' {cs : List Value} : (cs.drop 0).take cs.length = cs := by simp
theorem put_all {cs vs : List Value} {n : Nat} (h1 : cs.length = n) : cs.take 0 ++ vs ++ cs.drop (0 + n) = vs := by subst h1; simp
theorem ble_all {cs : List Value} {n : Nat} (h : cs.length = n) : Nat.ble (0 + n) cs.length = true := by subst h; simp
section
variable {P : Program} {N : Nat} {w0 : World}
theorem run_loadV {S : HS} {t : TypeId} {a : Addr} {vs : List Value} {n : Nat} (ht : ldv P t n = true) (hr : RdN w0 S a vs) (hl : vs.length = n) {F : Hp} {w : World} (hi : Inv w0 (S.flatten ++ F) w) : (loadVar t a).run P w = .ok (vv vs) w := by
  unfold ldv at ht
  simp only [Bool.and_eq_true] at ht
  obtain ⟨_, ht⟩ := ht
  cases hn : notAgg P t with
  | true =>
    simp only [hn, cond_true] at ht
    have := Nat.of_beq ht
    subst this
    match vs, hl with
    | [v], _ =>
      have h1 : w.cell? a = some v := by simpa [Addr.add] using hr F w hi 0 v rfl
      simp [loadVar, notAgg_run hn, h1, vv]
  | false =>
    simp only [hn, cond_false, Bool.and_eq_true, Bool.not_eq_true'] at ht
    have h1 : vs.length ≠ 1 := by
      rw [hl]
      intro e
      rw [e] at ht
      exact absurd ht.2 (by simp)
    rw [vv_agg h1]
    subst hl
    have h := run_loads (P := P) (hr F w hi)
    simp [loadVar, aggOf_run ht.1, sizeIs_run (aggOf_size ht.1), h]
theorem finC2' (n : Nat) {fn : Func} {R : Value → HS → Prop} {ρ : Env} {S : HS} {e : Exit} {t u k : Nat} {T : TypeId} {a : Addr} {vs : List Value} {x : Value} (hn : fn.results = #[.cell t T, .tmp u]) (he : (match e with | .normal => True | .ret => True | _ => False) = True)
    (hv' : look ρ t = some (.pointer (some a))) (ht : ldv P T k = true) (hr : RdN w0 S a vs) (hl : vs.length = k) (hx' : look ρ u = some x) (h : R (.tuple #[vv vs, x]) (S.take n)) : post P w0 fn R e ρ S :=
  ⟨of_eq_true he, .tuple #[vv vs, x], n, fun F b w hs hi => by
    have h1 : b.tmps.getD t undef = .pointer (some a) := hs (.tmp t) _ hv'
    have h2 : b.tmps.getD u undef = x := hs (.tmp u) x hx'
    have h3 := run_loadV (P := P) ht hr hl hi
    simp only [Array.getD_eq_getD_getElem?] at h1 h2
    simp only [results, hn]
    simp [h1, h2, h3, asAddr], h⟩
end
end Go.EL
