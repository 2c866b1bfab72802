/- Is at a sentinel: walked. -/
import Derived.Test.YtigjnfmbellpjaaDoorERR1
import Derived.Test.YtigjnfmbellpjaaDoorEL21
import Derived.Test.YtigjnfmbellpjaaDoorFactsV
set_option maxRecDepth 100000
namespace Go.Proofs.YtigjnfmbellpjaaDoor.Err
open Go Go.EL
theorem Inv.tail {w0 w : World} {p : Nat × Obj} {H : Hp} (h : Inv w0 (p :: H) w) : Inv w0 H w := (h.perm (H' := H ++ [p]) (by exact List.perm_append_comm (l₁ := [p]))).drop
theorem Inv.alloc {w0 w : World} {H : Hp} (h : Inv w0 H w) (o : Obj) : Inv w0 H (w.alloc o) := Inv.tail (h.push o (w.alloc o) rfl rfl rfl rfl)
def gOf (k : Nat) : Nat := [0, 4, 6, 3, 1, 7, 8, 9, 10, 2, 11, 12, 13, 14, 15, 16].getD k 0
abbrev E (A : Nat → Addr) (k : Nat) : Value := .iface 183 (.pointer (some (A k)))
structure Sents (w0 : World) (A : Nat → Addr) : Prop where
  handle : w0.cell? ⟨17, 0, none⟩ = some (.iface 168 (.agg #[.pointer (some ⟨19, 34, none⟩)]))
  cell : ∀ k, k < 16 → w0.cell? ⟨gOf k, 0, none⟩ = some (E A k)
  ne : ∀ j k, j < 16 → k < 16 → j ≠ k → A j ≠ A k
  obj : ∀ k, k < 16 → ∃ c t, w0.heap[(A k).block]? = some (.cells c t (0, 0))
section
variable {w0 : World} {A : Nat → Addr}
theorem as_tri (h : Sents w0 A) (e : Addr) (n : Nat) (x : Value) : Tri Tryd.prog w0 72 #[.iface 183 (.pointer (some e)), .iface 140 (.pointer (some ⟨n, 0, none⟩))] [[(n, row [x] 138)]] (fun v S' => v = .bool false ∧ S' = [[(n, row [x] 138)]]) := by
  intro F w hi
  have hg := Rd.old (S := [[(n, row [x] 138)]]) h.handle F w hi
  have ht : w.cell? ⟨n, 0, none⟩ = some x := Rd.own (w0 := w0) (S := [[(n, row [x] 138)]]) 0 rfl rfl F w hi
  have hlt : 17 < w.heap.size := World.block_lt_of_cell? w _ hg
  refine (as_miss e ⟨n, 0, none⟩ w hg hlt x ht).mono ?_
  rintro ev w' ⟨rfl, rfl⟩
  exact ⟨_, _, rfl, ⟨rfl, rfl⟩, Inv.alloc (Inv.alloc (Inv.alloc hi _) _) _⟩
theorem isS_tri (a : Addr) : Tri Tryd.prog w0 73 #[.iface 183 (.pointer (some a)), .iface 183 (.pointer (some a))] [] (fun v S' => v = .bool true ∧ S' = []) := by
  intro F w hi
  refine (is_same a w).mono ?_
  rintro ev w' ⟨rfl, rfl⟩
  exact ⟨_, _, rfl, ⟨rfl, rfl⟩, hi⟩
theorem isO_tri (h : Sents w0 A) {j k : Nat} (hj : j < 16) (hk : k < 16) (hne : j ≠ k) : Tri Tryd.prog w0 73 #[E A j, E A k] [] (fun v S' => v = .bool false ∧ S' = []) := by
  intro F w hi
  obtain ⟨c1, t1, h1⟩ := h.obj j hj
  obtain ⟨c2, t2, h2⟩ := h.obj k hk
  rw [← hi.old _ (Array.getElem?_eq_some_iff.1 h1).1] at h1
  rw [← hi.old _ (Array.getElem?_eq_some_iff.1 h2).1] at h2
  refine (is_other w (h.ne j k hj hk hne) h1 h2).mono ?_
  rintro ev w' ⟨rfl, rfl⟩
  exact ⟨_, _, rfl, ⟨rfl, rfl⟩, hi⟩
theorem at_tri (h : Sents w0 A) (k0 : Nat) : Tri Tryd.prog w0 56 #[E A k0] [] (fun v S' => v = .tuple #[.int .i64 0, .bool false] ∧ S' = []) := by
  refine Tri.mk Tryd.func56 rfl rfl rfl ?_
  refine WP.sregion ?_
  refine RX.pure (.none rfl) rfl rfl (p_assign rfl) ?_
  refine RX.pure (.none rfl) rfl rfl (p_assign rfl) ?_
  refine RX.nil ?_
  refine WP.sregion ?_
  refine RX.eff (.none rfl) rfl rfl rfl (e_alloc zr_138) ?_
  rintro _ _ ⟨n4, rfl, rfl⟩
  refine RX.nil ?_
  refine WP.seq (WP.sregion ?_)
  refine RX.pure (.none rfl) rfl rfl (p_move rfl) ?_
  refine RX.pure (.none rfl) rfl rfl (p_iface rfl ni_140) ?_
  refine RX.eff (.none rfl) rfl rfl rfl (e_call [0] rfl call_72 rfl rfl (as_tri h (A k0) n4 (.pointer none))) ?_
  rintro _ _ ⟨_, ⟨rfl, rfl⟩, rfl⟩
  refine RX.pure (.none rfl) rfl rfl (p_not rfl) ?_
  refine RX.pure (.none rfl) rfl rfl (p_move rfl) ?_
  (first | refine RX.skip (.no rfl rfl rfl rfl) rfl rfl ?_ | refine RX.ld 0 (.yes rfl rfl rfl) rfl rfl na_138 rfl rfl ?_ | refine RX.ld 1 (.yes rfl rfl rfl) rfl rfl na_138 rfl rfl ?_ | refine RX.ld 2 (.yes rfl rfl rfl) rfl rfl na_138 rfl rfl ?_ | refine RX.ld 3 (.yes rfl rfl rfl) rfl rfl na_138 rfl rfl ?_ | refine RX.ld 4 (.yes rfl rfl rfl) rfl rfl na_138 rfl rfl ?_ | refine RX.ld 5 (.yes rfl rfl rfl) rfl rfl na_138 rfl rfl ?_)
  (first | refine RX.skip (.no rfl rfl rfl rfl) rfl rfl ?_ | refine RX.pure (.yes rfl rfl rfl) rfl rfl (p_eqNilPtr rfl rfl Tryd.underlying138) ?_)
  (first | refine RX.pure (.none rfl) rfl rfl (p_pickT rfl rfl) ?_ | refine RX.pure (.none rfl) rfl rfl (p_pickF rfl rfl) ?_)
  refine RX.nil ?_
  refine WP.condT rfl ?_
  refine WP.sregion ?_
  refine RX.pure (.none rfl) rfl rfl (p_assign rfl) ?_
  refine RX.pure (.none rfl) rfl rfl (p_assign rfl) ?_
  refine RX.nil ?_
  refine WP.ret ?_
  repeat (first | refine sq_ret ?_ | refine bk_ret ?_ | refine lq_ret ?_ | refine cq_ret ?_)
  exact fin2' 0 rfl rfl rfl rfl ⟨rfl, rfl⟩
theorem es_get (A : Nat → Addr) {k : Nat} (hk : k < 16) : ([E A 0, E A 1, E A 2, E A 3, E A 4, E A 5, E A 6, E A 7, E A 8, E A 9, E A 10, E A 11, E A 12, E A 13, E A 14, E A 15] : List Value)[(k : Int).toNat * 1]? = some (E A k) := by
  have e : ([E A 0, E A 1, E A 2, E A 3, E A 4, E A 5, E A 6, E A 7, E A 8, E A 9, E A 10, E A 11, E A 12, E A 13, E A 14, E A 15] : List Value) = (List.range 16).map (E A) := rfl
  rw [e, Int.toNat_natCast, Nat.mul_one]
  simp [hk]
theorem fill16 (A : Nat → Addr) : fillL (fun i => some (i * 1, 1)) [.nilIface, .nilIface, .nilIface, .nilIface, .nilIface, .nilIface, .nilIface, .nilIface, .nilIface, .nilIface, .nilIface, .nilIface, .nilIface, .nilIface, .nilIface, .nilIface] [(0, E A 0), (1, E A 1), (2, E A 2), (3, E A 3), (4, E A 4), (5, E A 5), (6, E A 6), (7, E A 7), (8, E A 8), (9, E A 9), (10, E A 10), (11, E A 11), (12, E A 12), (13, E A 13), (14, E A 14), (15, E A 15)] = some [E A 0, E A 1, E A 2, E A 3, E A 4, E A 5, E A 6, E A 7, E A 8, E A 9, E A 10, E A 11, E A 12, E A 13, E A 14, E A 15] := by
  simp [fillL, Value.cells]
  rfl
theorem code_tri (h : Sents w0 A) (k0 : Nat) (hk0 : k0 < 16) : Tri Tryd.prog w0 57 #[E A k0] [] (fun v S' => v = .int .i64 ((k0 : Nat) + 1) ∧ S' = []) := by
  refine Tri.mk Tryd.func57 rfl rfl rfl ?_
  refine WP.sregion ?_
  refine RX.pure (.none rfl) rfl rfl (p_assign rfl) ?_
  refine RX.nil ?_
  refine WP.seq (WP.sregion ?_)
  refine RX.pure (.none rfl) rfl rfl (p_move rfl) ?_
  refine RX.pure (.none rfl) rfl rfl (p_eqNilIface rfl (by first | exact .inl rfl | exact .inr ⟨_, _, rfl⟩ | assumption) Tryd.underlying34) ?_
  refine RX.nil ?_
  refine WP.condF rfl (WP.skip ?_)
  refine WP.sregion ?_
  refine RX.read (.none rfl) rfl rfl rfl (r_load rfl na_34 (Rd.old (h.cell 0 (by decide)))) ?_
  refine RX.read (.none rfl) rfl rfl rfl (r_load rfl na_34 (Rd.old (h.cell 1 (by decide)))) ?_
  refine RX.read (.none rfl) rfl rfl rfl (r_load rfl na_34 (Rd.old (h.cell 2 (by decide)))) ?_
  refine RX.read (.none rfl) rfl rfl rfl (r_load rfl na_34 (Rd.old (h.cell 3 (by decide)))) ?_
  refine RX.read (.none rfl) rfl rfl rfl (r_load rfl na_34 (Rd.old (h.cell 4 (by decide)))) ?_
  refine RX.read (.none rfl) rfl rfl rfl (r_load rfl na_34 (Rd.old (h.cell 5 (by decide)))) ?_
  refine RX.read (.none rfl) rfl rfl rfl (r_load rfl na_34 (Rd.old (h.cell 6 (by decide)))) ?_
  refine RX.read (.none rfl) rfl rfl rfl (r_load rfl na_34 (Rd.old (h.cell 7 (by decide)))) ?_
  refine RX.read (.none rfl) rfl rfl rfl (r_load rfl na_34 (Rd.old (h.cell 8 (by decide)))) ?_
  refine RX.read (.none rfl) rfl rfl rfl (r_load rfl na_34 (Rd.old (h.cell 9 (by decide)))) ?_
  refine RX.read (.none rfl) rfl rfl rfl (r_load rfl na_34 (Rd.old (h.cell 10 (by decide)))) ?_
  refine RX.read (.none rfl) rfl rfl rfl (r_load rfl na_34 (Rd.old (h.cell 11 (by decide)))) ?_
  refine RX.read (.none rfl) rfl rfl rfl (r_load rfl na_34 (Rd.old (h.cell 12 (by decide)))) ?_
  refine RX.read (.none rfl) rfl rfl rfl (r_load rfl na_34 (Rd.old (h.cell 13 (by decide)))) ?_
  refine RX.read (.none rfl) rfl rfl rfl (r_load rfl na_34 (Rd.old (h.cell 14 (by decide)))) ?_
  refine RX.read (.none rfl) rfl rfl rfl (r_load rfl na_34 (Rd.old (h.cell 15 (by decide)))) ?_
  refine RX.pure (.none rfl) rfl rfl (p_buildA (cs := [E A 0, E A 1, E A 2, E A 3, E A 4, E A 5, E A 6, E A 7, E A 8, E A 9, E A 10, E A 11, E A 12, E A 13, E A 14, E A 15]) zr_143 ar_143 rfl (fill16 A)) ?_
  refine RX.eff (.none rfl) rfl rfl rfl (e_alloc zr_143) ?_
  rintro _ _ ⟨n3, rfl, rfl⟩
  (first | refine RX.sta 0 (.none rfl) rfl rfl sz_143 rfl rfl rfl rfl _ rfl ?_ | refine RX.sta 1 (.none rfl) rfl rfl sz_143 rfl rfl rfl rfl _ rfl ?_ | refine RX.sta 2 (.none rfl) rfl rfl sz_143 rfl rfl rfl rfl _ rfl ?_ | refine RX.sta 3 (.none rfl) rfl rfl sz_143 rfl rfl rfl rfl _ rfl ?_ | refine RX.sta 4 (.none rfl) rfl rfl sz_143 rfl rfl rfl rfl _ rfl ?_ | refine RX.sta 5 (.none rfl) rfl rfl sz_143 rfl rfl rfl rfl _ rfl ?_)
  refine RX.nil ?_
  refine WP.heap [[(n3, row [E A 0, E A 1, E A 2, E A 3, E A 4, E A 5, E A 6, E A 7, E A 8, E A 9, E A 10, E A 11, E A 12, E A 13, E A 14, E A 15] 143)]] rfl ?_
  refine WP.sregion ?_
  refine RX.pure (.none rfl) rfl rfl (p_assign rfl) ?_
  refine RX.nil ?_
  refine WP.seq (WP.sregion ?_)
  refine RX.pure (.none rfl) rfl rfl (p_assign rfl) ?_
  refine RX.nil ?_
  refine WP.block ?_
  refine WP.loop (fun m ρ S => ∃ k : Nat, k ≤ 16 ∧ m = 16 - k ∧ Sub [(0, E A k0), (3, .pointer (some ⟨n3, 0, none⟩)), (4, .int .i64 (if k ≤ k0 then -1 else (k0 : Int) + 1)), (5, .int .i64 (k : Nat))] ρ ∧ S = [[(n3, row [E A 0, E A 1, E A 2, E A 3, E A 4, E A 5, E A 6, E A 7, E A 8, E A 9, E A 10, E A 11, E A 12, E A 13, E A 14, E A 15] 143)]]) 16 ?_ ?_
  · refine ⟨0, by omega, by omega, ?_, rfl⟩
    repeat (first | exact Sub.nil | refine Sub.cons rfl ?_)
  rintro m ρ S ⟨k, hk, rfl, hρ, rfl⟩
  refine WP.sub hρ ?_
  clear hρ
  by_cases hlt : k < 16
  · refine WP.seq (WP.sregion ?_)
    refine RX.pure (.none rfl) rfl rfl (p_move rfl) ?_
    refine RX.pure (.none rfl) rfl rfl (p_lss rfl rfl) ?_
    refine RX.say (t := 26) rfl (.bool true) (by rw [decide_eq_true]; omega) ?_
    refine RX.nil ?_
    refine WP.condT rfl (WP.skip ?_)
    refine WP.seq (WP.block ?_)
    by_cases h1 : k = k0
    · subst h1
      refine WP.sregion ?_
      refine RX.pure (.none rfl) rfl rfl (p_move rfl) ?_
      refine RX.pure (.none rfl) rfl rfl (p_move rfl) ?_
      refine RX.pure (.none rfl) rfl rfl (p_idxArr0 rfl rfl ar_143 (by omega) (by omega)) ?_
      refine RX.ld 0 (.none rfl) rfl rfl na_34 rfl (es_get A hlt) ?_
      refine RX.eff (.none rfl) rfl rfl rfl (e_call [] rfl call_73 rfl rfl (isS_tri (A k))) ?_
      rintro _ _ ⟨_, ⟨rfl, rfl⟩, rfl⟩
      refine RX.nil ?_
      refine WP.condT rfl ?_
      refine WP.seq (WP.sregion ?_)
      refine RX.pure (.none rfl) rfl rfl (p_move rfl) ?_
      refine RX.pure (.none rfl) rfl rfl (p_gtr rfl rfl) ?_
      refine RX.say (t := 35) rfl (.bool false) (by rw [if_pos (Nat.le_refl k)]; simp) ?_
      refine RX.nil ?_
      refine WP.condF rfl (WP.skip ?_)
      refine WP.region ?_
      refine RX.pure (.none rfl) rfl rfl (p_move rfl) ?_
      (first | refine RX.pure (.none rfl) rfl rfl (p_add rfl rfl (wr_i64 (by omega) (by omega))) ?_ | refine RX.pure (.none rfl) rfl rfl (p_add rfl rfl rfl) ?_)
      refine RX.pure (.none rfl) rfl rfl (p_assign rfl) ?_
      refine RX.nil ?_
      refine sq_normal ?_
      refine WP.region ?_
      refine RX.pure (.none rfl) rfl rfl (p_move rfl) ?_
      (first | refine RX.pure (.none rfl) rfl rfl (p_add rfl rfl (wr_i64 (by omega) (by omega))) ?_ | refine RX.pure (.none rfl) rfl rfl (p_add rfl rfl rfl) ?_)
      refine RX.pure (.none rfl) rfl rfl (p_assign rfl) ?_
      refine RX.nil ?_
      refine lq_normal (16 - (k + 1)) (by omega) ?_
      refine ⟨k + 1, by omega, rfl, ?_, rfl⟩
      rw [if_neg (by omega)]
      repeat (first | exact Sub.nil | refine Sub.cons rfl ?_)
    · refine WP.sregion ?_
      refine RX.pure (.none rfl) rfl rfl (p_move rfl) ?_
      refine RX.pure (.none rfl) rfl rfl (p_move rfl) ?_
      refine RX.pure (.none rfl) rfl rfl (p_idxArr0 rfl rfl ar_143 (by omega) (by omega)) ?_
      refine RX.ld 0 (.none rfl) rfl rfl na_34 rfl (es_get A hlt) ?_
      refine RX.eff (.none rfl) rfl rfl rfl (e_call [] rfl call_73 rfl rfl (isO_tri h (j := k0) (k := k) hk0 hlt (fun e => h1 e.symm))) ?_
      rintro _ _ ⟨_, ⟨rfl, rfl⟩, rfl⟩
      refine RX.nil ?_
      refine WP.condF rfl (WP.skip ?_)
      refine sq_normal ?_
      refine WP.region ?_
      refine RX.pure (.none rfl) rfl rfl (p_move rfl) ?_
      (first | refine RX.pure (.none rfl) rfl rfl (p_add rfl rfl (wr_i64 (by omega) (by omega))) ?_ | refine RX.pure (.none rfl) rfl rfl (p_add rfl rfl rfl) ?_)
      refine RX.pure (.none rfl) rfl rfl (p_assign rfl) ?_
      refine RX.nil ?_
      refine lq_normal (16 - (k + 1)) (by omega) ?_
      have e4 : (if k + 1 ≤ k0 then (-1 : Int) else (k0 : Int) + 1) = if k ≤ k0 then -1 else (k0 : Int) + 1 := by split <;> split <;> omega
      refine ⟨k + 1, by omega, rfl, ?_, rfl⟩
      rw [e4]
      repeat (first | exact Sub.nil | refine Sub.cons rfl ?_)
  · refine WP.seq (WP.sregion ?_)
    refine RX.pure (.none rfl) rfl rfl (p_move rfl) ?_
    refine RX.pure (.none rfl) rfl rfl (p_lss rfl rfl) ?_
    refine RX.say (t := 26) rfl (.bool false) (by rw [decide_eq_false]; omega) ?_
    refine RX.nil ?_
    refine WP.condF rfl ?_
    refine WP.exit ?_
    repeat (first | refine sq_exit ?_ | refine bk_exit ?_ | refine lq_exit ?_ | refine cq_exit ?_ | refine bk_exit' rfl ?_)
    refine sq_normal ?_
    refine WP.sregion ?_
    refine RX.pure (.none rfl) rfl rfl (p_move rfl) ?_
    refine RX.pure (.none rfl) rfl rfl (p_assign rfl) ?_
    refine RX.nil ?_
    obtain rfl : k = 16 := by omega
    refine WP.ret ?_
    repeat (first | refine sq_ret ?_ | refine bk_ret ?_ | refine lq_ret ?_ | refine cq_ret ?_)
    exact fin1' 0 rfl rfl rfl ⟨by rw [if_neg (by omega)], rfl⟩
theorem is_tri (h : Sents w0 A) (k0 : Nat) (hk0 : k0 < 16) : Tri Tryd.prog w0 33 #[E A k0, .int .i64 ((k0 : Nat) + 1)] [] (fun v S' => v = .bool true ∧ S' = []) := by
  refine Tri.mk Tryd.func33 rfl rfl rfl ?_
  refine WP.sregion ?_
  refine RX.pure (.none rfl) rfl rfl (p_assign rfl) ?_
  refine RX.nil ?_
  refine WP.sregion ?_
  refine RX.pure (.none rfl) rfl rfl (p_move rfl) ?_
  refine RX.eff (.none rfl) rfl rfl rfl (e_call [] rfl call_56 rfl rfl (at_tri h k0)) ?_
  rintro _ _ ⟨_, ⟨rfl, rfl⟩, rfl⟩
  refine RX.pure (.none rfl) rfl rfl (p_move rfl) ?_
  refine RX.pure (.none rfl) rfl rfl (p_extract rfl rfl) ?_
  refine RX.pure (.none rfl) rfl rfl (p_extract rfl rfl) ?_
  refine RX.pure (.none rfl) rfl rfl (p_assign rfl) ?_
  refine RX.pure (.none rfl) rfl rfl (p_assign rfl) ?_
  refine RX.nil ?_
  refine WP.sregion ?_
  refine RX.pure (.none rfl) rfl rfl (p_move rfl) ?_
  refine RX.eff (.none rfl) rfl rfl rfl (e_call [] rfl call_57 rfl rfl (code_tri h k0 hk0)) ?_
  rintro _ _ ⟨_, ⟨rfl, rfl⟩, rfl⟩
  refine RX.pure (.none rfl) rfl rfl (p_move rfl) ?_
  refine RX.pure (.none rfl) rfl rfl (p_eqInt rfl rfl) ?_
  refine RX.say (t := 15) rfl (.bool true) (by simp) ?_
  refine RX.pure (.none rfl) rfl rfl (p_move rfl) ?_
  (first | refine RX.skip (.no rfl rfl rfl rfl) rfl rfl ?_ | refine RX.pure (.yes rfl rfl rfl) rfl rfl (p_move rfl) ?_)
  (first | refine RX.skip (.no rfl rfl rfl rfl) rfl rfl ?_ | refine RX.pure (.yes rfl rfl rfl) rfl rfl (p_not rfl) ?_)
  (first | refine RX.skip (.no rfl rfl rfl rfl) rfl rfl ?_ | refine RX.pure (.yes rfl rfl rfl) rfl rfl (p_move rfl) ?_)
  (first | refine RX.skip (.no rfl rfl rfl rfl) rfl rfl ?_ | refine RX.pure (.yes rfl rfl rfl) rfl rfl (p_move rfl) ?_)
  (first | refine RX.skip (.no rfl rfl rfl rfl) rfl rfl ?_ | refine RX.pure (.yes rfl rfl rfl) rfl rfl (p_eqInt rfl rfl) ?_)
  (first | refine RX.skip (.no rfl rfl rfl rfl) rfl rfl ?_ | refine RX.pure (.yes rfl rfl rfl) rfl rfl (p_pickT rfl rfl) ?_ | refine RX.pure (.yes rfl rfl rfl) rfl rfl (p_pickF rfl rfl) ?_)
  (first | refine RX.pure (.none rfl) rfl rfl (p_pickT rfl rfl) ?_ | refine RX.pure (.none rfl) rfl rfl (p_pickF rfl rfl) ?_)
  refine RX.pure (.none rfl) rfl rfl (p_assign rfl) ?_
  refine RX.nil ?_
  refine WP.ret ?_
  repeat (first | refine sq_ret ?_ | refine bk_ret ?_ | refine lq_ret ?_ | refine cq_ret ?_)
  exact fin1' 0 rfl rfl rfl ⟨rfl, rfl⟩
end
end Go.Proofs.YtigjnfmbellpjaaDoor.Err
