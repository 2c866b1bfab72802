/- Part 8: maps: an object '.map es clock'; what a look-up, a store, a delete do to it. -/
import Derived.Test.YtigjnfmbellpjaaDoorEL7
namespace Go.EL
open Go
open Classical in
/-- the first entry of a key -/
noncomputable def hit (k : Value) : List MapEntry → Nat → Option (Nat × Value)
  | [], _ => none
  | e :: es, i => if k = e.key then some (i, e.val) else hit k es (i + 1)

open Classical in
/-- keys of a type whose values all look so: they are told apart as Lean tells them apart -/
structure KeyTy (P : Program) (t : TypeId) (D : Value → Prop) : Prop where
  check : ∀ k, D k → ∀ b w, (Instr.checkKey b 10000 t k).run P w = .ok () w
  stay : ∀ k, D k → Instr.sameBits 10000 k k = true
  same : ∃ d, P.underlying t = some d ∧ ((∀ k e, D k → D e → Instr.sameNow d k e = some (decide (k = e))) ∨
    ((∀ k e, D k → D e → Instr.sameNow d k e = none) ∧ ∀ k e, D k → D e → ∀ w, (Op.equal t k e).run P w = .ok (decide (k = e)) w))

section
variable {P : Program} {N : Nat} {w0 : World}

open Classical in
theorem findKey_hit {t : TypeId} {D : Value → Prop} (h : KeyTy P t D) {k : Value} (hk : D k) (es : List MapEntry) (hD : ∀ e, e ∈ es → D e.key) (w : World) : (Instr.findKey t k es).run P w = .ok (hit k es 0) w := by
  obtain ⟨d, hu, hs⟩ := h.same
  have now : ∀ (es : List MapEntry) (i : Nat), (∀ e, e ∈ es → D e.key) → (∀ k e, D k → D e → Instr.sameNow d k e = some (decide (k = e))) → Instr.findNow d k es i = some (hit k es i) := by
    intro es
    induction es with
    | nil => intro i _ _; rfl
    | cons e es ih =>
      intro i hD hs
      simp only [Instr.findNow, hit, hs k e.key hk (hD e (List.mem_cons_self ..))]
      by_cases he : k = e.key
      · simp [he]
      · simp [he, ih (i + 1) (fun e' h' => hD e' (List.mem_cons_of_mem _ h')) hs]
  have ask : ∀ (es : List MapEntry) (i : Nat), (∀ e, e ∈ es → D e.key) → (∀ k e, D k → D e → ∀ w, (Op.equal t k e).run P w = .ok (decide (k = e)) w) → (Instr.findAsking t k es i).run P w = .ok (hit k es i) w := by
    intro es
    induction es with
    | nil => intro i _ _; rfl
    | cons e es ih =>
      intro i hD hs
      simp only [Instr.findAsking, hit, Sem.run_bind, hs k e.key hk (hD e (List.mem_cons_self ..)), Result.andThen_ok]
      by_cases he : k = e.key
      · simp [he]
      · simp [he, ih (i + 1) (fun e' h' => hD e' (List.mem_cons_of_mem _ h')) hs]
  rcases hs with hs | ⟨hs1, hs2⟩
  · simp [Instr.findKey, underlying, hu, now es 0 hD hs]
  · cases es with
    | nil => simp [Instr.findKey, underlying, hu, Instr.findNow, hit]
    | cons e es =>
      have h1 : Instr.findNow d k (e :: es) 0 = none := by simp [Instr.findNow, hs1 k e.key hk (hD e (List.mem_cons_self ..))]
      simp [Instr.findKey, underlying, hu, h1, ask (e :: es) 0 hD hs2]

theorem hit_none {k : Value} : ∀ {es : List MapEntry} {i : Nat}, (∀ e, e ∈ es → k ≠ e.key) → hit k es i = none
  | [], _, _ => rfl
  | e :: es, i, h => by
    simp only [hit, if_neg (h e (List.mem_cons_self ..))]
    exact hit_none (fun e' h' => h e' (List.mem_cons_of_mem _ h'))
theorem hit_some {k : Value} : ∀ {es : List MapEntry} {i j : Nat} {e : MapEntry}, (es.map (·.key)).Nodup → es[j]? = some e → k = e.key → hit k es i = some (i + j, e.val)
  | [], _, _, _, _, h, _ => by cases h
  | x :: es, i, j, e, hn, h, hk => by
    cases j with
    | zero =>
      simp only [List.getElem?_cons_zero, Option.some.injEq] at h
      subst h
      simp [hit, hk]
    | succ j =>
      simp only [List.getElem?_cons_succ] at h
      simp only [List.map_cons, List.nodup_cons] at hn
      have hne : k ≠ x.key := fun he => hn.1 (by rw [← he, hk]; exact List.mem_map.2 ⟨e, List.mem_of_getElem? h, rfl⟩)
      simp only [hit, if_neg hne]
      rw [hit_some hn.2 h hk]
      congr 2
      omega

theorem key_string {t : TypeId} (ht : P.underlying t = some .string) : KeyTy P t (fun v => ∃ s, v = .string s) := by
  refine ⟨?_, ?_, .string, ht, .inl ?_⟩
  · rintro _ ⟨s, rfl⟩ b w
    show (Instr.checkKey b (9999 + 1) t (.string s)).run P w = _
    rw [Instr.checkKey]
    simp [underlying, ht]
  · rintro _ ⟨s, rfl⟩
    show Instr.sameBits (9999 + 1) (.string s) (.string s) = true
    simp only [Instr.sameBits]
    exact (bytes_beq s s).2 rfl
  · rintro _ _ ⟨a, rfl⟩ ⟨b, rfl⟩
    simp only [Instr.sameNow, Option.some.injEq, Value.string.injEq]
    rw [Bool.eq_iff_iff, bytes_beq]
    simp
theorem key_int {t : TypeId} {k : IntKind} (ht : P.underlying t = some (.int k)) : KeyTy P t (fun v => ∃ n, v = .int k n) := by
  refine ⟨?_, ?_, .int k, ht, .inl ?_⟩
  · rintro _ ⟨s, rfl⟩ b w
    show (Instr.checkKey b (9999 + 1) t (.int k s)).run P w = _
    rw [Instr.checkKey]
    simp [underlying, ht]
  · rintro _ ⟨s, rfl⟩
    show Instr.sameBits (9999 + 1) (.int k s) (.int k s) = true
    simp [Instr.sameBits]
  · rintro _ _ ⟨a, rfl⟩ ⟨b, rfl⟩
    simp only [Instr.sameNow, if_true, Option.some.injEq, Value.int.injEq, true_and]
    rw [Bool.eq_iff_iff]
    simp

section ops
variable {ρ : Env} {S : HS} {ds : Option Nat} {ty : TypeId} {pos : String} {aft : Array Edge} {g : Option (Nat × Bool)}
theorem Inv.getMap {F : Hp} {w : World} {i m : Nat} {es : Array MapEntry} {c : Nat} (hI : Inv w0 (S.flatten ++ F) w) (ha : At S i m (.map es c)) : (getObj m).run P w = .ok (.map es c) w := by
  have := (hI.at ha).2
  simp [getObj, Sem.run, this]
theorem setObj_map {F : Hp} {w : World} {i m : Nat} {es : Array MapEntry} {c : Nat} (o : Obj) (hI : Inv w0 (S.flatten ++ F) w) (ha : At S i m (.map es c)) : (setObj m o).run P w = .ok () { w with heap := w.heap.setIfInBounds m o } := by
  have := (hI.at ha).2
  simp [setObj, Sem.run, this]

theorem r_lenMap {t kt e : TypeId} {x : Operand} {m c : Nat} {es : Array MapEntry} (i : Nat) (hx : ev ρ x = some (.map (some m))) (ht : P.underlying t = some (.map kt e)) (ha : At S i m (.map es c)) : ReadOp P w0 ⟨ds, .call ⟨.builtin .len, #[x], #[t]⟩, ty, pos, aft, g⟩ ρ S (.int .i64 es.size) := fun F a w hs hI => by
  have := Inv.getMap (P := P) hI ha
  simp [execOp, resolve, invoke, builtin, Builtin.len_, hs x _ hx, underlying, ht, goInt, this]
theorem p_lenNilMap {t kt e : TypeId} {x : Operand} (hx : ev ρ x = some (.map none)) (ht : P.underlying t = some (.map kt e)) : PureOp P ⟨ds, .call ⟨.builtin .len, #[x], #[t]⟩, ty, pos, aft, g⟩ ρ (.int .i64 0) := fun a hs w => by
  simp [execOp, resolve, invoke, builtin, Builtin.len_, hs x _ hx, underlying, ht, goInt]
/-- v, ok := m[k] -/
theorem r_lookupHit {t kt e : TypeId} {x y : Operand} {m c : Nat} {es : Array MapEntry} {D : Value → Prop} {k : Value} {en : MapEntry} {j : Nat} (i : Nat) (hx : ev ρ x = some (.map (some m))) (hy : ev ρ y = some k) (ht : P.underlying t = some (.map kt e)) (hK : KeyTy P kt D) (ha : At S i m (.map es c)) (hk : D k) (hD : ∀ e, e ∈ es.toList → D e.key)
    (hn : (es.toList.map (·.key)).Nodup) (hj : es.toList[j]? = some en) (he : k = en.key) : ReadOp P w0 ⟨ds, .lookup t x y true, ty, pos, aft, g⟩ ρ S (.tuple #[en.val, .bool true]) := fun F a w hs hI => by
  have h1 := Inv.getMap (P := P) hI ha
  have h2 := findKey_hit hK hk es.toList hD w
  rw [hit_some hn hj he] at h2
  simp [execOp, Instr.lookup, hs x _ hx, hs y _ hy, underlying, ht, h1, hK.check k hk, h2]
theorem r_lookupMiss {t kt e : TypeId} {x y : Operand} {m c : Nat} {es : Array MapEntry} {D : Value → Prop} {k z : Value} (i : Nat) (hx : ev ρ x = some (.map (some m))) (hy : ev ρ y = some k) (ht : P.underlying t = some (.map kt e)) (hK : KeyTy P kt D) (ha : At S i m (.map es c)) (hk : D k) (hD : ∀ e, e ∈ es.toList → D e.key)
    (hn : ∀ e, e ∈ es.toList → k ≠ e.key) (hz : (P.info? e).bind (·.zero) = some z) : ReadOp P w0 ⟨ds, .lookup t x y true, ty, pos, aft, g⟩ ρ S (.tuple #[z, .bool false]) := fun F a w hs hI => by
  have h1 := Inv.getMap (P := P) hI ha
  have h2 := findKey_hit hK hk es.toList hD w
  rw [hit_none hn] at h2
  cases hi : P.info? e with
  | none => simp [hi] at hz
  | some inf =>
    simp [hi] at hz
    simp [execOp, Instr.lookup, hs x _ hx, hs y _ hy, underlying, ht, h1, hK.check k hk, h2, zeroValue, typeInfo, hi, hz]
/-- m[k] = v, a new key -/
theorem e_mapNew {t kt e : TypeId} {x y u : Operand} {m c : Nat} {es : Array MapEntry} {D : Value → Prop} {k v : Value} (i : Nat) (hx : ev ρ x = some (.map (some m))) (hy : ev ρ y = some k) (hv : ev ρ u = some v) (ht : P.underlying t = some (.map kt e)) (hK : KeyTy P kt D) (ha : At S i m (.map es c)) (hk : D k) (hD : ∀ e, e ∈ es.toList → D e.key)
    (hn : ∀ e, e ∈ es.toList → k ≠ e.key) : EffOp P w0 ⟨ds, .mapUpdate t x y u, ty, pos, aft, g⟩ ρ S (fun _ S' => S' = S.set i [(m, .map (es.push ⟨k, v, c⟩) (c + 1))]) := fun F a w hs hI => by
  have h1 := Inv.getMap (P := P) hI ha
  have h2 := findKey_hit hK hk es.toList hD w
  rw [hit_none hn] at h2
  have h3 := setObj_map (P := P) (.map (es.push ⟨k, v, c⟩) (c + 1)) hI ha
  have hrun : (execOp a.eval ⟨ds, .mapUpdate t x y u, ty, pos, aft, g⟩).run P w = .ok .skip { w with heap := w.heap.setIfInBounds m (.map (es.push ⟨k, v, c⟩) (c + 1)) } := by
    simp [execOp, Instr.mapUpdate, hs x _ hx, hs y _ hy, hs u _ hv, underlying, ht, h1, hK.check k hk, h2, h3]
  unfold Yld
  rw [hrun]
  exact ⟨_, rfl, hI.setAt ha _ rfl rfl rfl rfl⟩
/-- m[k] = v, a key that is there -/
theorem e_mapOld {t kt e : TypeId} {x y u : Operand} {m c : Nat} {es : Array MapEntry} {D : Value → Prop} {k v : Value} {en : MapEntry} {j : Nat} (i : Nat) (hx : ev ρ x = some (.map (some m))) (hy : ev ρ y = some k) (hv : ev ρ u = some v) (ht : P.underlying t = some (.map kt e)) (hK : KeyTy P kt D) (ha : At S i m (.map es c)) (hk : D k) (hD : ∀ e, e ∈ es.toList → D e.key)
    (hn : (es.toList.map (·.key)).Nodup) (hj : es.toList[j]? = some en) (he : k = en.key) : EffOp P w0 ⟨ds, .mapUpdate t x y u, ty, pos, aft, g⟩ ρ S (fun _ S' => S' = S.set i [(m, .map ⟨es.toList.set j { en with key := k, val := v }⟩ c)]) := fun F a w hs hI => by
  have h1 := Inv.getMap (P := P) hI ha
  have h2 := findKey_hit hK hk es.toList hD w
  rw [hit_some hn hj he] at h2
  have hje : es[j]? = some en := by simpa using hj
  obtain ⟨hlt, hge⟩ := Array.getElem?_eq_some_iff.1 hje
  have hmod : es.modify j (fun e => { e with key := k, val := v }) = ⟨es.toList.set j { en with key := k, val := v }⟩ := by
    apply Array.ext
    · simp
    · intro q hq1 hq2
      by_cases hqj : j = q
      · subst hqj
        rw [Array.getElem_modify, if_pos rfl, hge]
        simp
      · rw [Array.getElem_modify, if_neg hqj]
        simp [hqj]
  have h3 := setObj_map (P := P) (.map ⟨es.toList.set j { en with key := k, val := v }⟩ c) hI ha
  have hst : (Instr.keyThatStays en.key k).run P w = .ok k w := by
    unfold Instr.keyThatStays
    rw [← he, hK.stay k hk]
    simp
  have hrun : (execOp a.eval ⟨ds, .mapUpdate t x y u, ty, pos, aft, g⟩).run P w = .ok .skip { w with heap := w.heap.setIfInBounds m (.map ⟨es.toList.set j { en with key := k, val := v }⟩ c) } := by
    simp [execOp, Instr.mapUpdate, hs x _ hx, hs y _ hy, hs u _ hv, underlying, ht, h1, hK.check k hk, h2, hje, hst, hmod, h3]
  unfold Yld
  rw [hrun]
  exact ⟨_, rfl, hI.setAt ha _ rfl rfl rfl rfl⟩
/-- delete(m, k) -/
theorem e_delete {t kt e : TypeId} {x y : Operand} {tys : Array TypeId} {m c : Nat} {es : Array MapEntry} {D : Value → Prop} {k : Value} {en : MapEntry} {j : Nat} (i : Nat) (hx : ev ρ x = some (.map (some m))) (hy : ev ρ y = some k) (ht : P.underlying t = some (.map kt e)) (hty : tys[0]? = some t) (hK : KeyTy P kt D) (ha : At S i m (.map es c)) (hk : D k) (hD : ∀ e, e ∈ es.toList → D e.key)
    (hn : (es.toList.map (·.key)).Nodup) (hj : es.toList[j]? = some en) (he : k = en.key) : EffOp P w0 ⟨ds, .call ⟨.builtin .delete, #[x, y], tys⟩, ty, pos, aft, g⟩ ρ S (fun _ S' => S' = S.set i [(m, .map ⟨es.toList.eraseIdx j⟩ c)]) := fun F a w hs hI => by
  have h1 := Inv.getMap (P := P) hI ha
  have h2 := findKey_hit hK hk es.toList hD w
  rw [hit_some hn hj he] at h2
  have hje : es[j]? = some en := by simpa using hj
  obtain ⟨hlt, hge⟩ := Array.getElem?_eq_some_iff.1 hje
  have h3 := setObj_map (P := P) (.map ⟨es.toList.eraseIdx j⟩ c) hI ha
  have hmod : es.eraseIdxIfInBounds j = ⟨es.toList.eraseIdx j⟩ := by
    rw [Array.eraseIdxIfInBounds_eq]
    simp [hlt]
    apply Array.toList_inj.1
    simp
  have hrun : (execOp a.eval ⟨ds, .call ⟨.builtin .delete, #[x, y], tys⟩, ty, pos, aft, g⟩).run P w = .ok (.value (.tuple #[])) { w with heap := w.heap.setIfInBounds m (.map ⟨es.toList.eraseIdx j⟩ c) } := by
    simp [execOp, resolve, invoke, builtin, Builtin.delete_, hs x _ hx, hs y _ hy, hty, underlying, ht, h1, hK.check k hk, h2, hmod, h3]
  unfold Yld
  rw [hrun]
  exact ⟨_, rfl, hI.setAt ha _ rfl rfl rfl rfl⟩
end ops
end
end Go.EL
