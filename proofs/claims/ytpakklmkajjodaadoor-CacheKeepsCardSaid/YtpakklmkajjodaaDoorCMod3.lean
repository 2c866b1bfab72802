/- What holds of a cache between two calls, and how each call turns it. -/
import Derived.Test.YtpakklmkajjodaaDoorCMod2
namespace Go.EL.Cache
open Go Go.EL

theorem keyAt_of {xs : List It} {i : Nat} {x : It} (h : xs[i]? = some x) : keyAt xs i = x.key := by simp [keyAt, h]
theorem valAt_of {xs : List It} {i : Nat} {x : It} (h : xs[i]? = some x) : valAt xs i = x.val := by simp [valAt, h]
theorem keyAt_outL (xs : List It) (i b : Nat) : keyAt (outL xs i) b = keyAt xs b := by
  cases hx : xs[b]? with
  | none =>
    have : (outL xs i)[b]? = none := by rw [List.getElem?_eq_none_iff] at hx ⊢; rw [outL_len]; exact hx
    simp [keyAt, hx, this]
  | some x =>
    obtain ⟨y, hy⟩ : ∃ y, (outL xs i)[b]? = some y := ⟨_, List.getElem?_eq_getElem (by rw [outL_len]; exact (List.getElem?_eq_some_iff.1 hx).1)⟩
    rw [keyAt_of hx, keyAt_of hy, (outL_kv hx hy).1]
theorem valAt_outL (xs : List It) (i b : Nat) : valAt (outL xs i) b = valAt xs b := by
  cases hx : xs[b]? with
  | none =>
    have : (outL xs i)[b]? = none := by rw [List.getElem?_eq_none_iff] at hx ⊢; rw [outL_len]; exact hx
    simp [valAt, hx, this]
  | some x =>
    obtain ⟨y, hy⟩ : ∃ y, (outL xs i)[b]? = some y := ⟨_, List.getElem?_eq_getElem (by rw [outL_len]; exact (List.getElem?_eq_some_iff.1 hx).1)⟩
    rw [valAt_of hx, valAt_of hy, (outL_kv hx hy).2]
theorem keyAt_firstL (xs : List It) (i b : Nat) : keyAt (firstL xs i) b = keyAt xs b := by
  cases hx : xs[b]? with
  | none =>
    have : (firstL xs i)[b]? = none := by rw [List.getElem?_eq_none_iff] at hx ⊢; rw [firstL_len]; exact hx
    simp [keyAt, hx, this]
  | some x =>
    obtain ⟨y, hy⟩ : ∃ y, (firstL xs i)[b]? = some y := ⟨_, List.getElem?_eq_getElem (by rw [firstL_len]; exact (List.getElem?_eq_some_iff.1 hx).1)⟩
    rw [keyAt_of hx, keyAt_of hy, (firstL_kv hx hy).1]
theorem valAt_firstL (xs : List It) (i b : Nat) : valAt (firstL xs i) b = valAt xs b := by
  cases hx : xs[b]? with
  | none =>
    have : (firstL xs i)[b]? = none := by rw [List.getElem?_eq_none_iff] at hx ⊢; rw [firstL_len]; exact hx
    simp [valAt, hx, this]
  | some x =>
    obtain ⟨y, hy⟩ : ∃ y, (firstL xs i)[b]? = some y := ⟨_, List.getElem?_eq_getElem (by rw [firstL_len]; exact (List.getElem?_eq_some_iff.1 hx).1)⟩
    rw [valAt_of hx, valAt_of hy, (firstL_kv hx hy).2]
theorem keyAt_set_ne (xs : List It) (i b : Nat) (x : It) (h : i ≠ b) : keyAt (xs.set i x) b = keyAt xs b := by simp [keyAt, h]
theorem valAt_set_ne (xs : List It) (i b : Nat) (x : It) (h : i ≠ b) : valAt (xs.set i x) b = valAt xs b := by simp [valAt, h]
theorem keyAt_set_eq (xs : List It) (i : Nat) (x : It) (h : i < xs.length) : keyAt (xs.set i x) i = x.key := by simp [keyAt, h]
theorem valAt_set_eq (xs : List It) (i : Nat) (x : It) (h : i < xs.length) : valAt (xs.set i x) i = x.val := by simp [valAt, h]

theorem perm_eraseIdx {α : Type} {a : α} : ∀ {l : List α} {j : Nat}, l[j]? = some a → l.Perm (a :: l.eraseIdx j)
  | [], _, h => by cases h
  | x :: l, 0, h => by simp at h; subst h; simp
  | x :: l, j + 1, h => by
    simp only [List.getElem?_cons_succ] at h
    simp only [List.eraseIdx_cons_succ]
    exact ((perm_eraseIdx h).cons x).trans (List.Perm.swap _ _ _)
structure CI (kn vn : Nat) (D : Value → Prop) (most : Nat) (xs : List It) (es : List MapEntry) (ord fr : List Nat) : Prop where
  oks : Oks kn vn xs
  ring : Ring xs ord
  nd : (0 :: (ord ++ fr)).Nodup
  rng : ∀ b, b ∈ 0 :: (ord ++ fr) → b < xs.length
  perm : (es.map fun e => (e.key, e.val)).Perm (ord.map fun i => (vv (keyAt xs i), Value.int .i64 (i : Nat)))
  keys : (ord.map fun i => vv (keyAt xs i)).Nodup
  dk : ∀ i, i ∈ ord → D (vv (keyAt xs i))
  tot : xs.length = 1 + ord.length + fr.length
  mst : ord.length ≤ most
  len : xs.length ≤ most + 1

section
variable {kn vn : Nat} {D : Value → Prop} {most : Nat} {xs : List It} {es : List MapEntry} {ord fr : List Nat}
theorem CI.new (z : It) (hz : z.Ok kn vn) (h1 : z.newer = 0) (h2 : z.older = 0) : CI kn vn D most [z] [] [] [] := by
  exact { oks := fun x hx => by rw [List.mem_singleton.1 hx]; exact hz
          ring := ⟨by simp [olf, h2], by simp [nwf, h1]⟩
          nd := by simp
          rng := fun b hb => by simp at hb; simp [hb]
          perm := by simp
          keys := by simp
          dk := fun i h => by cases h
          tot := rfl
          mst := Nat.zero_le _
          len := by simp }
theorem CI.ents (h : CI kn vn D most xs es ord fr) : es.length = ord.length := by
  have := h.perm.length_eq
  simpa using this
theorem CI.keysNd (h : CI kn vn D most xs es ord fr) : (es.map (·.key)).Nodup := by
  have h1 := h.perm.map Prod.fst
  have h2 : (es.map fun e => (e.key, e.val)).map Prod.fst = es.map (·.key) := by simp
  have h3 : (ord.map fun i => (vv (keyAt xs i), Value.int .i64 (i : Nat))).map Prod.fst = ord.map fun i => vv (keyAt xs i) := by simp
  rw [h2, h3] at h1
  exact h1.nodup_iff.2 h.keys
theorem CI.mem (h : CI kn vn D most xs es ord fr) {e : MapEntry} (he : e ∈ es) : ∃ i, i ∈ ord ∧ e.key = vv (keyAt xs i) ∧ e.val = .int .i64 (i : Nat) := by
  have : (e.key, e.val) ∈ ord.map fun i => (vv (keyAt xs i), Value.int .i64 (i : Nat)) := h.perm.mem_iff.1 (List.mem_map.2 ⟨e, he, rfl⟩)
  obtain ⟨i, hi, hp⟩ := List.mem_map.1 this
  simp only [Prod.mk.injEq] at hp
  exact ⟨i, hi, hp.1.symm, hp.2.symm⟩
theorem CI.keysD (h : CI kn vn D most xs es ord fr) : ∀ e, e ∈ es → D e.key := fun e he => by
  obtain ⟨i, hi, hk, _⟩ := h.mem he
  rw [hk]
  exact h.dk i hi
theorem CI.entry (h : CI kn vn D most xs es ord fr) {i : Nat} (hi : i ∈ ord) : ∃ (j b : Nat), es[j]? = some ⟨vv (keyAt xs i), .int .i64 (i : Nat), b⟩ := by
  have : (vv (keyAt xs i), Value.int .i64 (i : Nat)) ∈ es.map fun e => (e.key, e.val) := h.perm.mem_iff.2 (List.mem_map.2 ⟨i, hi, rfl⟩)
  obtain ⟨⟨k, v, b⟩, he, hp⟩ := List.mem_map.1 this
  simp only [Prod.mk.injEq] at hp
  obtain ⟨rfl, rfl⟩ := hp
  obtain ⟨j, hj⟩ := List.getElem?_of_mem he
  exact ⟨j, b, hj⟩
theorem CI.find (h : CI kn vn D most xs es ord fr) (k : Value) : (∃ (la : List Nat) (i : Nat) (lb : List Nat) (j b : Nat), ord = la ++ i :: lb ∧ vv (keyAt xs i) = k ∧ es[j]? = some ⟨k, .int .i64 (i : Nat), b⟩) ∨ ((∀ e, e ∈ es → k ≠ e.key) ∧ ∀ i, i ∈ ord → vv (keyAt xs i) ≠ k) := by
  by_cases hk : ∃ i, i ∈ ord ∧ vv (keyAt xs i) = k
  · obtain ⟨i, hi, hk⟩ := hk
    obtain ⟨j, b, hj⟩ := h.entry hi
    obtain ⟨la, lb, hs⟩ := List.append_of_mem hi
    exact .inl ⟨la, i, lb, j, b, hs, hk, by rw [← hk]; exact hj⟩
  · refine .inr ⟨fun e he hke => ?_, fun i hi hki => hk ⟨i, hi, hki⟩⟩
    obtain ⟨i, hi, h2, _⟩ := h.mem he
    exact hk ⟨i, hi, by rw [← h2, ← hke]⟩
theorem CI.get (h : CI kn vn D most xs es ord fr) {i : Nat} (hi : i ∈ 0 :: (ord ++ fr)) : ∃ x, xs[i]? = some x ∧ x.Ok kn vn := by
  have := h.rng i hi
  exact ⟨_, List.getElem?_eq_getElem this, h.oks _ (List.getElem_mem this)⟩
theorem CI.ord_nd (h : CI kn vn D most xs es ord fr) : (0 :: ord).Nodup := by
  have := h.nd
  rw [← List.cons_append] at this
  exact (List.nodup_append.1 this).1
theorem CI.ord_rng (h : CI kn vn D most xs es ord fr) : ∀ b, b ∈ 0 :: ord → b < xs.length := fun b hb => h.rng b (by
  rw [← List.cons_append]; exact List.mem_append_left _ hb)
theorem CI.fr_rng (h : CI kn vn D most xs es ord fr) : ∀ b, b ∈ fr → 0 < b ∧ b < xs.length := fun b hb => by
  refine ⟨?_, h.rng b (List.mem_cons_of_mem _ (List.mem_append_right _ hb))⟩
  have := (List.nodup_cons.1 h.nd).1
  exact Nat.pos_of_ne_zero fun e => this (e ▸ List.mem_append_right _ hb)
theorem CI.ol0 (h : CI kn vn D most xs es ord fr) : olf xs 0 < xs.length := by
  have h1 := Seg.head h.ring
  rw [h1]
  refine h.ord_rng _ ?_
  have := List.head_mem (l := ord ++ [0]) (by simp)
  rcases List.mem_append.1 this with hm | hm
  · exact List.mem_cons_of_mem _ hm
  · simp at hm; rw [hm]; exact List.mem_cons_self ..
theorem CI.outs {la lb : List Nat} {i : Nat} {x : It} (h : CI kn vn D most xs es (la ++ i :: lb) fr) (hx : xs[i]? = some x) : Ring (outL xs i) (la ++ lb) ∧ x.newer < xs.length ∧ x.older < xs.length := by
  obtain ⟨h1, h2, h3⟩ := h.ring.out h.ord_nd h.ord_rng
  refine ⟨h1, ?_, ?_⟩
  · simpa [nwf, hx] using h2
  · simpa [olf, hx] using h3

theorem nodup_mid {la lb : List Nat} {i : Nat} (h : (la ++ i :: lb).Nodup) : i ∉ la ++ lb ∧ (la ++ lb).Nodup := by
  have := List.perm_middle.nodup_iff.1 h
  exact List.nodup_cons.1 this

/-- used: it is the newest -/
theorem CI.touch {la lb : List Nat} {i : Nat} (h : CI kn vn D most xs es (la ++ i :: lb) fr) : CI kn vn D most (firstL (outL xs i) i) es (i :: (la ++ lb)) fr ∧ olf (outL xs i) 0 < xs.length := by
  obtain ⟨hr, h2, h3⟩ := h.ring.out h.ord_nd h.ord_rng
  have hnd := h.nd
  have hmid : (la ++ i :: lb ++ fr).Perm (i :: (la ++ lb) ++ fr) := List.perm_middle.append_right fr
  have hnd2 : (0 :: (i :: (la ++ lb) ++ fr)).Nodup := (hmid.cons 0).nodup_iff.1 hnd
  have hrng2 : ∀ b, b ∈ 0 :: (i :: (la ++ lb) ++ fr) → b < xs.length := fun b hb => h.rng b ((hmid.cons 0).mem_iff.2 hb)
  have hnd3 : (0 :: i :: (la ++ lb)).Nodup := by
    have : (0 :: i :: (la ++ lb) ++ fr).Nodup := hnd2
    exact (List.nodup_append.1 this).1
  have hf := hr.first (i := i) hnd3 (fun b hb => by rw [outL_len]; exact hrng2 b (by
    rcases List.mem_cons.1 hb with rfl | hb
    · exact List.mem_cons_self ..
    · exact List.mem_cons_of_mem _ (List.mem_append_left _ hb)))
  have ek : ∀ b, keyAt (firstL (outL xs i) i) b = keyAt xs b := fun b => by rw [keyAt_firstL, keyAt_outL]
  refine ⟨⟨firstL_ok (outL_ok h.oks i) i, hf.1, hnd2, fun b hb => by rw [firstL_len, outL_len]; exact hrng2 b hb, ?_, ?_, ?_, ?_, ?_, ?_⟩, by have := hf.2; rwa [outL_len] at this⟩
  · refine h.perm.trans ?_
    simp only [ek]
    exact (List.perm_middle.map _)
  · simp only [ek]
    exact ((List.perm_middle (a := i) (l₁ := la) (l₂ := lb)).map fun i => vv (keyAt xs i)).nodup_iff.1 h.keys
  · intro b hb
    rw [ek]
    exact h.dk b (List.perm_middle.mem_iff.2 hb)
  · rw [firstL_len, outL_len, h.tot]
    simp; omega
  · have := h.mst
    simp at this ⊢; omega
  · rw [firstL_len, outL_len]; exact h.len

/-- a value turned -/
theorem CI.setVal {i : Nat} {x : It} {vs : List Value} (h : CI kn vn D most xs es ord fr) (hx : xs[i]? = some x) (hv : vs.length = vn) (ho : ones vs = true) : CI kn vn D most (xs.set i { x with val := vs }) es ord fr := by
  have hi := (List.getElem?_eq_some_iff.1 hx).1
  have hok := h.oks x (List.mem_of_getElem? hx)
  have eg : ∀ b, (xs.set i { x with val := vs })[b]? = if i = b then some { x with val := vs } else xs[b]? := fun b => by
    rw [List.getElem?_set]
    by_cases e : i = b
    · subst e; simp [hi]
    · simp [e]
  have eo : olf (xs.set i { x with val := vs }) = olf xs := funext fun b => by
    simp only [olf, eg]
    by_cases e : i = b
    · subst e; simp [hx]
    · simp [e]
  have en : nwf (xs.set i { x with val := vs }) = nwf xs := funext fun b => by
    simp only [nwf, eg]
    by_cases e : i = b
    · subst e; simp [hx]
    · simp [e]
  have ek : ∀ b, keyAt (xs.set i { x with val := vs }) b = keyAt xs b := fun b => by
    simp only [keyAt, eg]
    by_cases e : i = b
    · subst e; simp [hx]
    · simp [e]
  refine ⟨oks_set h.oks ⟨hok.k, hv, hok.ko, ho⟩, by unfold Ring; rw [eo, en]; exact h.ring, h.nd, fun b hb => by simpa using h.rng b hb, by simpa only [ek] using h.perm, by simpa only [ek] using h.keys, fun b hb => by rw [ek]; exact h.dk b hb, by simpa using h.tot, h.mst, by simpa using h.len⟩

/-- taken out -/
theorem CI.remove {la lb : List Nat} {i j b : Nat} {z : It} (h : CI kn vn D most xs es (la ++ i :: lb) fr) (hz : z.Ok kn vn) (hj : es[j]? = some ⟨vv (keyAt xs i), .int .i64 (i : Nat), b⟩) :
    CI kn vn D most ((outL xs i).set i z) (es.eraseIdx j) (la ++ lb) (fr ++ [i]) ∧ ∀ b, b ∈ la ++ lb → keyAt ((outL xs i).set i z) b = keyAt xs b ∧ valAt ((outL xs i).set i z) b = valAt xs b := by
  obtain ⟨hr, h2, h3⟩ := h.ring.out h.ord_nd h.ord_rng
  have hni := nodup_mid (List.nodup_cons.1 h.ord_nd).2
  have h0i : i ≠ 0 := fun e => (List.nodup_cons.1 h.ord_nd).1 (by rw [← e]; simp)
  have hperm : (la ++ lb ++ (fr ++ [i])).Perm (la ++ i :: lb ++ fr) := by
    have h1 : (la ++ i :: lb ++ fr).Perm (i :: (la ++ lb) ++ fr) := List.perm_middle.append_right fr
    refine List.Perm.trans ?_ h1.symm
    rw [← List.append_assoc]
    exact (List.perm_append_comm (l₁ := la ++ lb ++ fr) (l₂ := [i]))
  have hneb : ∀ b, b ∈ la ++ lb → i ≠ b := fun b hb e => hni.1 (by rw [e]; exact hb)
  have ek : ∀ b, b ∈ la ++ lb → keyAt ((outL xs i).set i z) b = keyAt xs b := fun b hb => by
    rw [keyAt_set_ne _ _ _ _ (hneb b hb), keyAt_outL]
  refine ⟨⟨oks_set (outL_ok h.oks i) hz, ?_, ?_, ?_, ?_, ?_, ?_, ?_, ?_, ?_⟩, fun b hb => ⟨ek b hb, by rw [valAt_set_ne _ _ _ _ (hneb b hb), valAt_outL]⟩⟩
  · refine Seg.congr _ (fun b hb => olf_set_ne _ _ _ _ fun e => ?_) (fun b hb => nwf_set_ne _ _ _ _ fun e => ?_) hr
    · rcases List.mem_cons.1 hb with rfl | hb
      · exact h0i e
      · exact hni.1 (e ▸ hb)
    · rcases List.mem_append.1 hb with hb | hb
      · exact hni.1 (e ▸ hb)
      · simp at hb; exact h0i (e.trans hb)
  · exact (hperm.cons 0).nodup_iff.2 h.nd
  · intro b hb
    have := h.rng b ((hperm.cons 0).mem_iff.1 hb)
    simpa [outL_len] using this
  · have e1 : (es.map fun e => (e.key, e.val)).Perm ((vv (keyAt xs i), Value.int .i64 (i : Nat)) :: (es.eraseIdx j).map fun e => (e.key, e.val)) := by
      exact (perm_eraseIdx hj).map fun e => (e.key, e.val)
    have e2 : ((la ++ i :: lb).map fun i => (vv (keyAt xs i), Value.int .i64 (i : Nat))).Perm ((vv (keyAt xs i), Value.int .i64 (i : Nat)) :: (la ++ lb).map fun i => (vv (keyAt xs i), Value.int .i64 (i : Nat))) :=
      List.perm_middle.map _
    have e3 : (la ++ lb).map (fun i_1 => (vv (keyAt ((outL xs i).set i z) i_1), Value.int .i64 (i_1 : Nat))) = (la ++ lb).map fun i => (vv (keyAt xs i), Value.int .i64 (i : Nat)) := List.map_congr_left fun b hb => by rw [ek b hb]
    rw [e3]
    exact ((e1.symm.trans h.perm).trans e2).cons_inv
  · have e3 : (la ++ lb).map (fun i_1 => vv (keyAt ((outL xs i).set i z) i_1)) = (la ++ lb).map fun i => vv (keyAt xs i) := List.map_congr_left fun b hb => by rw [ek b hb]
    rw [e3]
    have := (List.perm_middle.map fun i => vv (keyAt xs i)).nodup_iff.1 h.keys
    exact (List.nodup_cons.1 this).2
  · intro b hb
    rw [ek b hb]
    exact h.dk b (by
      rcases List.mem_append.1 hb with hb | hb
      · exact List.mem_append_left _ hb
      · exact List.mem_append_right _ (List.mem_cons_of_mem _ hb))
  · have := h.tot
    simp [outL_len] at this ⊢; omega
  · have := h.mst
    simp at this ⊢; omega
  · simpa [outL_len] using h.len

/-- put in -/
theorem CI.add {i clk : Nat} {xs2 : List It} {fr2 : List Nat} {z y : It} {ks vs : List Value} (h : CI kn vn D most xs es ord fr) (hz : z.Ok kn vn) (hroom : Room z xs fr i xs2 fr2) (hy : xs2[i]? = some y) (hlt : ord.length < most)
    (hk : ks.length = kn) (hko : ones ks = true) (hv : vs.length = vn) (hvo : ones vs = true) (hD : D (vv ks)) (hnew : ∀ i, i ∈ ord → vv (keyAt xs i) ≠ vv ks) :
    CI kn vn D most (firstL (xs2.set i { y with key := ks, val := vs }) i) (es ++ [⟨vv ks, .int .i64 (i : Nat), clk⟩]) (i :: ord) fr2 ∧
      (∀ b, b ∈ ord → keyAt (firstL (xs2.set i { y with key := ks, val := vs }) i) b = keyAt xs b ∧ valAt (firstL (xs2.set i { y with key := ks, val := vs }) i) b = valAt xs b) ∧
      keyAt (firstL (xs2.set i { y with key := ks, val := vs }) i) i = ks ∧ valAt (firstL (xs2.set i { y with key := ks, val := vs }) i) i = vs := by
  have hi : i < xs2.length := (List.getElem?_eq_some_iff.1 hy).1
  -- what the two ways have in common
  obtain ⟨hu2, hin, hnd, hlen2, htot, hlen, hget⟩ : Oks kn vn xs2 ∧ i ∉ 0 :: ord ∧ (0 :: (i :: ord ++ fr2)).Nodup ∧ (∀ b, b ∈ 0 :: (i :: ord ++ fr2) → b < xs2.length) ∧ xs2.length = 2 + ord.length + fr2.length ∧ xs2.length ≤ most + 1 ∧ ∀ b, b ∈ 0 :: ord → xs2[b]? = xs[b]? := by
    rcases hroom with ⟨rfl, rfl⟩ | ⟨rfl, rfl, rfl, rfl⟩
    · have hp : (ord ++ (fr2 ++ [i])).Perm (i :: ord ++ fr2) := by
        rw [← List.append_assoc]
        exact (List.perm_append_comm (l₁ := ord ++ fr2) (l₂ := [i]))
      have hnd := (hp.cons 0).nodup_iff.1 h.nd
      refine ⟨h.oks, ?_, hnd, fun b hb => h.rng b ((hp.cons 0).mem_iff.2 hb), by have := h.tot; simp at this; omega, h.len, fun b _ => rfl⟩
      intro hm
      rcases List.mem_cons.1 hm with rfl | hm
      · exact (List.nodup_cons.1 hnd).1 (by simp)
      · have := (List.nodup_cons.1 (List.nodup_cons.1 hnd).2).1
        exact this (List.mem_append_left _ hm)
    · have hnd := h.nd
      rw [List.append_nil] at hnd
      have hlt' : ∀ b, b ∈ 0 :: ord → b < xs.length := h.ord_rng
      refine ⟨oks_append h.oks hz, fun hm => Nat.lt_irrefl _ (hlt' _ hm), ?_, ?_, by have := h.tot; simp at this ⊢; omega, ?_, fun b hb => List.getElem?_append_left (hlt' b hb)⟩
      · rw [List.append_nil]
        refine List.nodup_cons.2 ⟨?_, List.nodup_cons.2 ⟨fun hm => Nat.lt_irrefl _ (hlt' _ (List.mem_cons_of_mem _ hm)), (List.nodup_cons.1 hnd).2⟩⟩
        intro hm
        rcases List.mem_cons.1 hm with e | hm
        · have := hlt' 0 (List.mem_cons_self ..); omega
        · exact (List.nodup_cons.1 hnd).1 hm
      · intro b hb
        rw [List.append_nil] at hb
        rcases List.mem_cons.1 hb with rfl | hb
        · simp
        · rcases List.mem_cons.1 hb with rfl | hb
          · simp
          · have := hlt' b (List.mem_cons_of_mem _ hb); simp; omega
      · have h1 := h.tot
        simp at h1 ⊢; omega
  have hoky := hu2 y (List.mem_of_getElem? hy)
  have hu3 : Oks kn vn (xs2.set i { y with key := ks, val := vs }) := oks_set hu2 ⟨hk, hv, hko, hvo⟩
  have hl3 : (xs2.set i { y with key := ks, val := vs }).length = xs2.length := by simp
  have hne : ∀ b, b ∈ 0 :: ord → i ≠ b := fun b hb e => hin (e ▸ hb)
  have hring3 : Ring (xs2.set i { y with key := ks, val := vs }) ord := by
    refine Seg.congr _ (fun b hb => ?_) (fun b hb => ?_) h.ring
    · rw [olf_set_ne _ _ _ _ (hne b hb)]
      simp only [olf, hget b hb]
    · have hb' : b ∈ 0 :: ord := by
        rcases List.mem_append.1 hb with hb | hb
        · exact List.mem_cons_of_mem _ hb
        · simp at hb; rw [hb]; exact List.mem_cons_self ..
      rw [nwf_set_ne _ _ _ _ (hne b hb')]
      simp only [nwf, hget b hb']
  have hnd3 : (0 :: i :: ord).Nodup := by
    have : (0 :: i :: ord ++ fr2).Nodup := hnd
    exact (List.nodup_append.1 this).1
  have hf := hring3.first (i := i) hnd3 (fun b hb => by rw [hl3]; exact hlen2 b (by
    rcases List.mem_cons.1 hb with rfl | hb
    · exact List.mem_cons_self ..
    · exact List.mem_cons_of_mem _ (List.mem_append_left _ hb)))
  have ek : ∀ b, b ∈ ord → keyAt (firstL (xs2.set i { y with key := ks, val := vs }) i) b = keyAt xs b := fun b hb => by
    rw [keyAt_firstL, keyAt_set_ne _ _ _ _ (hne b (List.mem_cons_of_mem _ hb))]
    simp only [keyAt, hget b (List.mem_cons_of_mem _ hb)]
  have ev' : ∀ b, b ∈ ord → valAt (firstL (xs2.set i { y with key := ks, val := vs }) i) b = valAt xs b := fun b hb => by
    rw [valAt_firstL, valAt_set_ne _ _ _ _ (hne b (List.mem_cons_of_mem _ hb))]
    simp only [valAt, hget b (List.mem_cons_of_mem _ hb)]
  have eki : keyAt (firstL (xs2.set i { y with key := ks, val := vs }) i) i = ks := by rw [keyAt_firstL, keyAt_set_eq _ _ _ hi]
  have evi : valAt (firstL (xs2.set i { y with key := ks, val := vs }) i) i = vs := by rw [valAt_firstL, valAt_set_eq _ _ _ hi]
  refine ⟨⟨firstL_ok hu3 i, hf.1, hnd, fun b hb => by rw [firstL_len, hl3]; exact hlen2 b hb, ?_, ?_, ?_, ?_, ?_, ?_⟩, fun b hb => ⟨ek b hb, ev' b hb⟩, eki, evi⟩
  · have e3 : (i :: ord).map (fun b => (vv (keyAt (firstL (xs2.set i { y with key := ks, val := vs }) i) b), Value.int .i64 (b : Nat))) = (vv ks, Value.int .i64 (i : Nat)) :: ord.map fun b => (vv (keyAt xs b), Value.int .i64 (b : Nat)) := by
      rw [List.map_cons, eki]
      congr 1
      exact List.map_congr_left fun b hb => by rw [ek b hb]
    rw [e3, List.map_append]
    exact (List.perm_append_comm.trans (h.perm.cons _))
  · have e3 : (i :: ord).map (fun b => vv (keyAt (firstL (xs2.set i { y with key := ks, val := vs }) i) b)) = vv ks :: ord.map fun b => vv (keyAt xs b) := by
      rw [List.map_cons, eki]
      congr 1
      exact List.map_congr_left fun b hb => by rw [ek b hb]
    rw [e3]
    refine List.nodup_cons.2 ⟨fun hm => ?_, h.keys⟩
    obtain ⟨b, hb, he⟩ := List.mem_map.1 hm
    exact hnew b hb he
  · intro b hb
    rcases List.mem_cons.1 hb with rfl | hb
    · rw [eki]; exact hD
    · rw [ek b hb]; exact h.dk b hb
  · rw [firstL_len, hl3, htot]
    simp; omega
  · simp; omega
  · rw [firstL_len, hl3]; exact hlen
end
end Go.EL.Cache
