/- A cache against a plain list of its keys: the plain law. -/
import Derived.Test.YtpakklmkajjodaaDoorCMod5
namespace Go.EL.Cache
open Go Go.EL
structure Use where
  key : ByteArray
  val : Int
  put : Bool
def Use.enc (u : Use) : List Value := [.string u.key, .int .i64 u.val, .bool u.put]
theorem Use.uni (us : List Use) : Uni Use.enc 3 us := fun _ _ => rfl
abbrev kS (s : ByteArray) : List Value := [.string s]
theorem kS_inj {a b : ByteArray} : kS a = kS b ↔ a = b := by simp [kS]
/-- the cache's keys are these -/
def KeysAre (kk : List ByteArray) (th : Th) : Prop := th.map (·.1) = kk.map kS
def Ints (th : Th) : Prop := ∀ p, p ∈ th → ∃ n, p.2 = [.int .i64 n]
theorem KeysAre.len {kk : List ByteArray} {th : Th} (h : KeysAre kk th) : th.length = kk.length := by
  have := congrArg List.length h
  simpa using this
theorem lk_some_mem {k v : List Value} : ∀ {th : Th}, lk k th = some v → (k, v) ∈ th
  | [], h => by cases h
  | (a, b) :: th, h => by
    by_cases ha : a = k
    · subst ha
      rw [lk_eq] at h
      obtain rfl := Option.some.inj h
      exact List.mem_cons_self ..
    · rw [lk_ne ha] at h
      exact List.mem_cons_of_mem _ (lk_some_mem h)
theorem lk_none_iff {k : List Value} : ∀ {th : Th}, lk k th = none ↔ k ∉ th.map (·.1)
  | [] => by simp [lk_nil]
  | (a, b) :: th => by
    by_cases ha : a = k
    · subst ha
      simp [lk_eq]
    · rw [lk_ne ha, lk_none_iff (th := th)]
      simp only [List.map_cons, List.mem_cons, not_or]
      exact ⟨fun h => ⟨fun e => ha e.symm, h⟩, fun h => h.2⟩
theorem KeysAre.miss {kk : List ByteArray} {th : Th} (h : KeysAre kk th) {s : ByteArray} (hs : s ∉ kk) : lk (kS s) th = none := by
  rw [lk_none_iff, h]
  intro hm
  obtain ⟨t, ht, he⟩ := List.mem_map.1 hm
  rw [kS_inj] at he
  subst he
  exact hs ht
theorem KeysAre.hit {kk : List ByteArray} {th : Th} (h : KeysAre kk th) (hi : Ints th) {s : ByteArray} (hs : s ∈ kk) : ∃ n, lk (kS s) th = some [.int .i64 n] := by
  cases hl : lk (kS s) th with
  | none =>
    rw [lk_none_iff, h] at hl
    exact absurd (List.mem_map.2 ⟨s, hs, rfl⟩) hl
  | some v =>
    obtain ⟨n, hn⟩ := hi _ (lk_some_mem hl)
    exact ⟨n, by rw [show v = [.int .i64 n] from hn]⟩
/-- without the key at a -/
theorem del_keys {s : ByteArray} : ∀ {kk : List ByteArray} {th : Th} {a : Nat}, KeysAre kk th → kk.Nodup → kk[a]? = some s → KeysAre (kk.eraseIdx a) (del (kS s) th)
  | [], _, _, _, _, h => by cases h
  | t :: kk, [], _, h, _, _ => by simp [KeysAre] at h
  | t :: kk, (b, v) :: th, a, h, hn, ha => by
    simp only [KeysAre, List.map_cons, List.cons.injEq] at h
    obtain ⟨rfl, h⟩ := h
    simp only [List.nodup_cons] at hn
    cases a with
    | zero =>
      simp only [List.getElem?_cons_zero, Option.some.injEq] at ha
      subst ha
      rw [del_eq, List.eraseIdx_cons_zero]
      have : del (kS t) th = th := del_none fun p hp e => hn.1 (by
        have : p.1 ∈ th.map (·.1) := List.mem_map.2 ⟨p, hp, rfl⟩
        rw [h, e] at this
        obtain ⟨u, hu, he⟩ := List.mem_map.1 this
        rw [kS_inj] at he
        subst he
        exact hu)
      rw [this]
      exact h
    | succ a =>
      simp only [List.getElem?_cons_succ] at ha
      have hne : kS t ≠ kS s := fun e => hn.1 (by
        rw [kS_inj] at e
        subst e
        exact List.mem_of_getElem? ha)
      rw [del_ne hne, List.eraseIdx_cons_succ]
      simp only [KeysAre, List.map_cons, List.cons.injEq, true_and]
      exact del_keys h hn.2 ha
theorem Ints.del {th : Th} (h : Ints th) (k : List Value) : Ints (del k th) := fun p hp => h p (List.mem_filter.1 hp).1
theorem Ints.cons {th : Th} (h : Ints th) (k : List Value) (n : Int) : Ints ((k, [.int .i64 n]) :: th) := fun p hp => by
  rcases List.mem_cons.1 hp with rfl | hp
  · exact ⟨n, rfl⟩
  · exact h p hp
theorem KeysAre.cons {kk : List ByteArray} {th : Th} (h : KeysAre kk th) (s : ByteArray) (v : List Value) : KeysAre (s :: kk) ((kS s, v) :: th) := by
  simp only [KeysAre, List.map_cons, List.cons.injEq, true_and]
  exact h
/-- what the list becomes: the key, then the others, no more than the cache may hold -/
def nxt (kk : List ByteArray) (a most : Nat) (s : ByteArray) : List ByteArray := s :: (kk.eraseIdx a).take (most - 1)
theorem eraseIdx_take_prefix (kk : List ByteArray) (a k : Nat) : ((kk.take k).eraseIdx a) <+: kk.eraseIdx a := by
  by_cases hk : k ≤ kk.length
  · conv => rhs; rw [← List.take_append_drop k kk]
    rcases Nat.lt_or_ge a k with h | h
    · rw [List.eraseIdx_append_of_lt_length (by rw [List.length_take]; omega)]
      exact List.prefix_append _ _
    · rw [List.eraseIdx_append_of_length_le (by rw [List.length_take]; omega), List.eraseIdx_of_length_le (by rw [List.length_take]; omega)]
      exact List.prefix_append _ _
  · rw [List.take_of_length_le (by omega)]
    exact List.prefix_refl _
/-- the loop that builds it has come to its end -/
theorem nxt_of {kk : List ByteArray} {a most k : Nat} (s : ByteArray) (h : ((kk.take k).eraseIdx a).length + 1 ≤ most) (he : kk.length ≤ k ∨ ((kk.take k).eraseIdx a).length + 1 = most) : s :: (kk.take k).eraseIdx a = nxt kk a most s := by
  unfold nxt
  congr 1
  rcases he with he | he
  · rw [List.take_of_length_le he] at h ⊢
    rw [List.take_of_length_le (by omega)]
  · rw [show most - 1 = ((kk.take k).eraseIdx a).length by omega]
    exact List.prefix_iff_eq_take.1 (eraseIdx_take_prefix kk a k)
/-- one step of it -/
theorem take_step {kk : List ByteArray} {k : Nat} {t : ByteArray} (ht : kk[k]? = some t) (a : Nat) : (kk.take (k + 1)).eraseIdx a = if k = a then (kk.take k).eraseIdx a else (kk.take k).eraseIdx a ++ (if k < a ∨ a < k then [t] else []) := by
  have hk : k < kk.length := (List.getElem?_eq_some_iff.1 ht).1
  have e : kk.take (k + 1) = kk.take k ++ [t] := by rw [List.take_add_one, ht]; rfl
  rw [e]
  by_cases h : k = a
  · subst h
    rw [if_pos rfl, List.eraseIdx_append_of_length_le (by rw [List.length_take]; omega), List.eraseIdx_of_length_le (l := kk.take k) (by rw [List.length_take]; omega)]
    have : k - (kk.take k).length = 0 := by rw [List.length_take]; omega
    rw [this]
    simp
  · rw [if_neg h, if_pos (by omega)]
    rcases Nat.lt_or_ge a k with h2 | h2
    · rw [List.eraseIdx_append_of_lt_length (by rw [List.length_take]; omega)]
    · rw [List.eraseIdx_of_length_le (by simp; omega), List.eraseIdx_of_length_le (by simp; omega)]
theorem lk_get {k v : List Value} {th : Th} (h : lk k th = some v) (k' : List Value) : lk k' ((k, v) :: del k th) = lk k' th := by
  by_cases hk : k = k'
  · subst hk; rw [lk_eq, h]
  · rw [lk_ne hk, lk_del_ne hk]
theorem nxt_hit {kk : List ByteArray} {a n : Nat} {s : ByteArray} (ha : kk[a]? = some s) (hn : kk.length ≤ n) : nxt kk a n s = s :: kk.eraseIdx a := by
  have hlt := (List.getElem?_eq_some_iff.1 ha).1
  unfold nxt
  rw [List.take_of_length_le (by rw [List.length_eraseIdx_of_lt hlt]; omega)]
theorem nxt_new {kk : List ByteArray} {n : Nat} {s : ByteArray} (hn : kk.length < n) : nxt kk kk.length n s = s :: kk := by
  unfold nxt
  rw [List.eraseIdx_of_length_le (Nat.le_refl _), List.take_of_length_le (by omega)]
theorem nxt_full {kt : List ByteArray} {n : Nat} {s t : ByteArray} (hn : kt.length + 1 = n) : nxt (kt ++ [t]) (kt ++ [t]).length n s = s :: kt := by
  unfold nxt
  rw [List.eraseIdx_of_length_le (Nat.le_refl _), List.take_append_of_le_length (by omega), List.take_of_length_le (by omega)]
theorem KeysAre.snoc {kk : List ByteArray} {tl : Th} {k0 v0 : List Value} (h : KeysAre kk (tl ++ [(k0, v0)])) : ∃ kt t, kk = kt ++ [t] ∧ k0 = kS t ∧ KeysAre kt tl := by
  unfold KeysAre at h
  rw [List.map_append] at h
  obtain ⟨l1, l2, rfl, h1, h2⟩ := List.map_eq_append_iff.1 h.symm
  simp only [List.map_cons, List.map_nil] at h2
  match l2, h2 with
  | [t], h2 =>
    simp only [List.map_cons, List.map_nil, List.cons.injEq, and_true] at h2
    exact ⟨l1, t, rfl, h2.symm, h1.symm⟩
theorem KeysAre.nodup {kk : List ByteArray} {th : Th} (h : KeysAre kk th) (hn : (th.map (·.1)).Nodup) : kk.Nodup := by
  rw [h] at hn
  exact List.Pairwise.of_map kS (fun a b hab e => hab (by rw [e])) hn
/-- the place of the key, -1 where it isn't there -/
def PlaceIs (kk : List ByteArray) (s : ByteArray) (z : Int) (a : Nat) : Prop := (z = -1 ∧ a = kk.length ∧ s ∉ kk) ∨ (z = a ∧ kk[a]? = some s)
/-- the last thing put is there -/
def Last (us : List Use) (n i last : Nat) (th : Th) : Prop := (last = 0 ∨ last < i) ∧ (last < i → ∀ u, us[last]? = some u → u.put = true → 0 < n → lk (kS u.key) th = some [.int .i64 u.val])
theorem Last.get {us : List Use} {n i last : Nat} {th th' : Th} {u : Use} (h : Last us n i last th) (hu : us[i]? = some u) (hp : u.put = false) (he : ∀ k, lk k th' = lk k th) : Last us n (i + 1) last th' := by
  refine ⟨by rcases h.1 with h1 | h1 <;> omega, fun hl w hw hwp hn => ?_⟩
  rw [he]
  rcases h.1 with h1 | h1
  · by_cases hi : last < i
    · exact h.2 hi w hw hwp hn
    · have : last = i := by omega
      subst this
      rw [hu] at hw
      obtain rfl := Option.some.inj hw
      rw [hp] at hwp; cases hwp
  · exact h.2 h1 w hw hwp hn
theorem Last.put {us : List Use} {n i : Nat} {th : Th} {u : Use} (hu : us[i]? = some u) (h : 0 < n → lk (kS u.key) th = some [.int .i64 u.val]) : Last us n (i + 1) i th := by
  refine ⟨.inr (by omega), fun _ w hw _ hn => ?_⟩
  rw [hu] at hw
  obtain rfl := Option.some.inj hw
  exact h hn
end Go.EL.Cache
