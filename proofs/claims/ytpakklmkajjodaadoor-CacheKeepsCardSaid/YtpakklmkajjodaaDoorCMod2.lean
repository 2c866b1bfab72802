/- The ring of a cache's things: who stands next to whom. -/
import Derived.Test.YtpakklmkajjodaaDoorCMod
namespace Go.EL.Cache
open Go Go.EL

/-- from a on: the list l, then z -/
def Seg (ol nw : Nat → Nat) : Nat → List Nat → Nat → Prop
  | a, [], z => ol a = z ∧ nw z = a
  | a, b :: r, z => ol a = b ∧ nw b = a ∧ Seg ol nw b r z
theorem Seg.split {ol nw : Nat → Nat} : ∀ {a z i : Nat} (xs : List Nat) {ys : List Nat}, Seg ol nw a (xs ++ i :: ys) z ↔ Seg ol nw a xs i ∧ Seg ol nw i ys z
  | a, z, i, [], ys => by simp [Seg, and_assoc]
  | a, z, i, x :: xs, ys => by simp only [List.cons_append, Seg, Seg.split xs, and_assoc]
/-- only the places named count -/
theorem Seg.congr {ol nw ol' nw' : Nat → Nat} : ∀ {a z : Nat} (xs : List Nat), (∀ b, b ∈ a :: xs → ol' b = ol b) → (∀ b, b ∈ xs ++ [z] → nw' b = nw b) → Seg ol nw a xs z → Seg ol' nw' a xs z
  | a, z, [], h1, h2, h => ⟨(h1 a (by simp)).trans h.1, (h2 z (by simp)).trans h.2⟩
  | a, z, b :: r, h1, h2, h => ⟨(h1 a (by simp)).trans h.1, (h2 b (by simp)).trans h.2.1, Seg.congr r (fun c hc => h1 c (List.mem_cons_of_mem _ hc)) (fun c hc => h2 c (by simp only [List.cons_append]; exact List.mem_cons_of_mem _ hc)) h.2.2⟩
theorem Seg.head {ol nw : Nat → Nat} {a z : Nat} {xs : List Nat} (h : Seg ol nw a xs z) : ol a = (xs ++ [z]).head (by simp) := by
  cases xs <;> exact h.1
/-- the last one -/
def lastOf (a : Nat) : List Nat → Nat
  | [] => a
  | b :: r => lastOf b r
theorem lastOf_mem (a : Nat) : ∀ l : List Nat, lastOf a l ∈ a :: l
  | [] => by simp [lastOf]
  | b :: r => by
    simp only [lastOf]
    exact List.mem_cons_of_mem _ (lastOf_mem b r)
theorem lastOf_append (a : Nat) : ∀ (l : List Nat) (b : Nat), lastOf a (l ++ [b]) = b
  | [], b => rfl
  | x :: l, b => by simp only [List.cons_append, lastOf, lastOf_append x l b]
theorem Seg.last {ol nw : Nat → Nat} : ∀ {a z : Nat} {xs : List Nat}, Seg ol nw a xs z → nw z = lastOf a xs ∧ ol (lastOf a xs) = z
  | _, _, [], h => ⟨h.2, h.1⟩
  | _, _, _ :: _, h => h.2.2.last
/-- the last link turned -/
theorem Seg.relast {ol nw : Nat → Nat} {a z z' : Nat} (ol' nw' : Nat → Nat) : ∀ {xs : List Nat}, Seg ol nw a xs z → (a :: xs).Nodup → (∀ b, b ∈ a :: xs → b ≠ lastOf a xs → ol' b = ol b) → ol' (lastOf a xs) = z' → (∀ b, b ∈ xs → nw' b = nw b) → nw' z' = lastOf a xs → Seg ol' nw' a xs z' := by
  intro xs
  induction xs generalizing a with
  | nil => intro h _ _ h2 _ h4; exact ⟨h2, h4⟩
  | cons b r ih =>
    intro h hn h1 h2 h3 h4
    have hne : a ≠ lastOf b r := by
      intro e
      have := lastOf_mem b r
      rw [← e] at this
      exact (List.nodup_cons.1 hn).1 this
    refine ⟨(h1 a (by simp) hne).trans h.1, (h3 b (by simp)).trans h.2.1, ih h.2.2 (List.nodup_cons.1 hn).2 (fun c hc => h1 c (List.mem_cons_of_mem _ hc)) h2 (fun c hc => h3 c (List.mem_cons_of_mem _ hc)) h4⟩

theorem olf_setO (xs : List It) (a v b : Nat) (ha : a < xs.length) : olf (setO xs a v) b = if a = b then v else olf xs b := by
  simp only [olf, setO_get]
  by_cases h : a = b
  · subst h
    rw [List.getElem?_eq_getElem ha]
    simp
  · simp only [if_neg h]
    cases xs[b]? <;> rfl
theorem nwf_setO (xs : List It) (a v b : Nat) : nwf (setO xs a v) b = nwf xs b := by
  simp only [nwf, setO_get]
  cases xs[b]? with
  | none => rfl
  | some x => simp only [Option.map_some]; split <;> rfl
theorem nwf_setN (xs : List It) (a v b : Nat) (ha : a < xs.length) : nwf (setN xs a v) b = if a = b then v else nwf xs b := by
  simp only [nwf, setN_get]
  by_cases h : a = b
  · subst h
    rw [List.getElem?_eq_getElem ha]
    simp
  · simp only [if_neg h]
    cases xs[b]? <;> rfl
theorem olf_setN (xs : List It) (a v b : Nat) : olf (setN xs a v) b = olf xs b := by
  simp only [olf, setN_get]
  cases xs[b]? with
  | none => rfl
  | some x => simp only [Option.map_some]; split <;> rfl

/-- the ring of the places ord, 0 its own -/
def Ring (xs : List It) (ord : List Nat) : Prop := Seg (olf xs) (nwf xs) 0 ord 0

def keyAt (xs : List It) (i : Nat) : List Value := match xs[i]? with
  | some x => x.key
  | none => []
def valAt (xs : List It) (i : Nat) : List Value := match xs[i]? with
  | some x => x.val
  | none => []
theorem keys_uni {kn vn : Nat} {xs : List It} {ord as : List Nat} (hu : Oks kn vn xs) (hr : ∀ b, b ∈ 0 :: ord → b < xs.length) (hs : ∀ i, i ∈ as → i ∈ ord) : Uni (id : List Value → List Value) kn (as.map (keyAt xs)) := by
  intro ks hk
  obtain ⟨i, hi, rfl⟩ := List.mem_map.1 hk
  have hlt := hr i (List.mem_cons_of_mem _ (hs i hi))
  have : xs[i]? = some xs[i] := List.getElem?_eq_getElem hlt
  simp only [keyAt, this, id]
  exact (hu _ (List.mem_of_getElem? this)).k
theorem fill_one {zs ks : List Value} {k : Nat} (hz : zs.length = k) (hk : ks.length = k) (ho : ones ks = true) : fillL (fun i => some (i * k, k)) ((List.replicate 1 zs).flatten) [(0, vv ks)] = some ks := by
  have e1 : (vv ks).cells.size = k := by rw [vv_cells ho]; exact hk
  have e2 : (List.replicate 1 zs).flatten = zs := by simp
  have e3 : Nat.blt zs.length (0 * k + k) = false := by
    cases hb : Nat.blt zs.length (0 * k + k) with
    | false => rfl
    | true => simp at hb; omega
  simp only [fillL, e1, e2, Nat.beq_self, e3, Bool.not_true, Bool.or_false, cond_false]
  rw [vv_cells ho]
  simp [← hz]
theorem Ring.out {xs : List It} {as bs : List Nat} {i : Nat} (h : Ring xs (as ++ i :: bs)) (hn : (0 :: (as ++ i :: bs)).Nodup) (hr : ∀ b, b ∈ 0 :: (as ++ i :: bs) → b < xs.length) :
    Ring (outL xs i) (as ++ bs) ∧ nwf xs i < xs.length ∧ olf xs i < xs.length := by
  obtain ⟨h1, h2⟩ := Seg.split as |>.1 h
  have hj := h1.last
  have hjm := lastOf_mem 0 as
  have hnd := hn
  rw [List.nodup_cons, List.nodup_append, List.nodup_cons] at hnd
  obtain ⟨h0, has, ⟨hib, hbs⟩, hd⟩ := hnd
  have h0as : 0 ∉ as := fun hm => h0 (List.mem_append_left _ hm)
  have h0i : (0 : Nat) ≠ i := fun e => h0 (by simp [e])
  have h0bs : 0 ∉ bs := fun hm => h0 (List.mem_append_right _ (List.mem_cons_of_mem _ hm))
  have hjlt : nwf xs i < xs.length := by
    rw [hj.1]
    refine hr _ ?_
    rcases List.mem_cons.1 hjm with e | hm
    · rw [e]; exact List.mem_cons_self ..
    · exact List.mem_cons_of_mem _ (List.mem_append_left _ hm)
  have hk : olf xs i = (bs ++ [0]).head (by simp) := h2.head
  have hkm : olf xs i ∈ bs ++ [0] := by rw [hk]; exact List.head_mem _
  have hklt : olf xs i < xs.length := by
    refine hr _ ?_
    rcases List.mem_append.1 hkm with hm | hm
    · exact List.mem_cons_of_mem _ (List.mem_append_right _ (List.mem_cons_of_mem _ hm))
    · simp at hm; rw [hm]; exact List.mem_cons_self ..
  refine ⟨?_, hjlt, hklt⟩
  have eo : ∀ b, olf (outL xs i) b = if nwf xs i = b then olf xs i else olf xs b := fun b => by
    simp only [outL, olf_setN]
    exact olf_setO xs _ _ b hjlt
  have en : ∀ b, nwf (outL xs i) b = if olf xs i = b then nwf xs i else nwf xs b := fun b => by
    simp only [outL]
    rw [nwf_setN _ _ _ _ (by rw [setO_len]; exact hklt), nwf_setO]
  have hni : nwf xs i ∉ i :: bs := by
    rw [hj.1]
    intro hm
    rcases List.mem_cons.1 hjm with e | hma
    · rw [e] at hm
      rcases List.mem_cons.1 hm with e2 | hm
      · exact h0i e2
      · exact h0bs hm
    · exact hd _ hma _ hm rfl
  -- the part behind i
  have part2 : ∀ j, nwf (outL xs i) (olf xs i) = j → j = nwf xs i → Seg (olf (outL xs i)) (nwf (outL xs i)) 0 (as ++ bs) 0 := by
    intro j _ _
    cases bs with
    | nil =>
      simp only [List.append_nil]
      have hz : olf xs i = 0 := h2.1
      refine Seg.relast _ _ h1 (by rw [List.nodup_cons]; exact ⟨h0as, has⟩) (fun b hb hne => ?_) ?_ (fun b hb => ?_) ?_
      · rw [eo, if_neg (by rw [hj.1]; exact fun e => hne e.symm)]
      · rw [eo, ← hj.1, if_pos rfl, hz]
      · rw [en, hz, if_neg (fun e => h0as (by rw [e]; exact hb))]
      · rw [en, hz, if_pos rfl, hj.1]
    | cons b r =>
      have hb : olf xs i = b := h2.1
      refine (Seg.split as).2 ⟨?_, ?_⟩
      · refine Seg.relast _ _ h1 (by rw [List.nodup_cons]; exact ⟨h0as, has⟩) (fun c hc hne => ?_) ?_ (fun c hc => ?_) ?_
        · rw [eo, if_neg (by rw [hj.1]; exact fun e => hne e.symm)]
        · rw [eo, ← hj.1, if_pos rfl, hb]
        · rw [en, hb, if_neg (fun e => hd _ hc b (by simp) e.symm)]
        · rw [en, hb, if_pos rfl, hj.1]
      · refine Seg.congr r (fun c hc => ?_) (fun c hc => ?_) h2.2.2
        · rw [eo, if_neg]
          intro e
          exact hni (by rw [e]; exact List.mem_cons_of_mem _ hc)
        · rw [en, hb, if_neg]
          intro e
          rcases List.mem_append.1 hc with hm | hm
          · rw [← e] at hm; exact (List.nodup_cons.1 hbs).1 hm
          · simp at hm
            rw [← e] at hm
            exact h0bs (by rw [← hm]; exact List.mem_cons_self ..)
  exact part2 _ rfl (by rw [en, if_pos rfl])

theorem Ring.first {xs : List It} {ord : List Nat} {i : Nat} (h : Ring xs ord) (hn : (0 :: i :: ord).Nodup) (hr : ∀ b, b ∈ 0 :: i :: ord → b < xs.length) : Ring (firstL xs i) (i :: ord) ∧ olf xs 0 < xs.length := by
  rw [List.nodup_cons, List.nodup_cons] at hn
  obtain ⟨h0, hi, hord⟩ := hn
  have h0i : (0 : Nat) ≠ i := fun e => h0 (by simp [e])
  have h0o : 0 ∉ ord := fun hm => h0 (List.mem_cons_of_mem _ hm)
  have hk : olf xs 0 = (ord ++ [0]).head (by simp) := Seg.head h
  have hkm : olf xs 0 ∈ ord ++ [0] := by rw [hk]; exact List.head_mem _
  have hklt : olf xs 0 < xs.length := by
    refine hr _ ?_
    rcases List.mem_append.1 hkm with hm | hm
    · exact List.mem_cons_of_mem _ (List.mem_cons_of_mem _ hm)
    · simp at hm; rw [hm]; exact List.mem_cons_self ..
  refine ⟨?_, hklt⟩
  have hil : i < xs.length := hr i (by simp)
  have h0l : 0 < xs.length := hr 0 (by simp)
  have eo : ∀ b, olf (firstL xs i) b = if 0 = b then i else if i = b then olf xs 0 else olf xs b := fun b => by
    simp only [firstL]
    rw [olf_setO _ _ _ _ (by simp [setN_len, setO_len]; exact h0l), olf_setN, olf_setO _ _ _ _ (by simp [setN_len]; exact hil), olf_setN]
  have en : ∀ b, nwf (firstL xs i) b = if olf xs 0 = b then i else if i = b then 0 else nwf xs b := fun b => by
    simp only [firstL]
    rw [nwf_setO, nwf_setN _ _ _ _ (by simp [setN_len, setO_len]; exact hklt), nwf_setO, nwf_setN _ _ _ _ hil]
  have hki : olf xs 0 ≠ i := fun e => by
    rcases List.mem_append.1 hkm with hm | hm
    · exact hi (e ▸ hm)
    · simp at hm; exact h0i (hm.symm.trans e)
  refine ⟨by rw [eo, if_pos rfl], by rw [en, if_neg hki, if_pos rfl], ?_⟩
  cases ord with
  | nil =>
    have hz : olf xs 0 = 0 := h.1
    exact ⟨by rw [eo, if_neg h0i, if_pos rfl, hz], by rw [en, hz, if_pos rfl]⟩
  | cons b r =>
    have hb : olf xs 0 = b := h.1
    refine ⟨by rw [eo, if_neg h0i, if_pos rfl, hb], by rw [en, hb, if_pos rfl], ?_⟩
    refine Seg.congr r (fun c hc => ?_) (fun c hc => ?_) h.2.2
    · rw [eo, if_neg (fun e => h0o (by rw [e]; exact hc)), if_neg (fun e => hi (by rw [e]; exact hc))]
    · rw [en, hb, if_neg, if_neg]
      · intro e
        rcases List.mem_append.1 hc with hm | hm
        · exact hi (by rw [e]; exact List.mem_cons_of_mem _ hm)
        · simp at hm; exact h0i (hm.symm.trans e.symm)
      · intro e
        rcases List.mem_append.1 hc with hm | hm
        · rw [← e] at hm; exact (List.nodup_cons.1 hord).1 hm
        · simp at hm; rw [hm] at e; exact h0o (by rw [← e]; exact List.mem_cons_self ..)
/-- what the full cache lets go -/
def Made (z : It) (xs : List It) (es : List MapEntry) (fr : List Nat) (most : Int) (xs1 : List It) (es1 : List MapEntry) (fr1 : List Nat) (gone : Value) (was : Bool) : Prop :=
  ((es.length : Int) ≠ most ∧ xs1 = xs ∧ es1 = es ∧ fr1 = fr ∧ gone = vv z.key ∧ was = false) ∨
  ((es.length : Int) = most ∧ ∃ (i : Nat) (x : It) (j : Nat) (en : MapEntry), i = nwf xs 0 ∧ xs[i]? = some x ∧ es[j]? = some en ∧ vv x.key = en.key ∧ xs1 = (outL xs i).set i z ∧ es1 = es.eraseIdx j ∧ fr1 = fr ++ [i] ∧ gone = vv x.key ∧ was = true)
/-- where the new thing goes -/
def Room (z : It) (xs : List It) (fr : List Nat) (i : Nat) (xs2 : List It) (fr2 : List Nat) : Prop :=
  (fr = fr2 ++ [i] ∧ xs2 = xs) ∨ (fr = [] ∧ fr2 = [] ∧ i = xs.length ∧ xs2 = xs ++ [z])
end Go.EL.Cache
