/- A cache, as its callers see it: its things, the newest first. -/
import Derived.Test.YtpakklmkajjodaaDoorCMod3
namespace Go.EL.Cache
open Go Go.EL

abbrev Th := List (List Value × List Value)
open Classical in
noncomputable def lk (k : List Value) (th : Th) : Option (List Value) := (th.find? fun p => decide (p.1 = k)).map (·.2)
open Classical in
noncomputable def del (k : List Value) (th : Th) : Th := th.filter fun p => decide (p.1 ≠ k)

theorem vv_inj {a b : List Value} (hl : a.length = b.length) (h : vv a = vv b) : a = b := by
  by_cases h1 : a.length = 1
  · match a, b, h1, hl with
    | [x], [y], _, _ => simpa [vv] using h
  · rw [vv_agg h1, vv_agg (by omega)] at h
    simpa using h
def kv (xs : List It) (i : Nat) : List Value × List Value := (keyAt xs i, valAt xs i)
def things (xs : List It) (ord : List Nat) : Th := ord.map (kv xs)

theorem lk_none {k : List Value} {th : Th} (h : ∀ p, p ∈ th → p.1 ≠ k) : lk k th = none := by
  simp only [lk, Option.map_eq_none_iff, List.find?_eq_none]
  intro p hp
  simpa using h p hp
theorem del_none {k : List Value} {th : Th} (h : ∀ p, p ∈ th → p.1 ≠ k) : del k th = th := by
  simp only [del, List.filter_eq_self]
  intro p hp
  simpa using h p hp
open Classical in
theorem lk_mid {k v : List Value} {a b : Th} (ha : ∀ p, p ∈ a → p.1 ≠ k) : lk k (a ++ (k, v) :: b) = some v := by
  simp only [lk, List.find?_append]
  have : a.find? (fun p => decide (p.1 = k)) = none := by
    rw [List.find?_eq_none]
    intro p hp
    simpa using ha p hp
  rw [this]
  simp
open Classical in
theorem del_mid {k v : List Value} {a b : Th} (ha : ∀ p, p ∈ a → p.1 ≠ k) (hb : ∀ p, p ∈ b → p.1 ≠ k) : del k (a ++ (k, v) :: b) = a ++ b := by
  have h1 := del_none ha
  have h2 := del_none hb
  simp only [del, List.filter_append, List.filter_cons] at *
  rw [h1]
  simp
  exact fun a b' hab => hb _ hab

theorem lk_nil (k : List Value) : lk k [] = none := rfl
theorem lk_eq (k v : List Value) (th : Th) : lk k ((k, v) :: th) = some v := lk_mid (a := []) (fun _ h => by cases h)
open Classical in
theorem lk_ne {k k' : List Value} (h : k' ≠ k) (v : List Value) (th : Th) : lk k ((k', v) :: th) = lk k th := by
  simp [lk, h]
theorem del_nil (k : List Value) : del k [] = [] := rfl
open Classical in
theorem del_eq (k v : List Value) (th : Th) : del k ((k, v) :: th) = del k th := by simp [del]
open Classical in
theorem del_ne {k k' : List Value} (h : k' ≠ k) (v : List Value) (th : Th) : del k ((k', v) :: th) = (k', v) :: del k th := by simp [del, h]

section
variable {kn vn : Nat} {D : Value → Prop} {most : Nat} {xs : List It} {es : List MapEntry} {ord fr : List Nat}
theorem CI.keyLen (h : CI kn vn D most xs es ord fr) {i : Nat} (hi : i ∈ ord) : (keyAt xs i).length = kn := by
  obtain ⟨x, hx, hok⟩ := h.get (i := i) (List.mem_cons_of_mem _ (List.mem_append_left _ hi))
  rw [keyAt_of hx]
  exact hok.k
theorem CI.hitKey {la lb : List Nat} {i : Nat} (h : CI kn vn D most xs es (la ++ i :: lb) fr) : (∀ p, p ∈ things xs la → p.1 ≠ keyAt xs i) ∧ (∀ p, p ∈ things xs lb → p.1 ≠ keyAt xs i) := by
  have hk := h.keys
  rw [List.map_append, List.map_cons, List.nodup_append, List.nodup_cons] at hk
  refine ⟨fun p hp e => ?_, fun p hp e => ?_⟩
  · obtain ⟨b, hb, rfl⟩ := List.mem_map.1 hp
    exact hk.2.2 _ (List.mem_map.2 ⟨b, hb, rfl⟩) _ (List.mem_cons_self ..) (by simp only [kv] at e; rw [e])
  · obtain ⟨b, hb, rfl⟩ := List.mem_map.1 hp
    exact hk.2.1.1 (List.mem_map.2 ⟨b, hb, by simp only [kv] at e; rw [e]⟩)
theorem CI.hit {la lb : List Nat} {i : Nat} (h : CI kn vn D most xs es (la ++ i :: lb) fr) : lk (keyAt xs i) (things xs (la ++ i :: lb)) = some (valAt xs i) ∧ del (keyAt xs i) (things xs (la ++ i :: lb)) = things xs (la ++ lb) := by
  obtain ⟨ha, hb⟩ := h.hitKey
  have e : things xs (la ++ i :: lb) = things xs la ++ (keyAt xs i, valAt xs i) :: things xs lb := by simp [things, kv]
  rw [e, lk_mid ha, del_mid ha hb]
  exact ⟨rfl, by simp [things]⟩
theorem CI.miss (_h : CI kn vn D most xs es ord fr) {ks : List Value} (hm : ∀ i, i ∈ ord → vv (keyAt xs i) ≠ vv ks) : lk ks (things xs ord) = none ∧ del ks (things xs ord) = things xs ord := by
  have : ∀ p, p ∈ things xs ord → p.1 ≠ ks := fun p hp e => by
    obtain ⟨b, hb, rfl⟩ := List.mem_map.1 hp
    exact hm b hb (by simp only [kv] at e; rw [e])
  exact ⟨lk_none this, del_none this⟩
theorem things_congr {xs ys : List It} {ord : List Nat} (h : ∀ b, b ∈ ord → keyAt ys b = keyAt xs b ∧ valAt ys b = valAt xs b) : things ys ord = things xs ord :=
  List.map_congr_left fun b hb => by simp only [kv, (h b hb).1, (h b hb).2]
theorem CI.last (h : CI kn vn D most xs es ord fr) (hne : ord ≠ []) : ∃ la, ord = la ++ [nwf xs 0] := by
  have h1 := (Seg.last h.ring).1
  obtain ⟨la, i, rfl⟩ : ∃ la i, ord = la ++ [i] := ⟨_, _, (List.dropLast_concat_getLast hne).symm⟩
  rw [lastOf_append] at h1
  exact ⟨la, by rw [h1]⟩
end

/-- the cache at c, in these blocks -/
def CAt (Tc Ti Tn : TypeId) (kn vn : Nat) (D : Value → Prop) (most : Nat) (th : Th) (c : Nat) (H : Hp) : Prop :=
  ∃ m l cap fv xs sp es clk ord fr Hf, most ≤ 1024 ∧ CI kn vn D most xs es ord fr ∧ th = things xs ord ∧ Vec Tn 1 (fun i : Nat => [Value.int .i64 i]) fr fv Hf ∧ xs.length ≤ cap ∧ cap ≤ maxLen ∧ sp.length = (cap - xs.length) * (kn + vn + 2) ∧
    H = (c, row [.int .i64 most, .map (some m), .slice (some ⟨l, 0, none⟩) xs.length cap, fv] Tc) :: (l, row (xs.flatMap It.cells ++ sp) Ti) :: (m, .map ⟨es⟩ clk) :: Hf
theorem CAt.le {Tc Ti Tn : TypeId} {kn vn : Nat} {D : Value → Prop} {most : Nat} {th : Th} {c : Nat} {H : Hp} (h : CAt Tc Ti Tn kn vn D most th c H) : th.length ≤ most ∧ most ≤ 1024 := by
  obtain ⟨m, l, cap, fv, xs, sp, es, clk, ord, fr, Hf, hm, hci, rfl, _⟩ := h
  exact ⟨by simpa [things] using hci.mst, hm⟩
theorem CAt.ok {Tc Ti Tn : TypeId} {kn vn : Nat} {D : Value → Prop} {most : Nat} {th : Th} {c : Nat} {H : Hp} (h : CAt Tc Ti Tn kn vn D most th c H) : (th.map (·.1)).Nodup ∧ ∀ p, p ∈ th → p.1.length = kn ∧ p.2.length = vn ∧ ones p.1 = true ∧ ones p.2 = true ∧ D (vv p.1) := by
  obtain ⟨m, l, cap, fv, xs, sp, es, clk, ord, fr, Hf, hm, hci, rfl, _⟩ := h
  refine ⟨?_, fun p hp => ?_⟩
  · have h1 := hci.keys
    have e : (things xs ord).map (·.1) = ord.map (keyAt xs) := by simp [things, kv]
    rw [e]
    have h2 : (ord.map fun i => vv (keyAt xs i)) = (ord.map (keyAt xs)).map vv := by simp
    rw [h2] at h1
    exact List.Pairwise.of_map vv (fun a b hab e => hab (by rw [e])) h1
  · obtain ⟨i, hi, rfl⟩ := List.mem_map.1 hp
    obtain ⟨x, hx, hok⟩ := hci.get (i := i) (List.mem_cons_of_mem _ (List.mem_append_left _ hi))
    have hd := hci.dk i hi
    simp only [kv]
    rw [keyAt_of hx] at hd ⊢
    rw [valAt_of hx]
    exact ⟨hok.k, hok.v, hok.ko, hok.vo, hd⟩
end Go.EL.Cache
