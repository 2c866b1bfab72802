/- A cache that holds, of each key, what was put last. -/
import Derived.Test.YtpakklmkajjodaaDoorCMod4
namespace Go.EL.Cache
open Go Go.EL
theorem lk_del_ne {k k' : List Value} (h : k ≠ k') : ∀ th : Th, lk k' (del k th) = lk k' th
  | [] => rfl
  | (a, v) :: th => by
    by_cases ha : a = k
    · subst ha
      rw [del_eq, lk_ne h]; exact lk_del_ne h th
    · rw [del_ne ha]
      by_cases hb : a = k'
      · subst hb; rw [lk_eq, lk_eq]
      · rw [lk_ne hb, lk_ne hb]; exact lk_del_ne h th
theorem del_len (k : List Value) (th : Th) : (del k th).length ≤ th.length := List.length_filter_le ..
def Lasts (K V : Nat → List Value) (m : Nat) (th : Th) : Prop := ∀ j, j < m → (∀ j', j < j' → j' < m → K j' ≠ K j) → lk (K j) th = some (V j)
theorem Lasts.nil (K V : Nat → List Value) : Lasts K V 0 [] := fun j h => absurd h (by omega)
theorem Lasts.cons {K V : Nat → List Value} {m : Nat} {th th' : Th} (h : Lasts K V m th) (h' : ∀ k, k ≠ K m → lk k th' = lk k th) : Lasts K V (m + 1) ((K m, V m) :: th') := by
  intro j hj hl
  by_cases hjm : j = m
  · subst hjm; exact lk_eq _ _ _
  · have hne : K m ≠ K j := hl m (by omega) (by omega)
    rw [lk_ne hne, h' _ hne.symm]
    exact h j (by omega) (fun j' h1 h2 => hl j' h1 (by omega))
theorem Lasts.put_hit {K V : Nat → List Value} {m : Nat} {th : Th} (h : Lasts K V m th) : Lasts K V (m + 1) ((K m, V m) :: del (K m) th) := h.cons fun _ hk => lk_del_ne hk.symm th
theorem Lasts.put_new {K V : Nat → List Value} {m : Nat} {th : Th} (h : Lasts K V m th) : Lasts K V (m + 1) ((K m, V m) :: th) := h.cons fun _ _ => rfl
theorem Lasts.get {K V : Nat → List Value} {m : Nat} {th : Th} {k v : List Value} (h : Lasts K V m th) (hk : lk k th = some v) : Lasts K V m ((k, v) :: del k th) := by
  intro j hj hl
  have h1 := h j hj hl
  by_cases hkj : k = K j
  · subst hkj
    rw [lk_eq]
    rw [h1] at hk
    exact hk.symm
  · rw [lk_ne hkj, lk_del_ne hkj]; exact h1
theorem Lasts.congr {K V V' : Nat → List Value} {m : Nat} {th : Th} (h : Lasts K V m th) (hv : ∀ j, j < m → V' j = V j) : Lasts K V' m th := fun j hj hl => by rw [hv j hj]; exact h j hj hl
end Go.EL.Cache
