/- The cache holds, of each key, what was put last (items of 32 and 1 cells). -/
import Derived.Test.YtpakklmkajjodaaDoorCAH
import Derived.Test.YtpakklmkajjodaaDoorCMod5
set_option maxRecDepth 100000
namespace Go.Proofs.YtpakklmkajjodaaDoor.CHT
open Go Go.EL Go.EL.Cache
section
variable {w0 : World} {D : Value → Prop}
theorem put_last (hK : KeyTy Tryd.prog 32 D) {K V : Nat → List Value} {i most : Nat} {th : Th} {c : Nat} {H : Hp} (h : At' D most th c H) (hG : Lasts K V i th) (hl : th.length ≤ i) (hi : i < most)
    (hk : D (vv (K i))) (hks : (K i).length = 32) (hko : ones (K i) = true) (hvs : (V i).length = 1) (hvo : ones (V i) = true) :
    Tri Tryd.prog w0 10 #[.pointer (some ⟨c, 0, none⟩), vv (K i), vv (V i)] [H] (fun _ S' => ∃ H' th', S' = [H'] ∧ th'.length ≤ i + 1 ∧ Lasts K V (i + 1) th' ∧ At' D most th' c H') := by
  refine (put_api hK h hk hks hko hvs hvo).mono ?_
  rintro v S' ⟨H', rfl, ⟨_, _, hA⟩ | ⟨_, h1, _⟩ | ⟨_, _, _, hA⟩ | ⟨_, _, h1, _⟩⟩
  · exact ⟨_, _, rfl, by have := del_len (K i) th; simp only [List.length_cons]; omega, hG.put_hit, hA⟩
  · omega
  · exact ⟨_, _, rfl, by simp only [List.length_cons]; omega, hG.put_new, hA⟩
  · omega
theorem get_last (hK : KeyTy Tryd.prog 32 D) {K V : Nat → List Value} {n j most : Nat} {th : Th} {c : Nat} {H : Hp} {ks : List Value} (h : At' D most th c H) (hG : Lasts K V n th) (hj : j < n) (hl : ∀ j', j < j' → j' < n → K j' ≠ K j)
    (he : K j = ks) (hk : D (vv ks)) (hks : ks.length = 32) (hko : ones ks = true) :
    Tri Tryd.prog w0 12 #[.pointer (some ⟨c, 0, none⟩), vv ks] [H] (fun v S' => ∃ H' th', S' = [H'] ∧ v = .tuple #[vv (V j), .bool true] ∧ Lasts K V n th' ∧ At' D most th' c H') := by
  subst he
  have h1 := hG j hj hl
  refine (get_hit hK h hk hks hko h1).mono ?_
  rintro v S' ⟨H', rfl, rfl, hA⟩
  exact ⟨_, _, rfl, rfl, hG.get h1, hA⟩
end
end Go.Proofs.YtpakklmkajjodaaDoor.CHT
