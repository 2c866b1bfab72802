/- Plain: a stretch cut at two places: its rows, joined either way, are the whole's. -/
import Derived.Test.YtigjnfmbellpjaaDoorCUT2
set_option maxRecDepth 100000
namespace Go.Proofs.YtigjnfmbellpjaaDoor.Cmp
open Go Go.EL Go.EL.Cpt Sha Coo
theorem good_congr {K : Nat → Int} {f g : Nat → H32} {b : Nat} : ∀ {rs : List Tr} {e : Nat}, Cpt.Good (nodeH K) (emptyH K) f b e rs → (∀ m, b ≤ m → m < e → f m = g m) → Cpt.Good (nodeH K) (emptyH K) g b e rs := by
  intro rs e h hfg
  refine ⟨h.row, h.free, fun x hx => ?_⟩
  have key : ∀ (rs : List Tr) (e : Nat), RowR b rs e → ∀ x, x ∈ rs → b ≤ x.b ∧ x.e ≤ e := by
    intro rs
    induction rs with
    | nil => intro e _ x hx; cases hx
    | cons y rs ih =>
      intro e hr x hx
      have h2 := y.e_eq
      have h3 := hr.1
      rcases List.mem_cons.1 hx with rfl | hx
      · exact ⟨RowR.le hr.2, by omega⟩
      · have h1 := ih _ hr.2 x hx
        have := pos2 y.lv
        omega
  obtain ⟨h1, h2⟩ := key rs e h.row x hx
  have h3 := h.hashed x hx
  have h4 := x.e_eq
  simp only [Hashed] at h3 ⊢
  rw [h3]
  congr 1
  simp only [seg]
  refine List.map_congr_left fun i hi => ?_
  have := List.mem_range.1 hi
  exact hfg _ (by omega) (by omega)
/-- the row of a part -/
theorem part_good (K : Nat → Int) (n : Nat) (hs : List H32) (s l : Nat) (part : List H32) (hp : ∀ j, j < l → part.getD j (emptyH K) = hs.getD (s + j) (emptyH K)) : Cpt.Good (nodeH K) (emptyH K) (leafAt K n hs) (n + s) (n + s + l) (rows K (n + s) part l) := by
  refine good_congr (rows_good K (n + s) part l) fun m h1 h2 => ?_
  rw [leafAt, leafAt, hp (m - (n + s)) (by omega)]
  congr 1
  omega
theorem load_at (cs : List (Nat × Nat)) (rs : List Tr) (h : rs.map Nd.at = cs) : loadF cs (rs.map (·.h)) = rs := by
  subst h
  induction rs with
  | nil => rfl
  | cons x rs ih =>
    simp only [List.map_cons, loadF, List.zipWith_cons_cons] at ih ⊢
    rw [ih]
    rfl
theorem good_at {K : Nat → Int} {f : Nat → H32} {b e : Nat} {rs : List Tr} (h : Cpt.Good (nodeH K) (emptyH K) f b e rs) (he : e ≤ 9223372036854775808) : rs.reverse.map Nd.at = coverF b e := by
  have hle := RowR.le h.row
  have h2 := cover_good (nodeH K) (emptyH K) f hle
  rw [h.one h2 he, List.reverse_reverse]
  exact coverNd_at ..
theorem good_load {K : Nat → Int} {f : Nat → H32} {b e : Nat} {rs : List Tr} (h : Cpt.Good (nodeH K) (emptyH K) f b e rs) (he : e ≤ 9223372036854775808) : (loadF (coverF b e) (rs.reverse.map (·.h))).reverse = rs := by
  rw [load_at _ _ (good_at h he), List.reverse_reverse]
theorem good_cl {K : Nat → Int} {f : Nat → H32} {b e : Nat} {rs : List Tr} (h : Cpt.Good (nodeH K) (emptyH K) f b e rs) (he : e ≤ 9223372036854775808) : (rs.reverse.map (fun x : Tr => x.h)).length = (coverF b e).length := by
  rw [← good_at h he, List.length_map, List.length_map]
end Go.Proofs.YtigjnfmbellpjaaDoor.Cmp
