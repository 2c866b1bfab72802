/- What the laws are given: the sentinel errors that are laid. -/
import Derived.Test.YtigjnfmbellpjaaDoorERR3
import Derived.Test.YtigjnfmbellpjaaDoorEL26
import Derived.Test.YtigjnfmbellpjaaDoorRows
set_option maxRecDepth 100000
namespace Go.Proofs.YtigjnfmbellpjaaDoor.Law
open Go Go.EL Err
/-! ### the listed variables -/
theorem star : "*errors.errorString" = "*" ++ "errors.errorString" := by decide
theorem rowOf (u : TypeId) (h : Tryd.prog.typeName? 3 u = some "*errors.errorString") : u = 183 :=
  typeName_ptr_named (P := Tryd.prog) (nm := "errors.errorString") (tp := 183) (by rw [← star]; kernel_rfl) (by kernel_rfl) (by decide) u (by rw [← star]; exact h)
/-- one sentinel: its pointer, its text, its block -/
def Sent (W : World) (g : Nat) (text : List UInt8) (a : Addr) : Prop := W.cell? ⟨g, 0, none⟩ = some (.iface 183 (.pointer (some a))) ∧ (∃ s : ByteArray, W.cell? a = some (.string s) ∧ s.data.toList = text) ∧ ∃ c t, W.heap[a.block]? = some (.cells c t (0, 0))
theorem sent_of {n : String} {text : List UInt8} {r : List (String × DataW Unit)} {W : World} {g : Nat} (h : laidMet Tryd.prog ((n, .iface "*errors.errorString" (.ptr (.agg [.lit (.string text)]))) :: r) W) (hg : Tryd.prog.globalNamed n = some g) (ht : (Tryd.prog.globals[g]?).map (·.type) = some 34) : ∃ a, Sent W g text a := by
  obtain ⟨ps, ⟨g0, t0, cs0, f0, p0, q0, hg0, ht0, hv0, hd0, _, e0⟩, _, hrows⟩ := h
  obtain rfl := Option.some.inj (hg.symm.trans hg0)
  obtain rfl := Option.some.inj (ht.symm.trans ht0)
  subst e0
  obtain ⟨l0⟩ := cs0
  have ok0 : ∀ u v, l0 = [.iface u v] → Value.okWide Tryd.prog W .any 0 u v := fun u v e => by
    subst e
    exact (hrows g 0 (by simp [MemPlace.row])).2 u v (by simpa using World.var?_cell hg0 hv0 0)
  obtain ⟨a0, s0, rfl, hc0, hs0, hz0, hp0⟩ := errorString_of_trod Tryd.underlying34 rowOf Tryd.underlying183 Tryd.underlying204 rfl rfl Tryd.underlying9 (by kernel_rfl) (by kernel_rfl) hd0 ok0
  refine ⟨a0, by simpa using World.var?_cell hg0 hv0 0, ⟨s0, hc0, hs0⟩, ?_⟩
  exact (hrows a0.block a0.off (by rw [hp0]; simp [MemPlace.row])).1
theorem Sent.ne {W : World} {g g' : Nat} {t t' : List UInt8} {a a' : Addr} (h : Sent W g t a) (h' : Sent W g' t' a') (ht : t ≠ t') : a ≠ a' := by
  rintro rfl
  obtain ⟨_, ⟨s, hs, hst⟩, _⟩ := h
  obtain ⟨_, ⟨s', hs', hst'⟩, _⟩ := h'
  rw [hs] at hs'
  obtain rfl : s = s' := by simpa using hs'
  exact ht (hst.symm.trans hst')
abbrev sents : List (String × DataW Unit) := [("cartulary/api.ErrNil", Rows.laid_cartulary_api_ErrNil), ("cartulary/api.ErrArg", Rows.laid_cartulary_api_ErrArg), ("cartulary/api.ErrInput", Rows.laid_cartulary_api_ErrInput), ("cartulary/api.ErrLimit", Rows.laid_cartulary_api_ErrLimit), ("cartulary/api.ErrRange", Rows.laid_cartulary_api_ErrRange), ("cartulary/api.ErrGone", Rows.laid_cartulary_api_ErrGone), ("cartulary/api.ErrUnavailable", Rows.laid_cartulary_api_ErrUnavailable), ("cartulary/api.ErrDead", Rows.laid_cartulary_api_ErrDead), ("cartulary/api.ErrCorrupt", Rows.laid_cartulary_api_ErrCorrupt), ("cartulary/api.ErrProof", Rows.laid_cartulary_api_ErrProof), ("cartulary/api.ErrSpent", Rows.laid_cartulary_api_ErrSpent), ("cartulary/api.ErrSigned", Rows.laid_cartulary_api_ErrSigned), ("cartulary/api.ErrFork", Rows.laid_cartulary_api_ErrFork), ("cartulary/api.ErrOld", Rows.laid_cartulary_api_ErrOld), ("cartulary/api.ErrStopped", Rows.laid_cartulary_api_ErrStopped), ("cartulary/api.ErrScript", Rows.laid_cartulary_api_ErrScript)]
abbrev rest : List (String × DataW Unit) := [("cartulary/sha.table", Rows.laid_cartulary_sha_table)]
def texts : List (List UInt8) := sents.map fun x => match x.2 with
  | .iface _ (.ptr (.agg [.lit (.string s)])) => s
  | _ => []
theorem texts_nodup : texts.Nodup := by
  have : decide texts.Nodup = true := by kernel_rfl
  exact of_decide_eq_true this
theorem sent_at {W : World} (h : laidMet Tryd.prog (sents ++ rest) W) (k : Nat) (hk : k < 16) : ∃ a, Sent W (gOf k) (texts.getD k []) a := by
  have hd := laid_drop k h
  match k, hk with
  | 0, _ => exact sent_of hd (by kernel_rfl) (by kernel_rfl)
  | 1, _ => exact sent_of hd (by kernel_rfl) (by kernel_rfl)
  | 2, _ => exact sent_of hd (by kernel_rfl) (by kernel_rfl)
  | 3, _ => exact sent_of hd (by kernel_rfl) (by kernel_rfl)
  | 4, _ => exact sent_of hd (by kernel_rfl) (by kernel_rfl)
  | 5, _ => exact sent_of hd (by kernel_rfl) (by kernel_rfl)
  | 6, _ => exact sent_of hd (by kernel_rfl) (by kernel_rfl)
  | 7, _ => exact sent_of hd (by kernel_rfl) (by kernel_rfl)
  | 8, _ => exact sent_of hd (by kernel_rfl) (by kernel_rfl)
  | 9, _ => exact sent_of hd (by kernel_rfl) (by kernel_rfl)
  | 10, _ => exact sent_of hd (by kernel_rfl) (by kernel_rfl)
  | 11, _ => exact sent_of hd (by kernel_rfl) (by kernel_rfl)
  | 12, _ => exact sent_of hd (by kernel_rfl) (by kernel_rfl)
  | 13, _ => exact sent_of hd (by kernel_rfl) (by kernel_rfl)
  | 14, _ => exact sent_of hd (by kernel_rfl) (by kernel_rfl)
  | 15, _ => exact sent_of hd (by kernel_rfl) (by kernel_rfl)
  | k + 16, hk => exact absurd hk (by omega)
open Classical in
theorem sents_of {W : World} (h' : laidMet Tryd.prog (sents ++ rest) W ∧ handlesMet Tryd.prog [("errors.errorType", Rows.laid_errors_errorType)] W) : ∃ A, Sents W A := by
  have hall := sent_at h'.1
  let A : Nat → Addr := fun k => if hk : k < 16 then (hall k hk).choose else ⟨0, 0, none⟩
  have hA : ∀ k, k < 16 → Sent W (gOf k) (texts.getD k []) (A k) := fun k hk => by
    simp only [A, dif_pos hk]
    exact (hall k hk).choose_spec
  refine ⟨A, ?_, fun k hk => (hA k hk).1, fun j k hj hk hne => (hA j hj).ne (hA k hk) ?_, fun k hk => (hA k hk).2.2⟩
  · obtain ⟨name, u, ty, e1, e2, e3, e4, e5⟩ := h'.2 _ (List.mem_singleton.2 rfl)
    have en : name = [101, 114, 114, 111, 114] := (Option.some.inj e1).symm
    subst en
    obtain rfl := Option.some.inj ((show (Tryd.prog.cutTypes.find? (·.1 == "internal/reflectlite.rtype")).map (·.2) = some 168 by kernel_rfl).symm.trans e2)
    have hsz : Tryd.prog.types.size = 216 := by kernel_rfl
    have hm : ty ∈ (List.range 216).filter fun t => Tryd.prog.rowNamed t [101, 114, 114, 111, 114] := List.mem_filter.2 ⟨List.mem_range.2 (by rw [← hsz]; exact e3), e4⟩
    rw [show ((List.range 216).filter fun t => Tryd.prog.rowNamed t [101, 114, 114, 111, 114]) = [34] by kernel_rfl] at hm
    obtain rfl := List.mem_singleton.1 hm
    have hh : typeHandle Tryd.prog 34 = .pointer (some ⟨19, 34, none⟩) := by kernel_rfl
    rw [hh] at e5
    simpa using World.var?_cell (show Tryd.prog.globalNamed "errors.errorType" = some 17 by kernel_rfl) e5 0
  · have hl : texts.length = 16 := by kernel_rfl
    have := texts_nodup
    intro e
    have e1 : texts[j]? = some (texts.getD j []) := by simp [hl, hj]
    have e2 : texts[k]? = some (texts.getD k []) := by simp [hl, hk]
    exact hne ((List.getElem?_inj (by omega) this).1 (by rw [e1, e2, e]))
end Go.Proofs.YtigjnfmbellpjaaDoor.Law
