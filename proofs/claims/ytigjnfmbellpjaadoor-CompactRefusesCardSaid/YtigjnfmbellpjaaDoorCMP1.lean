/- compact: hashes as rows of 32 bytes; a range, as its callers see it; New, there. -/
import Derived.Test.YtigjnfmbellpjaaDoorSHB2
import Derived.Test.YtigjnfmbellpjaaDoorCOO2
import Derived.Test.YtigjnfmbellpjaaDoorEL21
import Derived.Test.YtigjnfmbellpjaaDoorEL25
import Derived.Test.YtigjnfmbellpjaaDoorFactsC
set_option maxRecDepth 100000
namespace Go.Proofs.YtigjnfmbellpjaaDoor.Cmp
open Go Go.EL Go.EL.Cpt Sha Coo
def H32 : Type := { l : List Int // l.length = 32 ∧ ∀ x, x ∈ l → 0 ≤ x ∧ x ≤ 255 }
abbrev hC (h : H32) : List Value := u8s h.1
abbrev hV (h : H32) : Value := .agg ⟨hC h⟩
theorem hC_len (h : H32) : (hC h).length = 32 := by rw [List.length_map, h.2.1]
theorem hC_ones (h : H32) : ones (hC h) = true := ones_u8 _
theorem hV_eq (h : H32) : hv h.1 = hV h := vv_agg (by simp [h.2.1])
theorem hC_all (h : H32) : ((hC h).drop 0).take 32 = hC h := take_all (hC_len h)
theorem uniH (ys : List H32) : Uni hC 32 ys := Uni.of hC_len ys
theorem hC_inj {a b : H32} (h : hC a = hC b) : a = b := by
  apply Subtype.ext
  have : ∀ {x y : List Int}, x.map u8 = y.map u8 → x = y := by
    intro x
    induction x with
    | nil => intro y h; cases y with | nil => rfl | cons _ _ => simp at h
    | cons a x ih => intro y h; cases y with
      | nil => simp at h
      | cons b y => simp only [List.map_cons, List.cons.injEq, Value.int.injEq, true_and] at h; rw [h.1, ih h.2]
  exact this h
theorem wrap8_range (x : Int) : 0 ≤ IntKind.wrap .u8 x ∧ IntKind.wrap .u8 x ≤ 255 := by
  simp only [IntKind.wrap, IntKind.signed, IntKind.bits]
  simp
  omega
theorem outB_range (ws : List Int) : ∀ (i : Nat) (x : Int), x ∈ outB ws i → 0 ≤ x ∧ x ≤ 255
  | 0, x, h => by cases h
  | i + 1, x, h => by
    simp only [outB, List.mem_append, bytes4, List.mem_cons, List.not_mem_nil, or_false] at h
    rcases h with h | rfl | rfl | rfl | rfl
    · exact outB_range ws i x h
    all_goals exact wrap8_range _
theorem shaF_range (K : Nat → Int) (bs : List Int) (x : Int) (h : x ∈ shaF K bs) : 0 ≤ x ∧ x ≤ 255 := outB_range _ 8 x h
theorem size_ne : Tryd.prog.types.size ≠ 0 := by
  have h : Nat.beq Tryd.prog.types.size 0 = false := by kernel_rfl
  intro e
  rw [e] at h
  cases h
theorem hash_wide : wideKey Tryd.prog 32 = true := by kernel_rfl
theorem hash_guard : Tryd.prog.eqGuardType Tryd.prog.depth 32 = false := by kernel_rfl
theorem hash_dk (h : H32) : Dk Tryd.prog 32 (hV h) :=
  dk_ints (q := .u8) (by kernel_rfl) Tryd.underlying32 (by kernel_rfl) Tryd.underlying5 (by kernel_rfl) size_ne h.2.1 fun x hx => by
    have := h.2.2 x hx
    simp [Lit.wf, IntKind.min, IntKind.max, IntKind.signed, IntKind.bits]
    omega
theorem coord_wide : wideKey Tryd.prog 58 = true := by kernel_rfl
theorem coord_guard : Tryd.prog.eqGuardType Tryd.prog.depth 58 = false := by kernel_rfl
theorem coord_dk (lv ix : Nat) (h1 : lv ≤ 255) (h2 : ix ≤ 18446744073709551615) : Dk Tryd.prog 58 (cAgg lv ix) :=
  dk_two (by kernel_rfl) Tryd.underlying58 rfl (by kernel_rfl) rfl rfl rfl rfl (by kernel_rfl) Tryd.underlying5 Tryd.underlying23 (by kernel_rfl) (by kernel_rfl) size_ne
    (by simp [Lit.wf, IntKind.min, IntKind.max, IntKind.signed, IntKind.bits]; omega) (by simp [Lit.wf, IntKind.min, IntKind.max, IntKind.signed, IntKind.bits]; omega)
def leafH (K : Nat → Int) (s : ByteArray) : H32 := ⟨leafK K s, shaF_len .., shaF_range K _⟩
def nodeH (K : Nat → Int) (l r : H32) : H32 := ⟨nodeK K l.1 r.1, shaF_len .., shaF_range K _⟩
def emptyH (K : Nat → Int) : H32 := ⟨emptyK K, shaF_len .., shaF_range K _⟩
section
variable {w0 : World}
theorem leafH_tri (K : Nat → Int) (hK : Tab w0 K) (s : ByteArray) (hs : s.size ≤ maxLen) : Tri Tryd.prog w0 13 #[.string s] [] (fun u S' => u = hV (leafH K s) ∧ S' = []) := by
  have := leaf_tri K hK s hs
  rw [show hv (leafK K s) = hV (leafH K s) from hV_eq (leafH K s)] at this
  exact this
theorem nodeH_tri (K : Nat → Int) (hK : Tab w0 K) (l r : H32) : Tri Tryd.prog w0 46 #[hV l, hV r] [] (fun u S' => u = hV (nodeH K l r) ∧ S' = []) := by
  have := node_tri K hK l.1 r.1 l.2.1 r.2.1
  rw [show hv (nodeK K l.1 r.1) = hV (nodeH K l r) from hV_eq (nodeH K l r), hV_eq l, hV_eq r] at this
  exact this
theorem emptyH_tri (K : Nat → Int) (hK : Tab w0 K) : Tri Tryd.prog w0 47 #[] [] (fun u S' => u = hV (emptyH K) ∧ S' = []) := by
  have := empty_tri K hK
  rw [show hv (emptyK K) = hV (emptyH K) from hV_eq (emptyH K)] at this
  exact this
end
/-! ### trees -/
abbrev Tr := Nd H32
def encN (n : Tr) : List Value := cu8 n.lv :: cu64 n.ix :: hC n.h
theorem encN_len (n : Tr) : (encN n).length = 34 := by simp [encN, n.h.2.1]
theorem uniN (ns : List Tr) : Uni encN 34 ns := Uni.of encN_len ns
theorem encN_ones (n : Tr) : ones (encN n) = true := by
  have := hC_ones n.h
  simp only [ones, List.all_eq_true, encN, List.mem_cons] at this ⊢
  rintro v (rfl | rfl | hv)
  · rfl
  · rfl
  · exact this v hv
theorem encN_hash (n : Tr) : ((encN n).drop 2).take 32 = hC n.h := by
  show ((hC n.h).drop 0).take 32 = _
  exact hC_all n.h
theorem encN_all (n : Tr) : ((encN n).drop 0).take 34 = encN n := take_all (encN_len n)
theorem fillN (lv ix : Nat) (h : H32) (zs : List Value) (hz : zs.length = 34) : fillL (fun i => [(0, 2), (2, 32)][i]?) zs [(0, cAgg lv ix), (1, hV h)] = some (encN ⟨lv, ix, h⟩) := by
  have hl := hC_len h
  simp only [fillL, List.getElem?_cons_zero, List.getElem?_cons_succ, Value.cells]
  have h1 : (hC h).toArray.size = 32 := by simpa using hl
  simp [h1, encN]
  rw [hz, List.drop_eq_nil_of_le (by omega)]
  simp only [List.append_nil]
  rfl
/-- where a tree's parent is told to be -/
def parF (lv ix : Nat) : Nat × Nat × Bool := if lv < 63 then (lv + 1, ix / 2, true) else (0, 0, false)
theorem parent_may {w0 : World} (lv ix : Nat) (h1 : lv ≤ 63) (h2 : ix < 2 ^ (63 - lv)) : Tri Tryd.prog w0 70 #[cAgg lv ix] [] (fun v S' => v = .tuple #[cAgg (parF lv ix).1 (parF lv ix).2.1, .bool (parF lv ix).2.2] ∧ S' = []) := by
  by_cases h : lv < 63
  · rw [parF, if_pos h]
    exact parent_tri lv ix h h2
  · obtain rfl : lv = 63 := by omega
    rw [parF, if_neg h]
    exact parent_top ix h2
/-- both may be: whether they are halves of one -/
theorem parF_sib (x n : Tr) : (((parF x.lv x.ix).2.2 && (parF n.lv n.ix).2.2) && (decide ((parF x.lv x.ix).1 = (parF n.lv n.ix).1) && decide ((parF x.lv x.ix).2.1 = (parF n.lv n.ix).2.1))) = sib x n := by
  unfold parF sib
  by_cases h1 : x.lv < 63 <;> by_cases h2 : n.lv < 63
  · simp [h1, h2]
    rw [Bool.eq_iff_iff]
    simp
  · simp only [h1, h2, if_true, if_false, decide_true]
    have : ¬ x.lv = n.lv := by omega
    simp [this]
  · simp [h1]
  · simp [h1]
/-! ### a range -/
/-- a range: its stretch, its trees (the last first) -/
def RAt (b e : Nat) (rs : List Tr) (r : Nat) (H : Hp) : Prop :=
  ∃ v Hr, H = (r, row [.bool true, cu64 b, cu64 e, v] 104) :: Hr ∧ Vec 106 34 encN rs.reverse v Hr
section
variable {w0 : World}
theorem new_tri (b : Nat) : Tri Tryd.prog w0 17 #[cu64 b] [] (fun v S' => ∃ r H, v = .pointer (some ⟨r, 0, none⟩) ∧ S' = [H] ∧ RAt b b [] r H) := by
  refine Tri.mk Tryd.func17 rfl rfl rfl ?_
  refine WP.sregion ?_
  refine RX.pure (.none rfl) rfl rfl (p_assign rfl) ?_
  refine RX.nil ?_
  refine WP.sregion ?_
  refine RX.pure (.none rfl) rfl rfl (p_move rfl) ?_
  refine RX.pure (.none rfl) rfl rfl (p_move rfl) ?_
  refine RX.pure (.none rfl) rfl rfl (p_buildS zr_53 pl_53 rfl rfl) ?_
  refine RX.pure (.none rfl) rfl rfl (p_buildS zr_104 pl_104 rfl rfl) ?_
  refine RX.eff (.none rfl) rfl rfl rfl (e_box rfl rfl) ?_
  rintro _ _ ⟨n7, rfl, rfl⟩
  refine RX.pure (.none rfl) rfl rfl (p_assign rfl) ?_
  refine RX.nil ?_
  refine WP.ret ?_
  repeat (first | refine sq_ret ?_ | refine bk_ret ?_ | refine lq_ret ?_ | refine cq_ret ?_)
  exact fin1' 1 rfl rfl rfl ⟨_, _, rfl, rfl, _, [], rfl, .nil ..⟩
theorem there_tri (r : Nat) (cs : List Value) : Tri Tryd.prog w0 48 #[.pointer (some ⟨r, 0, none⟩)] [[(r, row (.bool true :: cs) 104)]] (fun v S' => v = .bool true ∧ S' = [[(r, row (.bool true :: cs) 104)]]) := by
  refine Tri.mk Tryd.func48 rfl rfl rfl ?_
  refine WP.sregion ?_
  refine RX.pure (.none rfl) rfl rfl (p_assign rfl) ?_
  refine RX.nil ?_
  refine WP.sregion ?_
  refine RX.pure (.none rfl) rfl rfl (p_move rfl) ?_
  refine RX.pure (.none rfl) rfl rfl (p_neNilPtr rfl rfl Tryd.underlying44) ?_
  refine RX.pure (.none rfl) rfl rfl (p_move rfl) ?_
  (first | refine RX.skip (.no rfl rfl rfl rfl) rfl rfl ?_ | refine RX.pure (.yes rfl rfl rfl) rfl rfl (p_move rfl) ?_)
  (first | refine RX.skip (.no rfl rfl rfl rfl) rfl rfl ?_ | refine RX.pure (.yes rfl rfl rfl) rfl rfl (p_nilCheck rfl) ?_)
  (first | refine RX.skip (.no rfl rfl rfl rfl) rfl rfl ?_ | refine RX.pure (.yes rfl rfl rfl) rfl rfl (p_fieldAddr rfl fa_104_0) ?_)
  (first | refine RX.skip (.no rfl rfl rfl rfl) rfl rfl ?_ | refine RX.ld 0 (.yes rfl rfl rfl) rfl rfl na_4 rfl rfl ?_ | refine RX.ld 1 (.yes rfl rfl rfl) rfl rfl na_4 rfl rfl ?_ | refine RX.ld 2 (.yes rfl rfl rfl) rfl rfl na_4 rfl rfl ?_ | refine RX.ld 3 (.yes rfl rfl rfl) rfl rfl na_4 rfl rfl ?_ | refine RX.ld 4 (.yes rfl rfl rfl) rfl rfl na_4 rfl rfl ?_ | refine RX.ld 5 (.yes rfl rfl rfl) rfl rfl na_4 rfl rfl ?_)
  (first | refine RX.pure (.none rfl) rfl rfl (p_pickT rfl rfl) ?_ | refine RX.pure (.none rfl) rfl rfl (p_pickF rfl rfl) ?_)
  refine RX.pure (.none rfl) rfl rfl (p_assign rfl) ?_
  refine RX.nil ?_
  refine WP.ret ?_
  repeat (first | refine sq_ret ?_ | refine bk_ret ?_ | refine lq_ret ?_ | refine cq_ret ?_)
  exact fin1' 1 rfl rfl rfl ⟨rfl, rfl⟩
end
end Go.Proofs.YtigjnfmbellpjaaDoor.Cmp
