/- Part 7: slices that one has built oneself ('Vec'): append, make; literals of slices, arrays, structs. -/
import Derived.Test.YtigjnfmbellpjaaDoorEL6
namespace Go.EL
open Go

section
variable {α : Type}
/-- a slice of one's own: nil, or the head of a block of one's own -/
def Vec (e : TypeId) (k : Nat) (enc : α → List Value) (xs : List α) (v : Value) (H : Hp) : Prop :=
  (v = .slice none 0 0 ∧ xs = [] ∧ H = []) ∨
  ∃ b cap sp, v = .slice (some ⟨b, 0, none⟩) xs.length cap ∧ H = [(b, row (xs.flatMap enc ++ sp) e)] ∧ xs.length ≤ cap ∧ cap ≤ maxLen ∧ sp.length = (cap - xs.length) * k
/-- a slice that may be read -/
def RdS (w0 : World) (S : HS) (enc : α → List Value) (ys : List α) (v : Value) : Prop :=
  (v = .slice none 0 0 ∧ ys = []) ∨ ∃ a c, v = .slice (some a) ys.length c ∧ RdN w0 S a (ys.flatMap enc)
theorem Vec.nil (e : TypeId) (k : Nat) (enc : α → List Value) : Vec e k enc [] (.slice none 0 0) [] := .inl ⟨rfl, rfl, rfl⟩
theorem Vec.slice {e : TypeId} {k : Nat} {enc : α → List Value} {xs : List α} {v : Value} {H : Hp} (h : Vec e k enc xs v H) : ∃ p cap, v = .slice p xs.length cap := by
  rcases h with ⟨rfl, rfl, _⟩ | ⟨b, cap, sp, rfl, _⟩
  · exact ⟨none, 0, rfl⟩
  · exact ⟨_, cap, rfl⟩
theorem Vec.rd {w0 : World} {S : HS} {e : TypeId} {k : Nat} {enc : α → List Value} {xs : List α} {v : Value} {H : Hp} (h : Vec e k enc xs v H) {i : Nat} (hi : S[i]? = some H) : RdS w0 S enc xs v := by
  rcases h with ⟨rfl, rfl, _⟩ | ⟨b, cap, sp, rfl, rfl, _⟩
  · exact .inl ⟨rfl, rfl⟩
  · exact .inr ⟨_, cap, rfl, RdN.own i hi (by simp)⟩
theorem RdS.len {w0 : World} {S : HS} {enc : α → List Value} {ys : List α} {v : Value} (h : RdS w0 S enc ys v) : ∃ p cap, v = .slice p ys.length cap := by
  rcases h with ⟨rfl, rfl⟩ | ⟨a, c, rfl, _⟩
  · exact ⟨none, 0, rfl⟩
  · exact ⟨_, c, rfl⟩
end

section
variable {P : Program} {N : Nat} {w0 : World}

theorem Inv.setPush {S : HS} {F H : Hp} {w : World} {o : Obj} {i : Nat} (hi : Inv w0 (S.flatten ++ F) w) (hc : S[i]? = some H) (w' : World) (ho : w'.os = w.os) (ht : w'.tape = w.tape) (hu : w'.output = w.output) (hh : w'.heap = w.heap.push o) :
    Inv w0 ((S.set i [(w.heap.size, o)]).flatten ++ F) w' := by
  have h1 := hi.push o w' ho ht hu hh
  have p1 : ((w.heap.size, o) :: (S.flatten ++ F)).Perm (([(w.heap.size, o)] ++ (S.eraseIdx i).flatten ++ F) ++ H) := by
    have := (flatten_pick hc).append_right F
    refine (this.cons _).trans ?_
    simp only [List.cons_append, List.nil_append]
    refine List.Perm.cons _ ?_
    rw [List.append_assoc]
    exact List.perm_append_comm
  have h2 := (h1.perm p1).drop
  exact h2.perm ((flatten_set hc).append_right F).symm

theorem setRow_heap_eq (w : World) (g : Nat) (old cs : Array Value) (t : TypeId) (fr : Nat × Nat) (hg : w.heap[g]? = some (.cells old t fr)) : (w.setRow g cs).heap = w.heap.setIfInBounds g (.cells cs t fr) := by
  obtain ⟨hlt, hb⟩ := Array.getElem?_eq_some_iff.1 hg
  apply Array.ext
  · simp [World.setRow]
  · intro k h1 h2
    by_cases hk : g = k
    · subst hk
      simp only [World.setRow]
      rw [Array.getElem_modify, if_pos rfl, hb]
      simp
    · simp only [World.setRow]
      rw [Array.getElem_modify, if_neg hk, Array.getElem_setIfInBounds_ne _ hk]

/-- append onto one's own slice -/
theorem append_vec {α : Type} {S : HS} {F H : Hp} {w : World} {i : Nat} {t ty e k by' : Nat} {zs : List Value} {enc : α → List Value} {xs ys : List α} {v x : Value}
    (ht : sliceOf P t e k = true) (hz : zeroIs P e zs) (hzl : zs.length = k) (_hk : k ≠ 0) (hby : bytesIs P e by' = true) (hux : Uni enc k xs) (huy : Uni enc k ys) (hones : ∀ y, y ∈ ys → ones (enc y) = true)
    (hv : Vec e k enc xs v H) (hi : S[i]? = some H) (hx : RdS w0 S enc ys x) (hb : (xs.length + ys.length) * by' ≤ 140737488355328) (hm : xs.length + ys.length ≤ maxLen) (hI : Inv w0 (S.flatten ++ F) w) :
    ∃ v' w' H', (Builtin.append_ #[t, t] ty #[v, x]).run P w = .ok v' w' ∧ Vec e k enc (xs ++ ys) v' H' ∧ Inv w0 ((S.set i H').flatten ++ F) w' := by
  obtain ⟨hu, hsz⟩ := sliceOf_und ht
  obtain ⟨inf, z, hinf, hzero, hzc⟩ := hz
  have hsize : inf.size = k := by
    unfold sizeIs at hsz
    simp only [hinf] at hsz
    exact Nat.of_beq hsz
  have hbytes : inf.bytes = by' := by
    unfold bytesIs at hby
    simp only [hinf] at hby
    exact Nat.of_beq hby
  have hsm : maxLen = 9223372036854775807 := rfl
  have hly := fm_length huy
  have hlx := fm_length hux
  have same : S.set i H = S := set_same hi
  by_cases hy : ys = []
  · subst hy
    have hrun : ∀ p n c, (Builtin.append_ #[t, t] ty #[.slice p n c, x]).run P w = if n ≤ c then .ok (.slice p n c) w else (Builtin.append_ #[t, t] ty #[.slice p n c, x]).run P w := by
      intro p n c
      split
      · rename_i hnc
        rcases hx with ⟨rfl, _⟩ | ⟨a, c', rfl, _⟩
        · cases p <;> simp [Builtin.append_, run_underlying hu, sizeOf, typeInfo, hinf, Builtin.lenOf, Builtin.firstCells, hnc, storeCells]
        · cases p <;> simp [Builtin.append_, run_underlying hu, sizeOf, typeInfo, hinf, Builtin.lenOf, Builtin.firstCells, hnc, storeCells, loadCells, loadCellsFrom]
      · rfl
    rcases hv with ⟨rfl, rfl, rfl⟩ | ⟨b, cap, sp, rfl, rfl, hc1, hc2, hsp⟩
    · refine ⟨.slice none 0 0, w, [], by rw [hrun]; simp, .inl ⟨rfl, rfl, rfl⟩, by rw [same]; exact hI⟩
    · refine ⟨_, w, _, by rw [hrun, if_pos hc1], .inr ⟨b, cap, sp, by simp, by simp; rfl, by simpa using hc1, hc2, by simpa using hsp⟩, ?_⟩
      skip
      rw [same]; exact hI
  · rcases hx with ⟨_, h0⟩ | ⟨a, c, rfl, hrd⟩
    · exact absurd h0 hy
    have hypos : 0 < ys.length := List.length_pos_iff.2 hy
    have hnews := hrd F w hI
    have hnl : (ys.flatMap enc).length = ys.length * inf.size := by rw [hly, hsize]
    have newvec : ∀ (cap : Nat), xs.length + ys.length ≤ cap → cap ≤ maxLen → Vec e k enc (xs ++ ys) (.slice (some ⟨w.heap.size, 0, none⟩) (xs.length + ys.length) cap)
        [(w.heap.size, .cells ((xs.flatMap enc).toArray ++ (ys.flatMap enc).toArray ++ Builtin.zeroCells z.cells (cap - (xs.length + ys.length))) e (0, 0))] := by
      intro cap h1 h2
      refine .inr ⟨w.heap.size, cap, (Builtin.zeroCells z.cells (cap - (xs.length + ys.length))).toList, by simp, ?_, by simpa using h1, h2, ?_⟩
      · congr 3
        simp
      · simp [size_zeroCells, hzc, hzl]
    rcases hv with ⟨rfl, rfl, rfl⟩ | ⟨b, cap, sp, rfl, rfl, hc1, hc2, hsp⟩
    · have hr := run_append_nil (P := P) w t ty e inf z hu hinf hzero a ys.length c (ys.flatMap enc) hnl hnews hypos (by simp at hm; omega) (by simp only [List.length_nil, Nat.zero_add] at hb; rw [hbytes]; omega)
      have hge := grownCap_ge w ys.length 0 e
      have hle := grownCap_le_maxLen w ys.length 0 e (by simpa using hm)
      have hv' := newvec (grownCap w ys.length 0 e) (by simpa using hge) hle
      simp only [List.length_nil, Nat.zero_add, List.flatMap_nil, Array.empty_append] at hv'
      exact ⟨_, _, _, hr, hv', Inv.setPush (H := []) (hI.drawn _) hi _ rfl rfl rfl rfl⟩
    · have hat : At S i b (row (xs.flatMap enc ++ sp) e) := hi
      have hblk := (hI.at hat).2
      have hcl : (xs.flatMap enc ++ sp).length = cap * k := by
        rw [List.length_append, hlx, hsp, ← Nat.add_mul]
        congr 1; omega
      by_cases hroom : xs.length + ys.length ≤ cap
      · have hfit : xs.length * inf.size + (ys.flatMap enc).length ≤ (⟨xs.flatMap enc ++ sp⟩ : Array Value).size := by
          simp only [hnl, ← Nat.add_mul, hsize]
          rw [show (⟨xs.flatMap enc ++ sp⟩ : Array Value).size = (xs.flatMap enc ++ sp).length from rfl, hcl]
          exact Nat.mul_le_mul_right _ hroom
        have h1 : ∀ u ∈ ys.flatMap enc, u.oneCell' = true := by
          intro u hu'
          obtain ⟨y, hy', hm'⟩ := List.mem_flatMap.1 hu'
          exact one_oneCell (ones_mem (hones y hy') u hm')
        have hr := run_append_room (P := P) w t ty e inf hu hinf b xs.length cap ⟨xs.flatMap enc ++ sp⟩ hblk a ys.length c (ys.flatMap enc) hnl hnews h1 hroom hfit
        have ecs : (⟨xs.flatMap enc ++ sp⟩ : Array Value).toList.take (xs.length * inf.size) ++ ys.flatMap enc ++ (⟨xs.flatMap enc ++ sp⟩ : Array Value).toList.drop (xs.length * inf.size + (ys.flatMap enc).length) = (xs ++ ys).flatMap enc ++ sp.drop (ys.length * k) := by
          simp only [hsize, hnl]
          have h2 : (xs.flatMap enc ++ sp).take (xs.length * k) = xs.flatMap enc := by rw [← hlx, List.take_left]
          have h3 : (xs.flatMap enc ++ sp).drop (xs.length * k + ys.length * k) = sp.drop (ys.length * k) := by rw [← hlx, List.drop_append, List.drop_eq_nil_of_le (by omega)]; simp
          rw [h2, h3]
          simp
        rw [ecs] at hr
        refine ⟨_, _, [(b, row ((xs ++ ys).flatMap enc ++ sp.drop (ys.length * k)) e)], hr, .inr ⟨b, cap, sp.drop (ys.length * k), by simp, rfl, by simpa using hroom, hc2, ?_⟩, ?_⟩
        · rw [List.length_drop, hsp, ← Nat.sub_mul, List.length_append]
          congr 1; omega
        · exact hI.setAt hat _ rfl rfl rfl (by rw [setRow_heap_eq w b _ _ e (0, 0) hblk])
      · have holds : ∀ j u, (xs.flatMap enc)[j]? = some u → w.cell? ((⟨b, 0, none⟩ : Addr).add j) = some u := by
          have := RdN.own (w0 := w0) (S := S) (b := b) (o := 0) (vs := xs.flatMap enc) i hat (by simp)
          exact this F w hI
        have hr := run_append_grow (P := P) w t ty e inf z hu hinf hzero ⟨b, 0, none⟩ xs.length cap (xs.flatMap enc) (by rw [hlx, hsize]) holds a ys.length c (ys.flatMap enc) hnl hnews (by omega) (by omega) (growslice_fits (by omega) (by rw [hbytes]; exact hb))
        have hge := grownCap_ge w (xs.length + ys.length) cap e
        have hle := grownCap_le_maxLen w (xs.length + ys.length) cap e hm
        exact ⟨_, _, _, hr, newvec _ hge hle, Inv.setPush (hI.drawn _) hi _ rfl rfl rfl rfl⟩

section ops
variable {ρ : Env} {S : HS} {ds : Option Nat} {ty : TypeId} {pos : String} {aft : Array Edge} {g : Option (Nat × Bool)}
theorem e_append {α : Type} {t e k by' : Nat} {zs : List Value} {enc : α → List Value} {xs ys : List α} {v x : Value} {H : Hp} {s y : Operand} (i : Nat) (hs' : ev ρ s = some v) (hy' : ev ρ y = some x)
    (ht : sliceOf P t e k = true) (hz : zeroIs P e zs) (hzl : zs.length = k) (hk : k ≠ 0) (hby : bytesIs P e by' = true) (hux : Uni enc k xs) (huy : Uni enc k ys) (hones : ∀ y, y ∈ ys → ones (enc y) = true)
    (hv : Vec e k enc xs v H) (hi : S[i]? = some H) (hx : RdS w0 S enc ys x) (hb : (xs.length + ys.length) * by' ≤ 140737488355328) (hm : xs.length + ys.length ≤ maxLen) :
    EffOp P w0 ⟨ds, .call ⟨.builtin .append, #[s, y], #[t, t]⟩, ty, pos, aft, g⟩ ρ S (fun v' S' => ∃ H', Vec e k enc (xs ++ ys) v' H' ∧ S' = S.set i H') := fun F a w hs hI => by
  obtain ⟨v', w', H', hr, hV, hI'⟩ := append_vec (P := P) (ty := ty) ht hz hzl hk hby hux huy hones hv hi hx hb hm hI
  have hrun : (execOp a.eval ⟨ds, .call ⟨.builtin .append, #[s, y], #[t, t]⟩, ty, pos, aft, g⟩).run P w = .ok (.value v') w' := by
    simp [execOp, resolve, invoke, builtin, hs s _ hs', hs y _ hy', hr]
  unfold Yld
  rw [hrun]
  exact ⟨_, ⟨H', hV, rfl⟩, hI'⟩
end ops
end
end Go.EL
