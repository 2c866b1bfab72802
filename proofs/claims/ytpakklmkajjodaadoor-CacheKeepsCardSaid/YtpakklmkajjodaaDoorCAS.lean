/- The cache's functions, as their callers see them (items of 1 and 1 cells). -/
import Derived.Test.YtpakklmkajjodaaDoorCW2S
import Derived.Test.YtpakklmkajjodaaDoorCW4S
import Derived.Test.YtpakklmkajjodaaDoorCMod4
set_option maxRecDepth 100000
namespace Go.Proofs.YtpakklmkajjodaaDoor.CSI
open Go Go.EL Go.EL.Cache
abbrev At' (D : Value → Prop) (most : Nat) (th : Th) (c : Nat) (H : Hp) : Prop := CAt 54 87 3 1 1 D most th c H
section
variable {w0 : World} {D : Value → Prop}
theorem perm4 {A B C : Nat × Obj} {Hf : Hp} : ([A :: B :: C :: Hf] : HS).flatten.Perm ([[A], [B], [C], Hf] : HS).flatten := by simp
theorem perm3 {A B C : Nat × Obj} {Hf : Hp} : ([A :: B :: C :: Hf] : HS).flatten.Perm (([[A], [C]] : HS) ++ [[B], Hf]).flatten := by
  simp only [List.flatten_cons, List.flatten_nil, List.append_nil, List.cons_append, List.nil_append]
  exact List.Perm.cons _ (List.Perm.swap _ _ _)

theorem get_api (hK : KeyTy Tryd.prog 9 D) {most : Nat} {th : Th} {c : Nat} {H : Hp} {ks : List Value} (h : At' D most th c H) (hk : D (vv ks)) (hks : ks.length = 1) (hko : ones ks = true) :
    Tri Tryd.prog w0 14 #[.pointer (some ⟨c, 0, none⟩), vv ks] [H] (fun v S' => ∃ H', S' = [H'] ∧
      ((∃ vs, lk ks th = some vs ∧ v = .tuple #[vv vs, .bool true] ∧ At' D most ((ks, vs) :: del ks th) c H') ∨ (lk ks th = none ∧ v = .tuple #[vv zeroIt.val, .bool false] ∧ At' D most th c H'))) := by
  obtain ⟨m, l, cap, fv, xs, sp, es, clk, ord, fr, Hf, hm, hci, rfl, hf, hc1, hc2, hc3, rfl⟩ := h
  rcases hci.find (vv ks) with ⟨la, i, lb, j, b, rfl, hki, hj⟩ | ⟨hmiss, hmiss2⟩
  · have him : i ∈ la ++ i :: lb := by simp
    have hkey : keyAt xs i = ks := vv_inj (by rw [hci.keyLen him, hks]) hki
    obtain ⟨x, hx, hok⟩ := hci.get (i := i) (List.mem_cons_of_mem _ (List.mem_append_left _ him))
    obtain ⟨_, hn, ho⟩ := hci.outs hx
    obtain ⟨hci', ho2⟩ := hci.touch
    have hh := hci.hit
    rw [hkey] at hh
    refine ((getHit_tri hK c l cap m i clk most fv xs sp x es j b ks Hf hci.oks hx hn ho ho2 hks hko hk hci.keysD hci.keysNd hj).pre perm4).out ?_
    rintro v S' ⟨rfl, rfl⟩
    refine ⟨[_], ⟨_, rfl, .inl ⟨x.val, ?_, rfl, m, l, cap, fv, _, sp, es, clk, _, fr, Hf, hm, hci', ?_, hf, ?_, hc2, ?_, rfl⟩⟩, ?_⟩
    · rw [hh.1, valAt_of hx]
    · rw [hh.2]
      have e1 : things (firstL (outL xs i) i) (i :: (la ++ lb)) = things xs (i :: (la ++ lb)) := things_congr fun b _ => ⟨by rw [keyAt_firstL, keyAt_outL], by rw [valAt_firstL, valAt_outL]⟩
      rw [e1]
      simp [things, kv, hkey, valAt_of hx]
    · rw [firstL_len, outL_len]; exact hc1
    · rw [firstL_len, outL_len]; exact hc3
    · rw [firstL_len, outL_len]; exact perm4.symm
  · have hh := hci.miss hmiss2
    refine (((getMiss_tri hK c l cap m clk xs.length most fv es ks hks hko hk hci.keysD hmiss).frame (T := [[(l, li xs sp)], Hf])).pre perm3).out ?_
    rintro v S' ⟨S1, ⟨rfl, rfl⟩, rfl⟩
    exact ⟨[_], ⟨_, rfl, .inr ⟨hh.1, rfl, m, l, cap, fv, xs, sp, es, clk, ord, fr, Hf, hm, hci, rfl, hf, hc1, hc2, hc3, rfl⟩⟩, perm3.symm⟩

theorem put_api (hK : KeyTy Tryd.prog 9 D) {most : Nat} {th : Th} {c : Nat} {H : Hp} {ks vs : List Value} (h : At' D most th c H) (hk : D (vv ks)) (hks : ks.length = 1) (hko : ones ks = true) (hvs : vs.length = 1) (hvo : ones vs = true) :
    Tri Tryd.prog w0 13 #[.pointer (some ⟨c, 0, none⟩), vv ks, vv vs] [H] (fun v S' => ∃ H', S' = [H'] ∧
      (((lk ks th).isSome = true ∧ v = .tuple #[vv zeroIt.key, .bool false] ∧ At' D most ((ks, vs) :: del ks th) c H') ∨
       (lk ks th = none ∧ most = 0 ∧ v = .tuple #[vv ks, .bool true] ∧ At' D most th c H') ∨
       (lk ks th = none ∧ th.length < most ∧ v = .tuple #[vv zeroIt.key, .bool false] ∧ At' D most ((ks, vs) :: th) c H') ∨
       (lk ks th = none ∧ most ≠ 0 ∧ th.length = most ∧ ∃ tl k0 v0, th = tl ++ [(k0, v0)] ∧ v = .tuple #[vv k0, .bool true] ∧ At' D most ((ks, vs) :: tl) c H'))) := by
  obtain ⟨m, l, cap, fv, xs, sp, es, clk, ord, fr, Hf, hm, hci, rfl, hf, hc1, hc2, hc3, rfl⟩ := h
  rcases hci.find (vv ks) with ⟨la, i, lb, j, b, rfl, hki, hj⟩ | ⟨hmiss, hmiss2⟩
  · have him : i ∈ la ++ i :: lb := by simp
    have hkey : keyAt xs i = ks := vv_inj (by rw [hci.keyLen him, hks]) hki
    obtain ⟨x, hx, hok⟩ := hci.get (i := i) (List.mem_cons_of_mem _ (List.mem_append_left _ him))
    have hi : i < xs.length := (List.getElem?_eq_some_iff.1 hx).1
    obtain ⟨_, hn, ho⟩ := hci.outs hx
    have hci1 := hci.setVal (vs := vs) hx hvs hvo
    obtain ⟨hci', ho2⟩ := hci1.touch
    have hl1 : (xs.set i { x with val := vs }).length = xs.length := by simp
    rw [hl1] at ho2
    have hh := hci.hit
    rw [hkey] at hh
    have hnd := nodup_mid (List.nodup_cons.1 hci.ord_nd).2
    refine ((putOld_tri hK c l cap m i clk most fv xs sp x es j b ks vs Hf hci.oks hx hn ho ho2 hvs hvo hks hko hk hci.keysD hci.keysNd hj).pre perm4).out ?_
    rintro v S' ⟨rfl, rfl⟩
    refine ⟨[_], ⟨_, rfl, .inl ⟨by rw [hh.1]; rfl, rfl, m, l, cap, fv, _, sp, es, clk, _, fr, Hf, hm, hci', ?_, hf, ?_, hc2, ?_, rfl⟩⟩, ?_⟩
    · rw [hh.2]
      have e1 : things (firstL (outL (xs.set i { x with val := vs }) i) i) (i :: (la ++ lb)) = things (xs.set i { x with val := vs }) (i :: (la ++ lb)) := things_congr fun b _ => ⟨by rw [keyAt_firstL, keyAt_outL], by rw [valAt_firstL, valAt_outL]⟩
      have e2 : things (xs.set i { x with val := vs }) (la ++ lb) = things xs (la ++ lb) := things_congr fun b hb => by
        have hne : i ≠ b := fun e => hnd.1 (by rw [e]; exact hb)
        exact ⟨keyAt_set_ne _ _ _ _ hne, valAt_set_ne _ _ _ _ hne⟩
      rw [e1]
      simp only [things, List.map_cons] at e2 ⊢
      rw [e2]
      simp only [kv, keyAt_set_eq _ _ _ hi, valAt_set_eq _ _ _ hi]
      rw [← hkey, keyAt_of hx]
    · rw [firstL_len, outL_len, hl1]; exact hc1
    · rw [firstL_len, outL_len, hl1]; exact hc3
    · rw [firstL_len, outL_len, hl1]; exact perm4.symm
  · have hh := hci.miss hmiss2
    by_cases hm0 : most = 0
    · subst hm0
      refine (((putZero_tri hK c l cap m clk xs.length fv es ks vs hks hko hvs hvo hk hci.keysD hmiss).frame (T := [[(l, li xs sp)], Hf])).pre perm3).out ?_
      rintro v S' ⟨S1, ⟨rfl, rfl⟩, rfl⟩
      exact ⟨[_], ⟨_, rfl, .inr (.inl ⟨hh.1, rfl, rfl, m, l, cap, fv, xs, sp, es, clk, ord, fr, Hf, hm, hci, rfl, hf, hc1, hc2, hc3, rfl⟩)⟩, perm3.symm⟩
    · have hlen := hci.len
      have htot := hci.tot
      have hent := hci.ents
      have hfull : (es.length : Int) = (most : Int) → ∃ (x : It) (j : Nat) (en : MapEntry), xs[nwf xs 0]? = some x ∧ x.newer < xs.length ∧ x.older < xs.length ∧ D (vv x.key) ∧ es[j]? = some en ∧ vv x.key = en.key ∧ 0 < nwf xs 0 ∧ olf (outL xs (nwf xs 0)) 0 < xs.length := by
        intro hfl
        have hne : ord ≠ [] := by intro e; subst e; simp only [List.length_nil] at hent; omega
        obtain ⟨la, hla⟩ := hci.last hne
        generalize hi' : nwf xs 0 = i at hla ⊢
        subst hla
        have him : i ∈ la ++ [i] := by simp
        obtain ⟨x, hx, hok⟩ := hci.get (i := i) (List.mem_cons_of_mem _ (List.mem_append_left _ him))
        obtain ⟨_, hn, ho⟩ := hci.outs hx
        obtain ⟨j, b, hj⟩ := hci.entry him
        have hd := hci.dk i him
        rw [keyAt_of hx] at hd hj
        refine ⟨x, j, _, hx, hn, ho, hd, hj, rfl, ?_, hci.touch.2⟩
        exact Nat.pos_of_ne_zero fun e => (List.nodup_cons.1 hci.ord_nd).1 (by rw [← e]; exact him)
      refine ((putNew_tri hK c l cap m clk most fv xs sp es ks vs fr Hf hci.oks (hci.ord_rng 0 (List.mem_cons_self ..)) hc1 hc2 hc3 (by omega) (by omega) hks hko hvs hvo hk hci.keysD hci.keysNd hmiss (by omega) hf hci.ol0 hci.fr_rng hfull).pre perm4).out ?_
      rintro v S' ⟨xs1, es1, fr1, gone, was, hmade, i, xs2, fr2, y, l', cap', sp', fv', Hf', hroom, hy, hV, hd1, hd2, hd3, rfl, rfl⟩
      have fin : ∀ ord1, CI 1 1 D most xs1 es1 ord1 fr1 → ord1.length < most → (∀ i, i ∈ ord1 → vv (keyAt xs1 i) ≠ vv ks) →
          At' D most ((ks, vs) :: things xs1 ord1) c ((c, cc most m l' xs2.length cap' fv') :: (l', li (firstL (xs2.set i { y with key := ks, val := vs }) i) sp') :: (m, .map ⟨es1 ++ [⟨vv ks, .int .i64 i, clk⟩]⟩ (clk + 1)) :: Hf') := by
        intro ord1 hci1 hlt hne
        obtain ⟨hadd, hsame, hki, hvi⟩ := hci1.add (clk := clk) zeroIt_ok hroom hy hlt hks hko hvs hvo hk hne
        refine ⟨m, l', cap', fv', _, sp', _, clk + 1, _, fr2, Hf', hm, hadd, ?_, hV, ?_, hd2, ?_, ?_⟩
        · rw [show things (firstL (xs2.set i { y with key := ks, val := vs }) i) (i :: ord1) = kv (firstL (xs2.set i { y with key := ks, val := vs }) i) i :: things (firstL (xs2.set i { y with key := ks, val := vs }) i) ord1 from rfl, things_congr hsame]
          simp only [kv, hki, hvi]
        · rw [firstL_len, List.length_set]; exact hd1
        · rw [firstL_len, List.length_set]; exact hd3
        · rw [firstL_len, List.length_set]
      rcases hmade with ⟨hnf, rfl, rfl, rfl, rfl, rfl⟩ | ⟨hfl, i0, x, j, en, hi0, hx, hj, he, rfl, rfl, rfl, rfl, rfl⟩
      · have hmst := hci.mst
        have hlt : ord.length < most := by omega
        exact ⟨[_], ⟨_, rfl, .inr (.inr (.inl ⟨hh.1, by simpa [things] using hlt, rfl, fin ord hci hlt hmiss2⟩))⟩, perm4.symm⟩
      · have hne : ord ≠ [] := by intro e; subst e; simp only [List.length_nil] at hent; omega
        obtain ⟨la, hla⟩ := hci.last hne
        rw [← hi0] at hla
        subst hla
        have him : i0 ∈ la ++ [i0] := by simp
        obtain ⟨j', b', hj'⟩ := hci.entry him
        -- the entry of the key is the one at j
        have hjj : j = j' := by
          have h1 : (es.map (·.key))[j]? = some (vv (keyAt xs i0)) := by rw [List.getElem?_map, hj, Option.map_some, ← he, keyAt_of hx]
          have h2 : (es.map (·.key))[j']? = some (vv (keyAt xs i0)) := by rw [List.getElem?_map, hj']; rfl
          have hl1 := (List.getElem?_eq_some_iff.1 h1).1
          exact (List.getElem?_inj hl1 hci.keysNd).1 (h1.trans h2.symm)
        subst hjj
        obtain ⟨hrem, hsame⟩ := hci.remove (z := zeroIt) zeroIt_ok hj'
        rw [List.append_nil] at hrem hsame
        have hmst := hci.mst
        simp only [List.length_append, List.length_cons, List.length_nil] at hent hmst
        have e1 : things xs (la ++ [i0]) = things xs la ++ [(x.key, valAt xs i0)] := by simp [things, kv, keyAt_of hx]
        have hf2 := fin la hrem (by omega) (fun b hb => by rw [(hsame b hb).1]; exact hmiss2 b (List.mem_append_left _ hb))
        rw [things_congr hsame] at hf2
        exact ⟨[_], ⟨_, rfl, .inr (.inr (.inr ⟨hh.1, hm0, by simp [things]; omega, _, _, _, e1, rfl, hf2⟩))⟩, perm4.symm⟩

theorem put_hit (hK : KeyTy Tryd.prog 9 D) {most : Nat} {th : Th} {c : Nat} {H : Hp} {ks vs : List Value} (h : At' D most th c H) (hk : D (vv ks)) (hks : ks.length = 1) (hko : ones ks = true) (hvs : vs.length = 1) (hvo : ones vs = true) (hl : (lk ks th).isSome = true) :
    Tri Tryd.prog w0 13 #[.pointer (some ⟨c, 0, none⟩), vv ks, vv vs] [H] (fun v S' => ∃ H', S' = [H'] ∧ v = .tuple #[vv zeroIt.key, .bool false] ∧ At' D most ((ks, vs) :: del ks th) c H') := by
  refine (put_api hK h hk hks hko hvs hvo).mono ?_
  rintro v S' ⟨H', rfl, ⟨_, rfl, hA⟩ | ⟨h1, _⟩ | ⟨h1, _⟩ | ⟨h1, _⟩⟩
  · exact ⟨_, rfl, rfl, hA⟩
  all_goals rw [h1] at hl; cases hl
theorem put_new (hK : KeyTy Tryd.prog 9 D) {most : Nat} {th : Th} {c : Nat} {H : Hp} {ks vs : List Value} (h : At' D most th c H) (hk : D (vv ks)) (hks : ks.length = 1) (hko : ones ks = true) (hvs : vs.length = 1) (hvo : ones vs = true) (hl : lk ks th = none) (hlt : th.length < most) :
    Tri Tryd.prog w0 13 #[.pointer (some ⟨c, 0, none⟩), vv ks, vv vs] [H] (fun v S' => ∃ H', S' = [H'] ∧ v = .tuple #[vv zeroIt.key, .bool false] ∧ At' D most ((ks, vs) :: th) c H') := by
  refine (put_api hK h hk hks hko hvs hvo).mono ?_
  rintro v S' ⟨H', rfl, ⟨h1, _⟩ | ⟨_, h1, _⟩ | ⟨_, _, rfl, hA⟩ | ⟨_, _, h1, _⟩⟩
  · rw [hl] at h1; cases h1
  · omega
  · exact ⟨_, rfl, rfl, hA⟩
  · omega
theorem put_full (hK : KeyTy Tryd.prog 9 D) {most : Nat} {tl : Th} {k0 v0 : List Value} {c : Nat} {H : Hp} {ks vs : List Value} (h : At' D most (tl ++ [(k0, v0)]) c H) (hk : D (vv ks)) (hks : ks.length = 1) (hko : ones ks = true) (hvs : vs.length = 1) (hvo : ones vs = true) (hl : lk ks (tl ++ [(k0, v0)]) = none) (hlt : tl.length + 1 = most) :
    Tri Tryd.prog w0 13 #[.pointer (some ⟨c, 0, none⟩), vv ks, vv vs] [H] (fun v S' => ∃ H', S' = [H'] ∧ v = .tuple #[vv k0, .bool true] ∧ At' D most ((ks, vs) :: tl) c H') := by
  refine (put_api hK h hk hks hko hvs hvo).mono ?_
  rintro v S' ⟨H', rfl, ⟨h1, _⟩ | ⟨_, h1, _⟩ | ⟨_, h1, _⟩ | ⟨_, _, _, tl', k', v', he, rfl, hA⟩⟩
  · rw [hl] at h1; cases h1
  · omega
  · simp at h1; omega
  · obtain ⟨rfl, h2⟩ := List.append_inj' he rfl
    simp only [List.cons.injEq, Prod.mk.injEq, and_true] at h2
    obtain ⟨rfl, rfl⟩ := h2
    exact ⟨_, rfl, rfl, hA⟩
theorem get_hit (hK : KeyTy Tryd.prog 9 D) {most : Nat} {th : Th} {c : Nat} {H : Hp} {ks vs : List Value} (h : At' D most th c H) (hk : D (vv ks)) (hks : ks.length = 1) (hko : ones ks = true) (hl : lk ks th = some vs) :
    Tri Tryd.prog w0 14 #[.pointer (some ⟨c, 0, none⟩), vv ks] [H] (fun v S' => ∃ H', S' = [H'] ∧ v = .tuple #[vv vs, .bool true] ∧ At' D most ((ks, vs) :: del ks th) c H') := by
  refine (get_api hK h hk hks hko).mono ?_
  rintro v S' ⟨H', rfl, ⟨vs', h1, rfl, hA⟩ | ⟨h1, _⟩⟩
  · rw [hl] at h1
    obtain rfl := Option.some.inj h1
    exact ⟨_, rfl, rfl, hA⟩
  · rw [hl] at h1; cases h1

theorem get_none (hK : KeyTy Tryd.prog 9 D) {most : Nat} {th : Th} {c : Nat} {H : Hp} {ks : List Value} (h : At' D most th c H) (hk : D (vv ks)) (hks : ks.length = 1) (hko : ones ks = true) (hl : lk ks th = none) :
    Tri Tryd.prog w0 14 #[.pointer (some ⟨c, 0, none⟩), vv ks] [H] (fun v S' => ∃ H', S' = [H'] ∧ v = .tuple #[vv zeroIt.val, .bool false] ∧ At' D most th c H') := by
  refine (get_api hK h hk hks hko).mono ?_
  rintro v S' ⟨H', rfl, ⟨vs', h1, _⟩ | ⟨_, rfl, hA⟩⟩
  · rw [hl] at h1; cases h1
  · exact ⟨_, rfl, rfl, hA⟩
theorem put_zero (hK : KeyTy Tryd.prog 9 D) {most : Nat} {th : Th} {c : Nat} {H : Hp} {ks vs : List Value} (h : At' D most th c H) (hk : D (vv ks)) (hks : ks.length = 1) (hko : ones ks = true) (hvs : vs.length = 1) (hvo : ones vs = true) (hl : lk ks th = none) (h0 : most = 0) :
    Tri Tryd.prog w0 13 #[.pointer (some ⟨c, 0, none⟩), vv ks, vv vs] [H] (fun v S' => ∃ H', S' = [H'] ∧ v = .tuple #[vv ks, .bool true] ∧ At' D most th c H') := by
  refine (put_api hK h hk hks hko hvs hvo).mono ?_
  rintro v S' ⟨H', rfl, ⟨h1, _⟩ | ⟨_, _, rfl, hA⟩ | ⟨_, h1, _⟩ | ⟨_, h1, _⟩⟩
  · rw [hl] at h1; cases h1
  · exact ⟨_, rfl, rfl, hA⟩
  · omega
  · exact absurd h0 h1
theorem new_api (n : Int) (h1 : ¬ n < 0) (h2 : ¬ 1024 < n) :
    Tri Tryd.prog w0 18 #[.int .i64 n] [] (fun v S' => ∃ c H, v = .tuple #[.pointer (some ⟨c, 0, none⟩), .nilIface] ∧ S' = [H] ∧ At' D n.toNat [] c H) := by
  refine (new_tri n h1 h2).out ?_
  rintro v S' ⟨c, l, m, rfl, rfl⟩
  obtain ⟨k, rfl⟩ := Int.eq_ofNat_of_zero_le (Int.not_lt.1 h1)
  refine ⟨[(c, cc k m l 1 1 (.slice none 0 0)) :: (l, li [zeroIt] []) :: (m, .map ⟨[]⟩ 0) :: []], ⟨c, _, rfl, rfl, m, l, 1, _, [zeroIt], [], [], 0, [], [], [], by omega, CI.new zeroIt zeroIt_ok rfl rfl, rfl, Vec.nil _ _ _, Nat.le_refl _, by decide, by simp, rfl⟩, ?_⟩
  simp only [List.flatten_cons, List.flatten_nil, List.append_nil, List.cons_append, List.nil_append]
  exact (List.Perm.swap _ _ _).trans (((List.Perm.swap _ _ _).cons _).trans (List.Perm.swap _ _ _)) |>.trans (by exact List.Perm.refl _)
end
end Go.Proofs.YtpakklmkajjodaaDoor.CSI
