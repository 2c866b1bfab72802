/- CacheKeeps, walked: one cache against a plain list of its keys. -/
import Derived.Test.YtpakklmkajjodaaDoorCNone
import Derived.Test.YtpakklmkajjodaaDoorCMod6
import Derived.Test.YtpakklmkajjodaaDoorEL15
set_option maxRecDepth 100000
namespace Go.Proofs.YtpakklmkajjodaaDoor
open Go Go.EL Go.EL.Cache CSI
section
variable {w0 : World} {S : HS} {us : List Use} {a0 : Addr} {len cp i : Nat} {u : Use}
theorem rKey (hr : RdS w0 S Use.enc us (.slice (some a0) len cp)) (hu : us[i]? = some u) : Rd w0 S ((a0.add ((i : Int).toNat * 3)).add 0) (.string u.key) := by rw [add_add]; exact hr.elem (Use.uni us) (i := i) (o := 0) hu rfl
theorem rVal (hr : RdS w0 S Use.enc us (.slice (some a0) len cp)) (hu : us[i]? = some u) : Rd w0 S ((a0.add ((i : Int).toNat * 3)).add 1) (.int .i64 u.val) := by rw [add_add]; exact hr.elem (Use.uni us) (i := i) (o := 1) hu rfl
theorem rPut (hr : RdS w0 S Use.enc us (.slice (some a0) len cp)) (hu : us[i]? = some u) : Rd w0 S ((a0.add ((i : Int).toNat * 3)).add 2) (.bool u.put) := by rw [add_add]; exact hr.elem (Use.uni us) (i := i) (o := 2) hu rfl
end
theorem vec_at {w0 : World} {S : HS} {kk : List ByteArray} {v : Value} {H : Hp} {j : Nat} {t : ByteArray} (hV : Vec 9 1 (fun s => [Value.string s]) kk v H) {c : Nat} (hS : S[c]? = some H) (hj : kk[j]? = some t) : ∃ b cap, v = .slice (some b) kk.length cap ∧ Rd w0 S (b.add ((j : Int).toNat * 1)) (.string t) := by
  have hr := hV.rd (w0 := w0) hS
  obtain ⟨b, cap, rfl⟩ := hr.some (by intro e; subst e; cases hj)
  exact ⟨b, cap, rfl, hr.elem (fun _ _ => rfl) (i := j) (o := 0) hj rfl⟩
set_option maxHeartbeats 1000000 in
theorem keeps_in (w0 : World) (n : Nat) (us : List Use) (v : Value) (hn : n ≤ 1024) (hr : ∀ S, RdS w0 S Use.enc us v) (hbig : us.length ≤ maxLen) :
    Tri Tryd.prog w0 5 #[.int .i64 (n : Nat), v] [] (fun v S' => v = .bool true ∧ S' = []) := by
  simp only [maxLen] at hbig
  obtain ⟨p, cp, rfl⟩ := (hr []).len
  refine Tri.mk Tryd.func5 rfl rfl rfl ?_
  refine WP.sregion ?_
  refine RX.pure (.none rfl) rfl rfl (p_assign rfl) ?_
  refine RX.nil ?_
  refine WP.sregion ?_
  refine RX.pure (.none rfl) rfl rfl (p_move rfl) ?_
  refine RX.eff (.none rfl) rfl rfl rfl (e_call [] rfl call_18 rfl rfl (new_api (D := DS) (n : Nat) (by omega) (by omega))) ?_
  rintro _ _ ⟨_, ⟨c, H, rfl, rfl, hA⟩, rfl⟩
  refine RX.pure (.none rfl) rfl rfl (p_move rfl) ?_
  refine RX.pure (.none rfl) rfl rfl (p_extract rfl rfl) ?_
  refine RX.pure (.none rfl) rfl rfl (p_extract rfl rfl) ?_
  refine RX.pure (.none rfl) rfl rfl (p_assign rfl) ?_
  refine RX.pure (.none rfl) rfl rfl (p_assign rfl) ?_
  refine RX.nil ?_
  refine WP.seq (WP.sregion ?_)
  refine RX.eff (.none rfl) rfl rfl rfl (e_call [] rfl call_8 rfl rfl alive_tri) ?_
  rintro _ _ ⟨_, ⟨rfl, rfl⟩, rfl⟩
  refine RX.pure (.none rfl) rfl rfl (p_not rfl) ?_
  refine RX.nil ?_
  refine WP.condF rfl (WP.skip ?_)
  refine WP.seq (WP.sregion ?_)
  refine RX.pure (.none rfl) rfl rfl (p_move rfl) ?_
  refine RX.pure (.none rfl) rfl rfl (p_lss rfl rfl) ?_
  refine RX.say (t := 29) rfl (.bool false) (by rw [decide_eq_false]; omega) ?_
  refine RX.pure (.none rfl) rfl rfl (p_move rfl) ?_
  (first | refine RX.skip (.no rfl rfl rfl rfl) rfl rfl ?_ | refine RX.pure (.yes rfl rfl rfl) rfl rfl (p_move rfl) ?_)
  (first | refine RX.skip (.no rfl rfl rfl rfl) rfl rfl ?_ | (refine RX.pure (.yes rfl rfl rfl) rfl rfl (p_gtr rfl rfl) ?_; refine RX.say (t := 32) rfl (.bool false) (by rw [decide_eq_false]; omega) ?_))
  (first | refine RX.pure (.none rfl) rfl rfl (p_pickT rfl rfl) ?_ | refine RX.pure (.none rfl) rfl rfl (p_pickF rfl rfl) ?_)
  refine RX.nil ?_
  refine WP.condF rfl (WP.skip ?_)
  refine WP.seq (WP.sregion ?_)
  refine RX.pure (.none rfl) rfl rfl (p_move rfl) ?_
  refine RX.pure (.none rfl) rfl rfl (p_neNilIface rfl (by first | exact .inl rfl | exact .inr ⟨_, _, rfl⟩ | assumption) Tryd.underlying25) ?_
  refine RX.pure (.none rfl) rfl rfl (p_move rfl) ?_
  (first | refine RX.skip (.no rfl rfl rfl rfl) rfl rfl ?_ | refine RX.pure (.yes rfl rfl rfl) rfl rfl (p_move rfl) ?_)
  (first | refine RX.skip (.no rfl rfl rfl rfl) rfl rfl ?_ | refine RX.pure (.yes rfl rfl rfl) rfl rfl (p_eqNilPtr rfl rfl Tryd.underlying49) ?_)
  (first | refine RX.pure (.none rfl) rfl rfl (p_pickT rfl rfl) ?_ | refine RX.pure (.none rfl) rfl rfl (p_pickF rfl rfl) ?_)
  refine RX.nil ?_
  refine WP.condF rfl (WP.skip ?_)
  refine WP.sregion ?_
  refine RX.pure (.none rfl) rfl rfl (p_assign rfl) ?_
  refine RX.nil ?_
  refine WP.sregion ?_
  refine RX.pure (.none rfl) rfl rfl (p_assign rfl) ?_
  refine RX.nil ?_
  refine WP.perm (T := [H, []]) ?_ ?_
  · simp [others]
  refine WP.cut (fun ρ S => ∃ kk th H v7 Hk last, KeysAre kk th ∧ Ints th ∧ At' DS n th c H ∧ Vec 9 1 (fun s => [Value.string s]) kk v7 Hk ∧ Last us n us.length last th ∧ Sub [(0, .int .i64 (n : Nat)), (1, .slice p us.length cp), (5, .pointer (some ⟨c, 0, none⟩)), (7, v7), (8, .int .i64 (last : Nat))] ρ ∧ S = [H, Hk]) ?_ ?_
  · refine WP.sregion ?_
    refine RX.pure (.none rfl) rfl rfl (p_assign rfl) ?_
    refine RX.nil ?_
    refine WP.block ?_
    refine WP.loop (fun m ρ S => ∃ i kk th H v7 Hk last, i ≤ us.length ∧ m = us.length - i ∧ KeysAre kk th ∧ Ints th ∧ At' DS n th c H ∧ Vec 9 1 (fun s => [Value.string s]) kk v7 Hk ∧ Last us n i last th ∧ Sub [(0, .int .i64 (n : Nat)), (1, .slice p us.length cp), (5, .pointer (some ⟨c, 0, none⟩)), (7, v7), (8, .int .i64 (last : Nat)), (9, .int .i64 (i : Nat))] ρ ∧ S = [H, Hk]) us.length ?_ ?_
    · refine ⟨0, [], [], H, _, [], 0, by omega, by omega, rfl, (fun p hp => by cases hp), hA, Vec.nil _ _ _, ⟨.inl rfl, fun h => absurd h (by omega)⟩, ?_, rfl⟩
      repeat (first | exact Sub.nil | refine Sub.cons rfl ?_)
    clear hA H
    rintro m ρ S ⟨i, kk, th, H, v7, Hk, last, hi, rfl, hkk, hin, hA, hV, hlast, hρ, rfl⟩
    refine WP.sub hρ ?_
    clear hρ
    obtain ⟨q7, cp7, rfl⟩ := hV.slice
    by_cases hlt : i < us.length
    · obtain ⟨u, hu⟩ : ∃ u, us[i]? = some u := ⟨_, List.getElem?_eq_getElem hlt⟩
      obtain ⟨a0, cp', e⟩ := (hr []).some (by intro e; subst e; simp at hlt)
      injection e with e1 _ e2
      subst e1
      have hnd := hkk.nodup hA.ok.1
      have hkl : kk.length ≤ n := by rw [← hkk.len]; exact hA.le.1
      refine WP.seq (WP.sregion ?_)
      refine RX.pure (.none rfl) rfl rfl (p_move rfl) ?_
      refine RX.pure (.none rfl) rfl rfl (p_move rfl) ?_
      refine RX.pure (.none rfl) rfl rfl (p_lenSlice rfl Tryd.underlying65) ?_
      refine RX.pure (.none rfl) rfl rfl (p_lss rfl rfl) ?_
      refine RX.say (t := 49) rfl (.bool true) (by rw [decide_eq_true]; omega) ?_
      refine RX.nil ?_
      refine WP.condT rfl (WP.skip ?_)
      refine WP.seq (WP.block ?_)
      refine WP.sregion ?_
      refine RX.pure (.none rfl) rfl rfl (p_assign rfl) ?_
      refine RX.nil ?_
      refine WP.cut (fun ρ S => ∃ z a, PlaceIs kk u.key z a ∧ Sub [(0, .int .i64 (n : Nat)), (1, .slice (some a0) us.length cp), (5, .pointer (some ⟨c, 0, none⟩)), (7, .slice q7 kk.length cp7), (8, .int .i64 (last : Nat)), (9, .int .i64 (i : Nat)), (10, .int .i64 z)] ρ ∧ S = [H, Hk]) ?_ ?_
      · refine WP.sregion ?_
        refine RX.pure (.none rfl) rfl rfl (p_assign rfl) ?_
        refine RX.nil ?_
        refine WP.block ?_
        refine WP.loop (fun m ρ S => ∃ (k : Nat) (z : Int), k ≤ kk.length ∧ m = kk.length - k ∧ ((z = -1 ∧ ∀ j, j < k → kk[j]? ≠ some u.key) ∨ ∃ a : Nat, z = a ∧ kk[a]? = some u.key) ∧ Sub [(0, .int .i64 (n : Nat)), (1, .slice (some a0) us.length cp), (5, .pointer (some ⟨c, 0, none⟩)), (7, .slice q7 kk.length cp7), (8, .int .i64 (last : Nat)), (9, .int .i64 (i : Nat)), (10, .int .i64 z), (11, .int .i64 (k : Nat))] ρ ∧ S = [H, Hk]) kk.length ?_ ?_
        · refine ⟨0, -1, by omega, by omega, .inl ⟨rfl, fun j hj => absurd hj (by omega)⟩, ?_, rfl⟩
          repeat (first | exact Sub.nil | refine Sub.cons rfl ?_)
        rintro m ρ S ⟨k, z, hk, rfl, hz, hρ, rfl⟩
        refine WP.sub hρ ?_
        clear hρ
        by_cases hkl2 : k < kk.length
        · obtain ⟨t, ht⟩ : ∃ t, kk[k]? = some t := ⟨_, List.getElem?_eq_getElem hkl2⟩
          obtain ⟨b7, cb7, e7, hrd⟩ := vec_at (w0 := w0) (S := [H, Hk]) hV (c := 1) rfl ht
          injection e7 with e71 _ e72
          subst e71
          refine WP.seq (WP.sregion ?_)
          refine RX.pure (.none rfl) rfl rfl (p_move rfl) ?_
          refine RX.pure (.none rfl) rfl rfl (p_move rfl) ?_
          refine RX.pure (.none rfl) rfl rfl (p_lenSlice rfl Tryd.underlying62) ?_
          refine RX.pure (.none rfl) rfl rfl (p_lss rfl rfl) ?_
          refine RX.say (t := 55) rfl (.bool true) (by rw [decide_eq_true]; omega) ?_
          refine RX.nil ?_
          refine WP.condT rfl (WP.skip ?_)
          refine WP.seq (WP.block ?_)
          refine WP.sdraw mixed (by kernel_rfl) ?_
          refine RX.pure (.none rfl) rfl rfl (p_move rfl) ?_
          refine RX.pure (.none rfl) rfl rfl (p_move rfl) ?_
          refine RX.pure (.none rfl) rfl rfl (p_idxS rfl rfl sl_62 (by omega) (by omega)) ?_
          refine RX.read (.none rfl) rfl rfl rfl (r_load rfl na_9 hrd) ?_
          refine RX.pure (.none rfl) rfl rfl (p_move rfl) ?_
          refine RX.pure (.none rfl) rfl rfl (p_move rfl) ?_
          refine RX.pure (.none rfl) rfl rfl (p_idxS rfl rfl sl_65 (by omega) (by omega)) ?_
          refine RX.pure (.none rfl) rfl rfl (p_faddr rfl fa_70_0) ?_
          refine RX.read (.none rfl) rfl rfl rfl (r_load rfl na_9 (rKey (hr _) hu)) ?_
          refine RX.pure (.none rfl) rfl rfl (p_eqStr rfl rfl) ?_
          refine RX.nil ?_
          refine WP.cond rfl (fun hb => ?_) (fun hb => WP.skip ?_)
          · refine WP.region ?_
            refine RX.pure (.none rfl) rfl rfl (p_move rfl) ?_
            refine RX.pure (.none rfl) rfl rfl (p_assign rfl) ?_
            refine RX.nil ?_
            refine sq_normal ?_
            refine WP.region ?_
            refine RX.pure (.none rfl) rfl rfl (p_move rfl) ?_
            (first | refine RX.pure (.none rfl) rfl rfl (p_add rfl rfl (wr_i64 (by omega) (by omega))) ?_ | refine RX.pure (.none rfl) rfl rfl (p_add rfl rfl rfl) ?_)
            refine RX.pure (.none rfl) rfl rfl (p_assign rfl) ?_
            refine RX.nil ?_
            refine lq_normal (kk.length - (k + 1)) (by omega) ?_
            refine ⟨k + 1, k, by omega, rfl, .inr ⟨k, rfl, by rw [ht, of_dec hb]⟩, ?_, rfl⟩
            repeat (first | exact Sub.nil | refine Sub.cons rfl ?_)
          · refine sq_normal ?_
            refine WP.region ?_
            refine RX.pure (.none rfl) rfl rfl (p_move rfl) ?_
            (first | refine RX.pure (.none rfl) rfl rfl (p_add rfl rfl (wr_i64 (by omega) (by omega))) ?_ | refine RX.pure (.none rfl) rfl rfl (p_add rfl rfl rfl) ?_)
            refine RX.pure (.none rfl) rfl rfl (p_assign rfl) ?_
            refine RX.nil ?_
            refine lq_normal (kk.length - (k + 1)) (by omega) ?_
            refine ⟨k + 1, z, by omega, rfl, ?_, ?_, rfl⟩
            · rcases hz with ⟨h1, h2⟩ | h1
              · refine .inl ⟨h1, fun j hj => ?_⟩
                by_cases hjk : j = k
                · subst hjk; rw [ht]; exact fun e => of_ndec hb (Option.some.inj e)
                · exact h2 j (by omega)
              · exact .inr h1
            · repeat (first | exact Sub.nil | refine Sub.cons rfl ?_)
        · refine WP.seq (WP.sregion ?_)
          refine RX.pure (.none rfl) rfl rfl (p_move rfl) ?_
          refine RX.pure (.none rfl) rfl rfl (p_move rfl) ?_
          refine RX.pure (.none rfl) rfl rfl (p_lenSlice rfl Tryd.underlying62) ?_
          refine RX.pure (.none rfl) rfl rfl (p_lss rfl rfl) ?_
          refine RX.say (t := 55) rfl (.bool false) (by rw [decide_eq_false]; omega) ?_
          refine RX.nil ?_
          refine WP.condF rfl ?_
          refine WP.exit ?_
          repeat (first | refine sq_exit ?_ | refine bk_exit ?_ | refine lq_exit ?_ | refine cq_exit ?_ | refine bk_exit' rfl ?_)
          have hpl : ∃ a, PlaceIs kk u.key z a := by
            rcases hz with ⟨h1, h2⟩ | ⟨a, h1, h2⟩
            · refine ⟨kk.length, .inl ⟨h1, rfl, fun hm => ?_⟩⟩
              obtain ⟨j, hj, he⟩ := List.getElem_of_mem hm
              exact h2 j (by omega) (by rw [← he]; simp)
            · exact ⟨a, .inr ⟨h1, h2⟩⟩
          obtain ⟨a, hpl⟩ := hpl
          refine ⟨z, a, hpl, ?_, rfl⟩
          repeat (first | exact Sub.nil | refine Sub.cons rfl ?_)
      rintro ρ S ⟨z, a, hpl, hρ, rfl⟩
      refine WP.sub hρ ?_
      clear hρ
      refine WP.cut (fun ρ S => ∃ th' H' last', At' DS n th' c H' ∧ Ints th' ∧ Last us n (i + 1) last' th' ∧ ((z = -1 ∧ (u.put = false ∨ n = 0) ∧ KeysAre kk th') ∨ (¬ (z = -1 ∧ (u.put = false ∨ n = 0)) ∧ KeysAre (nxt kk a n u.key) th' ∧ 0 < n)) ∧ Sub [(0, .int .i64 (n : Nat)), (1, .slice (some a0) us.length cp), (5, .pointer (some ⟨c, 0, none⟩)), (7, .slice q7 kk.length cp7), (8, .int .i64 (last' : Nat)), (9, .int .i64 (i : Nat)), (10, .int .i64 z)] ρ ∧ S = [H', Hk]) ?_ ?_
      · by_cases hput : u.put = false
        · refine WP.sregion ?_
          refine RX.pure (.none rfl) rfl rfl (p_move rfl) ?_
          refine RX.pure (.none rfl) rfl rfl (p_move rfl) ?_
          refine RX.pure (.none rfl) rfl rfl (p_idxS rfl rfl sl_65 (by omega) (by omega)) ?_
          refine RX.pure (.none rfl) rfl rfl (p_faddr rfl fa_70_2) ?_
          refine RX.read (.none rfl) rfl rfl rfl (r_load rfl na_4 (rPut (hr _) hu)) ?_
          refine RX.pure (.none rfl) rfl rfl (p_not rfl) ?_
          refine RX.say (t := 74) rfl (.bool true) (by rw [hput]; rfl) ?_
          refine RX.nil ?_
          refine WP.condT rfl ?_
          by_cases hm : u.key ∈ kk
          · obtain ⟨w, hw⟩ := hkk.hit hin hm
            obtain ⟨rfl, ha⟩ : z = (a : Nat) ∧ kk[a]? = some u.key := hpl.elim (fun h => absurd hm h.2.2) id
            have hal := (List.getElem?_eq_some_iff.1 ha).1
            refine WP.sregion ?_
            refine RX.pure (.none rfl) rfl rfl (p_move rfl) ?_
            refine RX.pure (.none rfl) rfl rfl (p_move rfl) ?_
            refine RX.pure (.none rfl) rfl rfl (p_move rfl) ?_
            refine RX.pure (.none rfl) rfl rfl (p_idxS rfl rfl sl_65 (by omega) (by omega)) ?_
            refine RX.pure (.none rfl) rfl rfl (p_faddr rfl fa_70_0) ?_
            refine RX.read (.none rfl) rfl rfl rfl (r_load rfl na_9 (rKey (hr _) hu)) ?_
            refine RX.eff (.none rfl) rfl rfl rfl (e_call [0] rfl call_14 rfl rfl (get_hit hKS hA (ks := kS u.key) (vs := [.int .i64 w]) ⟨_, rfl⟩ rfl rfl hw)) ?_
            rintro _ _ ⟨_, ⟨H', rfl, rfl, hA'⟩, rfl⟩
            refine RX.pure (.none rfl) rfl rfl (p_move rfl) ?_
            refine RX.pure (.none rfl) rfl rfl (p_extract rfl rfl) ?_
            refine RX.pure (.none rfl) rfl rfl (p_extract rfl rfl) ?_
            refine RX.pure (.none rfl) rfl rfl (p_assign rfl) ?_
            refine RX.pure (.none rfl) rfl rfl (p_assign rfl) ?_
            refine RX.nil ?_
            refine WP.sregion ?_
            refine RX.pure (.none rfl) rfl rfl (p_move rfl) ?_
            refine RX.pure (.none rfl) rfl rfl (p_move rfl) ?_
            refine RX.pure (.none rfl) rfl rfl (p_geq rfl rfl) ?_
            refine RX.say (t := 87) rfl (.bool true) (by rw [decide_eq_true]; omega) ?_
            refine RX.pure (.none rfl) rfl rfl (p_neBool rfl rfl Tryd.underlying4) ?_
            refine RX.pure (.none rfl) rfl rfl (p_move rfl) ?_
            (first | refine RX.skip (.no rfl rfl rfl rfl) rfl rfl ?_ | refine RX.pure (.yes rfl rfl rfl) rfl rfl (p_move rfl) ?_)
            (first | refine RX.skip (.no rfl rfl rfl rfl) rfl rfl ?_ | refine RX.pure (.yes rfl rfl rfl) rfl rfl (p_not rfl) ?_)
            (first | refine RX.skip (.no rfl rfl rfl rfl) rfl rfl ?_ | refine RX.pure (.yes rfl rfl rfl) rfl rfl (p_move rfl) ?_)
            (first | refine RX.skip (.no rfl rfl rfl rfl) rfl rfl ?_ | refine RX.pure (.yes rfl rfl rfl) rfl rfl (p_move rfl) ?_)
            (first | refine RX.skip (.no rfl rfl rfl rfl) rfl rfl ?_ | refine RX.pure (.yes rfl rfl rfl) rfl rfl (p_neInt rfl rfl) ?_)
            (first | refine RX.skip (.no rfl rfl rfl rfl) rfl rfl ?_ | refine RX.pure (.yes rfl rfl rfl) rfl rfl (p_pickT rfl rfl) ?_ | refine RX.pure (.yes rfl rfl rfl) rfl rfl (p_pickF rfl rfl) ?_)
            (first | refine RX.pure (.none rfl) rfl rfl (p_pickT rfl rfl) ?_ | refine RX.pure (.none rfl) rfl rfl (p_pickF rfl rfl) ?_)
            refine RX.nil ?_
            refine WP.condF rfl (WP.skip ?_)
            refine ⟨_, H', last, hA', (hin.del _).cons _ _, hlast.get hu hput (lk_get hw), .inr ⟨by omega, by rw [nxt_hit ha hkl]; exact (del_keys hkk hnd ha).cons _ _, by omega⟩, ?_, rfl⟩
            repeat (first | exact Sub.nil | refine Sub.cons rfl ?_)
          · obtain ⟨rfl, rfl, -⟩ : z = -1 ∧ a = kk.length ∧ u.key ∉ kk := hpl.elim id (fun h => absurd (List.mem_of_getElem? h.2) hm)
            refine WP.sregion ?_
            refine RX.pure (.none rfl) rfl rfl (p_move rfl) ?_
            refine RX.pure (.none rfl) rfl rfl (p_move rfl) ?_
            refine RX.pure (.none rfl) rfl rfl (p_move rfl) ?_
            refine RX.pure (.none rfl) rfl rfl (p_idxS rfl rfl sl_65 (by omega) (by omega)) ?_
            refine RX.pure (.none rfl) rfl rfl (p_faddr rfl fa_70_0) ?_
            refine RX.read (.none rfl) rfl rfl rfl (r_load rfl na_9 (rKey (hr _) hu)) ?_
            refine RX.eff (.none rfl) rfl rfl rfl (e_call [0] rfl call_14 rfl rfl (get_none hKS hA (ks := kS u.key) ⟨_, rfl⟩ rfl rfl (hkk.miss hm))) ?_
            rintro _ _ ⟨_, ⟨H', rfl, rfl, hA'⟩, rfl⟩
            refine RX.pure (.none rfl) rfl rfl (p_move rfl) ?_
            refine RX.pure (.none rfl) rfl rfl (p_extract rfl rfl) ?_
            refine RX.pure (.none rfl) rfl rfl (p_extract rfl rfl) ?_
            refine RX.pure (.none rfl) rfl rfl (p_assign rfl) ?_
            refine RX.pure (.none rfl) rfl rfl (p_assign rfl) ?_
            refine RX.nil ?_
            refine WP.sregion ?_
            refine RX.pure (.none rfl) rfl rfl (p_move rfl) ?_
            refine RX.pure (.none rfl) rfl rfl (p_move rfl) ?_
            refine RX.pure (.none rfl) rfl rfl (p_geq rfl rfl) ?_
            refine RX.pure (.none rfl) rfl rfl (p_neBool rfl rfl Tryd.underlying4) ?_
            refine RX.pure (.none rfl) rfl rfl (p_move rfl) ?_
            (first | refine RX.skip (.no rfl rfl rfl rfl) rfl rfl ?_ | refine RX.pure (.yes rfl rfl rfl) rfl rfl (p_move rfl) ?_)
            (first | refine RX.skip (.no rfl rfl rfl rfl) rfl rfl ?_ | refine RX.pure (.yes rfl rfl rfl) rfl rfl (p_not rfl) ?_)
            (first | refine RX.skip (.no rfl rfl rfl rfl) rfl rfl ?_ | refine RX.pure (.yes rfl rfl rfl) rfl rfl (p_move rfl) ?_)
            (first | refine RX.skip (.no rfl rfl rfl rfl) rfl rfl ?_ | refine RX.pure (.yes rfl rfl rfl) rfl rfl (p_move rfl) ?_)
            (first | refine RX.skip (.no rfl rfl rfl rfl) rfl rfl ?_ | refine RX.pure (.yes rfl rfl rfl) rfl rfl (p_neInt rfl rfl) ?_)
            (first | refine RX.skip (.no rfl rfl rfl rfl) rfl rfl ?_ | refine RX.pure (.yes rfl rfl rfl) rfl rfl (p_pickT rfl rfl) ?_ | refine RX.pure (.yes rfl rfl rfl) rfl rfl (p_pickF rfl rfl) ?_)
            (first | refine RX.pure (.none rfl) rfl rfl (p_pickT rfl rfl) ?_ | refine RX.pure (.none rfl) rfl rfl (p_pickF rfl rfl) ?_)
            refine RX.nil ?_
            refine WP.condF rfl (WP.skip ?_)
            refine ⟨th, H', last, hA', hin, hlast.get hu hput (fun _ => rfl), .inl ⟨rfl, .inl hput, hkk⟩, ?_, rfl⟩
            repeat (first | exact Sub.nil | refine Sub.cons rfl ?_)
        · replace hput : u.put = true := by simpa using hput
          refine WP.sregion ?_
          refine RX.pure (.none rfl) rfl rfl (p_move rfl) ?_
          refine RX.pure (.none rfl) rfl rfl (p_move rfl) ?_
          refine RX.pure (.none rfl) rfl rfl (p_idxS rfl rfl sl_65 (by omega) (by omega)) ?_
          refine RX.pure (.none rfl) rfl rfl (p_faddr rfl fa_70_2) ?_
          refine RX.read (.none rfl) rfl rfl rfl (r_load rfl na_4 (rPut (hr _) hu)) ?_
          refine RX.pure (.none rfl) rfl rfl (p_not rfl) ?_
          refine RX.say (t := 74) rfl (.bool false) (by rw [hput]; rfl) ?_
          refine RX.nil ?_
          refine WP.condF rfl ?_
          by_cases hm : u.key ∈ kk
          · obtain ⟨w, hw⟩ := hkk.hit hin hm
            obtain ⟨rfl, ha⟩ : z = (a : Nat) ∧ kk[a]? = some u.key := hpl.elim (fun h => absurd hm h.2.2) id
            have hal := (List.getElem?_eq_some_iff.1 ha).1
            refine WP.sdraw mixed (by kernel_rfl) ?_
            refine RX.pure (.none rfl) rfl rfl (p_move rfl) ?_
            refine RX.pure (.none rfl) rfl rfl (p_move rfl) ?_
            refine RX.pure (.none rfl) rfl rfl (p_move rfl) ?_
            refine RX.pure (.none rfl) rfl rfl (p_idxS rfl rfl sl_65 (by omega) (by omega)) ?_
            refine RX.pure (.none rfl) rfl rfl (p_faddr rfl fa_70_0) ?_
            refine RX.read (.none rfl) rfl rfl rfl (r_load rfl na_9 (rKey (hr _) hu)) ?_
            refine RX.pure (.none rfl) rfl rfl (p_move rfl) ?_
            refine RX.pure (.none rfl) rfl rfl (p_move rfl) ?_
            refine RX.pure (.none rfl) rfl rfl (p_idxS rfl rfl sl_65 (by omega) (by omega)) ?_
            refine RX.pure (.none rfl) rfl rfl (p_faddr rfl fa_70_1) ?_
            refine RX.read (.none rfl) rfl rfl rfl (r_load rfl na_3 (rVal (hr _) hu)) ?_
            refine RX.eff (.none rfl) rfl rfl rfl (e_call [0] rfl call_13 rfl rfl (put_hit hKS hA (ks := kS u.key) (vs := [.int .i64 u.val]) ⟨_, rfl⟩ rfl rfl rfl rfl (by rw [hw]; rfl))) ?_
            rintro _ _ ⟨_, ⟨H', rfl, rfl, hA'⟩, rfl⟩
            refine RX.pure (.none rfl) rfl rfl (p_move rfl) ?_
            refine RX.pure (.none rfl) rfl rfl (p_extract rfl rfl) ?_
            refine RX.pure (.none rfl) rfl rfl (p_extract rfl rfl) ?_
            refine RX.pure (.none rfl) rfl rfl (p_assign rfl) ?_
            refine RX.pure (.none rfl) rfl rfl (p_assign rfl) ?_
            refine RX.nil ?_
            refine WP.seq (WP.sregion ?_)
            refine RX.pure (.none rfl) rfl rfl (p_move rfl) ?_
            refine RX.pure (.none rfl) rfl rfl (p_move rfl) ?_
            refine RX.pure (.none rfl) rfl rfl (p_lss rfl rfl) ?_
            refine RX.say (t := 114) rfl (.bool false) (by rw [decide_eq_false]; omega) ?_
            refine RX.pure (.none rfl) rfl rfl (p_move rfl) ?_
            (first | refine RX.skip (.no rfl rfl rfl rfl) rfl rfl ?_ | refine RX.pure (.yes rfl rfl rfl) rfl rfl (p_move rfl) ?_)
            (first | refine RX.skip (.no rfl rfl rfl rfl) rfl rfl ?_ | refine RX.pure (.yes rfl rfl rfl) rfl rfl (p_lenSlice rfl Tryd.underlying62) ?_)
            (first | refine RX.skip (.no rfl rfl rfl rfl) rfl rfl ?_ | refine RX.pure (.yes rfl rfl rfl) rfl rfl (p_move rfl) ?_)
            (first | refine RX.skip (.no rfl rfl rfl rfl) rfl rfl ?_ | (refine RX.pure (.yes rfl rfl rfl) rfl rfl (p_eqInt rfl rfl) ?_; refine RX.say (t := 119) rfl (.bool false) (by rw [decide_eq_false]; omega) ?_))
            (first | refine RX.pure (.none rfl) rfl rfl (p_pickT rfl rfl) ?_ | refine RX.pure (.none rfl) rfl rfl (p_pickF rfl rfl) ?_)
            refine RX.pure (.none rfl) rfl rfl (p_neBool rfl rfl Tryd.underlying4) ?_
            refine RX.pure (.none rfl) rfl rfl (p_move rfl) ?_
            (first | refine RX.skip (.no rfl rfl rfl rfl) rfl rfl ?_ | refine RX.pure (.yes rfl rfl rfl) rfl rfl (p_move rfl) ?_)
            (first | refine RX.skip (.no rfl rfl rfl rfl) rfl rfl ?_ | refine RX.pure (.yes rfl rfl rfl) rfl rfl (p_not rfl) ?_)
            (first | refine RX.skip (.no rfl rfl rfl rfl) rfl rfl ?_ | refine RX.pure (.yes rfl rfl rfl) rfl rfl (p_move rfl) ?_)
            (first | refine RX.skip (.no rfl rfl rfl rfl) rfl rfl ?_ | refine RX.pure (.yes rfl rfl rfl) rfl rfl (p_move rfl) ?_)
            (first | refine RX.skip (.no rfl rfl rfl rfl) rfl rfl ?_ | refine RX.pure (.yes rfl rfl rfl) rfl rfl (p_neStr rfl rfl) ?_)
            (first | refine RX.skip (.no rfl rfl rfl rfl) rfl rfl ?_ | refine RX.pure (.yes rfl rfl rfl) rfl rfl (p_pickT rfl rfl) ?_ | refine RX.pure (.yes rfl rfl rfl) rfl rfl (p_pickF rfl rfl) ?_)
            (first | refine RX.pure (.none rfl) rfl rfl (p_pickT rfl rfl) ?_ | refine RX.pure (.none rfl) rfl rfl (p_pickF rfl rfl) ?_)
            refine RX.nil ?_
            refine WP.condF rfl (WP.skip ?_)
            refine WP.seq (WP.sregion ?_)
            refine RX.pure (.none rfl) rfl rfl (p_move rfl) ?_
            refine RX.pure (.none rfl) rfl rfl (p_move rfl) ?_
            (first | refine RX.skip (.no rfl rfl rfl rfl) rfl rfl ?_ | refine RX.pure (.yes rfl rfl rfl) rfl rfl (p_move rfl) ?_)
            (first | refine RX.skip (.no rfl rfl rfl rfl) rfl rfl ?_ | (refine RX.pure (.yes rfl rfl rfl) rfl rfl (p_eqInt rfl rfl) ?_; refine RX.say (t := 133) rfl (.bool false) (by rw [decide_eq_false]; omega) ?_))
            (first | refine RX.pure (.none rfl) rfl rfl (p_pickT rfl rfl) ?_ | refine RX.pure (.none rfl) rfl rfl (p_pickF rfl rfl) ?_)
            refine RX.pure (.none rfl) rfl rfl (p_move rfl) ?_
            (first | refine RX.skip (.no rfl rfl rfl rfl) rfl rfl ?_ | refine RX.pure (.yes rfl rfl rfl) rfl rfl (p_move rfl) ?_)
            (first | refine RX.skip (.no rfl rfl rfl rfl) rfl rfl ?_ | refine RX.pure (.yes rfl rfl rfl) rfl rfl (p_move rfl) ?_)
            (first | refine RX.skip (.no rfl rfl rfl rfl) rfl rfl ?_ | refine RX.pure (.yes rfl rfl rfl) rfl rfl (p_move rfl) ?_)
            (first | refine RX.skip (.no rfl rfl rfl rfl) rfl rfl ?_ | refine RX.pure (.yes rfl rfl rfl) rfl rfl (p_idxS rfl rfl sl_65 (by omega) (by omega)) ?_)
            (first | refine RX.skip (.no rfl rfl rfl rfl) rfl rfl ?_ | refine RX.pure (.yes rfl rfl rfl) rfl rfl (p_faddr rfl fa_70_0) ?_)
            (first | refine RX.skip (.no rfl rfl rfl rfl) rfl rfl ?_ | refine RX.read (.yes rfl rfl rfl) rfl rfl rfl (r_load rfl na_9 (rKey (hr _) hu)) ?_)
            (first | refine RX.skip (.no rfl rfl rfl rfl) rfl rfl ?_ | (refine RX.pure (.yes rfl rfl rfl) rfl rfl (p_neStr rfl rfl) ?_; refine RX.say (t := 142) rfl (.bool false) (by simp) ?_))
            (first | refine RX.pure (.none rfl) rfl rfl (p_pickT rfl rfl) ?_ | refine RX.pure (.none rfl) rfl rfl (p_pickF rfl rfl) ?_)
            refine RX.pure (.none rfl) rfl rfl (p_move rfl) ?_
            (first | refine RX.skip (.no rfl rfl rfl rfl) rfl rfl ?_ | refine RX.pure (.yes rfl rfl rfl) rfl rfl (p_move rfl) ?_)
            (first | refine RX.skip (.no rfl rfl rfl rfl) rfl rfl ?_ | refine RX.pure (.yes rfl rfl rfl) rfl rfl (p_move rfl) ?_)
            (first | refine RX.skip (.no rfl rfl rfl rfl) rfl rfl ?_ | refine RX.pure (.yes rfl rfl rfl) rfl rfl (p_move rfl) ?_)
            (first | refine RX.skip (.no rfl rfl rfl rfl) rfl rfl ?_ | (refine RX.pure (.yes rfl rfl rfl) rfl rfl (p_gtr rfl rfl) ?_; refine RX.say (t := 148) rfl (.bool false) (by rw [decide_eq_false]; omega) ?_))
            (first | refine RX.skip (.no rfl rfl rfl rfl) rfl rfl ?_ | refine RX.pure (.yes rfl rfl rfl) rfl rfl (p_pickT rfl rfl) ?_ | refine RX.pure (.yes rfl rfl rfl) rfl rfl (p_pickF rfl rfl) ?_)
            (first | refine RX.skip (.no rfl rfl rfl rfl) rfl rfl ?_ | refine RX.pure (.yes rfl rfl rfl) rfl rfl (p_move rfl) ?_)
            (first | refine RX.skip (.no rfl rfl rfl rfl) rfl rfl ?_ | refine RX.pure (.yes rfl rfl rfl) rfl rfl (p_move rfl) ?_)
            (first | refine RX.skip (.no rfl rfl rfl rfl) rfl rfl ?_ | refine RX.pure (.yes rfl rfl rfl) rfl rfl (p_move rfl) ?_)
            (first | refine RX.skip (.no rfl rfl rfl rfl) rfl rfl ?_ | refine RX.pure (.yes rfl rfl rfl) rfl rfl (p_move rfl) ?_)
            (first | refine RX.skip (.no rfl rfl rfl rfl) rfl rfl ?_ | refine RX.pure (.yes rfl rfl rfl) rfl rfl (p_lenSlice rfl Tryd.underlying62) ?_)
            (first | refine RX.skip (.no rfl rfl rfl rfl) rfl rfl ?_ | refine RX.pure (.yes rfl rfl rfl) rfl rfl (p_sub rfl rfl (wr_i64 (by omega) (by omega))) ?_ | refine RX.pure (.yes rfl rfl rfl) rfl rfl (p_sub rfl rfl rfl) ?_)
            (first | refine RX.skip (.no rfl rfl rfl rfl) rfl rfl ?_ | refine RX.pure (.yes rfl rfl rfl) rfl rfl (p_idxSlice0 rfl rfl sl_62 (by omega) (by omega)) ?_ | refine RX.pure (.yes rfl rfl rfl) rfl rfl (p_idxSlice rfl rfl sl_62 (by omega) (by omega)) ?_)
            (first | refine RX.skip (.no rfl rfl rfl rfl) rfl rfl ?_ | refine RX.ld 0 (.yes rfl rfl rfl) rfl rfl na_9 rfl rfl ?_ | refine RX.ld 1 (.yes rfl rfl rfl) rfl rfl na_9 rfl rfl ?_ | refine RX.ld 2 (.yes rfl rfl rfl) rfl rfl na_9 rfl rfl ?_ | refine RX.ld 3 (.yes rfl rfl rfl) rfl rfl na_9 rfl rfl ?_ | refine RX.ld 4 (.yes rfl rfl rfl) rfl rfl na_9 rfl rfl ?_ | refine RX.ld 5 (.yes rfl rfl rfl) rfl rfl na_9 rfl rfl ?_ | refine RX.ld 6 (.yes rfl rfl rfl) rfl rfl na_9 rfl rfl ?_ | refine RX.ld 7 (.yes rfl rfl rfl) rfl rfl na_9 rfl rfl ?_)
            (first | refine RX.skip (.no rfl rfl rfl rfl) rfl rfl ?_ | refine RX.pure (.yes rfl rfl rfl) rfl rfl (p_neStr rfl rfl) ?_)
            (first | refine RX.skip (.no rfl rfl rfl rfl) rfl rfl ?_ | refine RX.pure (.yes rfl rfl rfl) rfl rfl (p_pickT rfl rfl) ?_ | refine RX.pure (.yes rfl rfl rfl) rfl rfl (p_pickF rfl rfl) ?_)
            (first | refine RX.pure (.none rfl) rfl rfl (p_pickT rfl rfl) ?_ | refine RX.pure (.none rfl) rfl rfl (p_pickF rfl rfl) ?_)
            refine RX.nil ?_
            refine WP.condF rfl (WP.skip ?_)
            refine WP.region ?_
            refine RX.pure (.none rfl) rfl rfl (p_move rfl) ?_
            refine RX.pure (.none rfl) rfl rfl (p_assign rfl) ?_
            refine RX.nil ?_
            refine ⟨_, H', i, hA', (hin.del _).cons _ _, .put hu (fun _ => lk_eq _ _ _), .inr ⟨by omega, by rw [nxt_hit ha hkl]; exact (del_keys hkk hnd ha).cons _ _, by omega⟩, ?_, rfl⟩
            repeat (first | exact Sub.nil | refine Sub.cons rfl ?_)
          · obtain ⟨rfl, rfl, -⟩ : z = -1 ∧ a = kk.length ∧ u.key ∉ kk := hpl.elim id (fun h => absurd (List.mem_of_getElem? h.2) hm)
            by_cases hn0 : n = 0
            · have hk0 : kk.length = 0 := by omega
              refine WP.sdraw mixed (by kernel_rfl) ?_
              refine RX.pure (.none rfl) rfl rfl (p_move rfl) ?_
              refine RX.pure (.none rfl) rfl rfl (p_move rfl) ?_
              refine RX.pure (.none rfl) rfl rfl (p_move rfl) ?_
              refine RX.pure (.none rfl) rfl rfl (p_idxS rfl rfl sl_65 (by omega) (by omega)) ?_
              refine RX.pure (.none rfl) rfl rfl (p_faddr rfl fa_70_0) ?_
              refine RX.read (.none rfl) rfl rfl rfl (r_load rfl na_9 (rKey (hr _) hu)) ?_
              refine RX.pure (.none rfl) rfl rfl (p_move rfl) ?_
              refine RX.pure (.none rfl) rfl rfl (p_move rfl) ?_
              refine RX.pure (.none rfl) rfl rfl (p_idxS rfl rfl sl_65 (by omega) (by omega)) ?_
              refine RX.pure (.none rfl) rfl rfl (p_faddr rfl fa_70_1) ?_
              refine RX.read (.none rfl) rfl rfl rfl (r_load rfl na_3 (rVal (hr _) hu)) ?_
              refine RX.eff (.none rfl) rfl rfl rfl (e_call [0] rfl call_13 rfl rfl (put_zero hKS hA (ks := kS u.key) (vs := [.int .i64 u.val]) ⟨_, rfl⟩ rfl rfl rfl rfl (hkk.miss hm) hn0)) ?_
              rintro _ _ ⟨_, ⟨H', rfl, rfl, hA'⟩, rfl⟩
              refine RX.pure (.none rfl) rfl rfl (p_move rfl) ?_
              refine RX.pure (.none rfl) rfl rfl (p_extract rfl rfl) ?_
              refine RX.pure (.none rfl) rfl rfl (p_extract rfl rfl) ?_
              refine RX.pure (.none rfl) rfl rfl (p_assign rfl) ?_
              refine RX.pure (.none rfl) rfl rfl (p_assign rfl) ?_
              refine RX.nil ?_
              refine WP.seq (WP.sregion ?_)
              refine RX.pure (.none rfl) rfl rfl (p_move rfl) ?_
              refine RX.pure (.none rfl) rfl rfl (p_move rfl) ?_
              refine RX.pure (.none rfl) rfl rfl (p_lss rfl rfl) ?_
              refine RX.say (t := 114) rfl (.bool true) (by rw [decide_eq_true]; omega) ?_
              refine RX.pure (.none rfl) rfl rfl (p_move rfl) ?_
              (first | refine RX.skip (.no rfl rfl rfl rfl) rfl rfl ?_ | refine RX.pure (.yes rfl rfl rfl) rfl rfl (p_move rfl) ?_)
              (first | refine RX.skip (.no rfl rfl rfl rfl) rfl rfl ?_ | refine RX.pure (.yes rfl rfl rfl) rfl rfl (p_lenSlice rfl Tryd.underlying62) ?_)
              (first | refine RX.skip (.no rfl rfl rfl rfl) rfl rfl ?_ | refine RX.pure (.yes rfl rfl rfl) rfl rfl (p_move rfl) ?_)
              (first | refine RX.skip (.no rfl rfl rfl rfl) rfl rfl ?_ | (refine RX.pure (.yes rfl rfl rfl) rfl rfl (p_eqInt rfl rfl) ?_; refine RX.say (t := 119) rfl (.bool true) (by rw [decide_eq_true]; omega) ?_))
              (first | refine RX.pure (.none rfl) rfl rfl (p_pickT rfl rfl) ?_ | refine RX.pure (.none rfl) rfl rfl (p_pickF rfl rfl) ?_)
              refine RX.pure (.none rfl) rfl rfl (p_neBool rfl rfl Tryd.underlying4) ?_
              refine RX.pure (.none rfl) rfl rfl (p_move rfl) ?_
              (first | refine RX.skip (.no rfl rfl rfl rfl) rfl rfl ?_ | refine RX.pure (.yes rfl rfl rfl) rfl rfl (p_move rfl) ?_)
              (first | refine RX.skip (.no rfl rfl rfl rfl) rfl rfl ?_ | refine RX.pure (.yes rfl rfl rfl) rfl rfl (p_not rfl) ?_)
              (first | refine RX.skip (.no rfl rfl rfl rfl) rfl rfl ?_ | refine RX.pure (.yes rfl rfl rfl) rfl rfl (p_move rfl) ?_)
              (first | refine RX.skip (.no rfl rfl rfl rfl) rfl rfl ?_ | refine RX.pure (.yes rfl rfl rfl) rfl rfl (p_move rfl) ?_)
              (first | refine RX.skip (.no rfl rfl rfl rfl) rfl rfl ?_ | refine RX.pure (.yes rfl rfl rfl) rfl rfl (p_neStr rfl rfl) ?_)
              (first | refine RX.skip (.no rfl rfl rfl rfl) rfl rfl ?_ | refine RX.pure (.yes rfl rfl rfl) rfl rfl (p_pickT rfl rfl) ?_ | refine RX.pure (.yes rfl rfl rfl) rfl rfl (p_pickF rfl rfl) ?_)
              (first | refine RX.pure (.none rfl) rfl rfl (p_pickT rfl rfl) ?_ | refine RX.pure (.none rfl) rfl rfl (p_pickF rfl rfl) ?_)
              refine RX.nil ?_
              refine WP.condF rfl (WP.skip ?_)
              refine WP.seq (WP.sregion ?_)
              refine RX.pure (.none rfl) rfl rfl (p_move rfl) ?_
              refine RX.pure (.none rfl) rfl rfl (p_move rfl) ?_
              (first | refine RX.skip (.no rfl rfl rfl rfl) rfl rfl ?_ | refine RX.pure (.yes rfl rfl rfl) rfl rfl (p_move rfl) ?_)
              (first | refine RX.skip (.no rfl rfl rfl rfl) rfl rfl ?_ | (refine RX.pure (.yes rfl rfl rfl) rfl rfl (p_eqInt rfl rfl) ?_; refine RX.say (t := 133) rfl (.bool true) (by rw [decide_eq_true]; omega) ?_))
              (first | refine RX.pure (.none rfl) rfl rfl (p_pickT rfl rfl) ?_ | refine RX.pure (.none rfl) rfl rfl (p_pickF rfl rfl) ?_)
              refine RX.pure (.none rfl) rfl rfl (p_move rfl) ?_
              (first | refine RX.skip (.no rfl rfl rfl rfl) rfl rfl ?_ | refine RX.pure (.yes rfl rfl rfl) rfl rfl (p_move rfl) ?_)
              (first | refine RX.skip (.no rfl rfl rfl rfl) rfl rfl ?_ | refine RX.pure (.yes rfl rfl rfl) rfl rfl (p_move rfl) ?_)
              (first | refine RX.skip (.no rfl rfl rfl rfl) rfl rfl ?_ | refine RX.pure (.yes rfl rfl rfl) rfl rfl (p_move rfl) ?_)
              (first | refine RX.skip (.no rfl rfl rfl rfl) rfl rfl ?_ | refine RX.pure (.yes rfl rfl rfl) rfl rfl (p_idxS rfl rfl sl_65 (by omega) (by omega)) ?_)
              (first | refine RX.skip (.no rfl rfl rfl rfl) rfl rfl ?_ | refine RX.pure (.yes rfl rfl rfl) rfl rfl (p_faddr rfl fa_70_0) ?_)
              (first | refine RX.skip (.no rfl rfl rfl rfl) rfl rfl ?_ | refine RX.read (.yes rfl rfl rfl) rfl rfl rfl (r_load rfl na_9 (rKey (hr _) hu)) ?_)
              (first | refine RX.skip (.no rfl rfl rfl rfl) rfl rfl ?_ | (refine RX.pure (.yes rfl rfl rfl) rfl rfl (p_neStr rfl rfl) ?_; refine RX.say (t := 142) rfl (.bool false) (by simp) ?_))
              (first | refine RX.pure (.none rfl) rfl rfl (p_pickT rfl rfl) ?_ | refine RX.pure (.none rfl) rfl rfl (p_pickF rfl rfl) ?_)
              refine RX.pure (.none rfl) rfl rfl (p_move rfl) ?_
              (first | refine RX.skip (.no rfl rfl rfl rfl) rfl rfl ?_ | refine RX.pure (.yes rfl rfl rfl) rfl rfl (p_move rfl) ?_)
              (first | refine RX.skip (.no rfl rfl rfl rfl) rfl rfl ?_ | refine RX.pure (.yes rfl rfl rfl) rfl rfl (p_move rfl) ?_)
              (first | refine RX.skip (.no rfl rfl rfl rfl) rfl rfl ?_ | refine RX.pure (.yes rfl rfl rfl) rfl rfl (p_move rfl) ?_)
              (first | refine RX.skip (.no rfl rfl rfl rfl) rfl rfl ?_ | (refine RX.pure (.yes rfl rfl rfl) rfl rfl (p_gtr rfl rfl) ?_; refine RX.say (t := 148) rfl (.bool false) (by rw [decide_eq_false]; omega) ?_))
              (first | refine RX.skip (.no rfl rfl rfl rfl) rfl rfl ?_ | refine RX.pure (.yes rfl rfl rfl) rfl rfl (p_pickT rfl rfl) ?_ | refine RX.pure (.yes rfl rfl rfl) rfl rfl (p_pickF rfl rfl) ?_)
              (first | refine RX.skip (.no rfl rfl rfl rfl) rfl rfl ?_ | refine RX.pure (.yes rfl rfl rfl) rfl rfl (p_move rfl) ?_)
              (first | refine RX.skip (.no rfl rfl rfl rfl) rfl rfl ?_ | refine RX.pure (.yes rfl rfl rfl) rfl rfl (p_move rfl) ?_)
              (first | refine RX.skip (.no rfl rfl rfl rfl) rfl rfl ?_ | refine RX.pure (.yes rfl rfl rfl) rfl rfl (p_move rfl) ?_)
              (first | refine RX.skip (.no rfl rfl rfl rfl) rfl rfl ?_ | refine RX.pure (.yes rfl rfl rfl) rfl rfl (p_move rfl) ?_)
              (first | refine RX.skip (.no rfl rfl rfl rfl) rfl rfl ?_ | refine RX.pure (.yes rfl rfl rfl) rfl rfl (p_lenSlice rfl Tryd.underlying62) ?_)
              (first | refine RX.skip (.no rfl rfl rfl rfl) rfl rfl ?_ | refine RX.pure (.yes rfl rfl rfl) rfl rfl (p_sub rfl rfl (wr_i64 (by omega) (by omega))) ?_ | refine RX.pure (.yes rfl rfl rfl) rfl rfl (p_sub rfl rfl rfl) ?_)
              (first | refine RX.skip (.no rfl rfl rfl rfl) rfl rfl ?_ | refine RX.pure (.yes rfl rfl rfl) rfl rfl (p_idxSlice0 rfl rfl sl_62 (by omega) (by omega)) ?_ | refine RX.pure (.yes rfl rfl rfl) rfl rfl (p_idxSlice rfl rfl sl_62 (by omega) (by omega)) ?_)
              (first | refine RX.skip (.no rfl rfl rfl rfl) rfl rfl ?_ | refine RX.ld 0 (.yes rfl rfl rfl) rfl rfl na_9 rfl rfl ?_ | refine RX.ld 1 (.yes rfl rfl rfl) rfl rfl na_9 rfl rfl ?_ | refine RX.ld 2 (.yes rfl rfl rfl) rfl rfl na_9 rfl rfl ?_ | refine RX.ld 3 (.yes rfl rfl rfl) rfl rfl na_9 rfl rfl ?_ | refine RX.ld 4 (.yes rfl rfl rfl) rfl rfl na_9 rfl rfl ?_ | refine RX.ld 5 (.yes rfl rfl rfl) rfl rfl na_9 rfl rfl ?_ | refine RX.ld 6 (.yes rfl rfl rfl) rfl rfl na_9 rfl rfl ?_ | refine RX.ld 7 (.yes rfl rfl rfl) rfl rfl na_9 rfl rfl ?_)
              (first | refine RX.skip (.no rfl rfl rfl rfl) rfl rfl ?_ | refine RX.pure (.yes rfl rfl rfl) rfl rfl (p_neStr rfl rfl) ?_)
              (first | refine RX.skip (.no rfl rfl rfl rfl) rfl rfl ?_ | refine RX.pure (.yes rfl rfl rfl) rfl rfl (p_pickT rfl rfl) ?_ | refine RX.pure (.yes rfl rfl rfl) rfl rfl (p_pickF rfl rfl) ?_)
              (first | refine RX.pure (.none rfl) rfl rfl (p_pickT rfl rfl) ?_ | refine RX.pure (.none rfl) rfl rfl (p_pickF rfl rfl) ?_)
              refine RX.nil ?_
              refine WP.condF rfl (WP.skip ?_)
              refine WP.region ?_
              refine RX.pure (.none rfl) rfl rfl (p_move rfl) ?_
              refine RX.pure (.none rfl) rfl rfl (p_assign rfl) ?_
              refine RX.nil ?_
              refine ⟨th, H', i, hA', hin, .put hu (fun h => absurd h (by omega)), .inl ⟨rfl, .inr hn0, hkk⟩, ?_, rfl⟩
              repeat (first | exact Sub.nil | refine Sub.cons rfl ?_)
            · by_cases hfull : kk.length < n
              · have hthl := hkk.len
                refine WP.sdraw mixed (by kernel_rfl) ?_
                refine RX.pure (.none rfl) rfl rfl (p_move rfl) ?_
                refine RX.pure (.none rfl) rfl rfl (p_move rfl) ?_
                refine RX.pure (.none rfl) rfl rfl (p_move rfl) ?_
                refine RX.pure (.none rfl) rfl rfl (p_idxS rfl rfl sl_65 (by omega) (by omega)) ?_
                refine RX.pure (.none rfl) rfl rfl (p_faddr rfl fa_70_0) ?_
                refine RX.read (.none rfl) rfl rfl rfl (r_load rfl na_9 (rKey (hr _) hu)) ?_
                refine RX.pure (.none rfl) rfl rfl (p_move rfl) ?_
                refine RX.pure (.none rfl) rfl rfl (p_move rfl) ?_
                refine RX.pure (.none rfl) rfl rfl (p_idxS rfl rfl sl_65 (by omega) (by omega)) ?_
                refine RX.pure (.none rfl) rfl rfl (p_faddr rfl fa_70_1) ?_
                refine RX.read (.none rfl) rfl rfl rfl (r_load rfl na_3 (rVal (hr _) hu)) ?_
                refine RX.eff (.none rfl) rfl rfl rfl (e_call [0] rfl call_13 rfl rfl (put_new hKS hA (ks := kS u.key) (vs := [.int .i64 u.val]) ⟨_, rfl⟩ rfl rfl rfl rfl (hkk.miss hm) (by omega))) ?_
                rintro _ _ ⟨_, ⟨H', rfl, rfl, hA'⟩, rfl⟩
                refine RX.pure (.none rfl) rfl rfl (p_move rfl) ?_
                refine RX.pure (.none rfl) rfl rfl (p_extract rfl rfl) ?_
                refine RX.pure (.none rfl) rfl rfl (p_extract rfl rfl) ?_
                refine RX.pure (.none rfl) rfl rfl (p_assign rfl) ?_
                refine RX.pure (.none rfl) rfl rfl (p_assign rfl) ?_
                refine RX.nil ?_
                refine WP.seq (WP.sregion ?_)
                refine RX.pure (.none rfl) rfl rfl (p_move rfl) ?_
                refine RX.pure (.none rfl) rfl rfl (p_move rfl) ?_
                refine RX.pure (.none rfl) rfl rfl (p_lss rfl rfl) ?_
                refine RX.say (t := 114) rfl (.bool true) (by rw [decide_eq_true]; omega) ?_
                refine RX.pure (.none rfl) rfl rfl (p_move rfl) ?_
                (first | refine RX.skip (.no rfl rfl rfl rfl) rfl rfl ?_ | refine RX.pure (.yes rfl rfl rfl) rfl rfl (p_move rfl) ?_)
                (first | refine RX.skip (.no rfl rfl rfl rfl) rfl rfl ?_ | refine RX.pure (.yes rfl rfl rfl) rfl rfl (p_lenSlice rfl Tryd.underlying62) ?_)
                (first | refine RX.skip (.no rfl rfl rfl rfl) rfl rfl ?_ | refine RX.pure (.yes rfl rfl rfl) rfl rfl (p_move rfl) ?_)
                (first | refine RX.skip (.no rfl rfl rfl rfl) rfl rfl ?_ | (refine RX.pure (.yes rfl rfl rfl) rfl rfl (p_eqInt rfl rfl) ?_; refine RX.say (t := 119) rfl (.bool false) (by rw [decide_eq_false]; omega) ?_))
                (first | refine RX.pure (.none rfl) rfl rfl (p_pickT rfl rfl) ?_ | refine RX.pure (.none rfl) rfl rfl (p_pickF rfl rfl) ?_)
                refine RX.pure (.none rfl) rfl rfl (p_neBool rfl rfl Tryd.underlying4) ?_
                refine RX.pure (.none rfl) rfl rfl (p_move rfl) ?_
                (first | refine RX.skip (.no rfl rfl rfl rfl) rfl rfl ?_ | refine RX.pure (.yes rfl rfl rfl) rfl rfl (p_move rfl) ?_)
                (first | refine RX.skip (.no rfl rfl rfl rfl) rfl rfl ?_ | refine RX.pure (.yes rfl rfl rfl) rfl rfl (p_not rfl) ?_)
                (first | refine RX.skip (.no rfl rfl rfl rfl) rfl rfl ?_ | refine RX.pure (.yes rfl rfl rfl) rfl rfl (p_move rfl) ?_)
                (first | refine RX.skip (.no rfl rfl rfl rfl) rfl rfl ?_ | refine RX.pure (.yes rfl rfl rfl) rfl rfl (p_move rfl) ?_)
                (first | refine RX.skip (.no rfl rfl rfl rfl) rfl rfl ?_ | refine RX.pure (.yes rfl rfl rfl) rfl rfl (p_neStr rfl rfl) ?_)
                (first | refine RX.skip (.no rfl rfl rfl rfl) rfl rfl ?_ | refine RX.pure (.yes rfl rfl rfl) rfl rfl (p_pickT rfl rfl) ?_ | refine RX.pure (.yes rfl rfl rfl) rfl rfl (p_pickF rfl rfl) ?_)
                (first | refine RX.pure (.none rfl) rfl rfl (p_pickT rfl rfl) ?_ | refine RX.pure (.none rfl) rfl rfl (p_pickF rfl rfl) ?_)
                refine RX.nil ?_
                refine WP.condF rfl (WP.skip ?_)
                refine WP.seq (WP.sregion ?_)
                refine RX.pure (.none rfl) rfl rfl (p_move rfl) ?_
                refine RX.pure (.none rfl) rfl rfl (p_move rfl) ?_
                (first | refine RX.skip (.no rfl rfl rfl rfl) rfl rfl ?_ | refine RX.pure (.yes rfl rfl rfl) rfl rfl (p_move rfl) ?_)
                (first | refine RX.skip (.no rfl rfl rfl rfl) rfl rfl ?_ | (refine RX.pure (.yes rfl rfl rfl) rfl rfl (p_eqInt rfl rfl) ?_; refine RX.say (t := 133) rfl (.bool false) (by rw [decide_eq_false]; omega) ?_))
                (first | refine RX.pure (.none rfl) rfl rfl (p_pickT rfl rfl) ?_ | refine RX.pure (.none rfl) rfl rfl (p_pickF rfl rfl) ?_)
                refine RX.pure (.none rfl) rfl rfl (p_move rfl) ?_
                (first | refine RX.skip (.no rfl rfl rfl rfl) rfl rfl ?_ | refine RX.pure (.yes rfl rfl rfl) rfl rfl (p_move rfl) ?_)
                (first | refine RX.skip (.no rfl rfl rfl rfl) rfl rfl ?_ | refine RX.pure (.yes rfl rfl rfl) rfl rfl (p_move rfl) ?_)
                (first | refine RX.skip (.no rfl rfl rfl rfl) rfl rfl ?_ | refine RX.pure (.yes rfl rfl rfl) rfl rfl (p_move rfl) ?_)
                (first | refine RX.skip (.no rfl rfl rfl rfl) rfl rfl ?_ | refine RX.pure (.yes rfl rfl rfl) rfl rfl (p_idxS rfl rfl sl_65 (by omega) (by omega)) ?_)
                (first | refine RX.skip (.no rfl rfl rfl rfl) rfl rfl ?_ | refine RX.pure (.yes rfl rfl rfl) rfl rfl (p_faddr rfl fa_70_0) ?_)
                (first | refine RX.skip (.no rfl rfl rfl rfl) rfl rfl ?_ | refine RX.read (.yes rfl rfl rfl) rfl rfl rfl (r_load rfl na_9 (rKey (hr _) hu)) ?_)
                (first | refine RX.skip (.no rfl rfl rfl rfl) rfl rfl ?_ | (refine RX.pure (.yes rfl rfl rfl) rfl rfl (p_neStr rfl rfl) ?_; refine RX.say (t := 142) rfl (.bool false) (by simp) ?_))
                (first | refine RX.pure (.none rfl) rfl rfl (p_pickT rfl rfl) ?_ | refine RX.pure (.none rfl) rfl rfl (p_pickF rfl rfl) ?_)
                refine RX.pure (.none rfl) rfl rfl (p_move rfl) ?_
                (first | refine RX.skip (.no rfl rfl rfl rfl) rfl rfl ?_ | refine RX.pure (.yes rfl rfl rfl) rfl rfl (p_move rfl) ?_)
                (first | refine RX.skip (.no rfl rfl rfl rfl) rfl rfl ?_ | refine RX.pure (.yes rfl rfl rfl) rfl rfl (p_move rfl) ?_)
                (first | refine RX.skip (.no rfl rfl rfl rfl) rfl rfl ?_ | refine RX.pure (.yes rfl rfl rfl) rfl rfl (p_move rfl) ?_)
                (first | refine RX.skip (.no rfl rfl rfl rfl) rfl rfl ?_ | (refine RX.pure (.yes rfl rfl rfl) rfl rfl (p_gtr rfl rfl) ?_; refine RX.say (t := 148) rfl (.bool true) (by rw [decide_eq_true]; omega) ?_))
                (first | refine RX.skip (.no rfl rfl rfl rfl) rfl rfl ?_ | refine RX.pure (.yes rfl rfl rfl) rfl rfl (p_pickT rfl rfl) ?_ | refine RX.pure (.yes rfl rfl rfl) rfl rfl (p_pickF rfl rfl) ?_)
                (first | refine RX.skip (.no rfl rfl rfl rfl) rfl rfl ?_ | refine RX.pure (.yes rfl rfl rfl) rfl rfl (p_move rfl) ?_)
                (first | refine RX.skip (.no rfl rfl rfl rfl) rfl rfl ?_ | refine RX.pure (.yes rfl rfl rfl) rfl rfl (p_move rfl) ?_)
                (first | refine RX.skip (.no rfl rfl rfl rfl) rfl rfl ?_ | refine RX.pure (.yes rfl rfl rfl) rfl rfl (p_move rfl) ?_)
                (first | refine RX.skip (.no rfl rfl rfl rfl) rfl rfl ?_ | refine RX.pure (.yes rfl rfl rfl) rfl rfl (p_move rfl) ?_)
                (first | refine RX.skip (.no rfl rfl rfl rfl) rfl rfl ?_ | refine RX.pure (.yes rfl rfl rfl) rfl rfl (p_lenSlice rfl Tryd.underlying62) ?_)
                (first | refine RX.skip (.no rfl rfl rfl rfl) rfl rfl ?_ | refine RX.pure (.yes rfl rfl rfl) rfl rfl (p_sub rfl rfl (wr_i64 (by omega) (by omega))) ?_ | refine RX.pure (.yes rfl rfl rfl) rfl rfl (p_sub rfl rfl rfl) ?_)
                (first | refine RX.skip (.no rfl rfl rfl rfl) rfl rfl ?_ | refine RX.pure (.yes rfl rfl rfl) rfl rfl (p_idxSlice0 rfl rfl sl_62 (by omega) (by omega)) ?_ | refine RX.pure (.yes rfl rfl rfl) rfl rfl (p_idxSlice rfl rfl sl_62 (by omega) (by omega)) ?_)
                (first | refine RX.skip (.no rfl rfl rfl rfl) rfl rfl ?_ | refine RX.ld 0 (.yes rfl rfl rfl) rfl rfl na_9 rfl rfl ?_ | refine RX.ld 1 (.yes rfl rfl rfl) rfl rfl na_9 rfl rfl ?_ | refine RX.ld 2 (.yes rfl rfl rfl) rfl rfl na_9 rfl rfl ?_ | refine RX.ld 3 (.yes rfl rfl rfl) rfl rfl na_9 rfl rfl ?_ | refine RX.ld 4 (.yes rfl rfl rfl) rfl rfl na_9 rfl rfl ?_ | refine RX.ld 5 (.yes rfl rfl rfl) rfl rfl na_9 rfl rfl ?_ | refine RX.ld 6 (.yes rfl rfl rfl) rfl rfl na_9 rfl rfl ?_ | refine RX.ld 7 (.yes rfl rfl rfl) rfl rfl na_9 rfl rfl ?_)
                (first | refine RX.skip (.no rfl rfl rfl rfl) rfl rfl ?_ | refine RX.pure (.yes rfl rfl rfl) rfl rfl (p_neStr rfl rfl) ?_)
                (first | refine RX.skip (.no rfl rfl rfl rfl) rfl rfl ?_ | refine RX.pure (.yes rfl rfl rfl) rfl rfl (p_pickT rfl rfl) ?_ | refine RX.pure (.yes rfl rfl rfl) rfl rfl (p_pickF rfl rfl) ?_)
                (first | refine RX.pure (.none rfl) rfl rfl (p_pickT rfl rfl) ?_ | refine RX.pure (.none rfl) rfl rfl (p_pickF rfl rfl) ?_)
                refine RX.nil ?_
                refine WP.condF rfl (WP.skip ?_)
                refine WP.region ?_
                refine RX.pure (.none rfl) rfl rfl (p_move rfl) ?_
                refine RX.pure (.none rfl) rfl rfl (p_assign rfl) ?_
                refine RX.nil ?_
                refine ⟨_, H', i, hA', hin.cons _ _, .put hu (fun _ => lk_eq _ _ _), .inr ⟨by rw [hput]; simp; exact hn0, by rw [nxt_new hfull]; exact hkk.cons _ _, by omega⟩, ?_, rfl⟩
                repeat (first | exact Sub.nil | refine Sub.cons rfl ?_)
              · have hthl := hkk.len
                obtain ⟨tl, k0, v0, rfl⟩ : ∃ tl k0 v0, th = tl ++ [(k0, v0)] := ⟨th.dropLast, _, _, (List.dropLast_concat_getLast (by intro e; subst e; simp at hthl; omega)).symm⟩
                obtain ⟨kt, t, rfl, rfl, hkt⟩ := hkk.snoc
                have hkl2 : kt.length + 1 = n := by simp at hkl hfull; omega
                have htl := hkt.len
                have hqe : ((kt ++ [t]).length : Int) = (kt.length : Int) + 1 := by simp
                refine WP.sdraw mixed (by kernel_rfl) ?_
                refine RX.pure (.none rfl) rfl rfl (p_move rfl) ?_
                refine RX.pure (.none rfl) rfl rfl (p_move rfl) ?_
                refine RX.pure (.none rfl) rfl rfl (p_move rfl) ?_
                refine RX.pure (.none rfl) rfl rfl (p_idxS rfl rfl sl_65 (by omega) (by omega)) ?_
                refine RX.pure (.none rfl) rfl rfl (p_faddr rfl fa_70_0) ?_
                refine RX.read (.none rfl) rfl rfl rfl (r_load rfl na_9 (rKey (hr _) hu)) ?_
                refine RX.pure (.none rfl) rfl rfl (p_move rfl) ?_
                refine RX.pure (.none rfl) rfl rfl (p_move rfl) ?_
                refine RX.pure (.none rfl) rfl rfl (p_idxS rfl rfl sl_65 (by omega) (by omega)) ?_
                refine RX.pure (.none rfl) rfl rfl (p_faddr rfl fa_70_1) ?_
                refine RX.read (.none rfl) rfl rfl rfl (r_load rfl na_3 (rVal (hr _) hu)) ?_
                refine RX.eff (.none rfl) rfl rfl rfl (e_call [0] rfl call_13 rfl rfl (put_full hKS (tl := tl) (k0 := kS t) (v0 := v0) hA (ks := kS u.key) (vs := [.int .i64 u.val]) ⟨_, rfl⟩ rfl rfl rfl rfl (hkk.miss hm) (by omega))) ?_
                rintro _ _ ⟨_, ⟨H', rfl, rfl, hA'⟩, rfl⟩
                refine RX.pure (.none rfl) rfl rfl (p_move rfl) ?_
                refine RX.pure (.none rfl) rfl rfl (p_extract rfl rfl) ?_
                refine RX.pure (.none rfl) rfl rfl (p_extract rfl rfl) ?_
                refine RX.pure (.none rfl) rfl rfl (p_assign rfl) ?_
                refine RX.pure (.none rfl) rfl rfl (p_assign rfl) ?_
                refine RX.nil ?_
                obtain ⟨b7, cb7, e7, hrd⟩ := vec_at (w0 := w0) (S := [H', Hk]) hV (c := 1) rfl (j := kt.length) (t := t) (by simp)
                injection e7 with e71 _ e72
                subst e71
                refine WP.seq (WP.sregion ?_)
                refine RX.pure (.none rfl) rfl rfl (p_move rfl) ?_
                refine RX.pure (.none rfl) rfl rfl (p_move rfl) ?_
                refine RX.pure (.none rfl) rfl rfl (p_lss rfl rfl) ?_
                refine RX.say (t := 114) rfl (.bool true) (by rw [decide_eq_true]; omega) ?_
                refine RX.pure (.none rfl) rfl rfl (p_move rfl) ?_
                (first | refine RX.skip (.no rfl rfl rfl rfl) rfl rfl ?_ | refine RX.pure (.yes rfl rfl rfl) rfl rfl (p_move rfl) ?_)
                (first | refine RX.skip (.no rfl rfl rfl rfl) rfl rfl ?_ | refine RX.pure (.yes rfl rfl rfl) rfl rfl (p_lenSlice rfl Tryd.underlying62) ?_)
                (first | refine RX.skip (.no rfl rfl rfl rfl) rfl rfl ?_ | refine RX.pure (.yes rfl rfl rfl) rfl rfl (p_move rfl) ?_)
                (first | refine RX.skip (.no rfl rfl rfl rfl) rfl rfl ?_ | (refine RX.pure (.yes rfl rfl rfl) rfl rfl (p_eqInt rfl rfl) ?_; refine RX.say (t := 119) rfl (.bool true) (by rw [decide_eq_true]; omega) ?_))
                (first | refine RX.pure (.none rfl) rfl rfl (p_pickT rfl rfl) ?_ | refine RX.pure (.none rfl) rfl rfl (p_pickF rfl rfl) ?_)
                refine RX.pure (.none rfl) rfl rfl (p_neBool rfl rfl Tryd.underlying4) ?_
                refine RX.pure (.none rfl) rfl rfl (p_move rfl) ?_
                (first | refine RX.skip (.no rfl rfl rfl rfl) rfl rfl ?_ | refine RX.pure (.yes rfl rfl rfl) rfl rfl (p_move rfl) ?_)
                (first | refine RX.skip (.no rfl rfl rfl rfl) rfl rfl ?_ | refine RX.pure (.yes rfl rfl rfl) rfl rfl (p_not rfl) ?_)
                (first | refine RX.skip (.no rfl rfl rfl rfl) rfl rfl ?_ | refine RX.pure (.yes rfl rfl rfl) rfl rfl (p_move rfl) ?_)
                (first | refine RX.skip (.no rfl rfl rfl rfl) rfl rfl ?_ | refine RX.pure (.yes rfl rfl rfl) rfl rfl (p_move rfl) ?_)
                (first | refine RX.skip (.no rfl rfl rfl rfl) rfl rfl ?_ | refine RX.pure (.yes rfl rfl rfl) rfl rfl (p_neStr rfl rfl) ?_)
                (first | refine RX.skip (.no rfl rfl rfl rfl) rfl rfl ?_ | refine RX.pure (.yes rfl rfl rfl) rfl rfl (p_pickT rfl rfl) ?_ | refine RX.pure (.yes rfl rfl rfl) rfl rfl (p_pickF rfl rfl) ?_)
                (first | refine RX.pure (.none rfl) rfl rfl (p_pickT rfl rfl) ?_ | refine RX.pure (.none rfl) rfl rfl (p_pickF rfl rfl) ?_)
                refine RX.nil ?_
                refine WP.condF rfl (WP.skip ?_)
                refine WP.seq (WP.sregion ?_)
                refine RX.pure (.none rfl) rfl rfl (p_move rfl) ?_
                refine RX.pure (.none rfl) rfl rfl (p_move rfl) ?_
                (first | refine RX.skip (.no rfl rfl rfl rfl) rfl rfl ?_ | refine RX.pure (.yes rfl rfl rfl) rfl rfl (p_move rfl) ?_)
                (first | refine RX.skip (.no rfl rfl rfl rfl) rfl rfl ?_ | (refine RX.pure (.yes rfl rfl rfl) rfl rfl (p_eqInt rfl rfl) ?_; refine RX.say (t := 133) rfl (.bool false) (by rw [decide_eq_false]; omega) ?_))
                (first | refine RX.pure (.none rfl) rfl rfl (p_pickT rfl rfl) ?_ | refine RX.pure (.none rfl) rfl rfl (p_pickF rfl rfl) ?_)
                refine RX.pure (.none rfl) rfl rfl (p_move rfl) ?_
                (first | refine RX.skip (.no rfl rfl rfl rfl) rfl rfl ?_ | refine RX.pure (.yes rfl rfl rfl) rfl rfl (p_move rfl) ?_)
                (first | refine RX.skip (.no rfl rfl rfl rfl) rfl rfl ?_ | refine RX.pure (.yes rfl rfl rfl) rfl rfl (p_move rfl) ?_)
                (first | refine RX.skip (.no rfl rfl rfl rfl) rfl rfl ?_ | refine RX.pure (.yes rfl rfl rfl) rfl rfl (p_move rfl) ?_)
                (first | refine RX.skip (.no rfl rfl rfl rfl) rfl rfl ?_ | refine RX.pure (.yes rfl rfl rfl) rfl rfl (p_idxS rfl rfl sl_65 (by omega) (by omega)) ?_)
                (first | refine RX.skip (.no rfl rfl rfl rfl) rfl rfl ?_ | refine RX.pure (.yes rfl rfl rfl) rfl rfl (p_faddr rfl fa_70_0) ?_)
                (first | refine RX.skip (.no rfl rfl rfl rfl) rfl rfl ?_ | refine RX.read (.yes rfl rfl rfl) rfl rfl rfl (r_load rfl na_9 (rKey (hr _) hu)) ?_)
                (first | refine RX.skip (.no rfl rfl rfl rfl) rfl rfl ?_ | (refine RX.pure (.yes rfl rfl rfl) rfl rfl (p_neStr rfl rfl) ?_; refine RX.say (t := 142) rfl (.bool false) (by simp) ?_))
                (first | refine RX.pure (.none rfl) rfl rfl (p_pickT rfl rfl) ?_ | refine RX.pure (.none rfl) rfl rfl (p_pickF rfl rfl) ?_)
                refine RX.pure (.none rfl) rfl rfl (p_move rfl) ?_
                (first | refine RX.skip (.no rfl rfl rfl rfl) rfl rfl ?_ | refine RX.pure (.yes rfl rfl rfl) rfl rfl (p_move rfl) ?_)
                (first | refine RX.skip (.no rfl rfl rfl rfl) rfl rfl ?_ | refine RX.pure (.yes rfl rfl rfl) rfl rfl (p_move rfl) ?_)
                (first | refine RX.skip (.no rfl rfl rfl rfl) rfl rfl ?_ | refine RX.pure (.yes rfl rfl rfl) rfl rfl (p_move rfl) ?_)
                (first | refine RX.skip (.no rfl rfl rfl rfl) rfl rfl ?_ | (refine RX.pure (.yes rfl rfl rfl) rfl rfl (p_gtr rfl rfl) ?_; refine RX.say (t := 148) rfl (.bool true) (by rw [decide_eq_true]; omega) ?_))
                (first | refine RX.skip (.no rfl rfl rfl rfl) rfl rfl ?_ | refine RX.pure (.yes rfl rfl rfl) rfl rfl (p_pickT rfl rfl) ?_ | refine RX.pure (.yes rfl rfl rfl) rfl rfl (p_pickF rfl rfl) ?_)
                (first | refine RX.skip (.no rfl rfl rfl rfl) rfl rfl ?_ | refine RX.pure (.yes rfl rfl rfl) rfl rfl (p_move rfl) ?_)
                (first | refine RX.skip (.no rfl rfl rfl rfl) rfl rfl ?_ | refine RX.pure (.yes rfl rfl rfl) rfl rfl (p_move rfl) ?_)
                (first | refine RX.skip (.no rfl rfl rfl rfl) rfl rfl ?_ | refine RX.pure (.yes rfl rfl rfl) rfl rfl (p_move rfl) ?_)
                (first | refine RX.skip (.no rfl rfl rfl rfl) rfl rfl ?_ | refine RX.pure (.yes rfl rfl rfl) rfl rfl (p_move rfl) ?_)
                (first | refine RX.skip (.no rfl rfl rfl rfl) rfl rfl ?_ | refine RX.pure (.yes rfl rfl rfl) rfl rfl (p_lenSlice rfl Tryd.underlying62) ?_)
                (first | refine RX.skip (.no rfl rfl rfl rfl) rfl rfl ?_ | refine RX.pure (.yes rfl rfl rfl) rfl rfl (p_sub rfl rfl (wr_i64 (by omega) (by omega))) ?_)
                (first | refine RX.skip (.no rfl rfl rfl rfl) rfl rfl ?_ | refine RX.pure (.yes rfl rfl rfl) rfl rfl (p_idxS rfl rfl sl_62 (by omega) (by omega)) ?_)
                (first | refine RX.skip (.no rfl rfl rfl rfl) rfl rfl ?_ | refine RX.read (.yes rfl rfl rfl) rfl rfl rfl (r_load rfl na_9 (by rw [show (((kt ++ [t]).length : Int) - 1).toNat = ((kt.length : Nat) : Int).toNat by simp]; exact hrd)) ?_)
                (first | refine RX.skip (.no rfl rfl rfl rfl) rfl rfl ?_ | (refine RX.pure (.yes rfl rfl rfl) rfl rfl (p_neStr rfl rfl) ?_; refine RX.say (t := 158) rfl (.bool false) (by simp) ?_))
                (first | refine RX.skip (.no rfl rfl rfl rfl) rfl rfl ?_ | refine RX.pure (.yes rfl rfl rfl) rfl rfl (p_pickT rfl rfl) ?_ | refine RX.pure (.yes rfl rfl rfl) rfl rfl (p_pickF rfl rfl) ?_)
                (first | refine RX.pure (.none rfl) rfl rfl (p_pickT rfl rfl) ?_ | refine RX.pure (.none rfl) rfl rfl (p_pickF rfl rfl) ?_)
                refine RX.nil ?_
                refine WP.condF rfl (WP.skip ?_)
                refine WP.region ?_
                refine RX.pure (.none rfl) rfl rfl (p_move rfl) ?_
                refine RX.pure (.none rfl) rfl rfl (p_assign rfl) ?_
                refine RX.nil ?_
                refine ⟨_, H', i, hA', Ints.cons (fun p hp => hin p (List.mem_append_left _ hp)) _ _, .put hu (fun _ => lk_eq _ _ _), .inr ⟨by rw [hput]; simp; exact hn0, by rw [nxt_full hkl2]; exact hkt.cons _ _, by omega⟩, ?_, rfl⟩
                repeat (first | exact Sub.nil | refine Sub.cons rfl ?_)
      rintro ρ S ⟨th', H', last', hA', hin', hlast', hcase, hρ, rfl⟩
      refine WP.sub hρ ?_
      clear hρ
      rcases hcase with ⟨rfl, hpn, hkk'⟩ | ⟨hne, hkk', hpos⟩
      · by_cases hput : u.put = false
        · refine WP.seq (WP.sregion ?_)
          refine RX.pure (.none rfl) rfl rfl (p_move rfl) ?_
          refine RX.pure (.none rfl) rfl rfl (p_lss rfl rfl) ?_
          refine RX.pure (.none rfl) rfl rfl (p_move rfl) ?_
          (first | refine RX.skip (.no rfl rfl rfl rfl) rfl rfl ?_ | refine RX.pure (.yes rfl rfl rfl) rfl rfl (p_move rfl) ?_)
          (first | refine RX.skip (.no rfl rfl rfl rfl) rfl rfl ?_ | refine RX.pure (.yes rfl rfl rfl) rfl rfl (p_move rfl) ?_)
          (first | refine RX.skip (.no rfl rfl rfl rfl) rfl rfl ?_ | refine RX.pure (.yes rfl rfl rfl) rfl rfl (p_idxS rfl rfl sl_65 (by omega) (by omega)) ?_)
          (first | refine RX.skip (.no rfl rfl rfl rfl) rfl rfl ?_ | refine RX.pure (.yes rfl rfl rfl) rfl rfl (p_faddr rfl fa_70_2) ?_)
          (first | refine RX.skip (.no rfl rfl rfl rfl) rfl rfl ?_ | refine RX.read (.yes rfl rfl rfl) rfl rfl rfl (r_load rfl na_4 (rPut (hr _) hu)) ?_)
          (first | refine RX.skip (.no rfl rfl rfl rfl) rfl rfl ?_ | (refine RX.pure (.yes rfl rfl rfl) rfl rfl (p_not rfl) ?_; refine RX.say (t := 170) rfl (.bool true) (by rw [hput]; rfl) ?_))
          (first | refine RX.skip (.no rfl rfl rfl rfl) rfl rfl ?_ | refine RX.pure (.yes rfl rfl rfl) rfl rfl (p_move rfl) ?_)
          (first | refine RX.skip (.no rfl rfl rfl rfl) rfl rfl ?_ | refine RX.pure (.yes rfl rfl rfl) rfl rfl (p_move rfl) ?_)
          (first | refine RX.skip (.no rfl rfl rfl rfl) rfl rfl ?_ | refine RX.pure (.yes rfl rfl rfl) rfl rfl (p_eqInt rfl rfl) ?_)
          (first | refine RX.skip (.no rfl rfl rfl rfl) rfl rfl ?_ | refine RX.pure (.yes rfl rfl rfl) rfl rfl (p_pickT rfl rfl) ?_ | refine RX.pure (.yes rfl rfl rfl) rfl rfl (p_pickF rfl rfl) ?_)
          (first | refine RX.pure (.none rfl) rfl rfl (p_pickT rfl rfl) ?_ | refine RX.pure (.none rfl) rfl rfl (p_pickF rfl rfl) ?_)
          refine RX.nil ?_
          refine WP.condT rfl ?_
          refine WP.exit ?_
          repeat (first | refine sq_exit ?_ | refine bk_exit ?_ | refine lq_exit ?_ | refine cq_exit ?_ | refine bk_exit' rfl ?_)
          refine sq_normal ?_
          refine WP.region ?_
          refine RX.pure (.none rfl) rfl rfl (p_move rfl) ?_
          (first | refine RX.pure (.none rfl) rfl rfl (p_add rfl rfl (wr_i64 (by omega) (by omega))) ?_ | refine RX.pure (.none rfl) rfl rfl (p_add rfl rfl rfl) ?_)
          refine RX.pure (.none rfl) rfl rfl (p_assign rfl) ?_
          refine RX.nil ?_
          refine lq_normal (us.length - (i + 1)) (by omega) ?_
          refine ⟨i + 1, kk, th', H', _, Hk, last', by omega, rfl, hkk', hin', hA', hV, hlast', ?_, rfl⟩
          repeat (first | exact Sub.nil | refine Sub.cons rfl ?_)
        · have hn0 : n = 0 := hpn.resolve_left hput
          replace hput : u.put = true := by simpa using hput
          refine WP.seq (WP.sregion ?_)
          refine RX.pure (.none rfl) rfl rfl (p_move rfl) ?_
          refine RX.pure (.none rfl) rfl rfl (p_lss rfl rfl) ?_
          refine RX.pure (.none rfl) rfl rfl (p_move rfl) ?_
          (first | refine RX.skip (.no rfl rfl rfl rfl) rfl rfl ?_ | refine RX.pure (.yes rfl rfl rfl) rfl rfl (p_move rfl) ?_)
          (first | refine RX.skip (.no rfl rfl rfl rfl) rfl rfl ?_ | refine RX.pure (.yes rfl rfl rfl) rfl rfl (p_move rfl) ?_)
          (first | refine RX.skip (.no rfl rfl rfl rfl) rfl rfl ?_ | refine RX.pure (.yes rfl rfl rfl) rfl rfl (p_idxS rfl rfl sl_65 (by omega) (by omega)) ?_)
          (first | refine RX.skip (.no rfl rfl rfl rfl) rfl rfl ?_ | refine RX.pure (.yes rfl rfl rfl) rfl rfl (p_faddr rfl fa_70_2) ?_)
          (first | refine RX.skip (.no rfl rfl rfl rfl) rfl rfl ?_ | refine RX.read (.yes rfl rfl rfl) rfl rfl rfl (r_load rfl na_4 (rPut (hr _) hu)) ?_)
          (first | refine RX.skip (.no rfl rfl rfl rfl) rfl rfl ?_ | (refine RX.pure (.yes rfl rfl rfl) rfl rfl (p_not rfl) ?_; refine RX.say (t := 170) rfl (.bool false) (by rw [hput]; rfl) ?_))
          (first | refine RX.skip (.no rfl rfl rfl rfl) rfl rfl ?_ | refine RX.pure (.yes rfl rfl rfl) rfl rfl (p_move rfl) ?_)
          (first | refine RX.skip (.no rfl rfl rfl rfl) rfl rfl ?_ | refine RX.pure (.yes rfl rfl rfl) rfl rfl (p_move rfl) ?_)
          (first | refine RX.skip (.no rfl rfl rfl rfl) rfl rfl ?_ | (refine RX.pure (.yes rfl rfl rfl) rfl rfl (p_eqInt rfl rfl) ?_; refine RX.say (t := 173) rfl (.bool true) (by rw [decide_eq_true]; omega) ?_))
          (first | refine RX.skip (.no rfl rfl rfl rfl) rfl rfl ?_ | refine RX.pure (.yes rfl rfl rfl) rfl rfl (p_pickT rfl rfl) ?_ | refine RX.pure (.yes rfl rfl rfl) rfl rfl (p_pickF rfl rfl) ?_)
          (first | refine RX.pure (.none rfl) rfl rfl (p_pickT rfl rfl) ?_ | refine RX.pure (.none rfl) rfl rfl (p_pickF rfl rfl) ?_)
          refine RX.nil ?_
          refine WP.condT rfl ?_
          refine WP.exit ?_
          repeat (first | refine sq_exit ?_ | refine bk_exit ?_ | refine lq_exit ?_ | refine cq_exit ?_ | refine bk_exit' rfl ?_)
          refine sq_normal ?_
          refine WP.region ?_
          refine RX.pure (.none rfl) rfl rfl (p_move rfl) ?_
          (first | refine RX.pure (.none rfl) rfl rfl (p_add rfl rfl (wr_i64 (by omega) (by omega))) ?_ | refine RX.pure (.none rfl) rfl rfl (p_add rfl rfl rfl) ?_)
          refine RX.pure (.none rfl) rfl rfl (p_assign rfl) ?_
          refine RX.nil ?_
          refine lq_normal (us.length - (i + 1)) (by omega) ?_
          refine ⟨i + 1, kk, th', H', _, Hk, last', by omega, rfl, hkk', hin', hA', hV, hlast', ?_, rfl⟩
          repeat (first | exact Sub.nil | refine Sub.cons rfl ?_)
      refine WP.cut (fun ρ S => Sub [(0, .int .i64 (n : Nat)), (1, .slice (some a0) us.length cp), (5, .pointer (some ⟨c, 0, none⟩)), (7, .slice q7 kk.length cp7), (8, .int .i64 (last' : Nat)), (9, .int .i64 (i : Nat)), (10, .int .i64 z)] ρ ∧ S = [H', Hk]) ?_ ?_
      · rcases hpl with ⟨rfl, rfl, hm⟩ | ⟨rfl, ha⟩
        · have hput : u.put = true := by
            cases hp : u.put with
            | true => rfl
            | false => exact absurd ⟨rfl, .inl hp⟩ hne
          have hn0 : n ≠ 0 := by omega
          refine WP.sregion ?_
          refine RX.pure (.none rfl) rfl rfl (p_move rfl) ?_
          refine RX.pure (.none rfl) rfl rfl (p_lss rfl rfl) ?_
          refine RX.pure (.none rfl) rfl rfl (p_move rfl) ?_
          (first | refine RX.skip (.no rfl rfl rfl rfl) rfl rfl ?_ | refine RX.pure (.yes rfl rfl rfl) rfl rfl (p_move rfl) ?_)
          (first | refine RX.skip (.no rfl rfl rfl rfl) rfl rfl ?_ | refine RX.pure (.yes rfl rfl rfl) rfl rfl (p_move rfl) ?_)
          (first | refine RX.skip (.no rfl rfl rfl rfl) rfl rfl ?_ | refine RX.pure (.yes rfl rfl rfl) rfl rfl (p_idxS rfl rfl sl_65 (by omega) (by omega)) ?_)
          (first | refine RX.skip (.no rfl rfl rfl rfl) rfl rfl ?_ | refine RX.pure (.yes rfl rfl rfl) rfl rfl (p_faddr rfl fa_70_2) ?_)
          (first | refine RX.skip (.no rfl rfl rfl rfl) rfl rfl ?_ | refine RX.read (.yes rfl rfl rfl) rfl rfl rfl (r_load rfl na_4 (rPut (hr _) hu)) ?_)
          (first | refine RX.skip (.no rfl rfl rfl rfl) rfl rfl ?_ | (refine RX.pure (.yes rfl rfl rfl) rfl rfl (p_not rfl) ?_; refine RX.say (t := 170) rfl (.bool false) (by rw [hput]; rfl) ?_))
          (first | refine RX.skip (.no rfl rfl rfl rfl) rfl rfl ?_ | refine RX.pure (.yes rfl rfl rfl) rfl rfl (p_move rfl) ?_)
          (first | refine RX.skip (.no rfl rfl rfl rfl) rfl rfl ?_ | refine RX.pure (.yes rfl rfl rfl) rfl rfl (p_move rfl) ?_)
          (first | refine RX.skip (.no rfl rfl rfl rfl) rfl rfl ?_ | (refine RX.pure (.yes rfl rfl rfl) rfl rfl (p_eqInt rfl rfl) ?_; refine RX.say (t := 173) rfl (.bool false) (by rw [decide_eq_false]; omega) ?_))
          (first | refine RX.skip (.no rfl rfl rfl rfl) rfl rfl ?_ | refine RX.pure (.yes rfl rfl rfl) rfl rfl (p_pickT rfl rfl) ?_ | refine RX.pure (.yes rfl rfl rfl) rfl rfl (p_pickF rfl rfl) ?_)
          (first | refine RX.pure (.none rfl) rfl rfl (p_pickT rfl rfl) ?_ | refine RX.pure (.none rfl) rfl rfl (p_pickF rfl rfl) ?_)
          refine RX.nil ?_
          refine WP.condF rfl (WP.skip ?_)
          refine ⟨?_, rfl⟩
          repeat (first | exact Sub.nil | refine Sub.cons rfl ?_)
        · refine WP.sregion ?_
          refine RX.pure (.none rfl) rfl rfl (p_move rfl) ?_
          refine RX.pure (.none rfl) rfl rfl (p_lss rfl rfl) ?_
          refine RX.say (t := 163) rfl (.bool false) (by rw [decide_eq_false]; omega) ?_
          refine RX.pure (.none rfl) rfl rfl (p_move rfl) ?_
          (first | refine RX.skip (.no rfl rfl rfl rfl) rfl rfl ?_ | refine RX.pure (.yes rfl rfl rfl) rfl rfl (p_move rfl) ?_)
          (first | refine RX.skip (.no rfl rfl rfl rfl) rfl rfl ?_ | refine RX.pure (.yes rfl rfl rfl) rfl rfl (p_move rfl) ?_)
          (first | refine RX.skip (.no rfl rfl rfl rfl) rfl rfl ?_ | refine RX.pure (.yes rfl rfl rfl) rfl rfl (p_idxS rfl rfl sl_65 (by omega) (by omega)) ?_)
          (first | refine RX.skip (.no rfl rfl rfl rfl) rfl rfl ?_ | refine RX.pure (.yes rfl rfl rfl) rfl rfl (p_faddr rfl fa_70_2) ?_)
          (first | refine RX.skip (.no rfl rfl rfl rfl) rfl rfl ?_ | refine RX.read (.yes rfl rfl rfl) rfl rfl rfl (r_load rfl na_4 (rPut (hr _) hu)) ?_)
          (first | refine RX.skip (.no rfl rfl rfl rfl) rfl rfl ?_ | refine RX.pure (.yes rfl rfl rfl) rfl rfl (p_not rfl) ?_)
          (first | refine RX.skip (.no rfl rfl rfl rfl) rfl rfl ?_ | refine RX.pure (.yes rfl rfl rfl) rfl rfl (p_move rfl) ?_)
          (first | refine RX.skip (.no rfl rfl rfl rfl) rfl rfl ?_ | refine RX.pure (.yes rfl rfl rfl) rfl rfl (p_move rfl) ?_)
          (first | refine RX.skip (.no rfl rfl rfl rfl) rfl rfl ?_ | refine RX.pure (.yes rfl rfl rfl) rfl rfl (p_eqInt rfl rfl) ?_)
          (first | refine RX.skip (.no rfl rfl rfl rfl) rfl rfl ?_ | refine RX.pure (.yes rfl rfl rfl) rfl rfl (p_pickT rfl rfl) ?_ | refine RX.pure (.yes rfl rfl rfl) rfl rfl (p_pickF rfl rfl) ?_)
          (first | refine RX.pure (.none rfl) rfl rfl (p_pickT rfl rfl) ?_ | refine RX.pure (.none rfl) rfl rfl (p_pickF rfl rfl) ?_)
          refine RX.nil ?_
          refine WP.condF rfl (WP.skip ?_)
          refine ⟨?_, rfl⟩
          repeat (first | exact Sub.nil | refine Sub.cons rfl ?_)
      rintro ρ S ⟨hρ, rfl⟩
      refine WP.sub hρ ?_
      clear hρ
      refine WP.sregion ?_
      refine RX.pure (.none rfl) rfl rfl (p_move rfl) ?_
      refine RX.pure (.none rfl) rfl rfl (p_move rfl) ?_
      refine RX.pure (.none rfl) rfl rfl (p_idxS rfl rfl sl_65 (by omega) (by omega)) ?_
      refine RX.pure (.none rfl) rfl rfl (p_faddr rfl fa_70_0) ?_
      refine RX.read (.none rfl) rfl rfl rfl (r_load rfl na_9 (rKey (hr _) hu)) ?_
      refine RX.eff (.none rfl) rfl rfl rfl (e_buildSlice sl_62 zr_9 rfl (by decide) (by decide) rfl rfl rfl) ?_
      rintro _ _ ⟨n181, rfl, rfl⟩
      refine RX.pure (.none rfl) rfl rfl (p_assign rfl) ?_
      refine RX.nil ?_
      refine WP.cut (fun ρ S => ∃ v16 Hn, Vec 9 1 (fun s => [Value.string s]) (nxt kk a n u.key) v16 Hn ∧ Sub [(0, .int .i64 (n : Nat)), (1, .slice (some a0) us.length cp), (5, .pointer (some ⟨c, 0, none⟩)), (7, .slice q7 kk.length cp7), (8, .int .i64 (last' : Nat)), (9, .int .i64 (i : Nat)), (10, .int .i64 z), (16, v16)] ρ ∧ S = [H', Hk, Hn]) ?_ ?_
      · refine WP.sregion ?_
        refine RX.pure (.none rfl) rfl rfl (p_assign rfl) ?_
        refine RX.nil ?_
        refine WP.block ?_
        refine WP.loop (fun m ρ S => ∃ k v16 Hn, k ≤ kk.length ∧ m = kk.length - k ∧ Vec 9 1 (fun s => [Value.string s]) (u.key :: (kk.take k).eraseIdx a) v16 Hn ∧ ((kk.take k).eraseIdx a).length + 1 ≤ n ∧ Sub [(0, .int .i64 (n : Nat)), (1, .slice (some a0) us.length cp), (5, .pointer (some ⟨c, 0, none⟩)), (7, .slice q7 kk.length cp7), (8, .int .i64 (last' : Nat)), (9, .int .i64 (i : Nat)), (10, .int .i64 z), (16, v16), (17, .int .i64 (k : Nat))] ρ ∧ S = [H', Hk, Hn]) kk.length ?_ ?_
        · refine ⟨0, _, _, by omega, by omega, .inr ⟨n181, 1, [], rfl, rfl, by simp, by decide, by simp⟩, by simp; omega, ?_, rfl⟩
          repeat (first | exact Sub.nil | refine Sub.cons rfl ?_)
        rintro m ρ S ⟨k, v16, Hn, hk, rfl, hV16, hln, hρ, rfl⟩
        refine WP.sub hρ ?_
        clear hρ
        obtain ⟨q16, cp16, rfl⟩ := hV16.slice
        by_cases hkl2 : k < kk.length
        · by_cases hroom : ((kk.take k).eraseIdx a).length + 1 < n
          · obtain ⟨t, ht⟩ : ∃ t, kk[k]? = some t := ⟨_, List.getElem?_eq_getElem hkl2⟩
            obtain ⟨b7, cb7, e7, hrd⟩ := vec_at (w0 := w0) (S := [H', Hk, Hn]) hV (c := 1) rfl ht
            injection e7 with e71 _ e72
            subst e71
            refine WP.seq (WP.sregion ?_)
            refine RX.pure (.none rfl) rfl rfl (p_move rfl) ?_
            refine RX.pure (.none rfl) rfl rfl (p_move rfl) ?_
            refine RX.pure (.none rfl) rfl rfl (p_lenSlice rfl Tryd.underlying62) ?_
            refine RX.pure (.none rfl) rfl rfl (p_lss rfl rfl) ?_
            refine RX.say (t := 185) rfl (.bool true) (by rw [decide_eq_true]; omega) ?_
            refine RX.pure (.none rfl) rfl rfl (p_move rfl) ?_
            (first | refine RX.skip (.no rfl rfl rfl rfl) rfl rfl ?_ | refine RX.pure (.yes rfl rfl rfl) rfl rfl (p_move rfl) ?_)
            (first | refine RX.skip (.no rfl rfl rfl rfl) rfl rfl ?_ | refine RX.pure (.yes rfl rfl rfl) rfl rfl (p_lenSlice rfl Tryd.underlying62) ?_)
            (first | refine RX.skip (.no rfl rfl rfl rfl) rfl rfl ?_ | refine RX.pure (.yes rfl rfl rfl) rfl rfl (p_move rfl) ?_)
            (first | refine RX.skip (.no rfl rfl rfl rfl) rfl rfl ?_ | (refine RX.pure (.yes rfl rfl rfl) rfl rfl (p_lss rfl rfl) ?_; refine RX.say (t := 190) rfl (.bool true) (by rw [decide_eq_true]; simp only [List.length_cons]; omega) ?_))
            (first | refine RX.pure (.none rfl) rfl rfl (p_pickT rfl rfl) ?_ | refine RX.pure (.none rfl) rfl rfl (p_pickF rfl rfl) ?_)
            refine RX.nil ?_
            refine WP.condT rfl (WP.skip ?_)
            refine WP.seq (WP.block ?_)
            by_cases hka : k = a
            · have hza : z = (k : Nat) := by rcases hpl with ⟨h1, h2, _⟩ | ⟨h1, h2⟩ <;> omega
              refine WP.sregion ?_
              refine RX.pure (.none rfl) rfl rfl (p_move rfl) ?_
              refine RX.pure (.none rfl) rfl rfl (p_move rfl) ?_
              refine RX.pure (.none rfl) rfl rfl (p_neInt rfl rfl) ?_
              refine RX.say (t := 196) rfl (.bool false) (by rw [decide_eq_false]; omega) ?_
              refine RX.nil ?_
              refine WP.condF rfl (WP.skip ?_)
              refine sq_normal ?_
              refine WP.region ?_
              refine RX.pure (.none rfl) rfl rfl (p_move rfl) ?_
              (first | refine RX.pure (.none rfl) rfl rfl (p_add rfl rfl (wr_i64 (by omega) (by omega))) ?_ | refine RX.pure (.none rfl) rfl rfl (p_add rfl rfl rfl) ?_)
              refine RX.pure (.none rfl) rfl rfl (p_assign rfl) ?_
              refine RX.nil ?_
              refine lq_normal (kk.length - (k + 1)) (by omega) ?_
              have hst := take_step ht a
              rw [if_pos hka] at hst
              refine ⟨k + 1, _, Hn, by omega, rfl, by rw [hst]; exact hV16, by rw [hst]; omega, ?_, rfl⟩
              repeat (first | exact Sub.nil | refine Sub.cons rfl ?_)
            · have hza : z ≠ (k : Nat) := by rcases hpl with ⟨h1, h2, _⟩ | ⟨h1, h2⟩ <;> omega
              have hst := take_step ht a
              rw [if_neg hka, if_pos (by omega)] at hst
              refine WP.sregion ?_
              refine RX.pure (.none rfl) rfl rfl (p_move rfl) ?_
              refine RX.pure (.none rfl) rfl rfl (p_move rfl) ?_
              refine RX.pure (.none rfl) rfl rfl (p_neInt rfl rfl) ?_
              refine RX.say (t := 196) rfl (.bool true) (by rw [decide_eq_true]; omega) ?_
              refine RX.nil ?_
              refine WP.condT rfl ?_
              refine WP.region ?_
              refine RX.pure (.none rfl) rfl rfl (p_move rfl) ?_
              refine RX.pure (.none rfl) rfl rfl (p_move rfl) ?_
              refine RX.pure (.none rfl) rfl rfl (p_move rfl) ?_
              refine RX.pure (.none rfl) rfl rfl (p_idxS rfl rfl sl_62 (by omega) (by omega)) ?_
              refine RX.read (.none rfl) rfl rfl rfl (r_load rfl na_9 hrd) ?_
              refine RX.eff (.none rfl) rfl rfl rfl (e_buildSlice sl_62 zr_9 rfl (by decide) (by decide) rfl rfl rfl) ?_
              rintro _ _ ⟨n202, rfl, rfl⟩
              refine RX.eff (.none rfl) rfl rfl rfl (e_append (enc := fun s => [Value.string s]) (ys := [t]) 2 rfl rfl sl_62 zr_9 rfl (by decide) by_9 (fun _ _ => rfl) (fun _ _ => rfl) (fun _ _ => rfl) hV16 rfl (.inr ⟨_, _, rfl, RdN.own 3 rfl rfl⟩) (by simp only [List.length_cons, List.length_nil]; omega) (by simp only [maxLen, List.length_cons, List.length_nil]; omega)) ?_
              rintro _ _ ⟨Hn', hV', rfl⟩; obtain ⟨q16', cp16', rfl⟩ := hV'.slice
              refine RX.pure (.none rfl) rfl rfl (p_assign rfl) ?_
              refine RX.take 3 ?_
              refine RX.nil ?_
              refine sq_normal ?_
              refine WP.region ?_
              refine RX.pure (.none rfl) rfl rfl (p_move rfl) ?_
              (first | refine RX.pure (.none rfl) rfl rfl (p_add rfl rfl (wr_i64 (by omega) (by omega))) ?_ | refine RX.pure (.none rfl) rfl rfl (p_add rfl rfl rfl) ?_)
              refine RX.pure (.none rfl) rfl rfl (p_assign rfl) ?_
              refine RX.nil ?_
              refine lq_normal (kk.length - (k + 1)) (by omega) ?_
              refine ⟨k + 1, _, Hn', by omega, rfl, by rw [hst]; exact hV', by rw [hst]; simp; omega, ?_, rfl⟩
              repeat (first | exact Sub.nil | refine Sub.cons rfl ?_)
          · refine WP.seq (WP.sregion ?_)
            refine RX.pure (.none rfl) rfl rfl (p_move rfl) ?_
            refine RX.pure (.none rfl) rfl rfl (p_move rfl) ?_
            refine RX.pure (.none rfl) rfl rfl (p_lenSlice rfl Tryd.underlying62) ?_
            refine RX.pure (.none rfl) rfl rfl (p_lss rfl rfl) ?_
            refine RX.say (t := 185) rfl (.bool true) (by rw [decide_eq_true]; omega) ?_
            refine RX.pure (.none rfl) rfl rfl (p_move rfl) ?_
            (first | refine RX.skip (.no rfl rfl rfl rfl) rfl rfl ?_ | refine RX.pure (.yes rfl rfl rfl) rfl rfl (p_move rfl) ?_)
            (first | refine RX.skip (.no rfl rfl rfl rfl) rfl rfl ?_ | refine RX.pure (.yes rfl rfl rfl) rfl rfl (p_lenSlice rfl Tryd.underlying62) ?_)
            (first | refine RX.skip (.no rfl rfl rfl rfl) rfl rfl ?_ | refine RX.pure (.yes rfl rfl rfl) rfl rfl (p_move rfl) ?_)
            (first | refine RX.skip (.no rfl rfl rfl rfl) rfl rfl ?_ | (refine RX.pure (.yes rfl rfl rfl) rfl rfl (p_lss rfl rfl) ?_; refine RX.say (t := 190) rfl (.bool false) (by rw [decide_eq_false]; simp only [List.length_cons]; omega) ?_))
            (first | refine RX.pure (.none rfl) rfl rfl (p_pickT rfl rfl) ?_ | refine RX.pure (.none rfl) rfl rfl (p_pickF rfl rfl) ?_)
            refine RX.nil ?_
            refine WP.condF rfl ?_
            refine WP.exit ?_
            repeat (first | refine sq_exit ?_ | refine bk_exit ?_ | refine lq_exit ?_ | refine cq_exit ?_ | refine bk_exit' rfl ?_)
            refine ⟨_, Hn, by rw [← nxt_of u.key hln (.inr (by omega))]; exact hV16, ?_, rfl⟩
            repeat (first | exact Sub.nil | refine Sub.cons rfl ?_)
        · refine WP.seq (WP.sregion ?_)
          refine RX.pure (.none rfl) rfl rfl (p_move rfl) ?_
          refine RX.pure (.none rfl) rfl rfl (p_move rfl) ?_
          refine RX.pure (.none rfl) rfl rfl (p_lenSlice rfl Tryd.underlying62) ?_
          refine RX.pure (.none rfl) rfl rfl (p_lss rfl rfl) ?_
          refine RX.say (t := 185) rfl (.bool false) (by rw [decide_eq_false]; omega) ?_
          refine RX.pure (.none rfl) rfl rfl (p_move rfl) ?_
          (first | refine RX.skip (.no rfl rfl rfl rfl) rfl rfl ?_ | refine RX.pure (.yes rfl rfl rfl) rfl rfl (p_move rfl) ?_)
          (first | refine RX.skip (.no rfl rfl rfl rfl) rfl rfl ?_ | refine RX.pure (.yes rfl rfl rfl) rfl rfl (p_lenSlice rfl Tryd.underlying62) ?_)
          (first | refine RX.skip (.no rfl rfl rfl rfl) rfl rfl ?_ | refine RX.pure (.yes rfl rfl rfl) rfl rfl (p_move rfl) ?_)
          (first | refine RX.skip (.no rfl rfl rfl rfl) rfl rfl ?_ | refine RX.pure (.yes rfl rfl rfl) rfl rfl (p_lss rfl rfl) ?_)
          (first | refine RX.pure (.none rfl) rfl rfl (p_pickT rfl rfl) ?_ | refine RX.pure (.none rfl) rfl rfl (p_pickF rfl rfl) ?_)
          refine RX.nil ?_
          refine WP.condF rfl ?_
          refine WP.exit ?_
          repeat (first | refine sq_exit ?_ | refine bk_exit ?_ | refine lq_exit ?_ | refine cq_exit ?_ | refine bk_exit' rfl ?_)
          refine ⟨_, Hn, by rw [← nxt_of u.key hln (.inl (by omega))]; exact hV16, ?_, rfl⟩
          repeat (first | exact Sub.nil | refine Sub.cons rfl ?_)
      rintro ρ S ⟨v16, Hn, hV16, hρ, rfl⟩
      refine WP.sub hρ ?_
      clear hρ
      obtain ⟨q16, cp16, rfl⟩ := hV16.slice
      refine WP.sregion ?_
      refine RX.pure (.none rfl) rfl rfl (p_move rfl) ?_
      refine RX.pure (.none rfl) rfl rfl (p_assign rfl) ?_
      refine RX.nil ?_
      have hthl := hkk'.len
      have hle := hA'.le.1
      refine WP.sregion ?_
      refine RX.pure (.none rfl) rfl rfl (p_move rfl) ?_
      refine RX.eff (.none rfl) rfl rfl rfl (e_call [0] rfl call_16 rfl rfl (len_api hA')) ?_
      rintro _ _ ⟨_, ⟨rfl, rfl⟩, rfl⟩
      refine RX.pure (.none rfl) rfl rfl (p_move rfl) ?_
      refine RX.pure (.none rfl) rfl rfl (p_lenSlice rfl Tryd.underlying62) ?_
      refine RX.pure (.none rfl) rfl rfl (p_neInt rfl rfl) ?_
      refine RX.say (t := 209) rfl (.bool false) (by rw [decide_eq_false]; omega) ?_
      refine RX.pure (.none rfl) rfl rfl (p_move rfl) ?_
      (first | refine RX.skip (.no rfl rfl rfl rfl) rfl rfl ?_ | refine RX.pure (.yes rfl rfl rfl) rfl rfl (p_move rfl) ?_)
      (first | refine RX.skip (.no rfl rfl rfl rfl) rfl rfl ?_ | (refine RX.eff (.yes rfl rfl rfl) rfl rfl rfl (e_call [0] rfl call_16 rfl rfl (len_api hA')) ?_; rintro _ _ ⟨_, ⟨rfl, rfl⟩, rfl⟩))
      (first | refine RX.skip (.no rfl rfl rfl rfl) rfl rfl ?_ | refine RX.pure (.yes rfl rfl rfl) rfl rfl (p_move rfl) ?_)
      (first | refine RX.skip (.no rfl rfl rfl rfl) rfl rfl ?_ | (refine RX.pure (.yes rfl rfl rfl) rfl rfl (p_gtr rfl rfl) ?_; refine RX.say (t := 214) rfl (.bool false) (by rw [decide_eq_false]; omega) ?_))
      (first | refine RX.pure (.none rfl) rfl rfl (p_pickT rfl rfl) ?_ | refine RX.pure (.none rfl) rfl rfl (p_pickF rfl rfl) ?_)
      refine RX.nil ?_
      refine WP.condF rfl (WP.skip ?_)
      refine sq_normal ?_
      refine WP.perm (T := [H', Hn, Hk]) ?_ ?_
      · simp [others]
        exact List.perm_append_comm.append_left _
      refine WP.take 2 ?_
      refine WP.region ?_
      refine RX.pure (.none rfl) rfl rfl (p_move rfl) ?_
      (first | refine RX.pure (.none rfl) rfl rfl (p_add rfl rfl (wr_i64 (by omega) (by omega))) ?_ | refine RX.pure (.none rfl) rfl rfl (p_add rfl rfl rfl) ?_)
      refine RX.pure (.none rfl) rfl rfl (p_assign rfl) ?_
      refine RX.nil ?_
      refine lq_normal (us.length - (i + 1)) (by omega) ?_
      refine ⟨i + 1, _, th', H', _, Hn, last', by omega, rfl, hkk', hin', hA', hV16, hlast', ?_, rfl⟩
      repeat (first | exact Sub.nil | refine Sub.cons rfl ?_)
    · refine WP.seq (WP.sregion ?_)
      refine RX.pure (.none rfl) rfl rfl (p_move rfl) ?_
      refine RX.pure (.none rfl) rfl rfl (p_move rfl) ?_
      refine RX.pure (.none rfl) rfl rfl (p_lenSlice rfl Tryd.underlying65) ?_
      refine RX.pure (.none rfl) rfl rfl (p_lss rfl rfl) ?_
      refine RX.say (t := 49) rfl (.bool false) (by rw [decide_eq_false]; omega) ?_
      refine RX.nil ?_
      refine WP.condF rfl ?_
      refine WP.exit ?_
      repeat (first | refine sq_exit ?_ | refine bk_exit ?_ | refine lq_exit ?_ | refine cq_exit ?_ | refine bk_exit' rfl ?_)
      obtain rfl : i = us.length := by omega
      refine ⟨kk, th, H, _, Hk, last, hkk, hin, hA, hV, hlast, ?_, rfl⟩
      repeat (first | exact Sub.nil | refine Sub.cons rfl ?_)
  rintro ρ S ⟨kk, th, H, v7, Hk, last, hkk, hin, hA, hV, hlast, hρ, rfl⟩
  refine WP.sub hρ ?_
  clear hρ
  have hkl : kk.length ≤ n := by rw [← hkk.len]; exact hA.le.1
  refine WP.cut (fun ρ S => ∃ th H, At' DS n th c H ∧ KeysAre kk th ∧ Sub [(0, .int .i64 (n : Nat)), (1, .slice p us.length cp), (5, .pointer (some ⟨c, 0, none⟩)), (7, v7)] ρ ∧ S = [H, Hk]) ?_ ?_
  · by_cases h0 : 0 < us.length
    · obtain ⟨a0, cp', e⟩ := (hr []).some (by intro e; subst e; simp at h0)
      injection e with e1 _ e2
      subst e1
      have hll : last < us.length := by rcases hlast.1 with h1 | h1 <;> omega
      obtain ⟨u, hu⟩ : ∃ u, us[last]? = some u := ⟨_, List.getElem?_eq_getElem hll⟩
      by_cases hn0 : 0 < n
      · by_cases hput : u.put = true
        · have hlk := hlast.2 hll u hu hput hn0
          refine WP.sregion ?_
          refine RX.pure (.none rfl) rfl rfl (p_move rfl) ?_
          refine RX.pure (.none rfl) rfl rfl (p_lenSlice rfl Tryd.underlying65) ?_
          refine RX.pure (.none rfl) rfl rfl (p_gtr rfl rfl) ?_
          refine RX.say (t := 218) rfl (.bool true) (by rw [decide_eq_true]; omega) ?_
          refine RX.pure (.none rfl) rfl rfl (p_move rfl) ?_
          (first | refine RX.skip (.no rfl rfl rfl rfl) rfl rfl ?_ | refine RX.pure (.yes rfl rfl rfl) rfl rfl (p_move rfl) ?_)
          (first | refine RX.skip (.no rfl rfl rfl rfl) rfl rfl ?_ | (refine RX.pure (.yes rfl rfl rfl) rfl rfl (p_gtr rfl rfl) ?_; refine RX.say (t := 221) rfl (.bool true) (by rw [decide_eq_true]; omega) ?_))
          (first | refine RX.pure (.none rfl) rfl rfl (p_pickT rfl rfl) ?_ | refine RX.pure (.none rfl) rfl rfl (p_pickF rfl rfl) ?_)
          refine RX.pure (.none rfl) rfl rfl (p_move rfl) ?_
          (first | refine RX.skip (.no rfl rfl rfl rfl) rfl rfl ?_ | refine RX.pure (.yes rfl rfl rfl) rfl rfl (p_move rfl) ?_)
          (first | refine RX.skip (.no rfl rfl rfl rfl) rfl rfl ?_ | refine RX.pure (.yes rfl rfl rfl) rfl rfl (p_move rfl) ?_)
          (first | refine RX.skip (.no rfl rfl rfl rfl) rfl rfl ?_ | refine RX.pure (.yes rfl rfl rfl) rfl rfl (p_idxS rfl rfl sl_65 (by omega) (by omega)) ?_)
          (first | refine RX.skip (.no rfl rfl rfl rfl) rfl rfl ?_ | refine RX.pure (.yes rfl rfl rfl) rfl rfl (p_faddr rfl fa_70_2) ?_)
          (first | refine RX.skip (.no rfl rfl rfl rfl) rfl rfl ?_ | (refine RX.read (.yes rfl rfl rfl) rfl rfl rfl (r_load rfl na_4 (rPut (hr _) hu)) ?_; refine RX.say (t := 228) rfl (.bool true) (by rw [hput]) ?_))
          (first | refine RX.pure (.none rfl) rfl rfl (p_pickT rfl rfl) ?_ | refine RX.pure (.none rfl) rfl rfl (p_pickF rfl rfl) ?_)
          refine RX.nil ?_
          refine WP.condT rfl ?_
          refine WP.sregion ?_
          refine RX.pure (.none rfl) rfl rfl (p_assign rfl) ?_
          refine RX.nil ?_
          obtain ⟨q7, cp7, rfl⟩ := hV.slice
          refine WP.block ?_
          refine WP.loop (fun m ρ S => ∃ k, k ≤ kk.length ∧ m = kk.length - k ∧ Sub [(0, .int .i64 (n : Nat)), (1, .slice (some a0) us.length cp), (5, .pointer (some ⟨c, 0, none⟩)), (7, .slice q7 kk.length cp7), (8, .int .i64 (last : Nat)), (18, .int .i64 (k : Nat))] ρ ∧ S = [H, Hk]) kk.length ?_ ?_
          · refine ⟨0, by omega, by omega, ?_, rfl⟩
            repeat (first | exact Sub.nil | refine Sub.cons rfl ?_)
          rintro m ρ S ⟨k, hk, rfl, hρ, rfl⟩
          refine WP.sub hρ ?_
          clear hρ
          by_cases hkl2 : k < kk.length
          · obtain ⟨t, ht⟩ : ∃ t, kk[k]? = some t := ⟨_, List.getElem?_eq_getElem hkl2⟩
            obtain ⟨b7, cb7, e7, hrd⟩ := vec_at (w0 := w0) (S := [H, Hk]) hV (c := 1) rfl ht
            injection e7 with e71 _ e72
            subst e71
            refine WP.seq (WP.sregion ?_)
            refine RX.pure (.none rfl) rfl rfl (p_move rfl) ?_
            refine RX.pure (.none rfl) rfl rfl (p_move rfl) ?_
            refine RX.pure (.none rfl) rfl rfl (p_lenSlice rfl Tryd.underlying62) ?_
            refine RX.pure (.none rfl) rfl rfl (p_lss rfl rfl) ?_
            refine RX.say (t := 233) rfl (.bool true) (by rw [decide_eq_true]; omega) ?_
            refine RX.nil ?_
            refine WP.condT rfl (WP.skip ?_)
            refine WP.seq (WP.block ?_)
            refine WP.sdraw mixed (by kernel_rfl) ?_
            refine RX.pure (.none rfl) rfl rfl (p_move rfl) ?_
            refine RX.pure (.none rfl) rfl rfl (p_move rfl) ?_
            refine RX.pure (.none rfl) rfl rfl (p_idxS rfl rfl sl_62 (by omega) (by omega)) ?_
            refine RX.read (.none rfl) rfl rfl rfl (r_load rfl na_9 hrd) ?_
            refine RX.pure (.none rfl) rfl rfl (p_move rfl) ?_
            refine RX.pure (.none rfl) rfl rfl (p_move rfl) ?_
            refine RX.pure (.none rfl) rfl rfl (p_idxS rfl rfl sl_65 (by omega) (by omega)) ?_
            refine RX.pure (.none rfl) rfl rfl (p_faddr rfl fa_70_0) ?_
            refine RX.read (.none rfl) rfl rfl rfl (r_load rfl na_9 (rKey (hr _) hu)) ?_
            refine RX.pure (.none rfl) rfl rfl (p_eqStr rfl rfl) ?_
            refine RX.nil ?_
            refine WP.cond rfl (fun hb => ?_) (fun hb => WP.skip ?_)
            · obtain rfl : t = u.key := of_dec hb
              refine WP.sregion ?_
              refine RX.pure (.none rfl) rfl rfl (p_move rfl) ?_
              refine RX.pure (.none rfl) rfl rfl (p_move rfl) ?_
              refine RX.pure (.none rfl) rfl rfl (p_move rfl) ?_
              refine RX.pure (.none rfl) rfl rfl (p_idxS rfl rfl sl_62 (by omega) (by omega)) ?_
              refine RX.read (.none rfl) rfl rfl rfl (r_load rfl na_9 hrd) ?_
              refine RX.eff (.none rfl) rfl rfl rfl (e_call [0] rfl call_14 rfl rfl (get_hit hKS hA (ks := kS u.key) (vs := [.int .i64 u.val]) ⟨_, rfl⟩ rfl rfl hlk)) ?_
              rintro _ _ ⟨_, ⟨H', rfl, rfl, hA'⟩, rfl⟩
              refine RX.pure (.none rfl) rfl rfl (p_move rfl) ?_
              refine RX.pure (.none rfl) rfl rfl (p_extract rfl rfl) ?_
              refine RX.pure (.none rfl) rfl rfl (p_extract rfl rfl) ?_
              refine RX.pure (.none rfl) rfl rfl (p_assign rfl) ?_
              refine RX.pure (.none rfl) rfl rfl (p_assign rfl) ?_
              refine RX.nil ?_
              refine WP.sregion ?_
              refine RX.pure (.none rfl) rfl rfl (p_move rfl) ?_
              refine RX.pure (.none rfl) rfl rfl (p_move rfl) ?_
              (first | refine RX.skip (.no rfl rfl rfl rfl) rfl rfl ?_ | refine RX.pure (.yes rfl rfl rfl) rfl rfl (p_move rfl) ?_)
              (first | refine RX.skip (.no rfl rfl rfl rfl) rfl rfl ?_ | refine RX.pure (.yes rfl rfl rfl) rfl rfl (p_move rfl) ?_)
              (first | refine RX.skip (.no rfl rfl rfl rfl) rfl rfl ?_ | refine RX.pure (.yes rfl rfl rfl) rfl rfl (p_move rfl) ?_)
              (first | refine RX.skip (.no rfl rfl rfl rfl) rfl rfl ?_ | refine RX.pure (.yes rfl rfl rfl) rfl rfl (p_idxS rfl rfl sl_65 (by omega) (by omega)) ?_)
              (first | refine RX.skip (.no rfl rfl rfl rfl) rfl rfl ?_ | refine RX.pure (.yes rfl rfl rfl) rfl rfl (p_faddr rfl fa_70_1) ?_)
              (first | refine RX.skip (.no rfl rfl rfl rfl) rfl rfl ?_ | refine RX.read (.yes rfl rfl rfl) rfl rfl rfl (r_load rfl na_3 (rVal (hr _) hu)) ?_)
              (first | refine RX.skip (.no rfl rfl rfl rfl) rfl rfl ?_ | (refine RX.pure (.yes rfl rfl rfl) rfl rfl (p_eqInt rfl rfl) ?_; refine RX.say (t := 263) rfl (.bool true) (by simp) ?_))
              (first | refine RX.pure (.none rfl) rfl rfl (p_pickT rfl rfl) ?_ | refine RX.pure (.none rfl) rfl rfl (p_pickF rfl rfl) ?_)
              refine RX.pure (.none rfl) rfl rfl (p_assign rfl) ?_
              refine RX.nil ?_
              refine WP.ret ?_
              repeat (first | refine sq_ret ?_ | refine bk_ret ?_ | refine lq_ret ?_ | refine cq_ret ?_)
              exact fin1' 0 rfl rfl rfl ⟨rfl, rfl⟩
            · refine sq_normal ?_
              refine WP.region ?_
              refine RX.pure (.none rfl) rfl rfl (p_move rfl) ?_
              (first | refine RX.pure (.none rfl) rfl rfl (p_add rfl rfl (wr_i64 (by omega) (by omega))) ?_ | refine RX.pure (.none rfl) rfl rfl (p_add rfl rfl rfl) ?_)
              refine RX.pure (.none rfl) rfl rfl (p_assign rfl) ?_
              refine RX.nil ?_
              refine lq_normal (kk.length - (k + 1)) (by omega) ?_
              refine ⟨k + 1, by omega, rfl, ?_, rfl⟩
              repeat (first | exact Sub.nil | refine Sub.cons rfl ?_)
          · refine WP.seq (WP.sregion ?_)
            refine RX.pure (.none rfl) rfl rfl (p_move rfl) ?_
            refine RX.pure (.none rfl) rfl rfl (p_move rfl) ?_
            refine RX.pure (.none rfl) rfl rfl (p_lenSlice rfl Tryd.underlying62) ?_
            refine RX.pure (.none rfl) rfl rfl (p_lss rfl rfl) ?_
            refine RX.say (t := 233) rfl (.bool false) (by rw [decide_eq_false]; omega) ?_
            refine RX.nil ?_
            refine WP.condF rfl ?_
            refine WP.exit ?_
            repeat (first | refine sq_exit ?_ | refine bk_exit ?_ | refine lq_exit ?_ | refine cq_exit ?_ | refine bk_exit' rfl ?_)
            refine ⟨th, H, hA, hkk, ?_, rfl⟩
            repeat (first | exact Sub.nil | refine Sub.cons rfl ?_)
        · refine WP.sregion ?_
          refine RX.pure (.none rfl) rfl rfl (p_move rfl) ?_
          refine RX.pure (.none rfl) rfl rfl (p_lenSlice rfl Tryd.underlying65) ?_
          refine RX.pure (.none rfl) rfl rfl (p_gtr rfl rfl) ?_
          refine RX.say (t := 218) rfl (.bool true) (by rw [decide_eq_true]; omega) ?_
          refine RX.pure (.none rfl) rfl rfl (p_move rfl) ?_
          (first | refine RX.skip (.no rfl rfl rfl rfl) rfl rfl ?_ | refine RX.pure (.yes rfl rfl rfl) rfl rfl (p_move rfl) ?_)
          (first | refine RX.skip (.no rfl rfl rfl rfl) rfl rfl ?_ | (refine RX.pure (.yes rfl rfl rfl) rfl rfl (p_gtr rfl rfl) ?_; refine RX.say (t := 221) rfl (.bool true) (by rw [decide_eq_true]; omega) ?_))
          (first | refine RX.pure (.none rfl) rfl rfl (p_pickT rfl rfl) ?_ | refine RX.pure (.none rfl) rfl rfl (p_pickF rfl rfl) ?_)
          refine RX.pure (.none rfl) rfl rfl (p_move rfl) ?_
          (first | refine RX.skip (.no rfl rfl rfl rfl) rfl rfl ?_ | refine RX.pure (.yes rfl rfl rfl) rfl rfl (p_move rfl) ?_)
          (first | refine RX.skip (.no rfl rfl rfl rfl) rfl rfl ?_ | refine RX.pure (.yes rfl rfl rfl) rfl rfl (p_move rfl) ?_)
          (first | refine RX.skip (.no rfl rfl rfl rfl) rfl rfl ?_ | refine RX.pure (.yes rfl rfl rfl) rfl rfl (p_idxS rfl rfl sl_65 (by omega) (by omega)) ?_)
          (first | refine RX.skip (.no rfl rfl rfl rfl) rfl rfl ?_ | refine RX.pure (.yes rfl rfl rfl) rfl rfl (p_faddr rfl fa_70_2) ?_)
          (first | refine RX.skip (.no rfl rfl rfl rfl) rfl rfl ?_ | (refine RX.read (.yes rfl rfl rfl) rfl rfl rfl (r_load rfl na_4 (rPut (hr _) hu)) ?_; refine RX.say (t := 228) rfl (.bool false) (by simp [hput]) ?_))
          (first | refine RX.pure (.none rfl) rfl rfl (p_pickT rfl rfl) ?_ | refine RX.pure (.none rfl) rfl rfl (p_pickF rfl rfl) ?_)
          refine RX.nil ?_
          refine WP.condF rfl (WP.skip ?_)
          refine ⟨th, H, hA, hkk, ?_, rfl⟩
          repeat (first | exact Sub.nil | refine Sub.cons rfl ?_)
      · refine WP.sregion ?_
        refine RX.pure (.none rfl) rfl rfl (p_move rfl) ?_
        refine RX.pure (.none rfl) rfl rfl (p_lenSlice rfl Tryd.underlying65) ?_
        refine RX.pure (.none rfl) rfl rfl (p_gtr rfl rfl) ?_
        refine RX.say (t := 218) rfl (.bool true) (by rw [decide_eq_true]; omega) ?_
        refine RX.pure (.none rfl) rfl rfl (p_move rfl) ?_
        (first | refine RX.skip (.no rfl rfl rfl rfl) rfl rfl ?_ | refine RX.pure (.yes rfl rfl rfl) rfl rfl (p_move rfl) ?_)
        (first | refine RX.skip (.no rfl rfl rfl rfl) rfl rfl ?_ | (refine RX.pure (.yes rfl rfl rfl) rfl rfl (p_gtr rfl rfl) ?_; refine RX.say (t := 221) rfl (.bool false) (by rw [decide_eq_false]; omega) ?_))
        (first | refine RX.pure (.none rfl) rfl rfl (p_pickT rfl rfl) ?_ | refine RX.pure (.none rfl) rfl rfl (p_pickF rfl rfl) ?_)
        refine RX.pure (.none rfl) rfl rfl (p_move rfl) ?_
        (first | refine RX.skip (.no rfl rfl rfl rfl) rfl rfl ?_ | refine RX.pure (.yes rfl rfl rfl) rfl rfl (p_move rfl) ?_)
        (first | refine RX.skip (.no rfl rfl rfl rfl) rfl rfl ?_ | refine RX.pure (.yes rfl rfl rfl) rfl rfl (p_move rfl) ?_)
        (first | refine RX.skip (.no rfl rfl rfl rfl) rfl rfl ?_ | refine RX.pure (.yes rfl rfl rfl) rfl rfl (p_idxSlice0 rfl rfl sl_65 (by omega) (by omega)) ?_ | refine RX.pure (.yes rfl rfl rfl) rfl rfl (p_idxSlice rfl rfl sl_65 (by omega) (by omega)) ?_)
        (first | refine RX.skip (.no rfl rfl rfl rfl) rfl rfl ?_ | refine RX.pure (.yes rfl rfl rfl) rfl rfl (p_fieldAddr rfl fa_70_2) ?_)
        (first | refine RX.skip (.no rfl rfl rfl rfl) rfl rfl ?_ | refine RX.ld 0 (.yes rfl rfl rfl) rfl rfl na_4 rfl rfl ?_ | refine RX.ld 1 (.yes rfl rfl rfl) rfl rfl na_4 rfl rfl ?_ | refine RX.ld 2 (.yes rfl rfl rfl) rfl rfl na_4 rfl rfl ?_ | refine RX.ld 3 (.yes rfl rfl rfl) rfl rfl na_4 rfl rfl ?_ | refine RX.ld 4 (.yes rfl rfl rfl) rfl rfl na_4 rfl rfl ?_ | refine RX.ld 5 (.yes rfl rfl rfl) rfl rfl na_4 rfl rfl ?_ | refine RX.ld 6 (.yes rfl rfl rfl) rfl rfl na_4 rfl rfl ?_ | refine RX.ld 7 (.yes rfl rfl rfl) rfl rfl na_4 rfl rfl ?_)
        (first | refine RX.pure (.none rfl) rfl rfl (p_pickT rfl rfl) ?_ | refine RX.pure (.none rfl) rfl rfl (p_pickF rfl rfl) ?_)
        refine RX.nil ?_
        refine WP.condF rfl (WP.skip ?_)
        refine ⟨th, H, hA, hkk, ?_, rfl⟩
        repeat (first | exact Sub.nil | refine Sub.cons rfl ?_)
    · refine WP.sregion ?_
      refine RX.pure (.none rfl) rfl rfl (p_move rfl) ?_
      refine RX.pure (.none rfl) rfl rfl (p_lenSlice rfl Tryd.underlying65) ?_
      refine RX.pure (.none rfl) rfl rfl (p_gtr rfl rfl) ?_
      refine RX.say (t := 218) rfl (.bool false) (by rw [decide_eq_false]; omega) ?_
      refine RX.pure (.none rfl) rfl rfl (p_move rfl) ?_
      (first | refine RX.skip (.no rfl rfl rfl rfl) rfl rfl ?_ | refine RX.pure (.yes rfl rfl rfl) rfl rfl (p_move rfl) ?_)
      (first | refine RX.skip (.no rfl rfl rfl rfl) rfl rfl ?_ | refine RX.pure (.yes rfl rfl rfl) rfl rfl (p_gtr rfl rfl) ?_)
      (first | refine RX.pure (.none rfl) rfl rfl (p_pickT rfl rfl) ?_ | refine RX.pure (.none rfl) rfl rfl (p_pickF rfl rfl) ?_)
      refine RX.pure (.none rfl) rfl rfl (p_move rfl) ?_
      (first | refine RX.skip (.no rfl rfl rfl rfl) rfl rfl ?_ | refine RX.pure (.yes rfl rfl rfl) rfl rfl (p_move rfl) ?_)
      (first | refine RX.skip (.no rfl rfl rfl rfl) rfl rfl ?_ | refine RX.pure (.yes rfl rfl rfl) rfl rfl (p_move rfl) ?_)
      (first | refine RX.skip (.no rfl rfl rfl rfl) rfl rfl ?_ | refine RX.pure (.yes rfl rfl rfl) rfl rfl (p_idxSlice0 rfl rfl sl_65 (by omega) (by omega)) ?_ | refine RX.pure (.yes rfl rfl rfl) rfl rfl (p_idxSlice rfl rfl sl_65 (by omega) (by omega)) ?_)
      (first | refine RX.skip (.no rfl rfl rfl rfl) rfl rfl ?_ | refine RX.pure (.yes rfl rfl rfl) rfl rfl (p_fieldAddr rfl fa_70_2) ?_)
      (first | refine RX.skip (.no rfl rfl rfl rfl) rfl rfl ?_ | refine RX.ld 0 (.yes rfl rfl rfl) rfl rfl na_4 rfl rfl ?_ | refine RX.ld 1 (.yes rfl rfl rfl) rfl rfl na_4 rfl rfl ?_ | refine RX.ld 2 (.yes rfl rfl rfl) rfl rfl na_4 rfl rfl ?_ | refine RX.ld 3 (.yes rfl rfl rfl) rfl rfl na_4 rfl rfl ?_ | refine RX.ld 4 (.yes rfl rfl rfl) rfl rfl na_4 rfl rfl ?_ | refine RX.ld 5 (.yes rfl rfl rfl) rfl rfl na_4 rfl rfl ?_ | refine RX.ld 6 (.yes rfl rfl rfl) rfl rfl na_4 rfl rfl ?_ | refine RX.ld 7 (.yes rfl rfl rfl) rfl rfl na_4 rfl rfl ?_)
      (first | refine RX.pure (.none rfl) rfl rfl (p_pickT rfl rfl) ?_ | refine RX.pure (.none rfl) rfl rfl (p_pickF rfl rfl) ?_)
      refine RX.nil ?_
      refine WP.condF rfl (WP.skip ?_)
      refine ⟨th, H, hA, hkk, ?_, rfl⟩
      repeat (first | exact Sub.nil | refine Sub.cons rfl ?_)
  clear hA hkk H th hin hlast
  rintro ρ S ⟨th, H, hA, hkk, hρ, rfl⟩
  refine WP.sub hρ ?_
  clear hρ
  obtain ⟨q7, cp7, rfl⟩ := hV.slice
  refine WP.sregion ?_
  refine RX.pure (.none rfl) rfl rfl (p_move rfl) ?_
  refine RX.eff (.none rfl) rfl rfl rfl (e_call [0] rfl call_17 rfl rfl (keys_api hA)) ?_
  rintro _ _ ⟨_, ⟨H6, h6, rfl⟩, rfl⟩; obtain ⟨q6, cp6, e6⟩ := h6.slice; subst e6
  refine RX.pure (.none rfl) rfl rfl (p_move rfl) ?_
  refine RX.eff (.none rfl) rfl rfl rfl (e_call [0, 1, 2] rfl call_20 rfl rfl (same_tri kk _ _ [_, _, _] ((h6.rd (i := 1) rfl).conv (by rw [hkk]; simp [kS])) (hV.rd (i := 2) rfl) (by omega))) ?_
  rintro _ _ ⟨_, ⟨rfl, rfl⟩, rfl⟩
  refine RX.pure (.none rfl) rfl rfl (p_assign rfl) ?_
  refine RX.nil ?_
  refine WP.ret ?_
  repeat (first | refine sq_ret ?_ | refine bk_ret ?_ | refine lq_ret ?_ | refine cq_ret ?_)
  exact fin1' 0 rfl rfl rfl ⟨rfl, rfl⟩
end Go.Proofs.YtpakklmkajjodaaDoor
