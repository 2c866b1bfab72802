/- The cache's functions, as their callers see them: Drop, Len, Keys (items of 1 and 1 cells). -/
import Derived.Test.YtpakklmkajjodaaDoorCAS
import Derived.Test.YtpakklmkajjodaaDoorCW3S
set_option maxRecDepth 100000
namespace Go.Proofs.YtpakklmkajjodaaDoor.CSI
open Go Go.EL Go.EL.Cache
section
variable {w0 : World} {D : Value → Prop}
theorem drop_api (hK : KeyTy Tryd.prog 9 D) {most : Nat} {th : Th} {c : Nat} {H : Hp} {ks : List Value} (h : At' D most th c H) (hk : D (vv ks)) (hks : ks.length = 1) :
    Tri Tryd.prog w0 15 #[.pointer (some ⟨c, 0, none⟩), vv ks] [H] (fun v S' => ∃ H', S' = [H'] ∧ v = .bool (lk ks th).isSome ∧ At' D most (del ks th) c H') := by
  obtain ⟨m, l, cap, fv, xs, sp, es, clk, ord, fr, Hf, hm, hci, rfl, hf, hc1, hc2, hc3, rfl⟩ := h
  rcases hci.find (vv ks) with ⟨la, i, lb, j, b, rfl, hki, hj⟩ | ⟨hmiss, hmiss2⟩
  · have him : i ∈ la ++ i :: lb := by simp
    have hkey : keyAt xs i = ks := vv_inj (by rw [hci.keyLen him, hks]) hki
    obtain ⟨x, hx, hok⟩ := hci.get (i := i) (List.mem_cons_of_mem _ (List.mem_append_left _ him))
    obtain ⟨_, hn, ho⟩ := hci.outs hx
    have hh := hci.hit
    rw [hkey] at hh
    have hxk : x.key = ks := by rw [← keyAt_of hx, hkey]
    obtain ⟨hrem, hsame⟩ := hci.remove (z := zeroIt) zeroIt_ok (by rw [hki]; exact hj)
    have hlen := hci.len
    have htot := hci.tot
    subst hxk
    refine ((dropHit_tri hK c l cap m i clk most fv xs sp x es j b fr Hf hci.oks hx hn ho hk hci.keysD hci.keysNd hj hf (by omega)).pre perm4).out ?_
    rintro v S' ⟨rfl, fv', Hf', hV, rfl⟩
    refine ⟨[_], ⟨_, rfl, by rw [hh.1]; rfl, m, l, cap, fv', _, sp, _, clk, _, _, Hf', hm, hrem, ?_, hV, ?_, hc2, ?_, rfl⟩, ?_⟩
    · rw [hh.2, things_congr hsame]
    · rw [List.length_set, outL_len]; exact hc1
    · rw [List.length_set, outL_len]; exact hc3
    · rw [List.length_set, outL_len]; exact perm4.symm
  · have hh := hci.miss hmiss2
    refine (((dropMiss_tri hK c l cap m clk xs.length most fv es ks hk hci.keysD hmiss).frame (T := [[(l, li xs sp)], Hf])).pre perm3).out ?_
    rintro v S' ⟨S1, ⟨rfl, rfl⟩, rfl⟩
    exact ⟨[_], ⟨_, rfl, by rw [hh.1]; rfl, by rw [hh.2]; exact ⟨m, l, cap, fv, xs, sp, es, clk, ord, fr, Hf, hm, hci, rfl, hf, hc1, hc2, hc3, rfl⟩⟩, perm3.symm⟩

theorem len_api {most : Nat} {th : Th} {c : Nat} {H : Hp} (h : At' D most th c H) :
    Tri Tryd.prog w0 16 #[.pointer (some ⟨c, 0, none⟩)] [H] (fun v S' => v = .int .i64 th.length ∧ S' = [H]) := by
  obtain ⟨m, l, cap, fv, xs, sp, es, clk, ord, fr, Hf, hm, hci, rfl, hf, hc1, hc2, hc3, rfl⟩ := h
  refine (((len_tri c l cap m clk xs.length most fv es).frame (T := [[(l, li xs sp)], Hf])).pre perm3).out ?_
  rintro v S' ⟨S1, ⟨rfl, rfl⟩, rfl⟩
  exact ⟨[_], ⟨by simp [things, hci.ents], rfl⟩, perm3.symm⟩

theorem keys_api {most : Nat} {th : Th} {c : Nat} {H : Hp} (h : At' D most th c H) :
    Tri Tryd.prog w0 17 #[.pointer (some ⟨c, 0, none⟩)] [H] (fun v S' => ∃ H', Vec 9 1 id (th.map (·.1)) v H' ∧ S' = [H, H']) := by
  obtain ⟨m, l, cap, fv, xs, sp, es, clk, ord, fr, Hf, hm, hci, rfl, hf, hc1, hc2, hc3, rfl⟩ := h
  have hmst := hci.mst
  refine (((keys_tri c l cap m clk most fv xs sp es ord hci.oks hci.ring hci.ord_nd hci.ord_rng (by omega)).frame (T := [Hf])).pre ?_).out ?_
  · simp
  rintro v S' ⟨S1, ⟨H', hV, rfl⟩, rfl⟩
  refine ⟨[_, H'], ⟨H', ?_, rfl⟩, ?_⟩
  · have e : (things xs ord).map (·.1) = ord.map (keyAt xs) := by simp [things, kv]
    rw [e]; exact hV
  · simp only [List.flatten_cons, List.flatten_nil, List.append_nil, List.cons_append, List.nil_append]
    exact ((List.perm_append_comm.cons _).cons _).cons _

end
end Go.Proofs.YtpakklmkajjodaaDoor.CSI
