/- Part 17: operations on bits; a part of a value of an array type. -/
import Derived.Test.YtigjnfmbellpjaaDoorEL15
import Derived.Laws.BytesString
namespace Go.EL
open Go
def bAnd (k : IntKind) (a b : Int) : Int := k.wrap ((BitVec.ofInt k.bits a &&& BitVec.ofInt k.bits b).toNat)
def bOr (k : IntKind) (a b : Int) : Int := k.wrap ((BitVec.ofInt k.bits a ||| BitVec.ofInt k.bits b).toNat)
def bXor (k : IntKind) (a b : Int) : Int := k.wrap ((BitVec.ofInt k.bits a ^^^ BitVec.ofInt k.bits b).toNat)
def bShl (k : IntKind) (a b : Int) : Int := k.wrap (a * 2 ^ min b.toNat k.bits)
def bShr (k : IntKind) (a b : Int) : Int := a.fdiv (2 ^ min b.toNat k.bits)
def bNot (k : IntKind) (a : Int) : Int := bXor k (if k.signed then -1 else k.max) a
section
variable {P : Program} {ρ : Env} {ds : Option Nat} {ty : TypeId} {pos : String} {aft : Array Edge} {g : Option (Nat × Bool)}
theorem p_and {t yt : TypeId} {x y : Operand} {k : IntKind} {m n r : Int} (hx : ev ρ x = some (.int k m)) (hy : ev ρ y = some (.int k n)) (hr : bAnd k m n = r) : PureOp P ⟨ds, .binOp .and t x y yt, ty, pos, aft, g⟩ ρ (.int k r) := fun a hs w => by
  subst hr; simp [execOp, hs x _ hx, hs y _ hy, eqGuard, binOp, Op.intBits, bAnd]
theorem p_or {t yt : TypeId} {x y : Operand} {k : IntKind} {m n r : Int} (hx : ev ρ x = some (.int k m)) (hy : ev ρ y = some (.int k n)) (hr : bOr k m n = r) : PureOp P ⟨ds, .binOp .or t x y yt, ty, pos, aft, g⟩ ρ (.int k r) := fun a hs w => by
  subst hr; simp [execOp, hs x _ hx, hs y _ hy, eqGuard, binOp, Op.intBits, bOr]
theorem p_xor {t yt : TypeId} {x y : Operand} {k : IntKind} {m n r : Int} (hx : ev ρ x = some (.int k m)) (hy : ev ρ y = some (.int k n)) (hr : bXor k m n = r) : PureOp P ⟨ds, .binOp .xor t x y yt, ty, pos, aft, g⟩ ρ (.int k r) := fun a hs w => by
  subst hr; simp [execOp, hs x _ hx, hs y _ hy, eqGuard, binOp, Op.intBits, bXor]
theorem p_shl {t yt : TypeId} {x y : Operand} {k k' : IntKind} {m n r : Int} (hx : ev ρ x = some (.int k m)) (hy : ev ρ y = some (.int k' n)) (h0 : 0 ≤ n) (hr : bShl k m n = r) : PureOp P ⟨ds, .binOp .shl t x y yt, ty, pos, aft, g⟩ ρ (.int k r) := fun a hs w => by
  have h0' : ¬ n < 0 := by omega
  subst hr; simp [execOp, hs x _ hx, hs y _ hy, eqGuard, binOp, Op.shift, h0', bShl]
theorem p_shr {t yt : TypeId} {x y : Operand} {k k' : IntKind} {m n r : Int} (hx : ev ρ x = some (.int k m)) (hy : ev ρ y = some (.int k' n)) (h0 : 0 ≤ n) (hr : bShr k m n = r) : PureOp P ⟨ds, .binOp .shr t x y yt, ty, pos, aft, g⟩ ρ (.int k r) := fun a hs w => by
  have h0' : ¬ n < 0 := by omega
  subst hr; simp [execOp, hs x _ hx, hs y _ hy, eqGuard, binOp, Op.shift, h0', bShr]
theorem p_compl {t : TypeId} {x : Operand} {k : IntKind} {m r : Int} (hx : ev ρ x = some (.int k m)) (hr : bNot k m = r) : PureOp P ⟨ds, .unOp .xor t x, ty, pos, aft, g⟩ ρ (.int k r) := fun a hs w => by
  subst hr; simp [execOp, hs x _ hx, Op.unary, Op.intBits, bNot, bXor]
theorem part_one {e : TypeId} {cs : Array Value} {j : Nat} {v : Value} {w : World} (hs : notAgg P e = true) (hv : cs[j]? = some v) : (part e cs j).run P w = .ok v w := by
  simp [part, notAgg_run hs, hv]
theorem p_idxVal {t e : TypeId} {x i : Operand} {len : Nat} {k : IntKind} {j : Int} {cs : Array Value} {v : Value} (hx : ev ρ x = some (.agg cs)) (hi : ev ρ i = some (.int k j)) (ht : arrayOf P t len e 1 = true) (h0 : 0 ≤ j) (h1 : j < len) (hn : notAgg P e = true) (hv : cs[j.toNat]? = some v) :
    PureOp P ⟨ds, .index t x i, ty, pos, aft, g⟩ ρ v := fun a hs w => by
  obtain ⟨hu, hsz⟩ := arrayOf_und ht
  have := part_one (w := w) hn hv
  simp [execOp, hs x _ hx, hs i _ hi, Instr.index, asIntOf, underlying, hu, h0, h1, sizeIs_run hsz, this]
end
end Go.EL

/- Part 18: functions that leave the world as it is, but for the count of what was drawn: a walk without a heap. -/
namespace Go.EL
open Go
section
variable {P : Program} {N : Nat} {ops : Array Oper}
def QWP (P : Program) (N : Nat) (c : Code) (Q : Exit → Env → Prop) (ρ : Env) : Prop :=
  ∀ a w, Fits N a ρ → c.wp P (fun e a' w' => ∃ ρ' m, Q e ρ' ∧ Fits N a' ρ' ∧ w' = { w with drawn := m }) a w
def QX (P : Program) (N : Nat) (ops : Array Oper) (l : List Oper) (K : Env → Prop) (ρ : Env) : Prop :=
  ∀ a w, Fits N a ρ → LexL P ops (fun a' w' => ∃ ρ', K ρ' ∧ Fits N a' ρ' ∧ w' = w) l a w
theorem QWP.region {id : Nat} {l : List Oper} {Q : Exit → Env → Prop} {ρ : Env} (h : QX P N l.toArray l (fun ρ => Q .normal ρ) ρ) : QWP P N (.region id l.toArray false) Q ρ := fun a w hf =>
  wp_text (K := fun a' w' => ∃ ρ', Q .normal ρ' ∧ Fits N a' ρ' ∧ w' = w) (fun _ _ ⟨ρ', q, f, e⟩ => ⟨ρ', w.drawn, q, f, e⟩) (lex_range (h a w hf))
theorem QWP.draw {id : Nat} {l : List Oper} {Q : Exit → Env → Prop} {ρ : Env} (hm : P.follows .mixedOrders = true) (hc : okDraw l.toArray (Region.before l.toArray) = true) (h : QX P N l.toArray l (fun ρ => Q .normal ρ) ρ) : QWP P N (.region id l.toArray true) Q ρ := fun a w hf =>
  wp_draw hm (okDraw_spec hc) (K := fun a' w' => ∃ ρ', Q .normal ρ' ∧ Fits N a' ρ' ∧ w' = { w with drawn := w.drawn + 1 }) (fun _ _ ⟨ρ', q, f, e⟩ => ⟨ρ', _, q, f, e⟩) (lex_range (h a { w with drawn := w.drawn + 1 } hf))
theorem QWP.seq {x y : Code} {Q : Exit → Env → Prop} {ρ : Env} (h : QWP P N x (fun e ρ => match e with | .normal => QWP P N y Q ρ | e => Q e ρ) ρ) : QWP P N (.seq x y) Q ρ := by
  intro a w hf
  refine wp_seq (wp_mono (h a w hf) ?_)
  rintro e a' w' ⟨ρ', m, q, f, rfl⟩
  cases e with
  | normal =>
    refine wp_mono (q a' _ f) ?_
    rintro e a'' w'' ⟨ρ'', m', q', f', rfl⟩
    exact ⟨ρ'', m', q', f', rfl⟩
  | exit id => exact ⟨ρ', m, q, f, rfl⟩
  | goto l => exact ⟨ρ', m, q, f, rfl⟩
  | ret => exact ⟨ρ', m, q, f, rfl⟩
  | panic ch => exact ⟨ρ', m, q, f, rfl⟩
  | outgrown => exact ⟨ρ', m, q, f, rfl⟩
theorem QWP.sregion {id : Nat} {l : List Oper} {y : Code} {Q : Exit → Env → Prop} {ρ : Env} (h : QX P N l.toArray l (fun ρ => QWP P N y Q ρ) ρ) : QWP P N (.seq (.region id l.toArray false) y) Q ρ := .seq (.region h)
theorem QWP.sdraw {id : Nat} {l : List Oper} {y : Code} {Q : Exit → Env → Prop} {ρ : Env} (hm : P.follows .mixedOrders = true) (hc : okDraw l.toArray (Region.before l.toArray) = true) (h : QX P N l.toArray l (fun ρ => QWP P N y Q ρ) ρ) : QWP P N (.seq (.region id l.toArray true) y) Q ρ := .seq (.draw hm hc h)
theorem QWP.ret {Q : Exit → Env → Prop} {ρ : Env} (h : Q .ret ρ) : QWP P N .ret Q ρ := fun _ w hf => wp_ret ⟨ρ, w.drawn, h, hf, rfl⟩
theorem QWP.skip {Q : Exit → Env → Prop} {ρ : Env} (h : Q .normal ρ) : QWP P N .skip Q ρ := fun _ w hf => wp_skip ⟨ρ, w.drawn, h, hf, rfl⟩
theorem QWP.condT {c : Operand} {x y : Code} {Q : Exit → Env → Prop} {ρ : Env} (hc : ev ρ c = some (.bool true)) (h : QWP P N x Q ρ) : QWP P N (.cond c x y) Q ρ := fun a w hf => wp_cond_true (hf.sees _ _ hc) (h a w hf)
theorem QWP.condF {c : Operand} {x y : Code} {Q : Exit → Env → Prop} {ρ : Env} (hc : ev ρ c = some (.bool false)) (h : QWP P N y Q ρ) : QWP P N (.cond c x y) Q ρ := fun a w hf => wp_cond_false (hf.sees _ _ hc) (h a w hf)
theorem QX.nil {K : Env → Prop} {ρ : Env} (h : K ρ) : QX P N ops [] K ρ := fun _ _ hf => ⟨ρ, h, hf, rfl⟩
theorem QX.pure {o : Oper} {rest : List Oper} {K : Env → Prop} {ρ : Env} {d : Nat} {v : Value} (hw : Wnt ops ρ o) (hd : o.dst = some d) (hN : Nat.blt d N = true) (hp : PureOp P o ρ v) (h : QX P N ops rest K ((d, v) :: ρ)) : QX P N ops (o :: rest) K ρ := by
  intro a w hf
  have hr := hp a hf.sees
  refine .inl ⟨hw a hf.sees, ?_⟩
  have hk := h (a.put o.dst v) w (by rw [hd]; exact hf.put hN v)
  cases hc : clsOf o.op <;> simp only
  · exact ⟨v, hr, hk⟩
  · exact ⟨v, hr w, hk⟩
  · unfold Yld
    rw [hr w]
    exact hk
theorem QX.skip {o : Oper} {rest : List Oper} {K : Env → Prop} {ρ : Env} {d : Nat} (hu : Unw ops ρ o) (hd : o.dst = some d) (hN : Nat.blt d N = true) (h : QX P N ops rest K ((d, undef) :: ρ)) : QX P N ops (o :: rest) K ρ :=
  fun a w hf => .inr ⟨hu a hf.sees, h (a.put o.dst undef) w (by rw [hd]; exact hf.put hN undef)⟩
/-- the function: one result -/
theorem Quiet.mk {f : FuncId} {fn : Func} {c : Code} {args : Array Value} {v : Value} {t : Nat} (hf : P.funcs[f]? = some fn) (hb : fn.body = some c) (hn : fn.ntmps = N) (hs : Nat.ble args.size N = true) (hr : fn.results = #[.tmp t])
    (h : QWP P N c (fun e ρ => (match e with | .normal => True | .ret => True | _ => False) ∧ look ρ t = some v) (enum 0 args.toList)) : Quiet P f args v := by
  intro w
  refine calls_of_wp hf hb ?_
  have hle : args.size ≤ N := by simpa using hs
  have hfit : Fits N { tmps := args ++ Array.replicate (fn.ntmps - args.size) undef, defers := [] } (enum 0 args.toList) := by
    refine ⟨by simp [hn]; omega, rfl, fun i v hv => ?_⟩
    obtain ⟨_, h2⟩ := look_enum _ _ _ _ hv
    have h3 : args[i]? = some v := by simpa using h2
    have hlt : i < args.size := (Array.getElem?_eq_some_iff.1 h3).1
    simp only [Array.getD_eq_getD_getElem?]
    rw [Array.getElem?_append_left hlt, h3]
    rfl
  refine wp_mono (h _ w hfit) ?_
  rintro e a' w' ⟨ρ', m, ⟨he, hv⟩, f', rfl⟩
  have hres : (results fn a'.tmps).run P { w with drawn := m } = .ok v { w with drawn := m } := by
    rw [results_tmp hr]
    rw [show a'.tmps.getD t undef = v from f'.sees (.tmp t) v hv]
  cases e with
  | normal => exact ⟨f'.defers, v, hres, rfl, m, rfl⟩
  | ret => exact ⟨f'.defers, v, hres, rfl, m, rfl⟩
  | exit id => exact he.elim
  | goto l => exact he.elim
  | panic ch => exact he.elim
  | outgrown => exact he.elim
end
end Go.EL

/- Part 19: texts out of bytes, bytes out of texts. -/
namespace Go.EL
open Go
/-- a text, of these bytes -/
def textOf (ns : List Int) : ByteArray := ns.foldl (fun r n => r.push (UInt8.ofNat n.toNat)) ByteArray.empty
theorem flat_one {α : Type} (f : α → Value) (ns : List α) : (ns.flatMap fun n => [f n]) = ns.map f := by
  induction ns with
  | nil => rfl
  | cons n ns ih => rw [List.flatMap_cons, ih]; rfl
section
variable {P : Program} {N : Nat} {w0 : World} {ρ : Env} {S : HS} {ds : Option Nat} {ty : TypeId} {pos : String} {aft : Array Edge} {g : Option (Nat × Bool)}
theorem r_bytesStr {src dst e : TypeId} {x : Operand} {v : Value} {ns : List Int} (hx : ev ρ x = some v) (hs : P.underlying src = some (.slice e)) (he : P.underlying e = some (.int .u8)) (hd : P.underlying dst = some .string)
    (hr : RdS w0 S (fun n => [Value.int .u8 n]) ns v) : ReadOp P w0 ⟨ds, .convert src dst x, ty, pos, aft, g⟩ ρ S (.string (textOf ns)) := fun F a w hsee hi => by
  rcases hr with ⟨rfl, rfl⟩ | ⟨b, c, rfl, hr⟩
  · have h1 := run_convert_bytes_string w src dst e none 0 0 hs he hd
    simp [execOp, hsee x _ hx, h1, Conv.bytesToString, textOf]
  · have h1 := run_convert_bytes_string w src dst e (some b) ns.length c hs he hd
    have hl : (ns.flatMap fun n => [Value.int .u8 n]) = ns.map (Value.int .u8) := flat_one _ _
    rw [hl] at hr
    have h2 := run_loads (P := P) (hr F w hi)
    rw [List.length_map] at h2
    have h3 := run_bytesToString w b ns.length c ns h2
    simp [execOp, hsee x _ hx, h1, h3, textOf]
theorem push_modify (h : Array Obj) (o : Obj) (f : Obj → Obj) : (h.push o).modify h.size f = h.push (f o) := by
  apply Array.ext
  · simp
  · intro i h1 h2
    by_cases hi : i = h.size
    · subst hi; simp [Array.getElem_modify]
    · have : i < h.size := by simp at h2; omega
      simp [Array.getElem_modify, Array.getElem_push, this, Ne.symm hi]
/-- bytes of a text, in a row of one's own that is not written -/
def bytesOf (s : ByteArray) : List Int := s.data.toList.map fun b => (b.toNat : Int)
def NewBytes (S : HS) (s : ByteArray) (e : TypeId) (v : Value) (S' : HS) : Prop :=
  ∃ n cap sp fr, v = .slice (some ⟨n, 0, none⟩) s.size cap ∧ s.size ≤ cap ∧ (s.size ≤ maxLen → cap ≤ maxLen) ∧ S' = S ++ [[(n, .cells ⟨(bytesOf s).map (Value.int .u8) ++ sp⟩ e fr)]]
theorem run_newBytes {e : TypeId} (c : Array Value) (w : World) {α : Type} (k : Addr → Sem α) : ((newRow e c).run P w).andThen (fun a w' => ((markStringish a).run P w').andThen fun _ w' => (k a).run P w') =
    (k ⟨w.heap.size, 0, none⟩).run P { w with heap := w.heap.push (.cells c e (c.size, c.size + 1)) } := by
  have h1 : (newRow e c).run P w = .ok ⟨w.heap.size, 0, none⟩ { w with heap := w.heap.push (.cells c e (0, 0)) } := by simp [newRow, newObj, Sem.run]
  have h2 : (markStringish ⟨w.heap.size, 0, none⟩).run P { w with heap := w.heap.push (.cells c e (0, 0)) } = .ok () { w with heap := w.heap.push (.cells c e (c.size, c.size + 1)) } := by
    have hs : (w.alloc (.cells c e)).shape? w.heap.size = some (e, c.size) := by
      have hg : (w.heap.push (Obj.cells c e (0, 0)))[w.heap.size]? = some (.cells c e (0, 0)) := Array.getElem?_push_size
      show (match (w.heap.push (Obj.cells c e (0, 0)))[w.heap.size]? with | some (.cells c elem _) => some (elem, c.size) | _ => none) = _
      rw [hg]
    have hf : (w.alloc (.cells c e)).freeze ⟨w.heap.size, c.size, none⟩ 1 = w.alloc (.cells c e (c.size, c.size + 1)) := by
      show ({ w with heap := (w.heap.push (Obj.cells c e (0, 0))).modify w.heap.size _ } : World) = { w with heap := w.heap.push _ }
      rw [push_modify]
      rfl
    simp [markStringish, hs, hf]
  rw [h1]
  simp only [Result.andThen, h2]
theorem e_strBytes {src dst e : TypeId} {x : Operand} {s : ByteArray} (hx : ev ρ x = some (.string s)) (hs : P.underlying src = some .string) (hd : P.underlying dst = some (.slice e)) (he : P.underlying e = some (.int .u8)) :
    EffOp P w0 ⟨ds, .convert src dst x, ty, pos, aft, g⟩ ρ S (NewBytes S s e) := fun F a w hsee hi => by
  have hnf : ¬ (Question.appendCap s.size 0 e).forced = true := by simp [Question.forced]
  have hrun : ∃ cap w1 fr, s.size ≤ cap ∧ (s.size ≤ maxLen → cap ≤ maxLen) ∧ w1.os = w.os ∧ w1.tape = w.tape ∧ w1.output = w.output ∧ w1.heap = w.heap.push (.cells (s.data.map (fun b : UInt8 => Value.int .u8 b.toNat) ++ Array.replicate (cap - s.size) (Value.int .u8 0)) e fr) ∧
      (convert src dst (.string s)).run P w = .ok (.slice (some ⟨w.heap.size, 0, none⟩) s.size cap) w1 := by
    obtain ⟨cap, hcap⟩ : ∃ cap, cap = (Question.appendCap s.size 0 e).cut (w.tape w.drawn (Question.appendCap s.size 0 e)) := ⟨_, rfl⟩
    obtain ⟨C, hC⟩ : ∃ C : Array Value, C = s.data.map (fun b : UInt8 => Value.int .u8 b.toNat) ++ Array.replicate (cap - s.size) (Value.int .u8 0) := ⟨_, rfl⟩
    have h3 := run_newBytes (P := P) (e := e) C w.drew (fun a => pure (Value.slice (some a) s.size cap))
    refine ⟨cap, { w.drew with heap := w.drew.heap.push (.cells C e (C.size, C.size + 1)) }, (C.size, C.size + 1), by rw [hcap]; exact grownCap_ge w s.size 0 e, fun hm => by rw [hcap]; exact grownCap_le_maxLen w s.size 0 e hm, rfl, rfl, rfl, by rw [hC]; rfl, ?_⟩
    simp only [convert, Sem.run_bind, run_underlying hs, run_underlying hd, run_underlying he, Result.andThen_ok, Conv.stringToBytes, run_choose_drew, if_neg hnf, ← hcap, ← hC]
    exact h3
  obtain ⟨cap, w1, fr, hc1, hc2, e1, e2, e3, e4, hr⟩ := hrun
  have hr' : (execOp a.eval ⟨ds, .convert src dst x, ty, pos, aft, g⟩).run P w = .ok (.value (.slice (some ⟨w.heap.size, 0, none⟩) s.size cap)) w1 := by
    simp [execOp, hsee x _ hx, hr]
  unfold Yld
  rw [hr']
  refine ⟨_, ⟨w.heap.size, cap, List.replicate (cap - s.size) (Value.int .u8 0), fr, rfl, hc1, hc2, rfl⟩, ?_⟩
  have hA : (s.data.map (fun b : UInt8 => Value.int .u8 b.toNat) ++ Array.replicate (cap - s.size) (Value.int .u8 0)) = ⟨(bytesOf s).map (Value.int .u8) ++ List.replicate (cap - s.size) (Value.int .u8 0)⟩ := by
    apply Array.toList_inj.1
    simp [bytesOf, Function.comp_def]
  rw [hA] at e4
  exact hi.grow w1 e1 e2 e3 e4
end
end Go.EL

/- Part 20: one result that lies in a cell; a remainder of what is not negative. -/
namespace Go.EL
open Go
section
variable {P : Program} {w0 : World}
theorem finC1' (n : Nat) {fn : Func} {R : Value → HS → Prop} {ρ : Env} {S : HS} {e : Exit} {t k : Nat} {T : TypeId} {a : Addr} {vs : List Value} (hn : fn.results = #[.cell t T]) (he : (match e with | .normal => True | .ret => True | _ => False) = True)
    (hv' : look ρ t = some (.pointer (some a))) (ht : ldv P T k = true) (hr : RdN w0 S a vs) (hl : vs.length = k) (h : R (vv vs) (S.take n)) : post P w0 fn R e ρ S :=
  ⟨of_eq_true he, vv vs, n, fun F b w hs hi => by
    have h1 : b.tmps.getD t undef = .pointer (some a) := hs (.tmp t) _ hv'
    have h3 := run_loadV (P := P) ht hr hl hi
    simp only [Array.getD_eq_getD_getElem?] at h1
    simp only [results, hn]
    simp [h1, h3, asAddr], h⟩
theorem p_remN {ρ : Env} {ds : Option Nat} {ty : TypeId} {pos : String} {aft : Array Edge} {g : Option (Nat × Bool)} {t yt : TypeId} {x y : Operand} {k : IntKind} {m n : Int} (hx : ev ρ x = some (.int k m)) (hy : ev ρ y = some (.int k n)) (h0 : 0 ≤ m) (h1 : n ≠ 0) : PureOp P ⟨ds, .binOp .rem t x y yt, ty, pos, aft, g⟩ ρ (.int k (m % n)) :=
  p_rem hx hy h1 (Int.tmod_eq_emod_of_nonneg h0)
end
end Go.EL
