/- Operations on closed values; slices of many elements; pairs compared; results in a cell and a slot. Plain theorems over any program. -/
import Derived.Test.YtlaobecajieaaaaGreatG04
import Derived.Laws.StructEq
import Derived.Laws.Externs
namespace Ev
open Go
set_option linter.unusedSimpArgs false
section
variable {P : Program} {n : Nat} {W : World} {env : Env} {H0 H : Heap} {Q : Exit → Act → World → Prop} {K : Act → World → Prop} {ops : Array Oper} {rest : List Oper} {o : Oper}
variable {ds : Option Tmp} {ty : TypeId} {pos : String} {af : Array Edge} {gd : Option (Nat × Bool)}
theorem W_buildSliceN {t e : TypeId} {d : TypeDesc} {sz sb es eb nn : Nat} {z ez : Value} {dd : Nat} {ps : List (Nat × Operand)} {vs : List (Nat × Value)} {cs : Array Value} [h : Ty P t (.slice e) sz sb z] [he : Ty P e d es eb ez] (hx : evps env ps = some vs)
    (hf : Instr.fill (fun i => some (i * es, es)) ((Array.range (nn * es)).map (ez.cells[· % ez.cells.size]!)) vs = some cs) (hes : nn * es ≠ 0 ∧ nn * es ≤ 16777216) (hn : Nat.blt dd n = true)
    (k : ∀ b H', New H H' b (.cells cs e) → At n W ((dd, .slice (some ⟨b, 0, none⟩) nn nn) :: env) H' K) : At n W env H (fun a w => Oper.wp P ⟨some dd, .buildSlice t nn ps.toArray, ty, pos, af, gd⟩ a w K Q) := by
  refine W_new (v := fun b => .slice (some ⟨b, 0, none⟩) nn nn) (fun a w f eq => ?_) rfl hn k
  subst eq
  obtain ⟨h1, h2⟩ := hes
  have h2' : ¬ 16777216 < nn * es := by omega
  have hee := f.evps hx
  refine ⟨w.alloc (.cells cs e), ?_, rfl, ⟨rfl, rfl, rfl⟩⟩
  simp [execOp, Instr.buildSlice, run_underlying h.und, he.sizeOf, he.zeroValue, h1, h2', hee, hf, newRow]
  done
theorem At_retC2 {fn : Func} {R : Value → Heap → Prop} {t t2 : Tmp} {v2 : Value} {ty' bt : TypeId} {d : TypeDesc} {sz sb : Nat} {z : Value} {b : Nat} {cs : Array Value} {fr : Nat × Nat} [hT : Ty P ty' d sz sb z] (hr : fn.results = #[.cell t ty', .tmp t2]) (hv : env.get t = some (.pointer (some ⟨b, 0, none⟩)))
    (hb : H[b]? = some (.cells cs bt fr)) (hd : isAggD d = true) (hl : Nat.beq cs.size sz = true) (hv2 : env.get t2 = some v2) (h : R (.tuple #[.agg cs, v2]) H) : At n W env H (Post P fn W R .ret) := fun a w f eq l => by
  subst eq
  have hg : a.tmps.getD t undef = .pointer (some ⟨b, 0, none⟩) := f.ev (x := .tmp t) hv
  have hg2 : a.tmps.getD t2 undef = v2 := f.ev (x := .tmp t2) hv2
  have : (results fn a.tmps).run P w = .ok (.tuple #[.agg cs, v2]) w := by simp [results, hr, -Array.getD_eq_getD_getElem?, hg, hg2, asAddr, run_loadVar_block (P := P) (t := ty') hb hd hl]
  exact ⟨f.defers, _, this, l, h⟩
/-- two pairs of numbers, told apart -/
theorem p_eqlPair {x y : Operand} {t t2 : TypeId} {f0 f1 : Field} {a b a' b' : Int} {sz sb : Nat} {z : Value} [h : Ty P t (.struct #[f0, f1]) sz sb z] (u0 : P.underlying f0.type = some (.int .i64)) (u1 : P.underlying f1.type = some (.int .i64)) (n0 : (f0.name == "_") = false) (n1 : (f1.name == "_") = false) (o0 : f0.offset = 0) (o1 : f1.offset = 1)
    (hp : P.stoodInHeld t = false) (hg : P.eqGuardType P.depth t = false) (hx : ev env x = some (.agg #[.int .i64 a, .int .i64 b])) (hy : ev env y = some (.agg #[.int .i64 a', .int .i64 b'])) :
    Pure P n env ⟨ds, .binOp .eql t x y t2, ty, pos, af, gd⟩ (.bool (decide (a = a' ∧ b = b'))) := fun ac w f => by
  have hS : P.underlying t = some (.struct (P.fieldsOf t)) := by simp [Program.fieldsOf, h.und]
  have hF : (P.fieldsOf t).toList = [f0, f1] := by simp [Program.fieldsOf, h.und]
  have g0 : (isAgg f0.type).run P w = .ok false w := by simp [isAgg, run_underlying u0]
  have g1 : (isAgg f1.type).run P w = .ok false w := by simp [isAgg, run_underlying u1]
  have m0 : ¬ f0.name = "_" := by simpa using n0
  have m1 : ¬ f1.name = "_" := by simpa using n1
  have hrun : (binOp .eql t (.agg #[.int .i64 a, .int .i64 b]) (.agg #[.int .i64 a', .int .i64 b'])).run P w = .ok (.bool (decide (a = a' ∧ b = b'))) w := by
    rw [run_eql_struct, show (10000 : Nat) = 9998 + 1 + 1 from rfl, run_equalIn_agg w (9998 + 1) t _ _ hS hp, hF]
    by_cases c1 : a = a' <;> by_cases c2 : b = b' <;> simp [Op.eqFields, part, g0, g1, o0, o1, m0, m1, run_equalIn_int w 9998 _ .i64 .i64 _ _ u0, run_equalIn_int w 9998 _ .i64 .i64 _ _ u1, c1, c2]
  simp [execOp, f.ev hx, f.ev hy, run_eqGuard_agg w .eql t x y _ _ hg, hrun]
theorem gqA {ops : Array Oper} {o : Oper} (i : Nat) {S : Heap → Prop} {needy : List Nat} {fuel : Nat} {listed : Array Bool} {d : Nat} {v : Value} (ho : ops[i]? = some o) (hr : Pure P n env o v) (hw : want ops env o = some true := by exact rfl) (hq : Ev.Calm Q := by repeat (first | exact Ev.Calm.post | apply Ev.Calm.then | apply Ev.Calm.inBlock | apply Ev.Calm.noGoto)) (hd : o.dst = some d := by exact rfl) (hn : Nat.blt d n = true := by exact rfl)
    (hc : (Region.noSelect ops && Region.free .any ops listed i && (Region.ready .any ops listed).contains i && !needy.contains i) = true := by kernel_rfl)
    (k : At n W ((d, v) :: env) H (wpAnyG P .any ops Q needy S fuel (listed.setIfInBounds i true))) : At n W env H (wpAnyG P .any ops Q needy S (fuel + 1) listed) := G_pure i ho hr hq hw hd hn hc k
theorem p_convInt {x : Operand} {src dst : TypeId} {ks kd k : IntKind} {s1 s2 s3 s4 : Nat} {z1 z2 : Value} {a : Int} [h1 : Ty P src (.int ks) s1 s2 z1] [h2 : Ty P dst (.int kd) s3 s4 z2] (hx : ev env x = some (.int k a)) :
    Pure P n env ⟨ds, .convert src dst x, ty, pos, af, gd⟩ (.int kd (kd.wrap a)) := fun a' w f => by
  have hk : P.intKind dst = kd := by simp [Program.intKind, h2.und]
  have := run_convert_int (P := P) (w := w) src dst k a (by rw [h1.und]; rfl) (by rw [hk]; exact h2.und)
  rw [hk] at this
  simp [execOp, f.ev hx, this]
theorem p_quoT {x y : Operand} {t t2 : TypeId} {a b : Int} (hx : ev env x = some (.int .i64 a)) (hy : ev env y = some (.int .i64 b)) (hb : b ≠ 0) (h : -9223372036854775808 ≤ a.tdiv b ∧ a.tdiv b ≤ 9223372036854775807) : Pure P n env ⟨ds, .binOp .quo t x y t2, ty, pos, af, gd⟩ (.int .i64 (a.tdiv b)) := fun a' w f => by
  simp [execOp, f.ev hx, f.ev hy, run_guard, binOp, Op.intDiv, hb, IntWalk.i64_in (a.tdiv b) h]
/-- a whole number's word as a float -/
def fl (a : Int) : Nat := FloatKind.f64.nearest a
theorem p_convFloat {x : Operand} {src dst : TypeId} {ks k : IntKind} {s1 s2 : Nat} {z1 : Value} {a : Int} [h1 : Ty P src (.int ks) s1 s2 z1] (h2 : P.underlying dst = some (.float .f64)) (hx : ev env x = some (.int k a)) :
    Pure P n env ⟨ds, .convert src dst x, ty, pos, af, gd⟩ (.float .f64 (fl a)) := fun a' w f => by
  simp [execOp, f.ev hx, convert, run_underlying h1.und, run_underlying h2, Conv.intToFloat, fl]
theorem complex_eq (ats : Array TypeId) (t : TypeId) (a b : Nat) : Builtin.complex_ ats t #[.float .f64 a, .float .f64 b] = (pure (.complex .f64 a b) : Sem Value) := rfl
theorem p_complex {x y : Operand} {ats : Array TypeId} {a b : Nat} (hx : ev env x = some (.float .f64 a)) (hy : ev env y = some (.float .f64 b)) :
    Pure P n env ⟨ds, .call ⟨.builtin .complex, #[x, y], ats⟩, ty, pos, af, gd⟩ (.complex .f64 a b) := fun a' w f => by
  simp [execOp, resolve, invoke, builtin, f.ev hx, f.ev hy, complex_eq]

/-- an operation on closed values: what it gives is found by the kernel -/
theorem p_binC {op : BinOp} {x y : Operand} {t t2 : TypeId} {u v : Value} (r : Value) (hx : ev env x = some u) (hy : ev env y = some v) (hg : eqGuard op t x y u v = pure ()) (h : binOp op t u v = pure r) :
    Pure P n env ⟨ds, .binOp op t x y t2, ty, pos, af, gd⟩ r := fun a w f => by
  simp [execOp, f.ev hx, f.ev hy, h]
  have hg' : (eqGuard op t x y u v).run P w = .ok () w := by rw [hg]; simp
  rw [hg']
  simp
theorem p_unC {op : UnOp} {x : Operand} {t : TypeId} {u : Value} (r : Value) (hx : ev env x = some u) (h : Op.unary op u = pure r) : Pure P n env ⟨ds, .unOp op t x, ty, pos, af, gd⟩ r := fun a w f => by
  simp [execOp, f.ev hx, h]
theorem real_eq (ats : Array TypeId) (t : TypeId) (k : FloatKind) (p q : Nat) : Builtin.real_ ats t #[.complex k p q] = (pure (.float k p) : Sem Value) := rfl
theorem imag_eq (ats : Array TypeId) (t : TypeId) (k : FloatKind) (p q : Nat) : Builtin.imag_ ats t #[.complex k p q] = (pure (.float k q) : Sem Value) := rfl
theorem p_real {x : Operand} {ats : Array TypeId} {k : FloatKind} {p q : Nat} (hx : ev env x = some (.complex k p q)) : Pure P n env ⟨ds, .call ⟨.builtin .real, #[x], ats⟩, ty, pos, af, gd⟩ (.float k p) := fun a w f => by
  simp [execOp, resolve, invoke, builtin, f.ev hx, real_eq]
theorem p_imag {x : Operand} {ats : Array TypeId} {k : FloatKind} {p q : Nat} (hx : ev env x = some (.complex k p q)) : Pure P n env ⟨ds, .call ⟨.builtin .imag, #[x], ats⟩, ty, pos, af, gd⟩ (.float k q) := fun a w f => by
  simp [execOp, resolve, invoke, builtin, f.ev hx, imag_eq]
theorem p_convFI {x : Operand} {src dst : TypeId} {b : Nat} {s1 s2 s3 s4 : Nat} {z1 z2 : Value} {kd : IntKind} (r : Int) [h1 : Ty P src (.float .f64) s1 s2 z1] [h2 : Ty P dst (.int kd) s3 s4 z2] (hx : ev env x = some (.float .f64 b)) (h : Conv.floatToInt .f64 b kd = pure (.int kd r)) :
    Pure P n env ⟨ds, .convert src dst x, ty, pos, af, gd⟩ (.int kd r) := fun a w f => by
  simp [execOp, f.ev hx, convert, run_underlying h1.und, run_underlying h2.und, h]
theorem p_makeFuncB {fn : Go.Fn} {first cap : List Operand} {fs vs : List Value} (hf : evs env first = some fs) (hv : evs env cap = some vs) : Pure P n env ⟨ds, .makeFunc fn first.toArray cap.toArray, ty, pos, af, gd⟩ (.func fn fs.toArray vs.toArray) := fun a w f => by
  simp [execOp, Instr.makeFunc, f.evs hf, f.evs hv]
/-- a function value, with what it has bound and caught -/
theorem W_call_bound {d : Nat} {f : FuncId} [FnOk P f] {x : Operand} {first cap : List Value} {args : List Operand} {ats : Array TypeId} {vs : List Value} {R : Value → Heap → Prop} (ho : o.op = .call ⟨.value x, args.toArray, ats⟩)
    (hx : ev env x = some (.func (.func f) first.toArray cap.toArray)) (hvs : evs env args = some vs) (hc : Spc P f (first ++ vs ++ cap).toArray H R) (hd : o.dst = some d) (hn : Nat.blt d n = true)
    (k : ∀ v H', R v H' → At n W ((d, v) :: env) H' K) : At n W env H (fun a w => o.wp P a w K Q) := fun a w f' e l => by
  subst e
  unfold Oper.wp
  have hrun : (execOp a.eval o).run P w = .ok (.enter f (first ++ vs ++ cap).toArray) w := by
    unfold execOp
    rw [ho]
    simp only [resolve, f'.ev hx, Deferred.ofValue, invoke]
    simp [run_callFunc, f'.evs hvs]
  rw [hrun, Oper.upon_enter]
  refine (hc w rfl).mono ?_
  intro e w' he
  cases e with
  | returned v =>
    rw [hd]
    exact k v _ he.2 _ w' (f'.put hn _) rfl (l.trans he.1)
  | panicked c => exact he.elim
  | outgrown => exact he.elim
/-- a function without a body that only reckons -/
theorem W_extern {d : Nat} {f : FuncId} {fn : Func} {args : List Operand} {ats : Array TypeId} {vs : List Value} {e : Array Value → Sem Value} {r : Value} (hf : P.funcs[f]? = some fn) (hname : (fn.name == "runtime.NumGoroutine") = false) (hb : fn.body.isNone = true) (hn : Extern.findNext fn = none) (he : Extern.find fn = some e)
    (ho : o.op = .call ⟨.value (.func f), args.toArray, ats⟩) (hvs : evs env args = some vs) (hr : e vs.toArray = pure r) (hd : o.dst = some d) (hnn : Nat.blt d n = true) (k : At n W ((d, r) :: env) H K) : At n W env H (fun a w => o.wp P a w K Q) := fun a w f' eq l => by
  have hrun : (execOp a.eval o).run P w = .ok (.value r) w := by
    unfold execOp
    rw [ho]
    have e1 : a.eval (.func f) = .func (.func f) #[] #[] := rfl
    simp only [resolve, e1, Deferred.ofValue, invoke]
    have e2 := run_callFunc_extern hf hname hb hn he vs.toArray w
    rw [hr] at e2
    simp [f'.evs hvs, e2]
  show Oper.wp P o a w K Q
  unfold Oper.wp
  rw [hrun, Oper.upon_value, hd]
  exact k _ w (f'.put hnn _) eq l
-- bits of whole numbers
theorem run_guard2 {w : World} {t : TypeId} {a b : Int} {k k' : IntKind} (op : BinOp) (xo yo : Operand) : (eqGuard op t xo yo (.int k a) (.int k' b)).run P w = .ok () w := by
  unfold eqGuard
  cases op <;> simp
theorem ofInt_nat (w a : Nat) : BitVec.ofInt w (a : Int) = BitVec.ofNat w a := by
  apply BitVec.eq_of_toNat_eq
  simp
theorem p_and8 {x y : Operand} {t t2 : TypeId} {a b : Nat} (hx : ev env x = some (.int .u8 a)) (hy : ev env y = some (.int .u8 b)) (ha : a < 256) (hb : b < 256) : Pure P n env ⟨ds, .binOp .and t x y t2, ty, pos, af, gd⟩ (.int .u8 ((a &&& b : Nat) : Int)) := fun ac w f => by
  have h : a &&& b < 256 := Nat.and_lt_two_pow (n := 8) a hb
  have e : IntKind.u8.wrap (BitVec.ofInt 8 (a : Int) &&& BitVec.ofInt 8 (b : Int)).toNat = ((a &&& b : Nat) : Int) := by
    rw [ofInt_nat, ofInt_nat, BitVec.toNat_and, BitVec.toNat_ofNat, BitVec.toNat_ofNat, Nat.mod_eq_of_lt ha, Nat.mod_eq_of_lt hb, IntWalk.u8_in _ (by omega)]
  have e2 : Op.intBits .and .u8 (a : Int) (b : Int) = pure (.int .u8 ((a &&& b : Nat) : Int)) := by show pure (Value.int .u8 (IntKind.u8.wrap _)) = _; rw [← e]; rfl
  simp [execOp, f.ev hx, f.ev hy, run_guard, binOp, e2]
theorem p_or8 {x y : Operand} {t t2 : TypeId} {a b : Nat} (hx : ev env x = some (.int .u8 a)) (hy : ev env y = some (.int .u8 b)) (ha : a < 256) (hb : b < 256) : Pure P n env ⟨ds, .binOp .or t x y t2, ty, pos, af, gd⟩ (.int .u8 ((a ||| b : Nat) : Int)) := fun ac w f => by
  have h : a ||| b < 256 := Nat.or_lt_two_pow (n := 8) ha hb
  have e : IntKind.u8.wrap (BitVec.ofInt 8 (a : Int) ||| BitVec.ofInt 8 (b : Int)).toNat = ((a ||| b : Nat) : Int) := by
    rw [ofInt_nat, ofInt_nat, BitVec.toNat_or, BitVec.toNat_ofNat, BitVec.toNat_ofNat, Nat.mod_eq_of_lt ha, Nat.mod_eq_of_lt hb, IntWalk.u8_in _ (by omega)]
  have e2 : Op.intBits .or .u8 (a : Int) (b : Int) = pure (.int .u8 ((a ||| b : Nat) : Int)) := by show pure (Value.int .u8 (IntKind.u8.wrap _)) = _; rw [← e]; rfl
  simp [execOp, f.ev hx, f.ev hy, run_guard, binOp, e2]
theorem p_or64 {x y : Operand} {t t2 : TypeId} {a b : Nat} (hx : ev env x = some (.int .u64 a)) (hy : ev env y = some (.int .u64 b)) (ha : a < 18446744073709551616) (hb : b < 18446744073709551616) : Pure P n env ⟨ds, .binOp .or t x y t2, ty, pos, af, gd⟩ (.int .u64 ((a ||| b : Nat) : Int)) := fun ac w f => by
  have h : a ||| b < 18446744073709551616 := Nat.or_lt_two_pow (n := 64) ha hb
  have e : IntKind.u64.wrap (BitVec.ofInt 64 (a : Int) ||| BitVec.ofInt 64 (b : Int)).toNat = ((a ||| b : Nat) : Int) := by
    rw [ofInt_nat, ofInt_nat, BitVec.toNat_or, BitVec.toNat_ofNat, BitVec.toNat_ofNat, Nat.mod_eq_of_lt ha, Nat.mod_eq_of_lt hb, IntWalk.u64_in _ (by omega)]
  have e2 : Op.intBits .or .u64 (a : Int) (b : Int) = pure (.int .u64 ((a ||| b : Nat) : Int)) := by show pure (Value.int .u64 (IntKind.u64.wrap _)) = _; rw [← e]; rfl
  simp [execOp, f.ev hx, f.ev hy, run_guard, binOp, e2]
theorem p_and64 {x y : Operand} {t t2 : TypeId} {a b : Nat} (hx : ev env x = some (.int .u64 a)) (hy : ev env y = some (.int .u64 b)) (ha : a < 18446744073709551616) (hb : b < 18446744073709551616) : Pure P n env ⟨ds, .binOp .and t x y t2, ty, pos, af, gd⟩ (.int .u64 ((a &&& b : Nat) : Int)) := fun ac w f => by
  have h : a &&& b < 18446744073709551616 := Nat.and_lt_two_pow (n := 64) a hb
  have e : IntKind.u64.wrap (BitVec.ofInt 64 (a : Int) &&& BitVec.ofInt 64 (b : Int)).toNat = ((a &&& b : Nat) : Int) := by
    rw [ofInt_nat, ofInt_nat, BitVec.toNat_and, BitVec.toNat_ofNat, BitVec.toNat_ofNat, Nat.mod_eq_of_lt ha, Nat.mod_eq_of_lt hb, IntWalk.u64_in _ (by omega)]
  have e2 : Op.intBits .and .u64 (a : Int) (b : Int) = pure (.int .u64 ((a &&& b : Nat) : Int)) := by show pure (Value.int .u64 (IntKind.u64.wrap _)) = _; rw [← e]; rfl
  simp [execOp, f.ev hx, f.ev hy, run_guard, binOp, e2]
theorem p_shl64 {x y : Operand} {t t2 : TypeId} {a b : Nat} {k : IntKind} (hx : ev env x = some (.int .u64 a)) (hy : ev env y = some (.int k b)) (hb : b ≤ 64) (h : a * 2 ^ b < 18446744073709551616) : Pure P n env ⟨ds, .binOp .shl t x y t2, ty, pos, af, gd⟩ (.int .u64 ((a * 2 ^ b : Nat) : Int)) := fun ac w f => by
  have e : Op.shift .shl .u64 (a : Int) k (b : Int) = pure (.int .u64 ((a * 2 ^ b : Nat) : Int)) := by
    have h0 : ¬ ((b : Int) < 0) := by omega
    have hm : min b 64 = b := by omega
    unfold Op.shift
    rw [if_neg h0]
    show pure (Value.int .u64 (IntKind.u64.wrap ((a : Int) * 2 ^ (min (Int.toNat (b : Int)) 64)))) = _
    rw [Int.toNat_natCast, hm, show ((a : Int) * 2 ^ b) = ((a * 2 ^ b : Nat) : Int) by push_cast; rfl, IntWalk.u64_in _ (by omega)]
  have e1 : IntKind.u64.wrap ((a : Int) * 2 ^ b) = (a : Int) * 2 ^ b := by
    rw [show ((a : Int) * 2 ^ b) = ((a * 2 ^ b : Nat) : Int) by push_cast; rfl, IntWalk.u64_in _ (by omega)]
  simp [execOp, f.ev hx, f.ev hy, run_guard2, binOp_shl, e]
  exact e1
theorem p_and32 {x y : Operand} {t t2 : TypeId} {a b : Nat} (hx : ev env x = some (.int .u32 a)) (hy : ev env y = some (.int .u32 b)) (ha : a < 4294967296) (hb : b < 4294967296) : Pure P n env ⟨ds, .binOp .and t x y t2, ty, pos, af, gd⟩ (.int .u32 ((a &&& b : Nat) : Int)) := fun ac w f => by
  have h : a &&& b < 4294967296 := Nat.and_lt_two_pow (n := 32) a hb
  have e : IntKind.u32.wrap (BitVec.ofInt 32 (a : Int) &&& BitVec.ofInt 32 (b : Int)).toNat = ((a &&& b : Nat) : Int) := by
    rw [ofInt_nat, ofInt_nat, BitVec.toNat_and, BitVec.toNat_ofNat, BitVec.toNat_ofNat, Nat.mod_eq_of_lt ha, Nat.mod_eq_of_lt hb, IntWalk.u32_in _ (by omega)]
  have e2 : Op.intBits .and .u32 (a : Int) (b : Int) = pure (.int .u32 ((a &&& b : Nat) : Int)) := by show pure (Value.int .u32 (IntKind.u32.wrap _)) = _; rw [← e]; rfl
  simp [execOp, f.ev hx, f.ev hy, run_guard, binOp, e2]
theorem p_or32 {x y : Operand} {t t2 : TypeId} {a b : Nat} (hx : ev env x = some (.int .u32 a)) (hy : ev env y = some (.int .u32 b)) (ha : a < 4294967296) (hb : b < 4294967296) : Pure P n env ⟨ds, .binOp .or t x y t2, ty, pos, af, gd⟩ (.int .u32 ((a ||| b : Nat) : Int)) := fun ac w f => by
  have h : a ||| b < 4294967296 := Nat.or_lt_two_pow (n := 32) ha hb
  have e : IntKind.u32.wrap (BitVec.ofInt 32 (a : Int) ||| BitVec.ofInt 32 (b : Int)).toNat = ((a ||| b : Nat) : Int) := by
    rw [ofInt_nat, ofInt_nat, BitVec.toNat_or, BitVec.toNat_ofNat, BitVec.toNat_ofNat, Nat.mod_eq_of_lt ha, Nat.mod_eq_of_lt hb, IntWalk.u32_in _ (by omega)]
  have e2 : Op.intBits .or .u32 (a : Int) (b : Int) = pure (.int .u32 ((a ||| b : Nat) : Int)) := by show pure (Value.int .u32 (IntKind.u32.wrap _)) = _; rw [← e]; rfl
  simp [execOp, f.ev hx, f.ev hy, run_guard, binOp, e2]
theorem p_xor32 {x y : Operand} {t t2 : TypeId} {a b : Nat} (hx : ev env x = some (.int .u32 a)) (hy : ev env y = some (.int .u32 b)) (ha : a < 4294967296) (hb : b < 4294967296) : Pure P n env ⟨ds, .binOp .xor t x y t2, ty, pos, af, gd⟩ (.int .u32 ((a ^^^ b : Nat) : Int)) := fun ac w f => by
  have h : a ^^^ b < 4294967296 := Nat.xor_lt_two_pow (n := 32) ha hb
  have e : IntKind.u32.wrap (BitVec.ofInt 32 (a : Int) ^^^ BitVec.ofInt 32 (b : Int)).toNat = ((a ^^^ b : Nat) : Int) := by
    rw [ofInt_nat, ofInt_nat, BitVec.toNat_xor, BitVec.toNat_ofNat, BitVec.toNat_ofNat, Nat.mod_eq_of_lt ha, Nat.mod_eq_of_lt hb, IntWalk.u32_in _ (by omega)]
  have e2 : Op.intBits .xor .u32 (a : Int) (b : Int) = pure (.int .u32 ((a ^^^ b : Nat) : Int)) := by show pure (Value.int .u32 (IntKind.u32.wrap _)) = _; rw [← e]; rfl
  simp [execOp, f.ev hx, f.ev hy, run_guard, binOp, e2]
theorem p_not32 {x : Operand} {t : TypeId} {a : Nat} (hx : ev env x = some (.int .u32 a)) (ha : a < 4294967296) : Pure P n env ⟨ds, .unOp .xor t x, ty, pos, af, gd⟩ (.int .u32 ((4294967295 ^^^ a : Nat) : Int)) := fun ac w f => by
  have h : 4294967295 ^^^ a < 4294967296 := Nat.xor_lt_two_pow (n := 32) (by decide) ha
  have e : IntKind.u32.wrap (BitVec.ofInt 32 ((4294967295 : Nat) : Int) ^^^ BitVec.ofInt 32 (a : Int)).toNat = ((4294967295 ^^^ a : Nat) : Int) := by
    rw [ofInt_nat, ofInt_nat, BitVec.toNat_xor, BitVec.toNat_ofNat, BitVec.toNat_ofNat, Nat.mod_eq_of_lt (by decide), Nat.mod_eq_of_lt ha, IntWalk.u32_in _ (by omega)]
  have e2 : Op.unary .xor (.int .u32 (a : Int)) = (pure (.int .u32 ((4294967295 ^^^ a : Nat) : Int)) : Sem Value) := by show pure (Value.int .u32 (IntKind.u32.wrap _)) = _; rw [← e]; rfl
  simp [execOp, f.ev hx, e2]
theorem p_shl32 {x y : Operand} {t t2 : TypeId} {a b : Nat} {k : IntKind} (hx : ev env x = some (.int .u32 a)) (hy : ev env y = some (.int k b)) (hb : b ≤ 32) (h : a * 2 ^ b < 4294967296) : Pure P n env ⟨ds, .binOp .shl t x y t2, ty, pos, af, gd⟩ (.int .u32 ((a * 2 ^ b : Nat) : Int)) := fun ac w f => by
  have e : Op.shift .shl .u32 (a : Int) k (b : Int) = pure (.int .u32 ((a * 2 ^ b : Nat) : Int)) := by
    have h0 : ¬ ((b : Int) < 0) := by omega
    have hm : min b 32 = b := by omega
    unfold Op.shift
    rw [if_neg h0]
    show pure (Value.int .u32 (IntKind.u32.wrap ((a : Int) * 2 ^ (min (Int.toNat (b : Int)) 32)))) = _
    rw [Int.toNat_natCast, hm, show ((a : Int) * 2 ^ b) = ((a * 2 ^ b : Nat) : Int) by push_cast; rfl, IntWalk.u32_in _ (by omega)]
  have e1 : IntKind.u32.wrap ((a : Int) * 2 ^ b) = (a : Int) * 2 ^ b := by
    rw [show ((a : Int) * 2 ^ b) = ((a * 2 ^ b : Nat) : Int) by push_cast; rfl, IntWalk.u32_in _ (by omega)]
  simp [execOp, f.ev hx, f.ev hy, run_guard2, binOp_shl, e]
  exact e1
theorem p_shr64 {x y : Operand} {t t2 : TypeId} {a b : Nat} {k k' : IntKind} (hx : ev env x = some (.int k a)) (hy : ev env y = some (.int k' b)) (hb : b ≤ k.bits) : Pure P n env ⟨ds, .binOp .shr t x y t2, ty, pos, af, gd⟩ (.int k ((a / 2 ^ b : Nat) : Int)) := fun ac w f => by
  have e : Op.shift .shr k (a : Int) k' (b : Int) = pure (.int k ((a / 2 ^ b : Nat) : Int)) := by
    have h0 : ¬ ((b : Int) < 0) := by omega
    have hm : min b k.bits = b := by omega
    unfold Op.shift
    rw [if_neg h0]
    show pure (Value.int k (Int.fdiv (a : Int) (2 ^ (min (Int.toNat (b : Int)) k.bits)))) = _
    rw [Int.toNat_natCast, hm, Int.fdiv_eq_ediv_of_nonneg _ (by exact_mod_cast Nat.zero_le (2 ^ b))]
    norm_cast
  simp [execOp, f.ev hx, f.ev hy, run_guard2, binOp_shr, e]
theorem idxA {d : Nat} {v : Value} (hw : want ops env o = some true := by exact rfl) (hr : Pure P n env o v := by
  first
  | exact p_indexAddr (i := 0) rfl rfl (by omega)
  | exact p_indexAddr (i := 1) rfl rfl (by omega)
  | exact p_indexAddr (i := 2) rfl rfl (by omega)
  | exact p_indexAddr (i := 3) rfl rfl (by omega)
  | exact p_real rfl
  | exact p_imag rfl
  | exact p_binC (.bool true) rfl rfl rfl (by kernel_rfl)
  | exact p_binC (.bool false) rfl rfl rfl (by kernel_rfl)) (hd : o.dst = some d := by exact rfl) (hn : Nat.blt d n = true := by exact rfl) (k : At n W ((d, v) :: env) H (wpList P ops Q rest)) : At n W env H (wpList P ops Q (o :: rest)) := At_pure hr hw hd hn k
end
end Ev
