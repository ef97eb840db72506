/- Acts as values; amounts made; the act of a command; the size of a line. -/
import Derived.Test.YticgbdeoiihbmaaDoorShF
import Derived.Laws.StructEq
namespace Go.Proofs.YticgbdeoiihbmaaDoor
open Go Ev
set_option linter.unusedVariables false
set_option linter.unusedSimpArgs false

section
variable {P : Program} {n : Nat} {W : World} {env : Env} {H0 H : Heap} {Q : Exit → Act → World → Prop} {K : Act → World → Prop}
variable {ds : Option Tmp} {ty : TypeId} {pos : String} {af : Array Edge} {gd : Option (Nat × Bool)}
theorem W_buildSliceN {t e : TypeId} {d : TypeDesc} {sz sb es eb nn : Nat} {z ez : Value} {dd : Nat} {ps : List (Nat × Operand)} {vs : List (Nat × Value)} {cs : Array Value} [h : Ty P t (.slice e) sz sb z] [he : Ty P e d es eb ez] (hx : evps env ps = some vs)
    (hf : Instr.fill (fun i => some (i * es, es)) ((Array.range (nn * es)).map (ez.cells[· % ez.cells.size]!)) vs = some cs) (hes : nn * es ≠ 0 ∧ nn * es ≤ 16777216) (hn : Nat.blt dd n = true)
    (k : ∀ b H', New H H' b (.cells cs e) → At n W ((dd, .slice (some ⟨b, 0, none⟩) nn nn) :: env) H' K) : At n W env H (fun a w => Oper.wp P ⟨some dd, .buildSlice t nn ps.toArray, ty, pos, af, gd⟩ a w K Q) := by
  refine W_new (v := fun b => .slice (some ⟨b, 0, none⟩) nn nn) (fun a w f eq => ?_) rfl hn k
  subst eq
  obtain ⟨h1, h2⟩ := hes
  have h2' : ¬ 16777216 < nn * es := by omega
  have hee := f.evps hx
  refine ⟨w.alloc (.cells cs e), ?_, rfl, ⟨rfl, rfl, rfl⟩⟩
  simp [execOp, Instr.buildSlice, run_underlying h.und, he.sizeOf, he.zeroValue, h1, h2', hee, hf, newRow]
  done
theorem At_retC2 {fn : Func} {R : Value → Heap → Prop} {t t2 : Tmp} {v2 : Value} {ty' bt : TypeId} {d : TypeDesc} {sz sb : Nat} {z : Value} {b : Nat} {cs : Array Value} {fr : Nat × Nat} [hT : Ty P ty' d sz sb z] (hr : fn.results = #[.cell t ty', .tmp t2]) (hv : env.get t = some (.pointer (some ⟨b, 0, none⟩)))
    (hb : H[b]? = some (.cells cs bt fr)) (hd : isAggD d = true) (hl : Nat.beq cs.size sz = true) (hv2 : env.get t2 = some v2) (h : R (.tuple #[.agg cs, v2]) H) : At n W env H (Post P fn W R .ret) := fun a w f eq l => by
  subst eq
  have hg : a.tmps.getD t undef = .pointer (some ⟨b, 0, none⟩) := f.ev (x := .tmp t) hv
  have hg2 : a.tmps.getD t2 undef = v2 := f.ev (x := .tmp t2) hv2
  have : (results fn a.tmps).run P w = .ok (.tuple #[.agg cs, v2]) w := by simp [results, hr, -Array.getD_eq_getD_getElem?, hg, hg2, asAddr, run_loadVar_block (P := P) (t := ty') hb hd hl]
  exact ⟨f.defers, _, this, l, h⟩
/-- two pairs of numbers, told apart -/
theorem p_eqlPair {x y : Operand} {t t2 : TypeId} {f0 f1 : Field} {a b a' b' : Int} {sz sb : Nat} {z : Value} [h : Ty P t (.struct #[f0, f1]) sz sb z] (u0 : P.underlying f0.type = some (.int .i64)) (u1 : P.underlying f1.type = some (.int .i64)) (n0 : (f0.name == "_") = false) (n1 : (f1.name == "_") = false) (o0 : f0.offset = 0) (o1 : f1.offset = 1)
    (hp : P.stoodInHeld t = false) (hg : P.eqGuardType P.depth t = false) (hx : ev env x = some (.agg #[.int .i64 a, .int .i64 b])) (hy : ev env y = some (.agg #[.int .i64 a', .int .i64 b'])) :
    Pure P n env ⟨ds, .binOp .eql t x y t2, ty, pos, af, gd⟩ (.bool (decide (a = a' ∧ b = b'))) := fun ac w f => by
  have hS : P.underlying t = some (.struct (P.fieldsOf t)) := by simp [Program.fieldsOf, h.und]
  have hF : (P.fieldsOf t).toList = [f0, f1] := by simp [Program.fieldsOf, h.und]
  have g0 : (isAgg f0.type).run P w = .ok false w := by simp [isAgg, run_underlying u0]
  have g1 : (isAgg f1.type).run P w = .ok false w := by simp [isAgg, run_underlying u1]
  have m0 : ¬ f0.name = "_" := by simpa using n0
  have m1 : ¬ f1.name = "_" := by simpa using n1
  have hrun : (binOp .eql t (.agg #[.int .i64 a, .int .i64 b]) (.agg #[.int .i64 a', .int .i64 b'])).run P w = .ok (.bool (decide (a = a' ∧ b = b'))) w := by
    rw [run_eql_struct, show (10000 : Nat) = 9998 + 1 + 1 from rfl, run_equalIn_agg w (9998 + 1) t _ _ hS hp, hF]
    by_cases c1 : a = a' <;> by_cases c2 : b = b' <;> simp [Op.eqFields, part, g0, g1, o0, o1, m0, m1, run_equalIn_int w 9998 _ .i64 .i64 _ _ u0, run_equalIn_int w 9998 _ .i64 .i64 _ _ u1, c1, c2]
  simp [execOp, f.ev hx, f.ev hy, run_eqGuard_agg w .eql t x y _ _ hg, hrun]
theorem strA {ops : Array Oper} {rest : List Oper} {o : Oper} {d : Nat} {v : Value} (hw : want ops env o = some true := by exact rfl) (hr : Pure P n env o v := by
  first
  | exact p_indexAddr (i := 0) rfl rfl (by omega)
  | exact p_indexAddr (i := 2) rfl rfl (by omega)
  | exact p_indexAddr (i := 4) rfl rfl (by omega)
  | exact p_indexAddr (i := 7) rfl rfl (by omega)
  | exact p_indexAddr (i := 9) rfl rfl (by omega)
  | exact p_indexAddr (i := 11) rfl rfl (by omega)
  | exact p_indexAddr (i := 13) rfl rfl (by omega)
  | exact p_indexAddr (i := 15) rfl rfl (by omega)
  | exact p_true (p_eql_string rfl rfl) (by decide)
  | exact p_false (p_eql_string rfl rfl) (by decide)
  | exact p_false (p_eql_string rfl rfl) (by assumption)
  | exact p_true (p_neq_string rfl rfl) (by decide)
  | exact p_false (p_neq_string rfl rfl) (by decide)
  | exact p_true (p_neq_string rfl rfl) (by assumption)) (hd : o.dst = some d := by exact rfl) (hn : Nat.blt d n = true := by exact rfl) (k : At n W ((d, v) :: env) H (wpList P ops Q rest)) : At n W env H (wpList P ops Q (o :: rest)) := At_pure hr hw hd hn k
theorem stqA {ops : Array Oper} {rest : List Oper} {o : Oper} {d : Nat} {v : Value} (hw : want ops env o = some true := by exact rfl) (hr : Pure P n env o v := by
  first
  | exact p_true (p_eql_string rfl rfl) (by decide)
  | exact p_false (p_eql_string rfl rfl) (by decide)
  | exact p_false (p_eql_string rfl rfl) (by assumption)) (hd : o.dst = some d := by exact rfl) (hn : Nat.blt d n = true := by exact rfl) (k : At n W ((d, v) :: env) H (wpList P ops Q rest)) : At n W env H (wpList P ops Q (o :: rest)) := At_pure hr hw hd hn k
theorem gqA {ops : Array Oper} {o : Oper} (i : Nat) {S : Heap → Prop} {needy : List Nat} {fuel : Nat} {listed : Array Bool} {d : Nat} {v : Value} (ho : ops[i]? = some o) (hr : Pure P n env o v) (hw : want ops env o = some true := by exact rfl) (hq : Ev.Calm Q := by repeat (first | exact Ev.Calm.post | apply Ev.Calm.then | apply Ev.Calm.inBlock | apply Ev.Calm.noGoto)) (hd : o.dst = some d := by exact rfl) (hn : Nat.blt d n = true := by exact rfl)
    (hc : (Region.noSelect ops && Region.free .any ops listed i && (Region.ready .any ops listed).contains i && !needy.contains i) = true := by kernel_rfl)
    (k : At n W ((d, v) :: env) H (wpAnyG P .any ops Q needy S fuel (listed.setIfInBounds i true))) : At n W env H (wpAnyG P .any ops Q needy S (fuel + 1) listed) := G_pure i ho hr hq hw hd hn hc k
end

/-- an act, told by its parts: an amount by its two words -/
structure Ac where
  k : Int
  at_ : Int
  to_ : Int
  n : Int
  on : Bool
  ck : Int
  i1 : Int
  i2 : Int
  cn : Int
  con : Bool
  user : Int
  nn : Nat
  nl : Nat
  wall : Int
  run_ : Int
  base : Int
  aft : Int
  sites : List Int
  pact : Bool
  b1 : Int
  b2 : Int
  bn : Nat
  bl : Nat
def Ac0 : Ac := ⟨0, 0, 0, 0, false, 0, 0, 0, 0, false, 0, 0, 0, 0, 0, 0, 0, [], false, 0, 0, 0, 0⟩
def jobC (a : Ac) (v : Value) : List Value := [.int .i64 0, .int .i64 0, .int .i64 a.user, .complex .f64 a.nn a.nl, .int .i64 a.wall, .int .i64 a.run_, .int .i64 a.base, .int .i64 a.aft, v, .bool a.pact]
def cmdC (a : Ac) (v : Value) : List Value :=
  [.int .i64 a.ck, .int .i64 a.i1, .int .i64 a.i2, .int .i64 a.cn, .bool a.con, .int .i64 0, .int .i64 0, .int .i64 a.user, .complex .f64 a.nn a.nl, .int .i64 a.wall, .int .i64 a.run_, .int .i64 a.base, .int .i64 a.aft, v, .bool a.pact, .int .i64 a.b1, .int .i64 a.b2, .complex .f64 a.bn a.bl]
def acC (a : Ac) (v : Value) : List Value := [.int .i64 a.k, .int .i64 a.at_, .int .i64 a.to_, .int .i64 a.n, .bool a.on] ++ cmdC a v
def iv (x : Int) : Value := .int .i64 x
def okAm (a b : Int) : Prop := 0 ≤ a ∧ a ≤ 1048576 ∧ 0 ≤ b ∧ b ≤ 1048576
instance (a b : Int) : Decidable (okAm a b) := inferInstanceAs (Decidable (_ ∧ _))
def am (a b : Int) : Value := if okAm a b then .tuple #[.complex .f64 (fl a) (fl b), .int .i64 0] else .tuple #[.complex .f64 0 0, .int .i64 2]
attribute [local irreducible] Go.wpList Go.bodyPost Go.Code.wp Go.Exit.then Go.Exit.inBlock Go.Exit.noGoto Ev.wpAnyG Go.Oper.wp Ev.Back Ev.Left Ev.Spc Ev.At Ev.Pure Ev.Reads Ev.Runs Ev.Does Ev.Cell

set_option maxHeartbeats 2000000 in
theorem make1_spec (a b : Int) (H : Heap) : Spc Tryd.prog 18 #[.int .i64 a, .int .i64 b] H fun r H' => H = H' ∧ r = am a b := by
  unfold am
  refine spec_of Tryd.func18 rfl Tryd.ntmps18 rfl (fun W => ?_)
  by_cases h : okAm a b
  · rw [if_pos h]
    obtain ⟨h1, h2, h3, h4⟩ := h
    repeat (first | refine codeA (k := ?_) | refine condA (k := ?_) | refine offA (k := ?_) | refine pureA (k := ?_) | refine readA (k := ?_))
    refine At_pure (p_convFloat Tryd.underlying59 rfl) rfl rfl rfl ?_
    repeat (first | refine codeA (k := ?_) | refine condA (k := ?_) | refine offA (k := ?_) | refine pureA (k := ?_) | refine readA (k := ?_))
    refine At_pure (p_convFloat Tryd.underlying59 rfl) rfl rfl rfl ?_
    refine At_pure (p_complex rfl rfl) rfl rfl rfl ?_
    repeat (first | refine codeA (k := ?_) | refine condA (k := ?_) | refine offA (k := ?_) | refine pureA (k := ?_) | refine readA (k := ?_))
    exact At_ret2 rfl rfl rfl ⟨rfl, rfl⟩
  · rw [if_neg h]
    by_cases h1 : a < 0
    · repeat (first | refine codeA (k := ?_) | refine condA (k := ?_) | refine offA (k := ?_) | refine pureA (k := ?_) | refine readA (k := ?_))
      exact At_ret2 rfl rfl rfl ⟨rfl, rfl⟩
    by_cases h2 : a > 1048576
    · repeat (first | refine codeA (k := ?_) | refine condA (k := ?_) | refine offA (k := ?_) | refine pureA (k := ?_) | refine readA (k := ?_))
      exact At_ret2 rfl rfl rfl ⟨rfl, rfl⟩
    by_cases h3 : b < 0
    · repeat (first | refine codeA (k := ?_) | refine condA (k := ?_) | refine offA (k := ?_) | refine pureA (k := ?_) | refine readA (k := ?_))
      exact At_ret2 rfl rfl rfl ⟨rfl, rfl⟩
    have h4 : b > 1048576 := by
      unfold okAm at h
      omega
    repeat (first | refine codeA (k := ?_) | refine condA (k := ?_) | refine offA (k := ?_) | refine pureA (k := ?_) | refine readA (k := ?_))
    exact At_ret2 rfl rfl rfl ⟨rfl, rfl⟩
set_option maxHeartbeats 2000000 in
theorem make2_spec (a b : Int) (H : Heap) : Spc Tryd.prog 22 #[.int .i64 a, .int .i64 b] H fun r H' => H = H' ∧ r = am a b := by
  unfold am
  refine spec_of Tryd.func22 rfl Tryd.ntmps22 rfl (fun W => ?_)
  by_cases h : okAm a b
  · rw [if_pos h]
    obtain ⟨h1, h2, h3, h4⟩ := h
    repeat (first | refine codeA (k := ?_) | refine condA (k := ?_) | refine offA (k := ?_) | refine pureA (k := ?_) | refine readA (k := ?_))
    refine At_pure (p_convFloat Tryd.underlying59 rfl) rfl rfl rfl ?_
    repeat (first | refine codeA (k := ?_) | refine condA (k := ?_) | refine offA (k := ?_) | refine pureA (k := ?_) | refine readA (k := ?_))
    refine At_pure (p_convFloat Tryd.underlying59 rfl) rfl rfl rfl ?_
    refine At_pure (p_complex rfl rfl) rfl rfl rfl ?_
    repeat (first | refine codeA (k := ?_) | refine condA (k := ?_) | refine offA (k := ?_) | refine pureA (k := ?_) | refine readA (k := ?_))
    exact At_ret2 rfl rfl rfl ⟨rfl, rfl⟩
  · rw [if_neg h]
    by_cases h1 : a < 0
    · repeat (first | refine codeA (k := ?_) | refine condA (k := ?_) | refine offA (k := ?_) | refine pureA (k := ?_) | refine readA (k := ?_))
      exact At_ret2 rfl rfl rfl ⟨rfl, rfl⟩
    by_cases h2 : a > 1048576
    · repeat (first | refine codeA (k := ?_) | refine condA (k := ?_) | refine offA (k := ?_) | refine pureA (k := ?_) | refine readA (k := ?_))
      exact At_ret2 rfl rfl rfl ⟨rfl, rfl⟩
    by_cases h3 : b < 0
    · repeat (first | refine codeA (k := ?_) | refine condA (k := ?_) | refine offA (k := ?_) | refine pureA (k := ?_) | refine readA (k := ?_))
      exact At_ret2 rfl rfl rfl ⟨rfl, rfl⟩
    have h4 : b > 1048576 := by
      unfold okAm at h
      omega
    repeat (first | refine codeA (k := ?_) | refine condA (k := ?_) | refine offA (k := ?_) | refine pureA (k := ?_) | refine readA (k := ?_))
    exact At_ret2 rfl rfl rfl ⟨rfl, rfl⟩
theorem command_spec (x : Int) (a : Ac) (p : Option Addr) (l c : Nat) (H : Heap) : Spc Tryd.prog 19 #[.int .i64 x, .agg (cmdC a (.slice p l c)).toArray] H fun r H' => Ext H H' ∧ r = .agg (acC { a with k := 1, at_ := x, to_ := 0, n := 0, on := false } (.slice p l c)).toArray := by
  refine spec_of Tryd.func19 rfl Tryd.ntmps19 rfl (fun W => ?_)
  repeat (first | refine codeA (k := ?_) | refine condA (k := ?_) | refine offA (k := ?_) | refine pureA (k := ?_) | refine readA (k := ?_))
  refine At_wp (W_box rfl rfl rfl ?_) rfl
  intro g3 H3 n3
  refine At_wp (W_alloc rfl rfl ?_) rfl
  intro g4 H4 n4
  have r3 := n4.ext.keep n3.at_ (fun f => f)
  repeat (first | refine codeA (k := ?_) | refine condA (k := ?_) | refine offA (k := ?_) | refine pureA (k := ?_) | refine readA (k := ?_))
  refine At_read (r_loadB rfl r3 rfl rfl) rfl rfl rfl ?_
  refine At_pure (p_build (acC { a with k := 1, at_ := x, to_ := 0, n := 0, on := false } (.slice p l c)) rfl rfl) rfl rfl rfl ?_
  refine At_wp (W_storeB rfl rfl n4.at_ rfl rfl rfl rfl ?_) rfl
  intro H5 p5
  repeat (first | refine codeA (k := ?_) | refine condA (k := ?_) | refine offA (k := ?_) | refine pureA (k := ?_) | refine readA (k := ?_))
  refine At_retC1 rfl rfl p5.at_ rfl rfl ⟨?_, rfl⟩
  exact Kept.trans (n3.ext.trans n4.ext) p5.kept (fun _ f _ => f) (fun i e hi => by have := n4.blk; have := n3.size; omega)
theorem cmd_spec (x : Int) (a : Ac) (p : Option Addr) (l c : Nat) (H : Heap) : Spc Tryd.prog 23 #[.int .i64 x, .agg (cmdC a (.slice p l c)).toArray] H fun r H' => Ext H H' ∧ r = .agg (acC { a with k := 1, at_ := x, to_ := 0, n := 0, on := false } (.slice p l c)).toArray := by
  refine spec_of Tryd.func23 rfl Tryd.ntmps23 rfl (fun W => ?_)
  repeat (first | refine codeA (k := ?_) | refine condA (k := ?_) | refine offA (k := ?_) | refine pureA (k := ?_) | refine readA (k := ?_))
  refine At_wp (W_box rfl rfl rfl ?_) rfl
  intro g3 H3 n3
  refine At_wp (W_alloc rfl rfl ?_) rfl
  intro g4 H4 n4
  have r3 := n4.ext.keep n3.at_ (fun f => f)
  repeat (first | refine codeA (k := ?_) | refine condA (k := ?_) | refine offA (k := ?_) | refine pureA (k := ?_) | refine readA (k := ?_))
  refine At_read (r_loadB rfl r3 rfl rfl) rfl rfl rfl ?_
  refine At_pure (p_build (acC { a with k := 1, at_ := x, to_ := 0, n := 0, on := false } (.slice p l c)) rfl rfl) rfl rfl rfl ?_
  refine At_wp (W_storeB rfl rfl n4.at_ rfl rfl rfl rfl ?_) rfl
  intro H5 p5
  repeat (first | refine codeA (k := ?_) | refine condA (k := ?_) | refine offA (k := ?_) | refine pureA (k := ?_) | refine readA (k := ?_))
  refine At_retC1 rfl rfl p5.at_ rfl rfl ⟨?_, rfl⟩
  exact Kept.trans (n3.ext.trans n4.ext) p5.kept (fun _ f _ => f) (fun i e hi => by have := n4.blk; have := n3.size; omega)
end Go.Proofs.YticgbdeoiihbmaaDoor
