/- The operations of the calculus: what each gives, told by its operands; and worlds, told by their blocks. Plain theorems over any program. -/
import Derived.Test.YtlaobecajieaaaaGreatG01
import Derived.WalkSpells
import Derived.Maps.AppendAt
import Derived.OrdersHeld
namespace Ev
open Go
set_option linter.unusedSimpArgs false

/-! ## Heaps -/
/-- blocks outside S are as they were, none has gone -/
structure Kept (S : Nat → Prop) (H H' : Heap) : Prop where
  size : H.size ≤ H'.size
  block : ∀ k, k < H.size → ¬ S k → H'[k]? = H[k]?
abbrev Ext := Kept fun _ => False
theorem Kept.refl (S : Nat → Prop) (H : Heap) : Kept S H H := ⟨Nat.le_refl _, fun _ _ _ => rfl⟩
theorem Kept.trans {S S' T : Nat → Prop} {a b c : Heap} (h : Kept S a b) (k : Kept S' b c) (h1 : ∀ i, S i → i < a.size → T i) (h2 : ∀ i, S' i → i < a.size → T i) : Kept T a c :=
  ⟨Nat.le_trans h.size k.size,
    fun i hi hT => (k.block i (Nat.lt_of_lt_of_le hi h.size) (fun s => hT (h2 i s hi))).trans (h.block i hi (fun s => hT (h1 i s hi)))⟩
theorem Kept.mono {S T : Nat → Prop} {a b : Heap} (h : Kept S a b) (h1 : ∀ i, S i → i < a.size → T i) : Kept T a b :=
  ⟨h.size, fun i hi hT => h.block i hi (fun s => hT (h1 i s hi))⟩
theorem lt_of_heap {H : Heap} {b : Nat} {o : Obj} (h : H[b]? = some o) : b < H.size := (Array.getElem?_eq_some_iff.1 h).1
theorem Kept.keep {S : Nat → Prop} {H H' : Heap} (h : Kept S H H') {b : Nat} {o : Obj} (hb : H[b]? = some o) (hS : ¬ S b) : H'[b]? = some o :=
  (h.block b (lt_of_heap hb) hS).trans hb
theorem Ext.trans {a b c : Heap} (h : Ext a b) (k : Ext b c) : Ext a c := Kept.trans h k (fun _ f _ => f) (fun _ f _ => f)
theorem Kept.of_ext {S : Nat → Prop} {a b : Heap} (h : Ext a b) : Kept S a b := h.mono (fun _ f => f.elim)
theorem Kept.then_ext {S : Nat → Prop} {a b c : Heap} (h : Kept S a b) (k : Ext b c) : Kept S a c := Kept.trans h k (fun _ s _ => s) (fun _ f _ => f.elim)
/-- the cell of block b at place o holds v -/
def Cell (H : Heap) (b o : Nat) (v : Value) : Prop := ∃ cs t fr, H[b]? = some (.cells cs t fr) ∧ cs[o]? = some v
theorem Cell.of {H : Heap} {b o : Nat} {cs : Array Value} {t : TypeId} {fr : Nat × Nat} {v : Value} (hb : H[b]? = some (.cells cs t fr)) (hc : cs[o]? = some v) : Cell H b o v := ⟨cs, t, fr, hb, hc⟩
theorem Cell.lt {H : Heap} {b o : Nat} {v : Value} (h : Cell H b o v) : b < H.size := by obtain ⟨cs, t, fr, hb, _⟩ := h; exact lt_of_heap hb
theorem Cell.cell? {w : World} {b o : Nat} {v : Value} (h : Cell w.heap b o v) : w.cell? ⟨b, o, none⟩ = some v := by
  obtain ⟨cs, t, fr, hb, hc⟩ := h
  simp [World.cell?, hb, hc]
theorem Cell.of_cell? {w : World} {b o : Nat} {v : Value} (h : w.cell? ⟨b, o, none⟩ = some v) : Cell w.heap b o v := by
  unfold World.cell? at h
  split at h
  · rename_i cs t fr hb
    exact ⟨cs, t, fr, hb, by simpa using h⟩
  · cases h
theorem Cell.keep {S : Nat → Prop} {H H' : Heap} {b o : Nat} {v : Value} (h : Cell H b o v) (hk : Kept S H H') (hS : ¬ S b) : Cell H' b o v := by
  obtain ⟨cs, t, fr, hb, hc⟩ := h
  exact ⟨cs, t, fr, hk.keep hb hS, hc⟩
theorem Cell.inj {H : Heap} {b o : Nat} {u v : Value} (h : Cell H b o u) (k : Cell H b o v) : u = v := by
  obtain ⟨cs, t, fr, hb, hc⟩ := h
  obtain ⟨cs', t', fr', hb', hc'⟩ := k
  rw [hb] at hb'
  simp only [Option.some.injEq, Obj.cells.injEq] at hb'
  rw [← hb'.1, hc] at hc'
  exact Option.some.inj hc'

/-- H' is H and one new block -/
structure New (H H' : Heap) (b : Nat) (o : Obj) : Prop where
  blk : b = H.size
  size : H'.size = H.size + 1
  at_ : H'[b]? = some o
  ext : Ext H H'
theorem New.of (H : Heap) (o : Obj) : New H (H.push o) H.size o :=
  ⟨rfl, by simp, by simp, ⟨by simp, fun k hk _ => by rw [Array.getElem?_push_lt hk, Array.getElem?_eq_getElem hk]⟩⟩
/-- H' is H but for block b, which holds o -/
structure Put (H H' : Heap) (b : Nat) (o : Obj) : Prop where
  size : H'.size = H.size
  at_ : H'[b]? = some o
  kept : Kept (· = b) H H'

/-! ## Types of a program, found by instances -/
class Ty (P : Program) (t : TypeId) (d : outParam TypeDesc) (size bytes : outParam Nat) (zero : outParam Value) : Prop where
  info : ∃ i, P.info? t = some i ∧ i.size = size ∧ i.bytes = bytes ∧ i.zero = some zero
  und : P.underlying t = some d
class Fld (P : Program) (t : TypeId) (i : Nat) (off : outParam Nat) : Prop where
  h : ∃ fs f j, P.underlying t = some (.struct fs) ∧ fs[i]? = some f ∧ f.offset = off ∧ P.info? f.type = some j ∧ Nat.beq j.size 0 = false
def isAggD : TypeDesc → Bool
  | .struct _ | .array _ _ => true
  | _ => false
section
variable {P : Program} {w : World} {t : TypeId} {d : TypeDesc} {size bytes : Nat} {zero : Value}
theorem Ty.isAgg [h : Ty P t d size bytes zero] : (isAgg t).run P w = .ok (isAggD d) w := by
  unfold Go.isAgg
  simp only [Sem.run_bind, run_underlying h.und, Result.andThen_ok]
  cases d <;> rfl
theorem Ty.sizeOf [h : Ty P t d size bytes zero] : (Go.sizeOf t).run P w = .ok size w := by
  obtain ⟨i, h1, h2, _, _⟩ := h.info
  simp [Go.sizeOf, typeInfo, h1, h2]
theorem Ty.zeroValue [h : Ty P t d size bytes zero] : (Go.zeroValue t).run P w = .ok zero w := by
  obtain ⟨i, h1, _, _, h4⟩ := h.info
  simp [Go.zeroValue, typeInfo, h1, h4]
end

section ops
variable {P : Program} {n : Nat} {W : World} {env : Env} {H : Heap} {Q : Exit → Act → World → Prop} {K : Act → World → Prop} {ops : Array Oper} {rest : List Oper}
variable {ds : Option Tmp} {ty : TypeId} {pos : String} {af : Array Edge} {gd : Option (Nat × Bool)}

theorem p_move {x : Operand} {v : Value} (hx : ev env x = some v) : Pure P n env ⟨ds, .move x, ty, pos, af, gd⟩ v := fun a w f => by
  simp [execOp, f.ev hx]
theorem p_assign {x : Operand} {v : Value} (hx : ev env x = some v) : Pure P n env ⟨ds, .assign x, ty, pos, af, gd⟩ v := fun a w f => by
  simp [execOp, f.ev hx]
theorem p_pick_true {c x y : Operand} {v : Value} (hc : ev env c = some (.bool true)) (hx : ev env x = some v) : Pure P n env ⟨ds, .pick c x y, ty, pos, af, gd⟩ v := fun a w f => by
  simp [execOp, f.ev hc, f.ev hx, asBool]
theorem p_pick_false {c x y : Operand} {v : Value} (hc : ev env c = some (.bool false)) (hx : ev env y = some v) : Pure P n env ⟨ds, .pick c x y, ty, pos, af, gd⟩ v := fun a w f => by
  simp [execOp, f.ev hc, f.ev hx, asBool]
theorem p_nilCheck {x : Operand} {ad : Addr} (hx : ev env x = some (.pointer (some ad))) : Pure P n env ⟨ds, .nilCheck x, ty, pos, af, gd⟩ (.pointer (some ad)) := fun a w f => by
  simp [execOp, f.ev hx]
theorem add_none (b o k : Nat) : (⟨b, o, none⟩ : Addr).add k = ⟨b, o + k, none⟩ := by unfold Addr.add; split <;> simp_all
theorem p_fieldAddr {x : Operand} {t : TypeId} {i off b o : Nat} [h : Fld P t i off] (hx : ev env x = some (.pointer (some ⟨b, o, none⟩))) :
    Pure P n env ⟨ds, .fieldAddr t x i, ty, pos, af, gd⟩ (.pointer (some ⟨b, o + off, none⟩)) := fun a w f => by
  obtain ⟨fs, fl, j, h1, h2, h3, h4, h5⟩ := h.h
  have h5' : ¬ j.size = 0 := Nat.ne_of_beq_eq_false h5
  simp [execOp, f.ev hx, Instr.fieldAt, run_underlying h1, h2, Instr.sureAddr, fieldPlace, Go.sizeOf, typeInfo, h4, h5', add_none, h3]
theorem p_indexAddr {x y : Operand} {t e : TypeId} {sz es eb b o c : Nat} {l : Nat} {i : Nat} {k : IntKind} {sb : Nat} {z ez : Value} {d : TypeDesc} [h : Ty P t (.slice e) sz sb z] [he : Ty P e d es eb ez]
    (hx : ev env x = some (.slice (some ⟨b, o, none⟩) l c)) (hy : ev env y = some (.int k i)) (hlt : i < l) :
    Pure P n env ⟨ds, .indexAddr t x y, ty, pos, af, gd⟩ (.pointer (some ⟨b, o + i * es, none⟩)) := fun a w f => by
  have hi : ((i : Int) < l) := by omega
  simp [execOp, f.ev hx, f.ev hy, Instr.indexAt, asIntOf, run_underlying h.und, he.sizeOf, add_none, hi, hlt]
theorem p_extract {x : Operand} {vs : Array Value} {i : Nat} {v : Value} (hx : ev env x = some (.tuple vs)) (hv : vs[i]? = some v) : Pure P n env ⟨ds, .extract x i, ty, pos, af, gd⟩ v := fun a w f => by
  simp [execOp, f.ev hx, Instr.extract, hv]
theorem p_makeFunc0 {fn : Go.Fn} {cap : List Operand} {vs : List Value} (hv : evs env cap = some vs) : Pure P n env ⟨ds, .makeFunc fn #[] cap.toArray, ty, pos, af, gd⟩ (.func fn #[] vs.toArray) := fun a w f => by
  simp [execOp, Instr.makeFunc, f.evs hv]
theorem p_not {x : Operand} {t : TypeId} {b : Bool} (hx : ev env x = some (.bool b)) : Pure P n env ⟨ds, .unOp .not t x, ty, pos, af, gd⟩ (.bool (!b)) := fun a w f => by
  simp [execOp, f.ev hx, Op.unary]
theorem p_not_true {x : Operand} {t : TypeId} (hx : ev env x = some (.bool true)) : Pure P n env ⟨ds, .unOp .not t x, ty, pos, af, gd⟩ (.bool false) := p_not hx
theorem p_not_false {x : Operand} {t : TypeId} (hx : ev env x = some (.bool false)) : Pure P n env ⟨ds, .unOp .not t x, ty, pos, af, gd⟩ (.bool true) := p_not hx
theorem p_not_dec {x : Operand} {t : TypeId} {p : Prop} [Decidable p] (hx : ev env x = some (.bool (decide p))) : Pure P n env ⟨ds, .unOp .not t x, ty, pos, af, gd⟩ (.bool (decide (¬ p))) := by
  have := p_not (P := P) (n := n) (ds := ds) (ty := ty) (pos := pos) (af := af) (gd := gd) (t := t) hx
  simpa using this

-- lengths
theorem p_len {x : Operand} {ats : Array TypeId} {p : Option Addr} {l c : Nat} (hx : ev env x = some (.slice p l c)) {t e : TypeId} {sz sb : Nat} {z : Value} [h : Ty P t (.slice e) sz sb z] (hats : ats = #[t]) :
    Pure P n env ⟨ds, .call ⟨.builtin .len, #[x], ats⟩, ty, pos, af, gd⟩ (.int .i64 l) := fun a w f => by
  subst hats
  simp [execOp, resolve, invoke, builtin, f.ev hx, Builtin.len_, run_underlying h.und, goInt]
theorem p_min {x y : Operand} {ats : Array TypeId} {a b : Int} {k : IntKind} (hx : ev env x = some (.int k a)) (hy : ev env y = some (.int k b)) :
    Pure P n env ⟨ds, .call ⟨.builtin .min, #[x, y], ats⟩, ty, pos, af, gd⟩ (.int k (if b < a then b else a)) := fun a w f => by
  simp [execOp, resolve, invoke, builtin, f.ev hx, f.ev hy, run_min_int2]
theorem p_max {x y : Operand} {ats : Array TypeId} {a b : Int} {k : IntKind} (hx : ev env x = some (.int k a)) (hy : ev env y = some (.int k b)) :
    Pure P n env ⟨ds, .call ⟨.builtin .max, #[x, y], ats⟩, ty, pos, af, gd⟩ (.int k (if b > a then b else a)) := fun a w f => by
  simp [execOp, resolve, invoke, builtin, f.ev hx, f.ev hy, run_max_int2]
theorem p_min_l {x y : Operand} {ats : Array TypeId} {a b : Int} {k : IntKind} (hx : ev env x = some (.int k a)) (hy : ev env y = some (.int k b)) (h : a ≤ b) :
    Pure P n env ⟨ds, .call ⟨.builtin .min, #[x, y], ats⟩, ty, pos, af, gd⟩ (.int k a) := by
  have := p_min (P := P) (n := n) (ds := ds) (ty := ty) (pos := pos) (af := af) (gd := gd) (ats := ats) hx hy
  rwa [if_neg (by omega)] at this
theorem p_min_r {x y : Operand} {ats : Array TypeId} {a b : Int} {k : IntKind} (hx : ev env x = some (.int k a)) (hy : ev env y = some (.int k b)) (h : b ≤ a) :
    Pure P n env ⟨ds, .call ⟨.builtin .min, #[x, y], ats⟩, ty, pos, af, gd⟩ (.int k b) := by
  have := p_min (P := P) (n := n) (ds := ds) (ty := ty) (pos := pos) (af := af) (gd := gd) (ats := ats) hx hy
  by_cases c : b < a
  · rwa [if_pos c] at this
  · rw [if_neg c] at this
    obtain rfl : a = b := by omega
    exact this
theorem p_max_l {x y : Operand} {ats : Array TypeId} {a b : Int} {k : IntKind} (hx : ev env x = some (.int k a)) (hy : ev env y = some (.int k b)) (h : b ≤ a) :
    Pure P n env ⟨ds, .call ⟨.builtin .max, #[x, y], ats⟩, ty, pos, af, gd⟩ (.int k a) := by
  have := p_max (P := P) (n := n) (ds := ds) (ty := ty) (pos := pos) (af := af) (gd := gd) (ats := ats) hx hy
  rwa [if_neg (by omega)] at this
theorem p_max_r {x y : Operand} {ats : Array TypeId} {a b : Int} {k : IntKind} (hx : ev env x = some (.int k a)) (hy : ev env y = some (.int k b)) (h : a ≤ b) :
    Pure P n env ⟨ds, .call ⟨.builtin .max, #[x, y], ats⟩, ty, pos, af, gd⟩ (.int k b) := by
  have := p_max (P := P) (n := n) (ds := ds) (ty := ty) (pos := pos) (af := af) (gd := gd) (ats := ats) hx hy
  by_cases c : a < b
  · rwa [if_pos c] at this
  · rw [if_neg c] at this
    obtain rfl : a = b := by omega
    exact this

-- integers
section ints
variable {x y : Operand} {t t2 : TypeId} {a b : Int} {k : IntKind}
theorem run_guard {w : World} (op : BinOp) (xo yo : Operand) : (eqGuard op t xo yo (.int k a) (.int k b)).run P w = .ok () w := by
  unfold eqGuard
  cases op <;> simp
theorem p_add (hx : ev env x = some (.int .i64 a)) (hy : ev env y = some (.int .i64 b)) (h : -9223372036854775808 ≤ a + b ∧ a + b ≤ 9223372036854775807) : Pure P n env ⟨ds, .binOp .add t x y t2, ty, pos, af, gd⟩ (.int .i64 (a + b)) := fun a' w f => by
  simp [execOp, f.ev hx, f.ev hy, run_guard, binOp, Op.intArith, IntWalk.i64_in _ h]
theorem p_sub (hx : ev env x = some (.int .i64 a)) (hy : ev env y = some (.int .i64 b)) (h : -9223372036854775808 ≤ a - b ∧ a - b ≤ 9223372036854775807) : Pure P n env ⟨ds, .binOp .sub t x y t2, ty, pos, af, gd⟩ (.int .i64 (a - b)) := fun a' w f => by
  simp [execOp, f.ev hx, f.ev hy, run_guard, binOp, Op.intArith, IntWalk.i64_in _ h]
theorem p_mul (hx : ev env x = some (.int .i64 a)) (hy : ev env y = some (.int .i64 b)) (h : -9223372036854775808 ≤ a * b ∧ a * b ≤ 9223372036854775807) : Pure P n env ⟨ds, .binOp .mul t x y t2, ty, pos, af, gd⟩ (.int .i64 (a * b)) := fun a' w f => by
  simp [execOp, f.ev hx, f.ev hy, run_guard, binOp, Op.intArith, IntWalk.i64_in _ h]
theorem p_addw (hx : ev env x = some (.int k a)) (hy : ev env y = some (.int k b)) : Pure P n env ⟨ds, .binOp .add t x y t2, ty, pos, af, gd⟩ (.int k (k.wrap (a + b))) := fun a' w f => by
  simp [execOp, f.ev hx, f.ev hy, run_guard, binOp, Op.intArith]
theorem p_subw (hx : ev env x = some (.int k a)) (hy : ev env y = some (.int k b)) : Pure P n env ⟨ds, .binOp .sub t x y t2, ty, pos, af, gd⟩ (.int k (k.wrap (a - b))) := fun a' w f => by
  simp [execOp, f.ev hx, f.ev hy, run_guard, binOp, Op.intArith]
theorem p_mulw (hx : ev env x = some (.int k a)) (hy : ev env y = some (.int k b)) : Pure P n env ⟨ds, .binOp .mul t x y t2, ty, pos, af, gd⟩ (.int k (k.wrap (a * b))) := fun a' w f => by
  simp [execOp, f.ev hx, f.ev hy, run_guard, binOp, Op.intArith]
theorem p_rem (hx : ev env x = some (.int k a)) (hy : ev env y = some (.int k b)) (h0 : 0 ≤ a) (hb : b ≠ 0) : Pure P n env ⟨ds, .binOp .rem t x y t2, ty, pos, af, gd⟩ (.int k (a % b)) := fun a' w f => by
  simp [execOp, f.ev hx, f.ev hy, run_guard, binOp, Op.intDiv, hb, IntWalk.rem_in _ _ h0]
theorem p_quo (hx : ev env x = some (.int .i64 a)) (hy : ev env y = some (.int .i64 b)) (h0 : 0 ≤ a) (hb : 0 < b) (h : a ≤ 9223372036854775807) : Pure P n env ⟨ds, .binOp .quo t x y t2, ty, pos, af, gd⟩ (.int .i64 (a / b)) := fun a' w f => by
  have h1 : 0 ≤ a / b := Int.ediv_nonneg h0 (by omega)
  have h2 : a / b ≤ a := Int.ediv_le_self _ h0
  have hb' : b ≠ 0 := by omega
  simp [execOp, f.ev hx, f.ev hy, run_guard, binOp, Op.intDiv, hb', Int.tdiv_eq_ediv_of_nonneg h0, IntWalk.i64_in (a / b) (by omega)]
theorem p_lss (hx : ev env x = some (.int k a)) (hy : ev env y = some (.int k b)) : Pure P n env ⟨ds, .binOp .lss t x y t2, ty, pos, af, gd⟩ (.bool (decide (a < b))) := fun a' w f => by
  simp [execOp, f.ev hx, f.ev hy, run_guard, binOp, Op.intCmp]
theorem p_leq (hx : ev env x = some (.int k a)) (hy : ev env y = some (.int k b)) : Pure P n env ⟨ds, .binOp .leq t x y t2, ty, pos, af, gd⟩ (.bool (decide (a ≤ b))) := fun a' w f => by
  simp [execOp, f.ev hx, f.ev hy, run_guard, binOp, Op.intCmp]
theorem p_gtr (hx : ev env x = some (.int k a)) (hy : ev env y = some (.int k b)) : Pure P n env ⟨ds, .binOp .gtr t x y t2, ty, pos, af, gd⟩ (.bool (decide (b < a))) := fun a' w f => by
  simp [execOp, f.ev hx, f.ev hy, run_guard, binOp, Op.intCmp]
theorem p_geq (hx : ev env x = some (.int k a)) (hy : ev env y = some (.int k b)) : Pure P n env ⟨ds, .binOp .geq t x y t2, ty, pos, af, gd⟩ (.bool (decide (b ≤ a))) := fun a' w f => by
  simp [execOp, f.ev hx, f.ev hy, run_guard, binOp, Op.intCmp]
theorem beq_dec (a b : Int) : (a == b) = decide (a = b) := by by_cases h : a = b <;> simp [h]
theorem p_eql (hx : ev env x = some (.int k a)) (hy : ev env y = some (.int k b)) : Pure P n env ⟨ds, .binOp .eql t x y t2, ty, pos, af, gd⟩ (.bool (decide (a = b))) := fun a' w f => by
  simp [execOp, f.ev hx, f.ev hy, run_guard, binOp, Op.intCmp, beq_dec]
theorem p_neq (hx : ev env x = some (.int k a)) (hy : ev env y = some (.int k b)) : Pure P n env ⟨ds, .binOp .neq t x y t2, ty, pos, af, gd⟩ (.bool (decide (a ≠ b))) := fun a' w f => by
  simp [execOp, f.ev hx, f.ev hy, run_guard, binOp, Op.intCmp, bne, beq_dec]
-- decided
theorem p_true {o : Oper} {p : Prop} [Decidable p] (h : Pure P n env o (.bool (decide p))) (hp : p) : Pure P n env o (.bool true) := by rwa [decide_eq_true hp] at h
theorem p_false {o : Oper} {p : Prop} [Decidable p] (h : Pure P n env o (.bool (decide p))) (hp : ¬ p) : Pure P n env o (.bool false) := by rwa [decide_eq_false hp] at h
end ints

-- comparing with nil
theorem p_eql_slice_nil {x y : Operand} {p : Option Addr} {l c l' c' : Nat} {t t2 e : TypeId} {sz sb : Nat} {z : Value} [h : Ty P t (.slice e) sz sb z] (hx : ev env x = some (.slice p l c)) (hy : ev env y = some (.slice none l' c')) :
    Pure P n env ⟨ds, .binOp .eql t x y t2, ty, pos, af, gd⟩ (.bool p.isNone) := fun a w f => by
  simp [execOp, f.ev hx, f.ev hy, eqGuard, Lib.run_eql_slice_nil w t e p l c l' c' h.und]
theorem p_neq_slice_nil {x y : Operand} {p : Option Addr} {l c l' c' : Nat} {t t2 e : TypeId} {sz sb : Nat} {z : Value} [h : Ty P t (.slice e) sz sb z] (hx : ev env x = some (.slice p l c)) (hy : ev env y = some (.slice none l' c')) :
    Pure P n env ⟨ds, .binOp .neq t x y t2, ty, pos, af, gd⟩ (.bool p.isSome) := fun a w f => by
  simp [execOp, f.ev hx, f.ev hy, eqGuard, run_neq_slice_nil_any w t e p l c l' c' h.und]
theorem p_eql_ptr_nil {x y : Operand} {p : Option Addr} {t t2 e : TypeId} {sz sb : Nat} {z : Value} [h : Ty P t (.pointer e) sz sb z] (hx : ev env x = some (.pointer p)) (hy : ev env y = some (.pointer none)) :
    Pure P n env ⟨ds, .binOp .eql t x y t2, ty, pos, af, gd⟩ (.bool p.isNone) := fun a w f => by
  have hp : P.underlying t = some (.pointer (P.pointee t)) := by simp [Program.pointee, h.und]
  simp [execOp, f.ev hx, f.ev hy, eqGuard, run_eql_pointer_nil w t p hp]
theorem p_neq_ptr_nil {x y : Operand} {p : Option Addr} {t t2 e : TypeId} {sz sb : Nat} {z : Value} [h : Ty P t (.pointer e) sz sb z] (hx : ev env x = some (.pointer p)) (hy : ev env y = some (.pointer none)) :
    Pure P n env ⟨ds, .binOp .neq t x y t2, ty, pos, af, gd⟩ (.bool p.isSome) := fun a w f => by
  have hp : P.underlying t = some (.pointer (P.pointee t)) := by simp [Program.pointee, h.und]
  simp [execOp, f.ev hx, f.ev hy, eqGuard, run_neq_pointer_nil w t p hp]

-- bools
theorem p_eql_bool {x y : Operand} {a b : Bool} {t t2 : TypeId} {sz sb : Nat} {z : Value} [h : Ty P t .bool sz sb z] (hx : ev env x = some (.bool a)) (hy : ev env y = some (.bool b)) :
    Pure P n env ⟨ds, .binOp .eql t x y t2, ty, pos, af, gd⟩ (.bool (a == b)) := fun a' w f => by
  simp [execOp, f.ev hx, f.ev hy, eqGuard, run_eql_bool w t a b h.und]
theorem p_neq_bool {x y : Operand} {a b : Bool} {t t2 : TypeId} {sz sb : Nat} {z : Value} [h : Ty P t .bool sz sb z] (hx : ev env x = some (.bool a)) (hy : ev env y = some (.bool b)) :
    Pure P n env ⟨ds, .binOp .neq t x y t2, ty, pos, af, gd⟩ (.bool (!(a == b))) := fun a' w f => by
  simp [execOp, f.ev hx, f.ev hy, eqGuard, run_neq_bool w t a b h.und]

/-! ## Operations that read -/
theorem r_load {x : Operand} {t : TypeId} {d : TypeDesc} {sz sb : Nat} {z : Value} {b o : Nat} {v : Value} [h : Ty P t d sz sb z] (hx : ev env x = some (.pointer (some ⟨b, o, none⟩))) (hd : isAggD d = false) (hc : Cell H b o v) :
    Reads P n env H ⟨ds, .load t x, ty, pos, af, gd⟩ v := fun a w f e => by
  subst e
  simp [execOp, f.ev hx, Instr.loadAt, Instr.sureAddr, loadVar, h.isAgg, hd, hc.cell?]
/-- a struct, out of the midst of a block -/
theorem r_loadN {x : Operand} {t : TypeId} {d : TypeDesc} {sz sb : Nat} {z : Value} {b o : Nat} {cs : List Value} [h : Ty P t d sz sb z] (hx : ev env x = some (.pointer (some ⟨b, o, none⟩))) (hd : isAggD d = true) (hl : Nat.beq cs.length sz = true)
    (hc : ∀ j v, cs[j]? = some v → Cell H b (o + j) v) :
    Reads P n env H ⟨ds, .load t x, ty, pos, af, gd⟩ (.agg cs.toArray) := fun a w f e => by
  subst e
  have hl' := Nat.eq_of_beq_eq_true hl
  have := run_loadCells_list (P := P) w ⟨b, o, none⟩ cs (fun j v hj => by rw [add_none]; exact (hc j v hj).cell?)
  rw [hl'] at this
  simp [execOp, f.ev hx, Instr.loadAt, Instr.sureAddr, loadVar, h.isAgg, hd, h.sizeOf, this]
/-- a whole block -/
theorem r_loadB {x : Operand} {t bt : TypeId} {d : TypeDesc} {sz sb : Nat} {z : Value} {b : Nat} {cs : Array Value} {fr : Nat × Nat} [h : Ty P t d sz sb z] (hx : ev env x = some (.pointer (some ⟨b, 0, none⟩))) (hb : H[b]? = some (.cells cs bt fr)) (hd : isAggD d = true) (hl : Nat.beq cs.size sz = true) :
    Reads P n env H ⟨ds, .load t x, ty, pos, af, gd⟩ (.agg cs) := by
  have := r_loadN (P := P) (n := n) (H := H) (t := t) (ds := ds) (ty := ty) (pos := pos) (af := af) (gd := gd) (cs := cs.toList) hx hd (by simpa using hl) (fun j v hj => by rw [Nat.zero_add]; exact Cell.of hb (by simpa using hj))
  simpa using this

/-! ## Operations that make memory -/
theorem m_alloc {t : TypeId} {d : TypeDesc} {sz sb : Nat} {z : Value} [h : Ty P t d sz sb z] : Runs P n env H ⟨ds, .alloc t, ty, pos, af, gd⟩ (.pointer (some ⟨H.size, 0, none⟩)) (H.push (.cells z.cells t)) := fun a w f e => by
  subst e
  exact ⟨w.alloc (.cells z.cells t), by simp [execOp, Instr.alloc, h.zeroValue, newVar, newRow], rfl, ⟨rfl, rfl, rfl⟩⟩
theorem m_box {t : TypeId} {x : Operand} {v : Value} (hx : ev env x = some v) : Runs P n env H ⟨ds, .box t x, ty, pos, af, gd⟩ (.pointer (some ⟨H.size, 0, none⟩)) (H.push (.cells v.cells t)) := fun a w f e => by
  subst e
  exact ⟨w.alloc (.cells v.cells t), by simp [execOp, f.ev hx, Instr.box, newVar, newRow], rfl, ⟨rfl, rfl, rfl⟩⟩
theorem W_new {o : Oper} {dd : Nat} {obj : Obj} {v : Nat → Value} (hr : Runs P n env H o (v H.size) (H.push obj)) (hd : o.dst = some dd) (hn : Nat.blt dd n = true)
    (k : ∀ b H', New H H' b obj → At n W ((dd, v b) :: env) H' K) : At n W env H (fun a w => o.wp P a w K Q) :=
  W_run hr hd hn (k _ _ (New.of H obj))
theorem W_alloc {t : TypeId} {d : TypeDesc} {sz sb : Nat} {z : Value} [h : Ty P t d sz sb z] {cs : Array Value} {dd : Nat} (hz : z.cells = cs) (hn : Nat.blt dd n = true)
    (k : ∀ b H', New H H' b (.cells cs t) → At n W ((dd, .pointer (some ⟨b, 0, none⟩)) :: env) H' K) : At n W env H (fun a w => Oper.wp P ⟨some dd, .alloc t, ty, pos, af, gd⟩ a w K Q) :=
  W_new (v := fun b => .pointer (some ⟨b, 0, none⟩)) (hz ▸ m_alloc) rfl hn k
theorem W_box {t : TypeId} {x : Operand} {v : Value} {cs : Array Value} {dd : Nat} (hx : ev env x = some v) (hz : v.cells = cs) (hn : Nat.blt dd n = true)
    (k : ∀ b H', New H H' b (.cells cs t) → At n W ((dd, .pointer (some ⟨b, 0, none⟩)) :: env) H' K) : At n W env H (fun a w => Oper.wp P ⟨some dd, .box t x, ty, pos, af, gd⟩ a w K Q) :=
  W_new (v := fun b => .pointer (some ⟨b, 0, none⟩)) (hz ▸ m_box hx) rfl hn k

-- a slice of one element, of none
theorem foldl_set_aux (off : Nat) : ∀ (l : List Value) (k : Nat) (acc : Array Value), off + k + l.length ≤ acc.size →
    ((l.zipIdx k).foldl (fun (cs : Array Value) (p : Value × Nat) => cs.setIfInBounds (off + p.2) p.1) acc).toList = acc.toList.take (off + k) ++ l ++ acc.toList.drop (off + k + l.length)
  | [], k, acc, h => by simp
  | x :: r, k, acc, h => by
    simp only [List.length_cons] at h
    rw [List.zipIdx_cons, List.foldl_cons, foldl_set_aux off r (k + 1) _ (by simp; omega)]
    simp only [Array.toList_setIfInBounds, List.length_cons]
    have e1 : off + (k + 1) = off + k + 1 := by omega
    rw [e1, List.take_set, List.drop_set_of_lt (by omega), List.set_eq_take_append_cons_drop]
    have hk : off + k < (List.take (off + k + 1) acc.toList).length := by simp; omega
    rw [if_pos hk]
    simp [List.take_take, Nat.add_assoc, Nat.add_comm 1 r.length]
/-- the cells of a struct, its parts laid into it -/
def fillL (pl : List (Nat × Nat)) : List Value → List (Nat × Value) → Option (List Value)
  | cs, [] => some cs
  | cs, (i, v) :: r => match pl[i]? with
    | none => none
    | some (off, size) => match Nat.beq v.cells.size size && Nat.ble (off + size) cs.length with
      | true => fillL pl (cs.take off ++ v.cells.toList ++ cs.drop (off + size)) r
      | false => none
theorem fill_eq (place : Nat → Option (Nat × Nat)) (pl : List (Nat × Nat)) (hp : ∀ i, place i = pl[i]?) : ∀ (ps : List (Nat × Value)) (cs : Array Value) (cs' : List Value), fillL pl cs.toList ps = some cs' → Instr.fill place cs ps = some cs'.toArray
  | [], cs, cs', h => by
    simp only [fillL, Option.some.injEq] at h
    subst h
    simp [Instr.fill]
  | (i, v) :: r, cs, cs', h => by
    simp only [fillL] at h
    simp only [Instr.fill, hp]
    cases hpi : pl[i]? with
    | none => simp [hpi] at h
    | some q =>
      obtain ⟨off, size⟩ := q
      simp only [hpi] at h ⊢
      cases hc : (Nat.beq v.cells.size size && Nat.ble (off + size) cs.toList.length) with
      | false => rw [hc] at h; cases h
      | true =>
        rw [hc] at h
        simp only [Bool.and_eq_true] at hc
        have h1 := Nat.eq_of_beq_eq_true hc.1
        have h2 := Nat.le_of_ble_eq_true hc.2
        rw [Array.length_toList] at h2
        rw [if_neg (by simp [h1]; omega)]
        refine fill_eq place pl hp r _ cs' ?_
        have := foldl_set_aux off v.cells.toList 0 cs (by simp; omega)
        rw [← Array.foldl_toList, Array.toList_zipIdx]
        simp only [Nat.add_zero, Array.length_toList, h1] at this
        rw [this]
        exact h
/-- where the parts of a struct lie -/
class Lay (P : Program) (t : TypeId) (pl : outParam (List (Nat × Nat))) : Prop where
  h : ∃ fs, P.underlying t = some (.struct fs) ∧ fs.toList.mapM (fun f => (P.info? f.type).map fun i => (f.offset, i.size)) = some pl
def evps (env : Env) : List (Nat × Operand) → Option (List (Nat × Value))
  | [] => some []
  | (i, x) :: r => match ev env x, evps env r with
    | some v, some l => some ((i, v) :: l)
    | _, _ => none
theorem Fits.evps {a : Act} (h : Fits n env a) : ∀ {l : List (Nat × Operand)} {vs : List (Nat × Value)}, evps env l = some vs → l.map (fun x => (x.1, a.eval x.2)) = vs
  | [], vs, hx => by simp only [Ev.evps, Option.some.injEq] at hx; subst hx; rfl
  | (i, x) :: r, vs, hx => by
    simp only [Ev.evps] at hx
    split at hx
    · rename_i v l h1 h2
      simp only [Option.some.injEq] at hx
      subst hx
      rw [List.map_cons, h.ev h1, h.evps h2]
    · cases hx
theorem run_mapM_places {w : World} : ∀ (fs : List Field) (pl : List (Nat × Nat)), fs.mapM (fun f => (P.info? f.type).map fun i => (f.offset, i.size)) = some pl →
    (fs.mapM (fun f => Prod.mk f.offset <$> Go.sizeOf f.type) : Sem (List (Nat × Nat))).run P w = .ok pl w
  | [], pl, h => by
    simp only [List.mapM_nil, Option.pure_def, Option.some.injEq] at h
    subst h
    simp
  | f :: fs, pl, h => by
    simp only [List.mapM_cons, Option.bind_eq_bind, Option.bind_eq_some_iff, Option.map_eq_some_iff, Option.pure_def, Option.some.injEq] at h
    obtain ⟨p, ⟨i, hi, rfl⟩, q, hq, rfl⟩ := h
    have hs : (Go.sizeOf f.type).run P w = .ok i.size w := by simp [Go.sizeOf, typeInfo, hi]
    simp only [List.mapM_cons, Sem.run_bind, Sem.run_map, hs, Result.andThen_ok, run_mapM_places fs q hq, Sem.run_pure]
theorem p_build {t : TypeId} {d : TypeDesc} {sz sb : Nat} {z : Value} {pl : List (Nat × Nat)} {parts : List (Nat × Operand)} {ps : List (Nat × Value)} (cs : List Value) [h : Ty P t d sz sb z] [hl : Lay P t pl] (hx : evps env parts = some ps) (hf : fillL pl z.cells.toList ps = some cs) :
    Pure P n env ⟨ds, .build t parts.toArray, ty, pos, af, gd⟩ (.agg cs.toArray) := fun a w f => by
  obtain ⟨fs, h1, h2⟩ := hl.h
  have hm := run_mapM_places (P := P) (w := w) fs.toList pl h2
  have hm' : (fs.mapM (fun f => Prod.mk f.offset <$> Go.sizeOf f.type) : Sem (Array (Nat × Nat))).run P w = .ok pl.toArray w := by
    rw [Array.mapM_eq_mapM_toList]
    simp [hm]
  have hf' := fill_eq (fun i => pl[i]?) pl (fun i => rfl) ps z.cells cs hf
  have he := f.evps hx
  simp [execOp, Instr.build, h.zeroValue, run_underlying h1, hm', he, hf']
theorem fill_one (v : Value) (cells : Array Value) (h : v.cells.size = cells.size) : Instr.fill (fun i => some (i * v.cells.size, v.cells.size)) cells [(0, v)] = some v.cells := by
  simp only [Instr.fill, Nat.zero_mul, Nat.zero_add]
  rw [if_neg (by simp; omega)]
  congr 1
  apply Array.toList_inj.1
  have := foldl_set_aux 0 v.cells.toList 0 cells (by simp; omega)
  rw [← Array.foldl_toList, Array.toList_zipIdx]
  simp only [Nat.zero_add] at *
  rw [this]
  simp [h]
theorem m_buildSlice1 {t e : TypeId} {d : TypeDesc} {sz sb es eb : Nat} {z ez v : Value} {x : Operand} [h : Ty P t (.slice e) sz sb z] [he : Ty P e d es eb ez] (hx : ev env x = some v) (hv : v.cells.size = es) (hes : es ≠ 0 ∧ es ≤ 16777216) :
    Runs P n env H ⟨ds, .buildSlice t 1 #[(0, x)], ty, pos, af, gd⟩ (.slice (some ⟨H.size, 0, none⟩) 1 1) (H.push (.cells v.cells e)) := fun a w f eq => by
  subst eq
  obtain ⟨h1, h2⟩ := hes
  have hf := fill_one v ((Array.range es).map (ez.cells[· % ez.cells.size]!)) (by simp [hv])
  rw [hv] at hf
  have h2' : ¬ 16777216 < es := by omega
  exact ⟨w.alloc (.cells v.cells e), by simp [execOp, f.ev hx, Instr.buildSlice, run_underlying h.und, he.sizeOf, he.zeroValue, h1, h2', hf, newRow], rfl, ⟨rfl, rfl, rfl⟩⟩
theorem m_buildSlice0 {t e : TypeId} {d : TypeDesc} {sz sb es eb : Nat} {z ez : Value} [h : Ty P t (.slice e) sz sb z] [he : Ty P e d es eb ez] :
    Runs P n env H ⟨ds, .buildSlice t 0 #[], ty, pos, af, gd⟩ (.slice (some ⟨H.size, 0, none⟩) 0 0) (H.push (.cells #[] e)) := fun a w f eq => by
  subst eq
  exact ⟨w.alloc (.cells #[] e), by simp [execOp, Instr.buildSlice, run_underlying h.und, he.sizeOf, newRow, Instr.fill]; simp [Array.range], rfl, ⟨rfl, rfl, rfl⟩⟩
theorem W_buildSlice1 {t e : TypeId} {d : TypeDesc} {sz sb es eb : Nat} {z ez v : Value} {x : Operand} {cs : Array Value} {dd : Nat} [h : Ty P t (.slice e) sz sb z] [he : Ty P e d es eb ez] (hx : ev env x = some v) (hz : v.cells = cs) (hv : Nat.beq cs.size es = true) (hes : es ≠ 0 ∧ es ≤ 16777216) (hn : Nat.blt dd n = true)
    (k : ∀ b H', New H H' b (.cells cs e) → At n W ((dd, .slice (some ⟨b, 0, none⟩) 1 1) :: env) H' K) : At n W env H (fun a w => Oper.wp P ⟨some dd, .buildSlice t 1 #[(0, x)], ty, pos, af, gd⟩ a w K Q) :=
  W_new (v := fun b => .slice (some ⟨b, 0, none⟩) 1 1) (hz ▸ m_buildSlice1 hx (by rw [hz]; exact Nat.eq_of_beq_eq_true hv) hes) rfl hn k
theorem W_buildSlice0 {t e : TypeId} {d : TypeDesc} {sz sb es eb : Nat} {z ez : Value} {dd : Nat} [h : Ty P t (.slice e) sz sb z] [he : Ty P e d es eb ez] (hn : Nat.blt dd n = true)
    (k : ∀ b H', New H H' b (.cells #[] e) → At n W ((dd, .slice (some ⟨b, 0, none⟩) 0 0) :: env) H' K) : At n W env H (fun a w => Oper.wp P ⟨some dd, .buildSlice t 0 #[], ty, pos, af, gd⟩ a w K Q) :=
  W_new (v := fun b => .slice (some ⟨b, 0, none⟩) 0 0) m_buildSlice0 rfl hn k

/-! ## Stores -/
theorem run_storeCells_block (P : Program) (g o : Nat) (t : TypeId) : ∀ (vs : List Value) (cur : Array Value) (w : World), w.heap[g]? = some (.cells cur t (0, 0)) → o + vs.length ≤ cur.size → (∀ v ∈ vs, v.oneCell' = true) →
    ∃ w', (storeCells ⟨g, o, none⟩ vs 0).run P w = .ok () w' ∧ Put w.heap w'.heap g (.cells (cur.toList.take o ++ vs ++ cur.toList.drop (o + vs.length)).toArray t (0, 0)) ∧ Like w w' := by
  intro vs cur w hg hl h1
  have := run_storeCells_at P g o t vs 0 cur w hg hl h1
  refine ⟨_, this, ⟨?_, ?_, ?_⟩, ⟨rfl, rfl, rfl⟩⟩
  · simp [World.setRow]
  · exact setRow_heap w g cur _ t _ hg
  · exact ⟨by simp [World.setRow], fun k _ hS => setRow_other w g k _ hS⟩
theorem W_store {x y : Operand} {t bt : TypeId} {d : TypeDesc} {sz sb : Nat} {z : Value} {b o : Nat} {cs : Array Value} {v : Value} [h : Ty P t d sz sb z] (hx : ev env x = some (.pointer (some ⟨b, o, none⟩))) (hy : ev env y = some v)
    (hb : H[b]? = some (.cells cs bt (0, 0))) (hv : v.cells = #[v]) (h1 : v.oneCell' = true) (hs : sz = 1) (ho : Nat.blt o cs.size = true)
    (k : ∀ H', Put H H' b (.cells (cs.setIfInBounds o v) bt (0, 0)) → At n W env H' K) : At n W env H (fun a w => Oper.wp P ⟨none, .store t x y, ty, pos, af, gd⟩ a w K Q) := fun a w f e l => by
  have ho' : o < cs.size := Nat.le_of_ble_eq_true ho
  subst e
  obtain ⟨w', hr, hp, hl⟩ := run_storeCells_block P b o bt [v] cs w hb (by simp; omega) (by simpa using h1)
  have e : cs.toList.take o ++ [v] ++ cs.toList.drop (o + [v].length) = (cs.setIfInBounds o v).toList := by
    rw [Array.toList_setIfInBounds, List.set_eq_take_append_cons_drop, if_pos (by simpa using ho')]
    simp
  rw [e, Array.toArray_toList] at hp
  subst hs
  have hrun : (execOp a.eval ⟨none, .store t x y, ty, pos, af, gd⟩).run P w = .ok .skip w' := by
    simp [execOp, f.ev hx, f.ev hy, Instr.storeAt, Instr.sureAddr, storeVar, h.sizeOf, hv, hr]
  show Oper.wp P _ a w K Q
  unfold Oper.wp
  rw [hrun, Oper.upon_skip]
  exact k _ hp _ w' (f.put_none _) rfl (l.trans hl)
/-- a whole struct into the midst of a block -/
theorem W_storeN {x y : Operand} {t bt : TypeId} {d : TypeDesc} {sz sb : Nat} {z : Value} {b o : Nat} {cs : Array Value} {v : Value} [h : Ty P t d sz sb z] (hx : ev env x = some (.pointer (some ⟨b, o, none⟩))) (hy : ev env y = some v)
    (hb : H[b]? = some (.cells cs bt (0, 0))) (hs : v.cells.size = sz) (h1 : ∀ u ∈ v.cells.toList, u.oneCell' = true) (ho : o + sz ≤ cs.size)
    (k : ∀ H', Put H H' b (.cells (cs.toList.take o ++ v.cells.toList ++ cs.toList.drop (o + sz)).toArray bt (0, 0)) → At n W env H' K) : At n W env H (fun a w => Oper.wp P ⟨none, .store t x y, ty, pos, af, gd⟩ a w K Q) := fun a w f e l => by
  subst e
  obtain ⟨w', hr, hp, hl⟩ := run_storeCells_block P b o bt v.cells.toList cs w hb (by simp; omega) h1
  have hlen : v.cells.toList.length = sz := by simpa using hs
  rw [hlen] at hp
  have hrun : (execOp a.eval ⟨none, .store t x y, ty, pos, af, gd⟩).run P w = .ok .skip w' := by
    simp [execOp, f.ev hx, f.ev hy, Instr.storeAt, Instr.sureAddr, storeVar, h.sizeOf, hs, hr]
  show Oper.wp P _ a w K Q
  unfold Oper.wp
  rw [hrun, Oper.upon_skip]
  exact k _ hp _ w' (f.put_none _) rfl (l.trans hl)
/-- a whole struct over a whole block -/
theorem W_storeB {x y : Operand} {t bt : TypeId} {d : TypeDesc} {sz sb : Nat} {z : Value} {b : Nat} {cs cs' : Array Value} {v : Value} [h : Ty P t d sz sb z] (hx : ev env x = some (.pointer (some ⟨b, 0, none⟩))) (hy : ev env y = some v)
    (hb : H[b]? = some (.cells cs bt (0, 0))) (hv : v.cells = cs') (hs : Nat.beq cs'.size sz = true) (hs2 : Nat.beq cs.size sz = true) (h1 : cs'.toList.all (·.oneCell') = true)
    (k : ∀ H', Put H H' b (.cells cs' bt (0, 0)) → At n W env H' K) : At n W env H (fun a w => Oper.wp P ⟨none, .store t x y, ty, pos, af, gd⟩ a w K Q) := by
  have e1 := Nat.eq_of_beq_eq_true hs
  have e2 := Nat.eq_of_beq_eq_true hs2
  refine W_storeN hx hy hb (by rw [hv, e1]) (by rw [hv]; exact fun u hu => List.all_eq_true.1 h1 u hu) (by omega) ?_
  intro H' hp
  refine k H' ?_
  have : (cs.toList.take 0 ++ v.cells.toList ++ cs.toList.drop (0 + sz)).toArray = cs' := by
    rw [hv, List.drop_of_length_le (by simp; omega)]
    simp
  rwa [this] at hp

/-- '[]byte(x)' of a []byte: the block bears a mark behind its end -/
theorem W_convertBytes {x : Operand} {t e bt : TypeId} {s1 s2 s5 s6 : Nat} {z1 z3 : Value} {b o l c : Nat} {cs : Array Value} {dd : Nat} [h1 : Ty P t (.slice e) s1 s2 z1] [h3 : Ty P e (.int .u8) s5 s6 z3]
    (hx : ev env x = some (.slice (some ⟨b, o, none⟩) l c)) (hb : H[b]? = some (.cells cs bt (0, 0))) (hn : Nat.blt dd n = true)
    (k : ∀ H', Put H H' b (.cells cs bt (cs.size, cs.size + 1)) → At n W ((dd, .slice (some ⟨b, o, none⟩) l c) :: env) H' K) :
    At n W env H (fun a w => Oper.wp P ⟨some dd, .convert t t x, ty, pos, af, gd⟩ a w K Q) := fun a w f eq hl => by
  subst eq
  have hsh : w.shape? b = some (bt, cs.size) := by simp [World.shape?, hb]
  have hh : ∀ k, (w.freeze ⟨b, cs.size, none⟩ 1).heap[k]? = if b = k then some (.cells cs bt (cs.size, cs.size + 1)) else w.heap[k]? := fun k => by
    simp only [World.freeze, Nat.one_ne_zero, if_false, Array.getElem?_modify]
    by_cases hk : b = k
    · subst hk
      simp [hb]
    · simp [hk]
  have hp : Put w.heap (w.freeze ⟨b, cs.size, none⟩ 1).heap b (.cells cs bt (cs.size, cs.size + 1)) := by
    refine ⟨by simp [World.freeze], by rw [hh, if_pos rfl], ⟨by simp [World.freeze], fun k _ hS => by rw [hh, if_neg (fun e => hS e.symm)]⟩⟩
  have hrun : (execOp a.eval ⟨some dd, .convert t t x, ty, pos, af, gd⟩).run P w = .ok (.value (.slice (some ⟨b, o, none⟩) l c)) (w.freeze ⟨b, cs.size, none⟩ 1) := by
    simp [execOp, f.ev hx, convert, run_underlying h1.und, run_underlying h3.und, markStringish, hsh]
  show Oper.wp P _ a w K Q
  unfold Oper.wp
  rw [hrun, Oper.upon_value]
  exact k _ hp _ _ (f.put hn _) rfl (hl.trans ⟨by simp [World.freeze], by simp [World.freeze], by simp [World.freeze]⟩)

/-! ## append -/
/-- slice value v, of nn elements of type e (size cells each), is one's own and holds the cells xs: nil, or at the head of a block from base on -/
def Own (H : Heap) (base : Nat) (e : TypeId) (size : Nat) (v : Value) (nn : Nat) (xs : List Value) : Prop :=
  xs.length = nn * size ∧ ((v = .slice none 0 0 ∧ nn = 0) ∨
    ∃ g cap cur, v = .slice (some ⟨g, 0, none⟩) nn cap ∧ base ≤ g ∧ H[g]? = some (.cells cur e (0, 0)) ∧ nn ≤ cap ∧ cap ≤ maxLen ∧ cur.size = cap * size ∧ cur.toList.take (nn * size) = xs)
theorem own_iff {w : World} {base : Nat} {e : TypeId} {size : Nat} {v : Value} {nn : Nat} {xs : List Value} : w.ownsRow base e size v nn xs ↔ Own w.heap base e size v nn xs := Iff.rfl
section own
variable {base size nn c : Nat} {e : TypeId} {v : Value} {xs : List Value}
theorem Own.nil (H : Heap) (base : Nat) (e : TypeId) (size : Nat) : Own H base e size (.slice none 0 0) 0 [] := ⟨by simp, .inl ⟨rfl, rfl⟩⟩
theorem Own.form (h : Own H base e size v nn xs) : (v = .slice none 0 0 ∧ nn = 0 ∧ xs = []) ∨ ∃ g c, v = .slice (some ⟨g, 0, none⟩) nn c ∧ base ≤ g ∧ g < H.size ∧ nn ≤ c ∧ c ≤ maxLen := by
  rcases h.2 with ⟨h1, h2⟩ | ⟨g, cap, cur, h1, h2, h3, h4, h5, _⟩
  · refine .inl ⟨h1, h2, ?_⟩
    have := h.1
    rw [h2, Nat.zero_mul] at this
    exact List.eq_nil_of_length_eq_zero this
  · exact .inr ⟨g, cap, h1, h2, lt_of_heap h3, h4, h5⟩
theorem Own.rebase {base' : Nat} (h : Own H base e size v nn xs) (hb : ∀ g, v.ownBlock = some g → base' ≤ g) : Own H base' e size v nn xs := by
  refine ⟨h.1, ?_⟩
  rcases h.2 with h2 | ⟨g, cap, cur, h1, h2, rest⟩
  · exact .inl h2
  · exact .inr ⟨g, cap, cur, h1, hb g (by rw [h1]; rfl), rest⟩
theorem Own.keep (h : Own H base e size v nn xs) {S : Nat → Prop} {H' : Heap} (hk : Kept S H H') (hS : ∀ g, v.ownBlock = some g → ¬ S g) : Own H' base e size v nn xs := by
  refine ⟨h.1, ?_⟩
  rcases h.2 with h2 | ⟨g, cap, cur, h1, h2, h3, rest⟩
  · exact .inl h2
  · exact .inr ⟨g, cap, cur, h1, h2, hk.keep h3 (hS g (by rw [h1]; rfl)), rest⟩
theorem Own.cell {g : Nat} (h : Own H base e size (.slice (some ⟨g, 0, none⟩) nn c) nn xs) {j : Nat} {u : Value} (hj : xs[j]? = some u) : Cell H g j u := by
  rcases h.2 with ⟨h1, _⟩ | ⟨g', cap, cur, h1, h2, h3, _, _, _, h7⟩
  · cases h1
  · simp only [Value.slice.injEq, Option.some.injEq, Addr.mk.injEq] at h1
    obtain ⟨⟨rfl, _⟩, _⟩ := h1
    refine Cell.of h3 ?_
    rw [← h7, List.getElem?_take] at hj
    split at hj
    · simpa using hj
    · cases hj
theorem Own.lt {g : Nat} (h : Own H base e size v nn xs) (hv : v.ownBlock = some g) : base ≤ g ∧ g < H.size := by
  rcases h.form with ⟨rfl, _⟩ | ⟨g', c', rfl, h1, h2, _⟩
  · cases hv
  · simp only [Value.ownBlock, Option.some.injEq] at hv
    subst hv
    exact ⟨h1, h2⟩
end own
/-- append of m elements, cells 'news', to a row of one's own -/
theorem run_append {w : World} {t e : TypeId} {de : TypeDesc} {sz sb size bytes : Nat} {z ez : Value} {ty : TypeId} [h : Ty P t (.slice e) sz sb z] [he : Ty P e de size bytes ez] {v : Value} {nn : Nat} {xs : List Value} {base : Nat} {ad : Addr} {m c : Nat} {news : List Value}
    (hown : Own w.heap base e size v nn xs) (hl : news.length = m * size) (hnews : ∀ j u, news[j]? = some u → w.cell? (ad.add j) = some u) (h1 : ∀ u ∈ news, u.oneCell' = true) (hbase : base ≤ w.heap.size) (hz : ez.cells.size = size) (hsz : 0 < size) (hm : 0 < m) (h63 : nn + m ≤ maxLen) (hby : (nn + m) * bytes ≤ 140737488355328) :
    ∃ g c' w', (Builtin.append_ #[t, t] ty #[v, .slice (some ad) m c]).run P w = .ok (.slice (some ⟨g, 0, none⟩) (nn + m) c') w' ∧ Like w w' ∧
      Own w'.heap base e size (.slice (some ⟨g, 0, none⟩) (nn + m) c') (nn + m) (xs ++ news) ∧ Kept (fun b => v.ownBlock = some b) w.heap w'.heap ∧ (v.ownBlock = some g ∨ w.heap.size ≤ g) := by
  obtain ⟨i, hi1, hi2, hi3, hi4⟩ := he.info
  obtain ⟨v', w', hr, hown', hgrow, hnil, hat⟩ := run_append_own_at (P := P) w base t ty e i ez size bytes h.und hi1 hi4 hi2 hi3 hz hsz v nn xs hown ad m c news hl hnews h1 h63 hby hbase
  rcases Own.form (own_iff.1 hown') with ⟨_, hc, _⟩ | ⟨g, c', hv', hbg, hg, _, _⟩
  · omega
  · have hgg : v.ownBlock = some g ∨ w.heap.size ≤ g := by
      rw [hv'] at hat
      simp only [Value.ownBlock] at hat
      rcases hat with hat | hat
      · exact .inl hat.symm
      · exact .inr (by injection hat with hat; omega)
    subst hv'
    exact ⟨g, c', w', hr, ⟨hgrow.os, hgrow.tape, hgrow.output⟩, hown', ⟨hgrow.size, fun k hk hS => hgrow.block k hk (fun e => hS e.symm)⟩, hgg⟩
theorem W_append {x y : Operand} {t e : TypeId} {de : TypeDesc} {sz sb size bytes : Nat} {z ez : Value} {dd : Nat} [h : Ty P t (.slice e) sz sb z] [he : Ty P e de size bytes ez] {v : Value} {nn : Nat} {xs : List Value} {base : Nat} {b o : Nat} {m c : Nat} {news : List Value}
    (hx : ev env x = some v) (hy : ev env y = some (.slice (some ⟨b, o, none⟩) m c)) (hown : Own H base e size v nn xs)
    (hl : news.length = m * size) (hnews : ∀ j u, news[j]? = some u → Cell H b (o + j) u) (h1 : ∀ u ∈ news, u.oneCell' = true) (hbase : base ≤ H.size) (hz : ez.cells.size = size) (hsz : 0 < size) (hm : 0 < m) (h63 : nn + m ≤ maxLen) (hby : (nn + m) * bytes ≤ 140737488355328) (hn : Nat.blt dd n = true)
    (k : ∀ g c' H', Own H' base e size (.slice (some ⟨g, 0, none⟩) (nn + m) c') (nn + m) (xs ++ news) → Kept (fun b => v.ownBlock = some b) H H' → (v.ownBlock = some g ∨ H.size ≤ g) →
      At n W ((dd, .slice (some ⟨g, 0, none⟩) (nn + m) c') :: env) H' K) : At n W env H (fun a w => Oper.wp P ⟨some dd, .call ⟨.builtin .append, #[x, y], #[t, t]⟩, ty, pos, af, gd⟩ a w K Q) := fun a w f eq l => by
  subst eq
  obtain ⟨g, c', w', hr, hlike, hown', hk, hg⟩ := run_append (P := P) (w := w) (t := t) (ty := ty) (ad := ⟨b, o, none⟩) (m := m) (c := c) hown hl (fun j u hj => by rw [add_none]; exact (hnews j u hj).cell?) h1 hbase hz hsz hm h63 hby
  have hrun : (execOp a.eval ⟨some dd, .call ⟨.builtin .append, #[x, y], #[t, t]⟩, ty, pos, af, gd⟩).run P w = .ok (.value (.slice (some ⟨g, 0, none⟩) (nn + m) c')) w' := by
    simp [execOp, resolve, invoke, builtin, f.ev hx, f.ev hy, hr]
  show Oper.wp P _ a w K Q
  unfold Oper.wp
  rw [hrun, Oper.upon_value]
  exact k g c' _ hown' hk hg _ w' (f.put hn _) rfl (l.trans hlike)
end ops
end Ev
/- A region that draws its order: operations that only read are taken first; of the others each comes up when it may. Plain theorems over any program. -/
namespace Ev
open Go
section
variable {P : Program} {ops : Array Oper} {Q : Exit → Act → World → Prop} {md : Region.Mode} {S : Heap → Prop} {needy : List Nat}
def waitsFor (ops : Array Oper) (md : Region.Mode) (j i : Nat) : Bool := match ops[j]? with
  | some o => o.after.any fun e => Region.binds md e && Nat.beq e.on i
  | none => true
/-- may the operation j come up before one of the needy ones? -/
def conf (ops : Array Oper) (md : Region.Mode) (needy : List Nat) (j : Nat) : Bool := needy.any fun i => !(Nat.beq i j) && !(waitsFor ops md j i)
def wpAnyG (P : Program) (md : Region.Mode) (ops : Array Oper) (Q : Exit → Act → World → Prop) (needy : List Nat) (S : Heap → Prop) : Nat → Array Bool → Act → World → Prop
  | 0, listed, a, w => Region.ready md ops listed = [] ∧ Q .normal a w
  | fuel + 1, listed, a, w =>
    (Region.ready md ops listed = [] → Q .normal a w) ∧
    ∀ i ∈ Region.ready md ops listed, wpOp P ops Q i (fun a' w' => (conf ops md needy i = true → S w.heap → S w'.heap) ∧ wpAnyG P md ops Q needy S fuel (listed.setIfInBounds i true) a' w') a w
theorem wpAny_of_G : ∀ (fuel : Nat) (listed : Array Bool) (a : Act) (w : World), wpAnyG P md ops Q needy S fuel listed a w → wpAny P md ops Q fuel listed a w
  | 0, _, _, _, h => h
  | fuel + 1, _, _, _, h => ⟨h.1, fun i hi => wpOp_mono (fun a' w' h' => wpAny_of_G fuel _ a' w' h'.2) (h.2 i hi)⟩
theorem conf_of {i j : Nat} {oj : Oper} (hn : i ∈ needy) (hji : j ≠ i) (hj : ops[j]? = some oj) (hnot : ∀ e ∈ oj.after, Region.binds md e = true → e.on ≠ i) : conf ops md needy j = true := by
  refine List.any_eq_true.2 ⟨i, hn, ?_⟩
  have h1 : Nat.beq i j = false := by
    cases h : Nat.beq i j with
    | false => rfl
    | true => exact absurd (Nat.eq_of_beq_eq_true h).symm hji
  have h2 : waitsFor ops md j i = false := by
    unfold waitsFor
    rw [hj]
    refine Array.any_eq_false.2 ?_
    intro k hk hc
    simp only [Bool.and_eq_true] at hc
    exact hnot _ (Array.getElem_mem hk) hc.1 (Nat.eq_of_beq_eq_true hc.2)
  simp [h1, h2]
theorem wpAnyG_first {i : Nat} {oi : Oper} {v : Value} (hi : ops[i]? = some oi) (hsel : ∀ (j : Nat) (o : Oper) cs b, ops[j]? = some o → o.op ≠ .select cs b)
    (hQ : ∀ c a w, Q (.panic c) (a.put oi.dst v) w → Q (.panic c) a w) :
    ∀ (fuel : Nat) (listed : Array Bool) (a : Act) (w : World),
      (∀ j oj, ops[j]? = some oj → j ≠ i → listed.getD j true = false → (∀ e ∈ oj.after, Region.binds md e = true → e.on ≠ i) → oi.apart ops oj = true) →
      i ∈ Region.ready md ops listed → YieldsIf P ops (fun w => i ∈ needy → S w.heap) oi v a → (i ∈ needy → S w.heap) →
      wpAnyG P md ops Q needy S fuel (listed.setIfInBounds i true) (a.put oi.dst v) w → wpAnyG P md ops Q needy S (fuel + 1) listed a w := by
  intro fuel
  induction fuel with
  | zero =>
    intro listed a w _ hr hy hS H
    refine ⟨fun h => (by rw [h] at hr; cases hr), fun j hj => ?_⟩
    by_cases hji : j = i
    · subst hji; exact hy.wpOp hi hS ⟨fun _ x => x, H⟩
    · have := ready_mono hj hji
      rw [H.1] at this
      cases this
  | succ fuel ih =>
    intro listed a w hfree hr hy hS H
    refine ⟨fun h => (by rw [h] at hr; cases hr), fun j hj => ?_⟩
    by_cases hji : j = i
    · subst hji; exact hy.wpOp hi hS ⟨fun _ x => x, H⟩
    · have h1 := H.2 j (ready_mono hj hji)
      obtain ⟨hjun, oj, hoj, hall⟩ := mem_ready.1 hj
      have hnot : ∀ e ∈ oj.after, Region.binds md e = true → e.on ≠ i := fun e he hb heq => by
        have h1 := hall e he hb
        have h0 := (mem_ready.1 hr).1
        rw [heq] at h1
        rcases Nat.lt_or_ge i listed.size with h' | h'
        · simp [h'] at h0 h1; rw [h0] at h1; cases h1
        · simp [Array.getElem?_eq_none h'] at h1
      have h2 := wpOp_putIf hoj (hfree j oj hoj hji hjun hnot) (fun cs b => hsel i oi cs b hi) (fun cs b => hsel j oj cs b hoj) hQ hy h1
      have hfree' : ∀ k ok, ops[k]? = some ok → k ≠ i → (listed.setIfInBounds j true).getD k true = false →
          (∀ e ∈ ok.after, Region.binds md e = true → e.on ≠ i) → oi.apart ops ok = true := fun k ok hk hki hun hno => by
        refine hfree k ok hk hki ?_ hno
        by_cases hjk : j = k
        · subst hjk; exact hjun
        · rw [getD_set_ne true hjk] at hun; exact hun
      refine wpOp_mono (fun a' w' h3 => ⟨h3.2.1, ih (listed.setIfInBounds j true) a' w' hfree' (ready_mono hr (Ne.symm hji)) h3.1 (fun hn => h3.2.1 (conf_of hn hji hoj hnot) (hS hn)) ?_⟩) h2
      rw [Array.setIfInBounds_comm _ _ hji]
      exact h3.2.2
end

section
variable {P : Program} {n : Nat} {W : World} {env : Env} {H : Heap} {Q : Exit → Act → World → Prop} {ops : Array Oper} {S : Heap → Prop} {needy : List Nat} {fuel : Nat} {listed : Array Bool}
/-- a region that draws its order: 'needy' are the numbers of the operations that read the heap, S what they lean on -/
theorem At_draw {id : Nat} {l : List Oper} (needy : List Nat) (S : Heap → Prop) (hm : P.follows .mixedOrders = true)
    (h : At n W env H (wpAnyG P .any l.toArray Q needy S l.length (Array.replicate l.length false))) : At n W env H ((Code.region id l.toArray true).wp P Q) := fun a w f e k =>
  wp_region_any hm (wpAny_of_G _ _ _ _ (by simpa using h a w.drew f e ⟨k.os, k.tape, k.output⟩))
/-- the post says the same of a panic whatever the frame holds -/
def Calm (Q : Exit → Act → World → Prop) : Prop := ∀ c a d v w, Q (.panic c) (a.put d v) w → Q (.panic c) a w
theorem Calm.post {fn : Func} {R : Value → Heap → Prop} : Calm (Post P fn W R) := fun c a d v w h => by
  cases d <;> exact h
theorem Calm.then {K : Act → World → Prop} (h : Calm Q) : Calm (Exit.then K Q) := h
theorem Calm.inBlock {id : Nat} (h : Calm Q) : Calm (Exit.inBlock id Q) := h
theorem Calm.noGoto (h : Calm Q) : Calm (Exit.noGoto Q) := h
theorem G_pure (i : Nat) {o : Oper} {d : Nat} {v : Value} (ho : ops[i]? = some o) (hp : Pure P n env o v) (hq : Calm Q) (hw : want ops env o = some true) (hd : o.dst = some d) (hn : Nat.blt d n = true)
    (hc : (Region.noSelect ops && Region.free .any ops listed i && (Region.ready .any ops listed).contains i && !needy.contains i) = true)
    (k : At n W ((d, v) :: env) H (wpAnyG P .any ops Q needy S fuel (listed.setIfInBounds i true))) : At n W env H (wpAnyG P .any ops Q needy S (fuel + 1) listed) := fun a w f e l => by
  simp only [Bool.and_eq_true, Bool.not_eq_true'] at hc
  have hni : i ∉ needy := fun h => by simp [h] at hc
  exact wpAnyG_first ho (Region.noSelect_spec hc.1.1.1) (fun c a w => hq c a _ _ w) fuel listed a w (Region.free_spec ho hc.1.1.2) (by simpa using hc.1.2) (.inl ⟨f.wanted hw, fun w _ => hp a w f⟩) (fun h => (hni h).elim) (by rw [hd]; exact k _ w (f.put hn _) e l)
theorem G_off (i : Nat) {o : Oper} {d : Nat} (ho : ops[i]? = some o) (hq : Calm Q) (hw : want ops env o = some false) (hd : o.dst = some d) (hn : Nat.blt d n = true)
    (hc : (Region.noSelect ops && Region.free .any ops listed i && (Region.ready .any ops listed).contains i && !needy.contains i) = true)
    (k : At n W ((d, undef) :: env) H (wpAnyG P .any ops Q needy S fuel (listed.setIfInBounds i true))) : At n W env H (wpAnyG P .any ops Q needy S (fuel + 1) listed) := fun a w f e l => by
  simp only [Bool.and_eq_true, Bool.not_eq_true'] at hc
  have hni : i ∉ needy := fun h => by simp [h] at hc
  exact wpAnyG_first ho (Region.noSelect_spec hc.1.1.1) (fun c a w => hq c a _ _ w) fuel listed a w (Region.free_spec ho hc.1.1.2) (by simpa using hc.1.2) (.inr ⟨f.wanted hw, rfl⟩) (fun h => (hni h).elim) (by rw [hd]; exact k _ w (f.put hn _) e l)
theorem G_off_needy (i : Nat) {o : Oper} {d : Nat} (ho : ops[i]? = some o) (hs : S H) (hq : Calm Q) (hw : want ops env o = some false) (hd : o.dst = some d) (hn : Nat.blt d n = true)
    (hc : (Region.noSelect ops && Region.free .any ops listed i && (Region.ready .any ops listed).contains i) = true)
    (k : At n W ((d, undef) :: env) H (wpAnyG P .any ops Q needy S fuel (listed.setIfInBounds i true))) : At n W env H (wpAnyG P .any ops Q needy S (fuel + 1) listed) := fun a w f e l => by
  simp only [Bool.and_eq_true] at hc
  exact wpAnyG_first ho (Region.noSelect_spec hc.1.1) (fun c a w => hq c a _ _ w) fuel listed a w (Region.free_spec ho hc.1.2) (by simpa using hc.2) (.inr ⟨f.wanted hw, rfl⟩) (fun _ => by rw [e]; exact hs) (by rw [hd]; exact k _ w (f.put hn _) e l)
theorem G_read (i : Nat) {o : Oper} {d : Nat} {v : Value} (ho : ops[i]? = some o) (hs : S H) (hp : ∀ H', S H' → Reads P n env H' o v) (hq : Calm Q) (hw : want ops env o = some true) (hd : o.dst = some d) (hn : Nat.blt d n = true)
    (hc : (Region.noSelect ops && Region.free .any ops listed i && (Region.ready .any ops listed).contains i && needy.contains i) = true)
    (k : At n W ((d, v) :: env) H (wpAnyG P .any ops Q needy S fuel (listed.setIfInBounds i true))) : At n W env H (wpAnyG P .any ops Q needy S (fuel + 1) listed) := fun a w f e l => by
  simp only [Bool.and_eq_true] at hc
  have hi : i ∈ needy := by simpa using hc.2
  exact wpAnyG_first ho (Region.noSelect_spec hc.1.1.1) (fun c a w => hq c a _ _ w) fuel listed a w (Region.free_spec ho hc.1.1.2) (by simpa using hc.1.2) (.inl ⟨f.wanted hw, fun w h => hp _ (h hi) a w f rfl⟩) (fun _ => by rw [e]; exact hs) (by rw [hd]; exact k _ w (f.put hn _) e l)
/-- what is left behind an operation that may turn the heap -/
def Left (P : Program) (ops : Array Oper) (Q : Exit → Act → World → Prop) (needy : List Nat) (S : Heap → Prop) (fuel : Nat) (listed : Array Bool) (i : Nat) (H : Heap) : Act → World → Prop :=
  fun a w => (conf ops .any needy i = true → S H → S w.heap) ∧ wpAnyG P .any ops Q needy S fuel (listed.setIfInBounds i true) a w
theorem G_op (i : Nat) {o : Oper} (ho : ops[i]? = some o) (hr : Region.ready .any ops listed = [i]) (hw : want ops env o = some true)
    (h : At n W env H (fun a w => o.wp P a w (Left P ops Q needy S fuel listed i H) Q)) : At n W env H (wpAnyG P .any ops Q needy S (fuel + 1) listed) := fun a w f e l => by
  refine ⟨fun h0 => (by rw [hr] at h0; cases h0), fun j hj => ?_⟩
  rw [hr] at hj
  obtain rfl : j = i := by simpa using hj
  unfold wpOp
  simp only [ho]
  rw [f.wanted hw, if_pos rfl]
  refine .inl ?_
  subst e
  exact h a w f rfl l
/-- two that may come up -/
theorem G_op2 (i j : Nat) {o p : Oper} (ho : ops[i]? = some o) (hp : ops[j]? = some p) (hr : Region.ready .any ops listed = [i, j]) (hw : want ops env o = some true) (hw2 : want ops env p = some true)
    (h : At n W env H (fun a w => o.wp P a w (Left P ops Q needy S fuel listed i H) Q)) (h2 : At n W env H (fun a w => p.wp P a w (Left P ops Q needy S fuel listed j H) Q)) : At n W env H (wpAnyG P .any ops Q needy S (fuel + 1) listed) := fun a w f e l => by
  refine ⟨fun h0 => (by rw [hr] at h0; cases h0), fun k hk => ?_⟩
  rw [hr] at hk
  subst e
  simp only [List.mem_cons, List.not_mem_nil, or_false] at hk
  rcases hk with rfl | rfl
  · unfold wpOp
    simp only [ho]
    rw [f.wanted hw, if_pos rfl]
    exact .inl (h a w f rfl l)
  · unfold wpOp
    simp only [hp]
    rw [f.wanted hw2, if_pos rfl]
    exact .inl (h2 a w f rfl l)
theorem G_next {i : Nat} {H0 : Heap} (hS : conf ops .any needy i = true → S H0 → S H) (k : At n W env H (wpAnyG P .any ops Q needy S fuel (listed.setIfInBounds i true))) : At n W env H (Left P ops Q needy S fuel listed i H0) := fun a w f e l =>
  ⟨fun h1 h2 => by rw [e]; exact hS h1 h2, k a w f e l⟩
theorem G_free {i : Nat} {H0 : Heap} (hc : conf ops .any needy i = false) (k : At n W env H (wpAnyG P .any ops Q needy S fuel (listed.setIfInBounds i true))) : At n W env H (Left P ops Q needy S fuel listed i H0) :=
  G_next (fun h => by rw [hc] at h; cases h) k
theorem G_done (hr : Region.ready .any ops listed = []) (h : At n W env H (Q .normal)) : At n W env H (wpAnyG P .any ops Q needy S fuel listed) := fun a w f e l => by
  have := h a w f e l
  cases fuel with
  | zero => exact ⟨hr, this⟩
  | succ k => exact ⟨fun _ => this, by rw [hr]; simp⟩
end
end Ev
