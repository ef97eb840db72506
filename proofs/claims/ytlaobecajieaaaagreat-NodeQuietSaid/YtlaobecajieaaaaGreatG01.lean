/- A calculus of my own over the library's weakest preconditions: frames are told by lists of slots and values ('Env'), worlds by facts on blocks. Plain theorems over any program. -/
import Derived.WalkKit
import Derived.WalkLawsBesides
import Derived.Orders
import Derived.Deep.LoopGhost
import Derived.Laws.CopyOwn
import Derived.Lib.SliceRun
namespace Ev
open Go

/-! ## Frames as lists -/
abbrev Env := List (Nat × Value)
def Env.get : Env → Nat → Option Value
  | [], _ => none
  | (t, v) :: r, k => match Nat.beq t k with
    | true => some v
    | false => Env.get r k

structure Fits (n : Nat) (env : Env) (a : Act) : Prop where
  defers : a.defers = []
  size : a.tmps.size = n
  get : ∀ t v, env.get t = some v → a.tmps[t]? = some v

abbrev Heap := Array Obj
/-- the streams are as they were -/
structure Like (w w' : World) : Prop where
  os : w'.os = w.os
  tape : w'.tape = w.tape
  output : w'.output = w.output
theorem Like.refl (w : World) : Like w w := ⟨rfl, rfl, rfl⟩
theorem Like.trans {a b c : World} (h : Like a b) (k : Like b c) : Like a c := ⟨k.os.trans h.os, k.tape.trans h.tape, k.output.trans h.output⟩
/-- the frame fits env, the heap is H, the streams are W's: then K -/
def At (n : Nat) (W : World) (env : Env) (H : Heap) (K : Act → World → Prop) : Prop := ∀ a w, Fits n env a → w.heap = H → Like W w → K a w

theorem Env.get_cons (d : Nat) (v : Value) (env : Env) (t : Nat) : Env.get ((d, v) :: env) t = if d = t then some v else env.get t := by
  simp only [Env.get]
  cases h : Nat.beq d t with
  | true => rw [if_pos (Nat.eq_of_beq_eq_true h)]
  | false => rw [if_neg (Nat.ne_of_beq_eq_false h)]

theorem Fits.put {n : Nat} {env : Env} {a : Act} (h : Fits n env a) {d : Nat} (hd : Nat.blt d n = true) (v : Value) : Fits n ((d, v) :: env) (a.put (some d) v) := by
  have hlt : d < a.tmps.size := by rw [h.size]; exact Nat.le_of_ble_eq_true hd
  refine ⟨h.defers, by simp [Act.put, h.size], fun t x hx => ?_⟩
  rw [Env.get_cons] at hx
  simp only [Act.put, Array.getElem?_setIfInBounds]
  by_cases e : d = t
  · subst e
    rw [if_pos rfl] at hx ⊢
    rw [if_pos hlt]
    exact hx
  · rw [if_neg e] at hx ⊢
    exact h.get t x hx

theorem Fits.put_none {n : Nat} {env : Env} {a : Act} (h : Fits n env a) (v : Value) : Fits n env (a.put none v) := h

/-- what a slot list says is said by a longer one -/
def Sub (e' e : Env) : Prop := ∀ t v, e'.get t = some v → e.get t = some v
theorem Sub.nil {e : Env} : Sub [] e := fun t v h => by cases h
theorem Sub.cons {e' e : Env} {t : Nat} {v : Value} (h : e.get t = some v) (r : Sub e' e) : Sub ((t, v) :: e') e := fun k x hx => by
  rw [Env.get_cons] at hx
  by_cases c : t = k
  · subst c; rw [if_pos rfl] at hx; rw [h, hx]
  · rw [if_neg c] at hx; exact r k x hx
theorem Fits.sub {n : Nat} {e' e : Env} {a : Act} (h : Fits n e a) (s : Sub e' e) : Fits n e' a := ⟨h.defers, h.size, fun t v hv => h.get t v (s t v hv)⟩

def ev (env : Env) : Operand → Option Value
  | .tmp t => env.get t
  | .const v => some v
  | .global g => some (.pointer (some ⟨g, 0, none⟩))
  | .func f => some (.func (.func f) #[] #[])
theorem Fits.ev {n : Nat} {env : Env} {a : Act} (h : Fits n env a) {x : Operand} {v : Value} (hx : ev env x = some v) : a.eval x = v := by
  cases x with
  | tmp t => have := h.get t v hx; simp [Act.eval, this]
  | const u => simpa [Ev.ev, Act.eval] using hx
  | global g => simpa [Ev.ev, Act.eval] using hx
  | func f => simpa [Ev.ev, Act.eval] using hx
def evs (env : Env) : List Operand → Option (List Value)
  | [] => some []
  | x :: r => match ev env x, evs env r with
    | some v, some l => some (v :: l)
    | _, _ => none
theorem Fits.evs {n : Nat} {env : Env} {a : Act} (h : Fits n env a) : ∀ {l : List Operand} {vs : List Value}, evs env l = some vs → l.map a.eval = vs
  | [], vs, hx => by simp only [Ev.evs, Option.some.injEq] at hx; subst hx; rfl
  | x :: r, vs, hx => by
    simp only [Ev.evs] at hx
    split at hx
    · rename_i v l h1 h2
      simp only [Option.some.injEq] at hx
      subst hx
      rw [List.map_cons, h.ev h1, h.evs h2]
    · cases hx

/-! ## Is an operation wanted? -/
def want (ops : Array Oper) (env : Env) (o : Oper) : Option Bool :=
  match o.guard with
  | none => some true
  | some (j, b) => match (ops[j]?).bind (·.dst) with
    | none => none
    | some t => match env.get t with
      | some (.bool c) => some (c == b)
      | some (.tuple _) => some false
      | _ => none
theorem Fits.wanted {n : Nat} {ops : Array Oper} {env : Env} {a : Act} {o : Oper} {b : Bool} (h : Fits n env a) (hw : want ops env o = some b) :
    Region.wanted o (yielded ops a.tmps) = b := by
  unfold want at hw
  unfold Region.wanted
  cases hg : o.guard with
  | none => simpa [hg] using hw
  | some p =>
    obtain ⟨j, c⟩ := p
    simp only [hg] at hw ⊢
    unfold yielded
    cases hd : (ops[j]?).bind (·.dst) with
    | none => simp [hd] at hw
    | some t =>
      simp only [hd] at hw ⊢
      cases ht : env.get t with
      | none => simp [ht] at hw
      | some v =>
        simp only [ht] at hw
        have hat := h.get t v ht
        cases v <;> simp_all

/-! ## Code -/
section code
variable {P : Program} {n : Nat} {W : World} {env : Env} {H : Heap} {Q : Exit → Act → World → Prop} {K : Act → World → Prop}

theorem At.mono {K' : Act → World → Prop} (h : At n W env H K) (hk : ∀ a w, K a w → K' a w) : At n W env H K' := fun a w f e l => hk _ _ (h a w f e l)
theorem At_sub {e' : Env} (s : Sub e' env) (h : At n W e' H K) : At n W env H K := fun a w f e l => h a w (f.sub s) e l
theorem At_seq {x y : Code} (h : At n W env H (x.wp P (Exit.then (y.wp P Q) Q))) : At n W env H ((Code.seq x y).wp P Q) := fun a w f e l => wp_seq (h a w f e l)
theorem At_skip (h : At n W env H (Q .normal)) : At n W env H (Code.skip.wp P Q) := fun a w f e l => wp_skip (h a w f e l)
theorem At_label {l : Nat} (h : At n W env H (Q .normal)) : At n W env H ((Code.label l).wp P Q) := fun a w f e l => wp_label (h a w f e l)
theorem At_exit {id : Nat} (h : At n W env H (Q (.exit id))) : At n W env H ((Code.exit id).wp P Q) := fun a w f e l => wp_exit (h a w f e l)
theorem At_goto {l : Nat} (h : At n W env H (Q (.goto l))) : At n W env H ((Code.goto l).wp P Q) := fun a w f e l => wp_goto (h a w f e l)
theorem At_ret (h : At n W env H (Q .ret)) : At n W env H (Code.ret.wp P Q) := fun a w f e l => wp_ret (h a w f e l)
theorem At_block {id : Nat} {c : Code} (h : At n W env H (c.wp P (Exit.inBlock id Q))) : At n W env H ((Code.block id c).wp P Q) := fun a w f e l => wp_block (h a w f e l)
theorem At_scope {c : Code} (h : At n W env H (c.wp P (Exit.noGoto Q))) : At n W env H ((Code.scope c).wp P Q) := fun a w f e l => wp_scope_straight (h a w f e l)
theorem At_cond_true {c : Operand} {x y : Code} (hc : ev env c = some (.bool true)) (h : At n W env H (x.wp P Q)) : At n W env H ((Code.cond c x y).wp P Q) :=
  fun a w f e l => wp_cond_true (f.ev hc) (h a w f e l)
theorem At_cond_false {c : Operand} {x y : Code} (hc : ev env c = some (.bool false)) (h : At n W env H (y.wp P Q)) : At n W env H ((Code.cond c x y).wp P Q) :=
  fun a w f e l => wp_cond_false (f.ev hc) (h a w f e l)
theorem At_cond {c : Operand} {x y : Code} {t : Bool} (hc : ev env c = some (.bool t)) (ht : t = true → At n W env H (x.wp P Q)) (hf : t = false → At n W env H (y.wp P Q)) : At n W env H ((Code.cond c x y).wp P Q) :=
  fun a w f e l => wp_cond_split (f.ev hc) (fun h => ht h a w f e l) (fun h => hf h a w f e l)
theorem At_cond_dec {c : Operand} {x y : Code} {p : Prop} [Decidable p] (hc : ev env c = some (.bool (decide p))) (ht : p → At n W env H (x.wp P Q)) (hf : ¬ p → At n W env H (y.wp P Q)) : At n W env H ((Code.cond c x y).wp P Q) :=
  At_cond hc (fun h => ht (of_decide_eq_true h)) (fun h => hf (of_decide_eq_false h))

-- exits
theorem At_then_normal {Q : Exit → Act → World → Prop} (h : At n W env H K) : At n W env H (Exit.then K Q .normal) := h
theorem At_then_exit {id : Nat} (h : At n W env H (Q (.exit id))) : At n W env H (Exit.then K Q (.exit id)) := h
theorem At_then_ret (h : At n W env H (Q .ret)) : At n W env H (Exit.then K Q .ret) := h
theorem At_then_goto {l : Nat} (h : At n W env H (Q (.goto l))) : At n W env H (Exit.then K Q (.goto l)) := h
theorem At_inBlock_normal {id : Nat} (h : At n W env H (Q .normal)) : At n W env H (Exit.inBlock id Q .normal) := h
theorem At_inBlock_ret {id : Nat} (h : At n W env H (Q .ret)) : At n W env H (Exit.inBlock id Q .ret) := h
theorem At_inBlock_same {id : Nat} (h : At n W env H (Q .normal)) : At n W env H (Exit.inBlock id Q (.exit id)) := fun a w f e l => by
  simp only [Exit.inBlock, if_true]; exact h a w f e l
theorem At_inBlock_other {id k : Nat} (hk : Nat.beq k id = false) (h : At n W env H (Q (.exit k))) : At n W env H (Exit.inBlock id Q (.exit k)) := fun a w f e l => by
  have : k ≠ id := Nat.ne_of_beq_eq_false hk
  simp only [Exit.inBlock, this, if_false]; exact h a w f e l
theorem At_noGoto_normal (h : At n W env H (Q .normal)) : At n W env H (Exit.noGoto Q .normal) := h
theorem At_noGoto_ret (h : At n W env H (Q .ret)) : At n W env H (Exit.noGoto Q .ret) := h
theorem At_noGoto_exit {id : Nat} (h : At n W env H (Q (.exit id))) : At n W env H (Exit.noGoto Q (.exit id)) := h

/-- behind a round: the invariant again, lower -/
def Back {σ : Type} (n : Nat) (W : World) (I : σ → Env) (J : σ → Heap → Prop) (μ : σ → Nat) (s : σ) : Act → World → Prop :=
  fun a w => ∃ s', Fits n (I s') a ∧ J s' w.heap ∧ Like W w ∧ μ s' < μ s
theorem At_loop {σ : Type} (I : σ → Env) (J : σ → Heap → Prop) (μ : σ → Nat) (s0 : σ) {c : Code} (hs : Sub (I s0) env) (h0 : J s0 H)
    (round : ∀ s H, J s H → At n W (I s) H (c.wp P (Exit.then (Back n W I J μ s) Q))) : At n W env H ((Code.loop c).wp P Q) := fun a w f e l => by
  refine wp_loop_ghost (fun k a w => ∃ s, μ s = k ∧ Fits n (I s) a ∧ J s w.heap ∧ Like W w) (μ s0) ⟨s0, rfl, f.sub hs, e ▸ h0, l⟩ ?_
  rintro k a w ⟨s, rfl, hf, hJ, hl⟩
  refine wp_mono (round s w.heap hJ a w hf rfl hl) ?_
  intro e a' w' hq
  cases e with
  | normal => obtain ⟨s', hf', hJ', hl', hμ⟩ := hq; exact ⟨μ s', hμ, s', rfl, hf', hJ', hl'⟩
  | exit id => exact hq
  | goto l => exact hq
  | ret => exact hq
  | panic ch => exact hq
  | outgrown => exact hq
theorem At_back {σ : Type} {I : σ → Env} {J : σ → Heap → Prop} {μ : σ → Nat} {s : σ} (s' : σ) (hs : Sub (I s') env) (hJ : J s' H) (hμ : μ s' < μ s) : At n W env H (Back n W I J μ s) :=
  fun _ _ f e l => ⟨s', f.sub hs, e ▸ hJ, l, hμ⟩

-- a function's frame
def argEnv : Nat → List Value → Env
  | _, [] => []
  | k, v :: r => (k, v) :: argEnv (k + 1) r
theorem argEnv_get : ∀ (l : List Value) (k t : Nat) (v : Value), (argEnv k l).get t = some v → k ≤ t ∧ l[t - k]? = some v
  | [], k, t, v, h => by cases h
  | x :: r, k, t, v, h => by
    rw [argEnv, Env.get_cons] at h
    by_cases c : k = t
    · subst c; rw [if_pos rfl] at h; exact ⟨Nat.le_refl _, by simpa using h⟩
    · rw [if_neg c] at h
      obtain ⟨h1, h2⟩ := argEnv_get r (k + 1) t v h
      refine ⟨by omega, ?_⟩
      have : t - k = (t - (k + 1)) + 1 := by omega
      rw [this, List.getElem?_cons_succ]
      exact h2
/-- it returns, and what it returns is told by R -/
def Ret (R : Value → World → Prop) : Ending → World → Prop
  | .returned v, w => R v w
  | _, _ => False
theorem Ret.mono {R R' : Value → World → Prop} (h : ∀ v w, R v w → R' v w) : ∀ e w, Ret R e w → Ret R' e w := fun e w x => by
  cases e <;> first | exact h _ _ x | exact x.elim
/-- CALLED IN HEAP H IT RETURNS, and R tells of the value and the heap then; the streams are as they were -/
def Spc (P : Program) (f : FuncId) (args : Array Value) (H : Heap) (R : Value → Heap → Prop) : Prop :=
  ∀ w : World, w.heap = H → Calls P f args w (Ret fun v w' => Like w w' ∧ R v w'.heap)
theorem Spc.mono {f : FuncId} {args : Array Value} {R R' : Value → Heap → Prop} (h : Spc P f args H R) (hr : ∀ v H', R v H' → R' v H') : Spc P f args H R' :=
  fun w e => (h w e).mono (Ret.mono fun _ _ x => ⟨x.1, hr _ _ x.2⟩)
/-- what a function's body must come to -/
abbrev Post (P : Program) (fn : Func) (W : World) (R : Value → Heap → Prop) : Exit → Act → World → Prop := bodyPost P fn (Ret fun v w' => Like W w' ∧ R v w'.heap)
theorem spec_of {f : FuncId} {fn : Func} {c : Code} {args : List Value} {R : Value → Heap → Prop} (hf : P.funcs[f]? = some fn) (hb : fn.body = some c) (hn : fn.ntmps = n)
    (hl : Nat.ble args.length n = true) (h : ∀ W, At n W (argEnv 0 args) H (c.wp P (Post P fn W R))) : Spc P f args.toArray H R := fun w e => by
  refine calls_of_wp hf hb (h w _ w ⟨rfl, ?_, ?_⟩ e (Like.refl w))
  · have := Nat.le_of_ble_eq_true hl
    simp [hn]; omega
  · intro t v hv
    obtain ⟨_, h2⟩ := argEnv_get _ _ _ _ hv
    rw [Nat.sub_zero] at h2
    have hlt : t < args.length := by
      rcases Nat.lt_or_ge t args.length with h | h
      · exact h
      · rw [List.getElem?_eq_none h] at h2; cases h2
    rw [Array.getElem?_append_left (by simpa using hlt)]
    simpa using h2

-- results
theorem At_ret0 {fn : Func} {R : Value → Heap → Prop} (hr : fn.results = #[]) (h : R (.tuple #[]) H) {e : Exit} (he : e = .normal ∨ e = .ret) : At n W env H (Post P fn W R e) := fun a w f eq l => by
  have : (results fn a.tmps).run P w = .ok (.tuple #[]) w := by simp [results, hr]
  subst eq
  rcases he with rfl | rfl <;> exact ⟨f.defers, _, this, l, h⟩
theorem At_ret1 {fn : Func} {R : Value → Heap → Prop} {t : Tmp} {v : Value} (hr : fn.results = #[.tmp t]) (hv : env.get t = some v) (h : R v H) : At n W env H (Post P fn W R .ret) := fun a w f eq l => by
  have hg : a.tmps.getD t undef = v := f.ev (x := .tmp t) hv
  have : (results fn a.tmps).run P w = .ok v w := by rw [← hg]; simp [results, hr]
  subst eq
  exact ⟨f.defers, _, this, l, h⟩
theorem At_ret2 {fn : Func} {R : Value → Heap → Prop} {t t2 : Tmp} {v v2 : Value} (hr : fn.results = #[.tmp t, .tmp t2]) (hv : env.get t = some v) (hv2 : env.get t2 = some v2) (h : R (.tuple #[v, v2]) H) : At n W env H (Post P fn W R .ret) := fun a w f eq l => by
  have hg : a.tmps.getD t undef = v := f.ev (x := .tmp t) hv
  have hg2 : a.tmps.getD t2 undef = v2 := f.ev (x := .tmp t2) hv2
  have : (results fn a.tmps).run P w = .ok (.tuple #[v, v2]) w := by rw [← hg, ← hg2]; simp [results, hr]
  subst eq
  exact ⟨f.defers, _, this, l, h⟩
theorem At_ret3 {fn : Func} {R : Value → Heap → Prop} {t t2 t3 : Tmp} {v v2 v3 : Value} (hr : fn.results = #[.tmp t, .tmp t2, .tmp t3]) (hv : env.get t = some v) (hv2 : env.get t2 = some v2) (hv3 : env.get t3 = some v3)
    (h : R (.tuple #[v, v2, v3]) H) : At n W env H (Post P fn W R .ret) := fun a w f eq l => by
  have hg : a.tmps.getD t undef = v := f.ev (x := .tmp t) hv
  have hg2 : a.tmps.getD t2 undef = v2 := f.ev (x := .tmp t2) hv2
  have hg3 : a.tmps.getD t3 undef = v3 := f.ev (x := .tmp t3) hv3
  have : (results fn a.tmps).run P w = .ok (.tuple #[v, v2, v3]) w := by rw [← hg, ← hg2, ← hg3]; simp [results, hr]
  subst eq
  exact ⟨f.defers, _, this, l, h⟩

-- regions in the text's order
theorem At_region {id : Nat} {l : List Oper} (h : At n W env H (wpList P l.toArray Q l)) : At n W env H ((Code.region id l.toArray false).wp P Q) := fun a w f e k => wp_region_lit (h a w f e k)
variable {ops : Array Oper} {rest : List Oper} {o : Oper} {H' : Heap}
theorem At_nil (h : At n W env H (Q .normal)) : At n W env H (wpList P ops Q []) := h
theorem At_off {d : Nat} (hw : want ops env o = some false) (hd : o.dst = some d) (hn : Nat.blt d n = true) (k : At n W ((d, undef) :: env) H (wpList P ops Q rest)) : At n W env H (wpList P ops Q (o :: rest)) := fun a w f e l => by
  unfold wpList
  rw [f.wanted hw, hd]
  simpa using k _ w (f.put hn _) e l
theorem At_off_none (hw : want ops env o = some false) (hd : o.dst = none) (k : At n W env H (wpList P ops Q rest)) : At n W env H (wpList P ops Q (o :: rest)) := fun a w f e l => by
  unfold wpList
  rw [f.wanted hw, hd]
  simpa using k _ w (f.put_none _) e l

/-- in heap H the operation gives v, and the heap is H' then -/
def Runs (P : Program) (n : Nat) (env : Env) (H : Heap) (o : Oper) (v : Value) (H' : Heap) : Prop :=
  ∀ a w, Fits n env a → w.heap = H → ∃ w', (execOp a.eval o).run P w = .ok (.value v) w' ∧ w'.heap = H' ∧ Like w w'
def Does (P : Program) (n : Nat) (env : Env) (H : Heap) (o : Oper) (H' : Heap) : Prop :=
  ∀ a w, Fits n env a → w.heap = H → ∃ w', (execOp a.eval o).run P w = .ok .skip w' ∧ w'.heap = H' ∧ Like w w'
/-- it reads the heap alone -/
def Reads (P : Program) (n : Nat) (env : Env) (H : Heap) (o : Oper) (v : Value) : Prop := ∀ a w, Fits n env a → w.heap = H → (execOp a.eval o).run P w = .ok (.value v) w
/-- ... not even that -/
def Pure (P : Program) (n : Nat) (env : Env) (o : Oper) (v : Value) : Prop := ∀ a w, Fits n env a → (execOp a.eval o).run P w = .ok (.value v) w
theorem Reads.runs {v : Value} (h : Reads P n env H o v) : Runs P n env H o v H := fun a w f e => ⟨w, h a w f e, e, Like.refl w⟩
theorem Pure.reads {v : Value} (h : Pure P n env o v) : Reads P n env H o v := fun a w f _ => h a w f
/-- an operation of a region in the text's order, by its own weakest precondition -/
theorem At_wp (h : At n W env H (fun a w => o.wp P a w (wpList P ops Q rest) Q)) (hw : want ops env o = some true) : At n W env H (wpList P ops Q (o :: rest)) := fun a w f e l => by
  unfold wpList
  rw [f.wanted hw, if_pos rfl]
  exact .inl (h a w f e l)
theorem W_run {d : Nat} {v : Value} (hr : Runs P n env H o v H') (hd : o.dst = some d) (hn : Nat.blt d n = true) (k : At n W ((d, v) :: env) H' K) : At n W env H (fun a w => o.wp P a w K Q) := fun a w f e l => by
  unfold Oper.wp
  obtain ⟨w', h1, h2, h3⟩ := hr a w f e
  rw [h1, Oper.upon_value, hd]
  exact k _ w' (f.put hn _) h2 (l.trans h3)
theorem W_do (hr : Does P n env H o H') (hd : o.dst = none) (k : At n W env H' K) : At n W env H (fun a w => o.wp P a w K Q) := fun a w f e l => by
  unfold Oper.wp
  obtain ⟨w', h1, h2, h3⟩ := hr a w f e
  rw [h1, Oper.upon_skip, hd]
  exact k _ w' (f.put_none _) h2 (l.trans h3)
theorem At_op {d : Nat} {v : Value} (hr : Runs P n env H o v H') (hw : want ops env o = some true) (hd : o.dst = some d) (hn : Nat.blt d n = true)
    (k : At n W ((d, v) :: env) H' (wpList P ops Q rest)) : At n W env H (wpList P ops Q (o :: rest)) := At_wp (W_run hr hd hn k) hw
theorem At_read {d : Nat} {v : Value} (hr : Reads P n env H o v) (hw : want ops env o = some true) (hd : o.dst = some d) (hn : Nat.blt d n = true)
    (k : At n W ((d, v) :: env) H (wpList P ops Q rest)) : At n W env H (wpList P ops Q (o :: rest)) := At_op hr.runs hw hd hn k
theorem At_pure {d : Nat} {v : Value} (hr : Pure P n env o v) (hw : want ops env o = some true) (hd : o.dst = some d) (hn : Nat.blt d n = true)
    (k : At n W ((d, v) :: env) H (wpList P ops Q rest)) : At n W env H (wpList P ops Q (o :: rest)) := At_read hr.reads hw hd hn k
/-- a value that a guard looks at, decided -/
theorem At_split (t : Nat) {c : Bool} (h : env.get t = some (.bool c)) (ht : c = true → At n W ((t, .bool true) :: env) H K) (hf : c = false → At n W ((t, .bool false) :: env) H K) : At n W env H K := fun a w f e l => by
  have hs : ∀ c', c = c' → Sub ((t, .bool c') :: env) env := fun c' e => .cons (by rw [h, e]) (fun _ _ x => x)
  cases c
  · exact hf rfl a w (f.sub (hs _ rfl)) e l
  · exact ht rfl a w (f.sub (hs _ rfl)) e l
theorem At_split_dec (t : Nat) {p : Prop} [Decidable p] (h : env.get t = some (.bool (decide p))) (ht : p → At n W ((t, .bool true) :: env) H K) (hf : ¬ p → At n W ((t, .bool false) :: env) H K) : At n W env H K :=
  At_split t h (fun h => ht (of_decide_eq_true h)) (fun h => hf (of_decide_eq_false h))
/-- a value told in another way -/
theorem At_tell (t : Nat) {v : Value} (v' : Value) (h : env.get t = some v) (e : v = v') (k : At n W ((t, v') :: env) H K) : At n W env H K :=
  At_sub (.cons (by rw [h, e]) (fun _ _ x => x)) k
/-- what a piece of code comes to is told by another frame's list and a property of the heap: ways meet again here -/
theorem At_cut {σ : Type} (E : σ → Env) (J : σ → Heap → Prop) {c : Code} (h : At n W env H (c.wp P (Exit.then (fun a w => ∃ s, Fits n (E s) a ∧ J s w.heap ∧ Like W w) Q)))
    (k : ∀ s H', J s H' → At n W (E s) H' K) : At n W env H (c.wp P (Exit.then K Q)) := fun a w f e l => by
  refine wp_mono (h a w f e l) ?_
  intro e a w hq
  cases e with
  | normal => obtain ⟨s, hf, hJ, hl⟩ := hq; exact k s _ hJ a w hf rfl hl
  | exit id => exact hq
  | goto l => exact hq
  | ret => exact hq
  | panic ch => exact hq
  | outgrown => exact hq
theorem At_meet {σ : Type} {E : σ → Env} {J : σ → Heap → Prop} (s : σ) (hs : Sub (E s) env) (hJ : J s H) : At n W env H (fun a w => ∃ s, Fits n (E s) a ∧ J s w.heap ∧ Like W w) :=
  fun _ _ f e l => ⟨s, f.sub hs, e ▸ hJ, l⟩

-- calls
class FnOk (P : Program) (f : FuncId) : Prop where
  h : ∃ fn, P.funcs[f]? = some fn ∧ (fn.name == "runtime.NumGoroutine") = false ∧ fn.body.isNone = false
theorem run_callFunc {w : World} (f : FuncId) [h : FnOk P f] (args : Array Value) : (callFunc f args).run P w = .ok (.enter f args) w := by
  obtain ⟨fn, h1, h2, h3⟩ := h.h
  have h2' : ¬ fn.name = "runtime.NumGoroutine" := by simpa using h2
  have h3' : ¬ fn.body = none := fun e => by simp [e] at h3
  unfold callFunc
  simp [program, Sem.run, h1, h2', h3']
theorem wp_call_func {w : World} {a : Act} {f : FuncId} [FnOk P f] {args : List Operand} {ats : Array TypeId} {cap : Array Value} {fo : Operand} (ho : o.op = .call ⟨.value fo, args.toArray, ats⟩) (hfo : a.eval fo = .func (.func f) #[] cap) {vs : List Value} (hvs : args.map a.eval = vs)
    {R : Value → Heap → Prop} (hc : Spc P f (vs.toArray ++ cap) w.heap R) {K : Act → World → Prop} (k : ∀ v w', Like w w' → R v w'.heap → K (a.put o.dst v) w') : o.wp P a w K Q := by
  unfold Oper.wp
  have hrun : (execOp a.eval o).run P w = .ok (.enter f (vs.toArray ++ cap)) w := by
    unfold execOp
    rw [ho]
    simp only [resolve, hfo, Deferred.ofValue, invoke]
    simp [run_callFunc, ← hvs]
  rw [hrun, Oper.upon_enter]
  refine (hc w rfl).mono ?_
  intro e w' he
  cases e with
  | returned v => exact k v w' he.1 he.2
  | panicked c => exact he.elim
  | outgrown => exact he.elim
theorem W_call {d : Nat} {f : FuncId} [FnOk P f] {args : List Operand} {ats : Array TypeId} {vs : List Value} {R : Value → Heap → Prop} (ho : o.op = .call ⟨.value (.func f), args.toArray, ats⟩)
    (hvs : evs env args = some vs) (hc : Spc P f vs.toArray H R) (hd : o.dst = some d) (hn : Nat.blt d n = true)
    (k : ∀ v H', R v H' → At n W ((d, v) :: env) H' K) : At n W env H (fun a w => o.wp P a w K Q) := fun a w f' e l => by
  subst e
  refine wp_call_func ho rfl (f'.evs hvs) (by simpa using hc) ?_
  intro v w' hl hR
  rw [hd]
  exact k v _ hR _ w' (f'.put hn _) rfl (l.trans hl)
theorem W_call_none {f : FuncId} [FnOk P f] {args : List Operand} {ats : Array TypeId} {vs : List Value} {R : Value → Heap → Prop} (ho : o.op = .call ⟨.value (.func f), args.toArray, ats⟩)
    (hvs : evs env args = some vs) (hc : Spc P f vs.toArray H R) (hd : o.dst = none)
    (k : ∀ v H', R v H' → At n W env H' K) : At n W env H (fun a w => o.wp P a w K Q) := fun a w f' e l => by
  subst e
  refine wp_call_func ho rfl (f'.evs hvs) (by simpa using hc) ?_
  intro v w' hl hR
  rw [hd]
  exact k v _ hR _ w' (f'.put_none _) rfl (l.trans hl)
/-- a function value, with what it has caught -/
theorem W_call_value {d : Nat} {f : FuncId} [FnOk P f] {x : Operand} {cap : Array Value} {args : List Operand} {ats : Array TypeId} {vs : List Value} {R : Value → Heap → Prop} (ho : o.op = .call ⟨.value x, args.toArray, ats⟩)
    (hx : ev env x = some (.func (.func f) #[] cap)) (hvs : evs env args = some vs) (hc : Spc P f (vs.toArray ++ cap) H R) (hd : o.dst = some d) (hn : Nat.blt d n = true)
    (k : ∀ v H', R v H' → At n W ((d, v) :: env) H' K) : At n W env H (fun a w => o.wp P a w K Q) := fun a w f' e l => by
  subst e
  refine wp_call_func ho (f'.ev hx) (f'.evs hvs) hc ?_
  intro v w' hl hR
  rw [hd]
  exact k v _ hR _ w' (f'.put hn _) rfl (l.trans hl)
end code
end Ev
