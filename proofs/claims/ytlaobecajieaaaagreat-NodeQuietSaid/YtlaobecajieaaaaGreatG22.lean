/- A tick of a cluster without jobs; what is owed by it. -/
import Derived.Test.YtlaobecajieaaaaGreatG21
import Derived.ScopeJumps
namespace Go.Proofs.YtlaobecajieaaaaGreat
open Go Ev
set_option linter.unusedVariables false
set_option linter.unusedSimpArgs false
section
variable {P : Program} {n : Nat} {W : World} {env : Env} {H0 H : Heap} {R L L' : Bks} {Q : Exit → Act → World → Prop} {K : Act → World → Prop} {ops : Array Oper} {rest : List Oper}
variable {ds : Option Tmp} {ty : TypeId} {pos : String} {af : Array Edge} {gd : Option (Nat × Bool)}
theorem p_indexStr {x y : Operand} {t : TypeId} {s : ByteArray} {k : IntKind} {i : Nat} {b : UInt8} {s1 s2 : Nat} {z : Value} [h : Ty P t .string s1 s2 z] (hx : ev env x = some (.string s)) (hy : ev env y = some (.int k i)) (hb : s[i]? = some b) :
    Ev.Pure P n env ⟨ds, .index t x y, ty, pos, af, gd⟩ (.int .u8 b.toNat) := fun a w f => by
  simp [execOp, f.ev hx, f.ev hy, Instr.index, asIntOf, run_underlying h.und, hb]
theorem calmJ {l : Nat} {J : Act → World → Prop} (h : Ev.Calm Q) : Ev.Calm (Exit.jump l J Q) := h
theorem At_jump_normal {l : Nat} {J : Act → World → Prop} (h : At n W env H (Q .normal)) : At n W env H (Exit.jump l J Q .normal) := h
theorem At_jump_ret {l : Nat} {J : Act → World → Prop} (h : At n W env H (Q .ret)) : At n W env H (Exit.jump l J Q .ret) := h
theorem At_jump_goto {l : Nat} {J : Act → World → Prop} (h : At n W env H J) : At n W env H (Exit.jump l J Q (.goto l)) := fun a w f e k => ⟨rfl, h a w f e k⟩
theorem scopeM {c rest : Code} (l : Nat) (E : Env) (L' : Bks) (hf : findLabel c l = some rest) (first : Am n W env H0 R L (c.wp P (Exit.jump l (fun a w => Fits n E a ∧ Mem H0 R L' w.heap ∧ Like W w) Q)))
    (pass : Am n W E H0 R L' (rest.wp P (Exit.jump l (fun _ _ => False) Q))) : Am n W env H0 R L ((Code.scope c).wp P Q) := fun H hm a w f e k =>
  wp_scope_jumps l (fun a w => Fits n E a ∧ Mem H0 R L' w.heap ∧ Like W w) (fun _ _ => 0) hf (first H hm a w f e k) (fun a w hj => by
    refine wp_mono (pass w.heap hj.2.1 a w hj.1 rfl hj.2.2) ?_
    intro e a' w' hq
    cases e with
    | goto l' => exact hq.2.elim
    | normal => exact hq
    | exit id => exact hq
    | ret => exact hq
    | panic ch => exact hq
    | outgrown => exact hq)
theorem meetJ {E : Env} (hs : Sub E env) (hm : ∀ H, Mem H0 R L H → Mem H0 R L' H) : Am n W env H0 R L (fun a w => Fits n E a ∧ Mem H0 R L' w.heap ∧ Like W w) := fun H h a w f e k => ⟨f.sub hs, e ▸ hm H h, k⟩
theorem makeMapM {d : Nat} {t : TypeId} (hw : want ops env ⟨some d, .makeMap t none, ty, pos, af, gd⟩ = some true) (hn : Nat.blt d n = true)
    (k : ∀ b, Am n W ((d, .map (some b)) :: env) H0 R L (wpList P ops Q rest)) : Am n W env H0 R L (wpList P ops Q (⟨some d, .makeMap t none, ty, pos, af, gd⟩ :: rest)) := fun H hm =>
  At_wp (W_new (v := fun b => .map (some b)) (obj := .map #[] 0) (fun a w f eq => by
    subst eq
    have hr : (Instr.makeMap t none).run P w = .ok (.map (some w.heap.size)) (w.alloc (.map #[] 0)) := rfl
    exact ⟨w.alloc (.map #[] 0), by simp [execOp, hr], rfl, ⟨rfl, rfl, rfl⟩⟩) rfl hn (fun b H' hn => k b H' (hm.ext hn.ext))) hw
end
theorem st_one (ep recs : Nat) : (stC 0 2 ep 0 recs nil0 nil0).all (·.oneCell') = true := rfl
attribute [local irreducible] Go.wpList Go.bodyPost Go.Code.wp Go.Exit.then Go.Exit.inBlock Go.Exit.noGoto Ev.wpAnyG Go.Oper.wp Ev.Back Ev.Left Ev.Spc Ev.At Ev.Pure Ev.Reads Ev.Runs Ev.Does Ev.Cell Ev.Am Ev.Has Ev.Kn Go.Code.rounds

theorem len64_0 (H : Heap) : Spc Tryz.prog 341 #[.int .u64 0] H fun r H' => Ext H H' ∧ r = .int .i64 0 := by
  refine spec_of Tryz.func341 rfl Tryz.ntmps341 rfl (fun W => ?_)
  refine Am.new ?_
  repeat (first | refine codeM (k := ?_) | refine condM (k := ?_) | refine offM (k := ?_) | refine offMn (k := ?_) | refine pureM (k := ?_) | refine loadM (k := ?_) | refine loadB (k := ?_) | refine storeM (k := ?_) | refine storeB (k := ?_))
  refine pM (p_convInt rfl) rfl rfl rfl ?_
  refine tellM 21 (.int .u8 (0 : Nat)) rfl (by rw [IntWalk.u8_in _ (by omega)]; rfl) ?_
  refine pM (p_indexStr (b := 0) rfl rfl (by kernel_rfl)) rfl rfl rfl ?_
  refine pM (p_convInt rfl) rfl rfl rfl ?_
  refine tellM 23 (.int .i64 0) rfl (by rw [IntWalk.i64_in _ (by decide)]; rfl) ?_
  repeat (first | refine codeM (k := ?_) | refine condM (k := ?_) | refine offM (k := ?_) | refine offMn (k := ?_) | refine pureM (k := ?_) | refine loadM (k := ?_) | refine loadB (k := ?_) | refine storeM (k := ?_) | refine storeB (k := ?_))
  exact ret1M rfl rfl (fun H hm => ⟨hm.toExt (by repeat (first | exact Pick.nil | refine Pick.keep ?_ | refine Pick.drop (by first | assumption | omega) ?_)), rfl⟩)
theorem len_0 (H : Heap) : Spc Tryz.prog 306 #[.int .u64 0] H fun r H' => Ext H H' ∧ r = .int .i64 0 := by
  refine spec_of Tryz.func306 rfl Tryz.ntmps306 rfl (fun W => ?_)
  refine Am.new ?_
  repeat (first | refine codeM (k := ?_) | refine condM (k := ?_) | refine offM (k := ?_) | refine offMn (k := ?_) | refine pureM (k := ?_) | refine loadM (k := ?_) | refine loadB (k := ?_) | refine storeM (k := ?_) | refine storeB (k := ?_))
  refine callM rfl rfl rfl rfl rfl (fun Hc hm => len64_0 Hc) ?_
  rintro Hc _ H1 hm ⟨x1, rfl⟩
  refine Am.on (hm.ext x1) ?_
  repeat (first | refine codeM (k := ?_) | refine condM (k := ?_) | refine offM (k := ?_) | refine offMn (k := ?_) | refine pureM (k := ?_) | refine loadM (k := ?_) | refine loadB (k := ?_) | refine storeM (k := ?_) | refine storeB (k := ?_))
  exact ret1M rfl rfl (fun H hm => ⟨hm.toExt (by repeat (first | exact Pick.nil | refine Pick.keep ?_ | refine Pick.drop (by first | assumption | omega) ?_)), rfl⟩)
theorem insertion0 (H : Heap) (s f : Value) : Spc Tryz.prog 332 #[s, .int .i64 0, .int .i64 0, f] H fun r H' => Ext H H' ∧ r = .tuple #[] := by
  refine spec_of Tryz.func332 rfl Tryz.ntmps332 rfl (fun W => ?_)
  refine Am.new ?_
  repeat (first | refine codeM (k := ?_) | refine condM (k := ?_) | refine offM (k := ?_) | refine offMn (k := ?_) | refine pureM (k := ?_) | refine loadM (k := ?_) | refine loadB (k := ?_) | refine storeM (k := ?_) | refine storeB (k := ?_))
  exact ret0M rfl (.inl rfl) (fun H hm => ⟨hm.toExt (by repeat (first | exact Pick.nil | refine Pick.keep ?_ | refine Pick.drop (by first | assumption | omega) ?_)), rfl⟩)
theorem pdq0 (H : Heap) (s f : Value) : Spc Tryz.prog 305 #[s, .int .i64 0, .int .i64 0, .int .i64 0, f] H fun r H' => Ext H H' ∧ r = .tuple #[] := by
  refine spec_of Tryz.func305 rfl Tryz.ntmps305 rfl (fun W => ?_)
  refine Am.new ?_
  repeat (first | refine codeM (k := ?_) | refine condM (k := ?_) | refine offM (k := ?_) | refine offMn (k := ?_) | refine pureM (k := ?_) | refine loadM (k := ?_) | refine loadB (k := ?_) | refine storeM (k := ?_) | refine storeB (k := ?_))
  refine callM rfl rfl rfl rfl rfl (fun Hc hm => insertion0 Hc s f) ?_
  rintro Hc _ H1 hm ⟨x1, rfl⟩
  refine Am.on (hm.ext x1) ?_
  repeat (first | refine codeM (k := ?_) | refine condM (k := ?_) | refine offM (k := ?_) | refine offMn (k := ?_) | refine pureM (k := ?_) | refine loadM (k := ?_) | refine loadB (k := ?_) | refine storeM (k := ?_) | refine storeB (k := ?_))
  exact ret0M rfl (.inr rfl) (fun H hm => ⟨hm.toExt (by repeat (first | exact Pick.nil | refine Pick.keep ?_ | refine Pick.drop (by first | assumption | omega) ?_)), rfl⟩)
theorem sort0 (H : Heap) (g : Nat) (f : Value) : Spc Tryz.prog 253 #[.slice (some ⟨g, 0, none⟩) 0 0, f] H fun r H' => Ext H H' ∧ r = .tuple #[] := by
  refine spec_of Tryz.func253 rfl Tryz.ntmps253 rfl (fun W => ?_)
  refine Am.new ?_
  repeat (first | refine codeM (k := ?_) | refine condM (k := ?_) | refine offM (k := ?_) | refine offMn (k := ?_) | refine pureM (k := ?_) | refine loadM (k := ?_) | refine loadB (k := ?_) | refine storeM (k := ?_) | refine storeB (k := ?_))
  refine pM (p_convInt rfl) rfl rfl rfl ?_
  refine tellM 10 (.int .u64 0) rfl (by rw [IntWalk.u64_in _ (by decide)]; rfl) ?_
  refine callM rfl rfl rfl rfl rfl (fun Hc hm => len_0 Hc) ?_
  rintro Hc _ H1 hm ⟨x1, rfl⟩
  refine Am.on (hm.ext x1) ?_
  repeat (first | refine codeM (k := ?_) | refine condM (k := ?_) | refine offM (k := ?_) | refine offMn (k := ?_) | refine pureM (k := ?_) | refine loadM (k := ?_) | refine loadB (k := ?_) | refine storeM (k := ?_) | refine storeB (k := ?_))
  refine callM rfl rfl rfl rfl rfl (fun Hc hm => pdq0 Hc _ f) ?_
  rintro Hc _ H1 hm ⟨x1, rfl⟩
  refine Am.on (hm.ext x1) ?_
  repeat (first | refine codeM (k := ?_) | refine condM (k := ?_) | refine offM (k := ?_) | refine offMn (k := ?_) | refine pureM (k := ?_) | refine loadM (k := ?_) | refine loadB (k := ?_) | refine storeM (k := ?_) | refine storeB (k := ?_))
  exact ret0M rfl (.inl rfl) (fun H hm => ⟨hm.toExt (by repeat (first | exact Pick.nil | refine Pick.keep ?_ | refine Pick.drop (by first | assumption | omega) ?_)), rfl⟩)
theorem order0 (H : Heap) (now : Int) : Spc Tryz.prog 174 #[nil0, nil0, .int .i64 now] H fun r H' => Ext H H' ∧ ∃ g, r = .slice (some ⟨g, 0, none⟩) 0 0 := by
  refine spec_of Tryz.func174 rfl Tryz.ntmps174 rfl (fun W => ?_)
  refine Am.new ?_
  repeat (first | refine codeM (k := ?_) | refine condM (k := ?_) | refine offM (k := ?_) | refine offMn (k := ?_) | refine pureM (k := ?_) | refine loadM (k := ?_) | refine loadB (k := ?_) | refine storeM (k := ?_) | refine storeB (k := ?_))
  refine boxM rfl rfl rfl rfl (fun x hx => ?_)
  repeat (first | refine codeM (k := ?_) | refine condM (k := ?_) | refine offM (k := ?_) | refine offMn (k := ?_) | refine pureM (k := ?_) | refine loadM (k := ?_) | refine loadB (k := ?_) | refine storeM (k := ?_) | refine storeB (k := ?_))
  refine mk0M rfl rfl rfl rfl (fun a ha => ?_)
  refine allocM rfl rfl rfl (fun y hy => ?_)
  repeat (first | refine codeM (k := ?_) | refine condM (k := ?_) | refine offM (k := ?_) | refine offMn (k := ?_) | refine pureM (k := ?_) | refine loadM (k := ?_) | refine loadB (k := ?_) | refine storeM (k := ?_) | refine storeB (k := ?_))
  refine mk0M rfl rfl rfl rfl (fun b hb => ?_)
  repeat (first | refine codeM (k := ?_) | refine condM (k := ?_) | refine offM (k := ?_) | refine offMn (k := ?_) | refine pureM (k := ?_) | refine loadM (k := ?_) | refine loadB (k := ?_) | refine storeM (k := ?_) | refine storeB (k := ?_))
  refine callM rfl rfl rfl rfl rfl (fun Hc hm => sort0 Hc b _) ?_
  rintro Hc _ H1 hm ⟨x1, rfl⟩
  refine Am.on (hm.ext x1) ?_
  repeat (first | refine codeM (k := ?_) | refine condM (k := ?_) | refine offM (k := ?_) | refine offMn (k := ?_) | refine pureM (k := ?_) | refine loadM (k := ?_) | refine loadB (k := ?_) | refine storeM (k := ?_) | refine storeB (k := ?_))
  exact ret1M rfl rfl (fun H hm => ⟨hm.toExt (by repeat (first | exact Pick.nil | refine Pick.keep ?_ | refine Pick.drop (by first | assumption | omega) ?_)), b, rfl⟩)
theorem ready0 (H : Heap) (now : Int) : Spc Tryz.prog 87 #[nil0, nil0, .int .i64 now] H fun r H' => Ext H H' ∧ r = nil0 := by
  refine spec_of Tryz.func87 rfl Tryz.ntmps87 rfl (fun W => ?_)
  refine Am.new ?_
  repeat (first | refine codeM (k := ?_) | refine condM (k := ?_) | refine offM (k := ?_) | refine offMn (k := ?_) | refine pureM (k := ?_) | refine loadM (k := ?_) | refine loadB (k := ?_) | refine storeM (k := ?_) | refine storeB (k := ?_))
  refine callM rfl rfl rfl rfl rfl (fun Hc hm => order0 Hc now) ?_
  rintro Hc _ H1 hm ⟨x1, g, rfl⟩
  refine Am.on (hm.ext x1) ?_
  repeat (first | refine codeM (k := ?_) | refine condM (k := ?_) | refine offM (k := ?_) | refine offMn (k := ?_) | refine pureM (k := ?_) | refine loadM (k := ?_) | refine loadB (k := ?_) | refine storeM (k := ?_) | refine storeB (k := ?_))
  exact ret1M rfl rfl (fun H hm => ⟨hm.toExt (by repeat (first | exact Pick.nil | refine Pick.keep ?_ | refine Pick.drop (by first | assumption | omega) ?_)), rfl⟩)
theorem cloneStep0 (H : Heap) : Spc Tryz.prog 257 #[nil0] H fun r H' => Ext H H' ∧ r = nil0 := by
  refine spec_of Tryz.func257 rfl Tryz.ntmps257 rfl (fun W => ?_)
  refine Am.new ?_
  repeat (first | refine codeM (k := ?_) | refine condM (k := ?_) | refine offM (k := ?_) | refine offMn (k := ?_) | refine pureM (k := ?_) | refine loadM (k := ?_) | refine loadB (k := ?_) | refine storeM (k := ?_) | refine storeB (k := ?_))
  exact ret1M rfl rfl (fun H hm => ⟨hm.toExt (by repeat (first | exact Pick.nil | refine Pick.keep ?_ | refine Pick.drop (by first | assumption | omega) ?_)), rfl⟩)
theorem twinP {H : Heap} {p : Nat} (hp : Ro H p (profC nil0)) : Spc Tryz.prog 175 #[ptr p] H fun r H' => Ext H H' ∧ ∃ q, r = ptr q := by
  refine spec_of Tryz.func175 rfl Tryz.ntmps175 rfl (fun W => ?_)
  refine Am.on (Mem.startR hp) ?_
  repeat (first | refine codeM (k := ?_) | refine condM (k := ?_) | refine offM (k := ?_) | refine offMn (k := ?_) | refine pureM (k := ?_) | refine loadM (k := ?_) | refine loadB (k := ?_) | refine storeM (k := ?_) | refine storeB (k := ?_))
  refine drawM [3, 7] Tryz.mixed ?_
  first | refine dpM 0 (k := ?_) | refine doffM 0 (k := ?_) | refine dldM 0 rfl (k := ?_) | refine doffNM 0 (k := ?_) | refine dldB 0 rfl (k := ?_)
  first | refine dpM 1 (k := ?_) | refine doffM 1 (k := ?_) | refine dldM 1 rfl (k := ?_) | refine doffNM 1 (k := ?_) | refine dldB 1 rfl (k := ?_)
  first | refine dpM 2 (k := ?_) | refine doffM 2 (k := ?_) | refine dldM 2 rfl (k := ?_) | refine doffNM 2 (k := ?_) | refine dldB 2 rfl (k := ?_)
  first | refine dpM 3 (k := ?_) | refine doffM 3 (k := ?_) | refine dldM 3 rfl (k := ?_) | refine doffNM 3 (k := ?_) | refine dldB 3 rfl (k := ?_)
  first | refine dpM 4 (k := ?_) | refine doffM 4 (k := ?_) | refine dldM 4 rfl (k := ?_) | refine doffNM 4 (k := ?_) | refine dldB 4 rfl (k := ?_)
  first | refine dpM 5 (k := ?_) | refine doffM 5 (k := ?_) | refine dldM 5 rfl (k := ?_) | refine doffNM 5 (k := ?_) | refine dldB 5 rfl (k := ?_)
  first | refine dpM 6 (k := ?_) | refine doffM 6 (k := ?_) | refine dldM 6 rfl (k := ?_) | refine doffNM 6 (k := ?_) | refine dldB 6 rfl (k := ?_)
  first | refine dpM 7 (k := ?_) | refine doffM 7 (k := ?_) | refine dldM 7 rfl (k := ?_) | refine doffNM 7 (k := ?_) | refine dldB 7 rfl (k := ?_)
  refine dxL 8 rfl (by kernel_rfl) rfl (fun Hx => ?_)
  refine callW rfl rfl rfl rfl (fun Hc hm => cloneStep0 Hc) ?_
  rintro Hc _ H1 hm ⟨x1, rfl⟩
  refine Am.on (hm.ext x1) ?_
  first | refine leftA (k := ?_) | refine leftF (by kernel_rfl) ?_
  refine dqM 9 rfl (p_build (profC nil0) rfl rfl) (k := ?_)
  refine dxL 10 rfl (by kernel_rfl) rfl (fun Hx => ?_)
  refine At_am ?_
  intro H1 hm
  refine W_box (cs := #[amt 2, nil0]) rfl rfl rfl ?_
  intro q H2 hn
  refine Am.on (hm.ext hn.ext) ?_
  first | refine leftA (k := ?_) | refine leftF (by kernel_rfl) ?_
  first | refine dpM 11 (k := ?_) | refine doffM 11 (k := ?_) | refine dldM 11 rfl (k := ?_) | refine doffNM 11 (k := ?_) | refine dldB 11 rfl (k := ?_)
  refine ddoneM (by kernel_rfl) ?_
  repeat (first | refine codeM (k := ?_) | refine condM (k := ?_) | refine offM (k := ?_) | refine offMn (k := ?_) | refine pureM (k := ?_) | refine loadM (k := ?_) | refine loadB (k := ?_) | refine storeM (k := ?_) | refine storeB (k := ?_))
  exact ret1M rfl rfl (fun H hm => ⟨hm.toExt (by repeat (first | exact Pick.nil | refine Pick.keep ?_ | refine Pick.drop (by first | assumption | omega) ?_)), q, rfl⟩)
theorem keep0 (H : Heap) (p : Value) (now : Int) : Spc Tryz.prog 176 #[p, nil0, nil0, .int .i64 now] H fun r H' => Ext H H' ∧ r = nil0 := by
  refine spec_of Tryz.func176 rfl Tryz.ntmps176 rfl (fun W => ?_)
  refine Am.new ?_
  refine codeM (k := ?_)
  refine codeM (k := ?_)
  refine pureM (k := ?_)
  refine codeM (k := ?_)
  refine codeM (k := ?_)
  refine scopeM 0 [(9, nil0)] [] rfl ?_ ?_
  · repeat (first | refine codeM (k := ?_) | refine condM (k := ?_) | refine offM (k := ?_) | refine offMn (k := ?_) | refine pureM (k := ?_) | refine loadM (k := ?_) | refine loadB (k := ?_) | refine storeM (k := ?_) | refine storeB (k := ?_))
    refine drawM [] Tryz.mixed ?_
    first | refine dpM 0 (hq := (by repeat (first | exact Calm.post | apply Calm.then | apply Calm.inBlock | apply Calm.noGoto | apply calmJ))) (k := ?_) | refine doffM 0 (hq := (by repeat (first | exact Calm.post | apply Calm.then | apply Calm.inBlock | apply Calm.noGoto | apply calmJ))) (k := ?_)
    first | refine dpM 1 (hq := (by repeat (first | exact Calm.post | apply Calm.then | apply Calm.inBlock | apply Calm.noGoto | apply calmJ))) (k := ?_) | refine doffM 1 (hq := (by repeat (first | exact Calm.post | apply Calm.then | apply Calm.inBlock | apply Calm.noGoto | apply calmJ))) (k := ?_)
    first | refine dpM 2 (hq := (by repeat (first | exact Calm.post | apply Calm.then | apply Calm.inBlock | apply Calm.noGoto | apply calmJ))) (k := ?_) | refine doffM 2 (hq := (by repeat (first | exact Calm.post | apply Calm.then | apply Calm.inBlock | apply Calm.noGoto | apply calmJ))) (k := ?_)
    first | refine dpM 3 (hq := (by repeat (first | exact Calm.post | apply Calm.then | apply Calm.inBlock | apply Calm.noGoto | apply calmJ))) (k := ?_) | refine doffM 3 (hq := (by repeat (first | exact Calm.post | apply Calm.then | apply Calm.inBlock | apply Calm.noGoto | apply calmJ))) (k := ?_)
    first | refine dpM 4 (hq := (by repeat (first | exact Calm.post | apply Calm.then | apply Calm.inBlock | apply Calm.noGoto | apply calmJ))) (k := ?_) | refine doffM 4 (hq := (by repeat (first | exact Calm.post | apply Calm.then | apply Calm.inBlock | apply Calm.noGoto | apply calmJ))) (k := ?_)
    first | refine dpM 5 (hq := (by repeat (first | exact Calm.post | apply Calm.then | apply Calm.inBlock | apply Calm.noGoto | apply calmJ))) (k := ?_) | refine doffM 5 (hq := (by repeat (first | exact Calm.post | apply Calm.then | apply Calm.inBlock | apply Calm.noGoto | apply calmJ))) (k := ?_)
    first | refine dpM 6 (hq := (by repeat (first | exact Calm.post | apply Calm.then | apply Calm.inBlock | apply Calm.noGoto | apply calmJ))) (k := ?_) | refine doffM 6 (hq := (by repeat (first | exact Calm.post | apply Calm.then | apply Calm.inBlock | apply Calm.noGoto | apply calmJ))) (k := ?_)
    first | refine dpM 7 (hq := (by repeat (first | exact Calm.post | apply Calm.then | apply Calm.inBlock | apply Calm.noGoto | apply calmJ))) (k := ?_) | refine doffM 7 (hq := (by repeat (first | exact Calm.post | apply Calm.then | apply Calm.inBlock | apply Calm.noGoto | apply calmJ))) (k := ?_)
    first | refine dpM 8 (hq := (by repeat (first | exact Calm.post | apply Calm.then | apply Calm.inBlock | apply Calm.noGoto | apply calmJ))) (k := ?_) | refine doffM 8 (hq := (by repeat (first | exact Calm.post | apply Calm.then | apply Calm.inBlock | apply Calm.noGoto | apply calmJ))) (k := ?_)
    first | refine dpM 9 (hq := (by repeat (first | exact Calm.post | apply Calm.then | apply Calm.inBlock | apply Calm.noGoto | apply calmJ))) (k := ?_) | refine doffM 9 (hq := (by repeat (first | exact Calm.post | apply Calm.then | apply Calm.inBlock | apply Calm.noGoto | apply calmJ))) (k := ?_)
    first | refine dpM 10 (hq := (by repeat (first | exact Calm.post | apply Calm.then | apply Calm.inBlock | apply Calm.noGoto | apply calmJ))) (k := ?_) | refine doffM 10 (hq := (by repeat (first | exact Calm.post | apply Calm.then | apply Calm.inBlock | apply Calm.noGoto | apply calmJ))) (k := ?_)
    first | refine dpM 11 (hq := (by repeat (first | exact Calm.post | apply Calm.then | apply Calm.inBlock | apply Calm.noGoto | apply calmJ))) (k := ?_) | refine doffM 11 (hq := (by repeat (first | exact Calm.post | apply Calm.then | apply Calm.inBlock | apply Calm.noGoto | apply calmJ))) (k := ?_)
    first | refine dpM 12 (hq := (by repeat (first | exact Calm.post | apply Calm.then | apply Calm.inBlock | apply Calm.noGoto | apply calmJ))) (k := ?_) | refine doffM 12 (hq := (by repeat (first | exact Calm.post | apply Calm.then | apply Calm.inBlock | apply Calm.noGoto | apply calmJ))) (k := ?_)
    first | refine dpM 13 (hq := (by repeat (first | exact Calm.post | apply Calm.then | apply Calm.inBlock | apply Calm.noGoto | apply calmJ))) (k := ?_) | refine doffM 13 (hq := (by repeat (first | exact Calm.post | apply Calm.then | apply Calm.inBlock | apply Calm.noGoto | apply calmJ))) (k := ?_)
    first | refine dpM 14 (hq := (by repeat (first | exact Calm.post | apply Calm.then | apply Calm.inBlock | apply Calm.noGoto | apply calmJ))) (k := ?_) | refine doffM 14 (hq := (by repeat (first | exact Calm.post | apply Calm.then | apply Calm.inBlock | apply Calm.noGoto | apply calmJ))) (k := ?_)
    first | refine dpM 15 (hq := (by repeat (first | exact Calm.post | apply Calm.then | apply Calm.inBlock | apply Calm.noGoto | apply calmJ))) (k := ?_) | refine doffM 15 (hq := (by repeat (first | exact Calm.post | apply Calm.then | apply Calm.inBlock | apply Calm.noGoto | apply calmJ))) (k := ?_)
    first | refine dpM 16 (hq := (by repeat (first | exact Calm.post | apply Calm.then | apply Calm.inBlock | apply Calm.noGoto | apply calmJ))) (k := ?_) | refine doffM 16 (hq := (by repeat (first | exact Calm.post | apply Calm.then | apply Calm.inBlock | apply Calm.noGoto | apply calmJ))) (k := ?_)
    first | refine dpM 17 (hq := (by repeat (first | exact Calm.post | apply Calm.then | apply Calm.inBlock | apply Calm.noGoto | apply calmJ))) (k := ?_) | refine doffM 17 (hq := (by repeat (first | exact Calm.post | apply Calm.then | apply Calm.inBlock | apply Calm.noGoto | apply calmJ))) (k := ?_)
    first | refine dpM 18 (hq := (by repeat (first | exact Calm.post | apply Calm.then | apply Calm.inBlock | apply Calm.noGoto | apply calmJ))) (k := ?_) | refine doffM 18 (hq := (by repeat (first | exact Calm.post | apply Calm.then | apply Calm.inBlock | apply Calm.noGoto | apply calmJ))) (k := ?_)
    first | refine dpM 19 (hq := (by repeat (first | exact Calm.post | apply Calm.then | apply Calm.inBlock | apply Calm.noGoto | apply calmJ))) (k := ?_) | refine doffM 19 (hq := (by repeat (first | exact Calm.post | apply Calm.then | apply Calm.inBlock | apply Calm.noGoto | apply calmJ))) (k := ?_)
    first | refine dpM 20 (hq := (by repeat (first | exact Calm.post | apply Calm.then | apply Calm.inBlock | apply Calm.noGoto | apply calmJ))) (k := ?_) | refine doffM 20 (hq := (by repeat (first | exact Calm.post | apply Calm.then | apply Calm.inBlock | apply Calm.noGoto | apply calmJ))) (k := ?_)
    first | refine dpM 21 (hq := (by repeat (first | exact Calm.post | apply Calm.then | apply Calm.inBlock | apply Calm.noGoto | apply calmJ))) (k := ?_) | refine doffM 21 (hq := (by repeat (first | exact Calm.post | apply Calm.then | apply Calm.inBlock | apply Calm.noGoto | apply calmJ))) (k := ?_)
    first | refine dpM 22 (hq := (by repeat (first | exact Calm.post | apply Calm.then | apply Calm.inBlock | apply Calm.noGoto | apply calmJ))) (k := ?_) | refine doffM 22 (hq := (by repeat (first | exact Calm.post | apply Calm.then | apply Calm.inBlock | apply Calm.noGoto | apply calmJ))) (k := ?_)
    first | refine dpM 23 (hq := (by repeat (first | exact Calm.post | apply Calm.then | apply Calm.inBlock | apply Calm.noGoto | apply calmJ))) (k := ?_) | refine doffM 23 (hq := (by repeat (first | exact Calm.post | apply Calm.then | apply Calm.inBlock | apply Calm.noGoto | apply calmJ))) (k := ?_)
    refine ddoneM (by kernel_rfl) ?_
    refine codeM (k := ?_)
    refine condM (k := ?_)
    refine codeM (h := fun _ _ _ _ h => At_goto h) (k := ?_)
    repeat (first | refine codeM (h := fun _ _ _ _ h => At_then_goto h) (k := ?_))
    refine codeM (h := fun _ _ _ _ h => At_jump_goto h) (k := ?_)
    refine meetJ ?_ (fun H hm => hm)
    (repeat (first | exact Sub.nil | refine Sub.cons rfl ?_))
  repeat (first | refine codeM (k := ?_) | refine condM (k := ?_) | refine offM (k := ?_) | refine offMn (k := ?_) | refine pureM (k := ?_) | refine loadM (k := ?_) | refine loadB (k := ?_) | refine storeM (k := ?_) | refine storeB (k := ?_))
  refine codeM (h := fun _ _ _ _ h => At_jump_ret h) (k := ?_)
  exact ret1M rfl rfl (fun H hm => ⟨hm.toExt (by repeat (first | exact Pick.nil | refine Pick.keep ?_ | refine Pick.drop (by first | assumption | omega) ?_)), rfl⟩)
theorem fill0 (H : Heap) (p : Value) (now : Int) : Spc Tryz.prog 180 #[p, nil0, nil0, .int .i64 now] H fun r H' => Ext H H' ∧ r = nil0 := by
  refine spec_of Tryz.func180 rfl Tryz.ntmps180 rfl (fun W => ?_)
  refine Am.new ?_
  repeat (first | refine codeM (k := ?_) | refine condM (k := ?_) | refine offM (k := ?_) | refine offMn (k := ?_) | refine pureM (k := ?_) | refine loadM (k := ?_) | refine loadB (k := ?_) | refine storeM (k := ?_) | refine storeB (k := ?_))
  exact ret1M rfl rfl (fun H hm => ⟨hm.toExt (by repeat (first | exact Pick.nil | refine Pick.keep ?_ | refine Pick.drop (by first | assumption | omega) ?_)), rfl⟩)
theorem equal0 (H : Heap) : Spc Tryz.prog 90 #[nil0, nil0] H fun r H' => Ext H H' ∧ r = .bool true := by
  refine spec_of Tryz.func90 rfl Tryz.ntmps90 rfl (fun W => ?_)
  refine Am.new ?_
  repeat (first | refine codeM (k := ?_) | refine condM (k := ?_) | refine offM (k := ?_) | refine offMn (k := ?_) | refine pureM (k := ?_) | refine loadM (k := ?_) | refine loadB (k := ?_) | refine storeM (k := ?_) | refine storeB (k := ?_))
  exact ret1M rfl rfl (fun H hm => ⟨hm.toExt (by repeat (first | exact Pick.nil | refine Pick.keep ?_ | refine Pick.drop (by first | assumption | omega) ?_)), rfl⟩)
theorem dueNow0 (H : Heap) (ep recs : Nat) (now : Int) : Spc Tryz.prog 57 #[.agg (stC 0 2 ep 0 recs nil0 nil0).toArray, .int .i64 now] H fun r H' => Ext H H' ∧ ∃ b, r = .map (some b) := by
  refine spec_of Tryz.func57 rfl Tryz.ntmps57 rfl (fun W => ?_)
  refine Am.new ?_
  repeat (first | refine codeM (k := ?_) | refine condM (k := ?_) | refine offM (k := ?_) | refine offMn (k := ?_) | refine pureM (k := ?_) | refine loadM (k := ?_) | refine loadB (k := ?_) | refine storeM (k := ?_) | refine storeB (k := ?_))
  refine boxM rfl rfl rfl rfl (fun x hx => ?_)
  repeat (first | refine codeM (k := ?_) | refine condM (k := ?_) | refine offM (k := ?_) | refine offMn (k := ?_) | refine pureM (k := ?_) | refine loadM (k := ?_) | refine loadB (k := ?_) | refine storeM (k := ?_) | refine storeB (k := ?_))
  refine makeMapM rfl rfl (fun b => ?_)
  repeat (first | refine codeM (k := ?_) | refine condM (k := ?_) | refine offM (k := ?_) | refine offMn (k := ?_) | refine pureM (k := ?_) | refine loadM (k := ?_) | refine loadB (k := ?_) | refine storeM (k := ?_) | refine storeB (k := ?_))
  exact ret1M rfl rfl (fun H hm => ⟨hm.toExt (by repeat (first | exact Pick.nil | refine Pick.keep ?_ | refine Pick.drop (by first | assumption | omega) ?_)), b, rfl⟩)
theorem oweTo0 (H : Heap) (ep recs : Nat) (now peer : Int) : Spc Tryz.prog 25 #[.agg (stC 0 2 ep 0 recs nil0 nil0).toArray, .int .i64 now, .int .i64 peer] H fun r H' => Ext H H' ∧ r = nil0 := by
  refine spec_of Tryz.func25 rfl Tryz.ntmps25 rfl (fun W => ?_)
  refine Am.new ?_
  repeat (first | refine codeM (k := ?_) | refine condM (k := ?_) | refine offM (k := ?_) | refine offMn (k := ?_) | refine pureM (k := ?_) | refine loadM (k := ?_) | refine loadB (k := ?_) | refine storeM (k := ?_) | refine storeB (k := ?_))
  refine boxM rfl rfl rfl rfl (fun x hx => ?_)
  repeat (first | refine codeM (k := ?_) | refine condM (k := ?_) | refine offM (k := ?_) | refine offMn (k := ?_) | refine pureM (k := ?_) | refine loadM (k := ?_) | refine loadB (k := ?_) | refine storeM (k := ?_) | refine storeB (k := ?_))
  refine callM rfl rfl rfl rfl rfl (fun Hc hm => dueNow0 Hc ep recs now) ?_
  rintro Hc _ H1 hm ⟨x1, b, rfl⟩
  refine Am.on (hm.ext x1) ?_
  repeat (first | refine codeM (k := ?_) | refine condM (k := ?_) | refine offM (k := ?_) | refine offMn (k := ?_) | refine pureM (k := ?_) | refine loadM (k := ?_) | refine loadB (k := ?_) | refine storeM (k := ?_) | refine storeB (k := ?_))
  exact ret1M rfl rfl (fun H hm => ⟨hm.toExt (by repeat (first | exact Pick.nil | refine Pick.keep ?_ | refine Pick.drop (by first | assumption | omega) ?_)), rfl⟩)
end Go.Proofs.YtlaobecajieaaaaGreat
/- A tick of a cluster without jobs makes no record. -/
namespace Go.Proofs.YtlaobecajieaaaaGreat
open Go Ev
set_option linter.unusedVariables false
set_option linter.unusedSimpArgs false
attribute [local irreducible] Go.wpList Go.bodyPost Go.Code.wp Go.Exit.then Go.Exit.inBlock Go.Exit.noGoto Ev.wpAnyG Go.Oper.wp Ev.Back Ev.Left Ev.Spc Ev.At Ev.Pure Ev.Reads Ev.Runs Ev.Does Ev.Cell Ev.Am Ev.Has Ev.Kn Go.Code.rounds

theorem renew0 {H : Heap} {p : Nat} {now : Int} (hp : Ro H p (profC nil0)) (h0 : 0 ≤ now) (h1 : now ≤ 1099511627776) : Spc Tryz.prog 88 #[ptr p, nil0, nil0, .int .i64 now] H fun r H' => Ext H H' ∧ r = nil0 := by
  refine spec_of Tryz.func88 rfl Tryz.ntmps88 rfl (fun W => ?_)
  refine Am.on (Mem.startR hp) ?_
  repeat (first | refine codeM (k := ?_) | refine condM (k := ?_) | refine offM (k := ?_) | refine offMn (k := ?_) | refine pureM (k := ?_) | refine loadM (k := ?_) | refine loadB (k := ?_) | refine storeM (k := ?_) | refine storeB (k := ?_))
  refine callM rfl rfl rfl rfl rfl (fun Hc hm => tickRight_ok Hc h0 h1) ?_
  rintro Hc _ H1 hm ⟨rfl, rfl⟩
  refine Am.on hm ?_
  repeat (first | refine codeM (k := ?_) | refine condM (k := ?_) | refine offM (k := ?_) | refine offMn (k := ?_) | refine pureM (k := ?_) | refine loadM (k := ?_) | refine loadB (k := ?_) | refine storeM (k := ?_) | refine storeB (k := ?_))
  refine callM rfl rfl rfl rfl rfl (fun Hc hm => twinP (hm.roOf (.r .here))) ?_
  rintro Hc _ H1 hm ⟨x1, q, rfl⟩
  refine Am.on (hm.ext x1) ?_
  repeat (first | refine codeM (k := ?_) | refine condM (k := ?_) | refine offM (k := ?_) | refine offMn (k := ?_) | refine pureM (k := ?_) | refine loadM (k := ?_) | refine loadB (k := ?_) | refine storeM (k := ?_) | refine storeB (k := ?_))
  refine callM rfl rfl rfl rfl rfl (fun Hc hm => keep0 Hc _ now) ?_
  rintro Hc _ H1 hm ⟨x1, rfl⟩
  refine Am.on (hm.ext x1) ?_
  repeat (first | refine codeM (k := ?_) | refine condM (k := ?_) | refine offM (k := ?_) | refine offMn (k := ?_) | refine pureM (k := ?_) | refine loadM (k := ?_) | refine loadB (k := ?_) | refine storeM (k := ?_) | refine storeB (k := ?_))
  refine pM (p_slice_lo_end (i := 0) rfl rfl (by decide) rfl) rfl rfl rfl ?_
  repeat (first | refine codeM (k := ?_) | refine condM (k := ?_) | refine offM (k := ?_) | refine offMn (k := ?_) | refine pureM (k := ?_) | refine loadM (k := ?_) | refine loadB (k := ?_) | refine storeM (k := ?_) | refine storeB (k := ?_))
  refine callM rfl rfl rfl rfl rfl (fun Hc hm => fill0 Hc _ now) ?_
  rintro Hc _ H1 hm ⟨x1, rfl⟩
  refine Am.on (hm.ext x1) ?_
  repeat (first | refine codeM (k := ?_) | refine condM (k := ?_) | refine offM (k := ?_) | refine offMn (k := ?_) | refine pureM (k := ?_) | refine loadM (k := ?_) | refine loadB (k := ?_) | refine storeM (k := ?_) | refine storeB (k := ?_))
  exact ret1M rfl rfl (fun H hm => ⟨hm.toExt (by repeat (first | exact Pick.nil | refine Pick.keep ?_ | refine Pick.drop (by first | assumption | omega) ?_)), rfl⟩)
theorem ends0 {H : Heap} {m ep recs : Nat} {now : Int} (hm0 : Ro H m (stC 0 2 ep 0 recs nil0 nil0 ++ [nil0])) : Spc Tryz.prog 45 #[ptr m, .int .i64 now] H fun r H' => Ext H H' ∧ r = .tuple #[] := by
  refine spec_of Tryz.func45 rfl Tryz.ntmps45 rfl (fun W => ?_)
  refine Am.on (Mem.startR hm0) ?_
  repeat (first | refine codeM (k := ?_) | refine condM (k := ?_) | refine offM (k := ?_) | refine offMn (k := ?_) | refine pureM (k := ?_) | refine loadM (k := ?_) | refine loadB (k := ?_) | refine storeM (k := ?_) | refine storeB (k := ?_))
  exact ret0M rfl (.inl rfl) (fun H hm => ⟨hm.toExt (by repeat (first | exact Pick.nil | refine Pick.keep ?_ | refine Pick.drop (by first | assumption | omega) ?_)), rfl⟩)
theorem dues0 {H : Heap} {m ep recs : Nat} {now : Int} (hm0 : Ro H m (stC 0 2 ep 0 recs nil0 nil0 ++ [nil0])) : Spc Tryz.prog 46 #[ptr m, .int .i64 now] H fun r H' => Ext H H' ∧ r = .tuple #[] := by
  refine spec_of Tryz.func46 rfl Tryz.ntmps46 rfl (fun W => ?_)
  refine Am.on (Mem.startR hm0) ?_
  repeat (first | refine codeM (k := ?_) | refine condM (k := ?_) | refine offM (k := ?_) | refine offMn (k := ?_) | refine pureM (k := ?_) | refine loadM (k := ?_) | refine loadB (k := ?_) | refine storeM (k := ?_) | refine storeB (k := ?_))
  exact ret0M rfl (.inl rfl) (fun H hm => ⟨hm.toExt (by repeat (first | exact Pick.nil | refine Pick.keep ?_ | refine Pick.drop (by first | assumption | omega) ?_)), rfl⟩)
theorem releases0 {H : Heap} {m ep recs : Nat} {now : Int} (hm0 : Ro H m (stC 0 2 ep 0 recs nil0 nil0 ++ [nil0])) : Spc Tryz.prog 48 #[ptr m] H fun r H' => Ext H H' ∧ r = .tuple #[] := by
  refine spec_of Tryz.func48 rfl Tryz.ntmps48 rfl (fun W => ?_)
  refine Am.on (Mem.startR hm0) ?_
  repeat (first | refine codeM (k := ?_) | refine condM (k := ?_) | refine offM (k := ?_) | refine offMn (k := ?_) | refine pureM (k := ?_) | refine loadM (k := ?_) | refine loadB (k := ?_) | refine storeM (k := ?_) | refine storeB (k := ?_))
  exact ret0M rfl (.inr rfl) (fun H hm => ⟨hm.toExt (by repeat (first | exact Pick.nil | refine Pick.keep ?_ | refine Pick.drop (by first | assumption | omega) ?_)), rfl⟩)
theorem owns0 {H : Heap} {m ep recs : Nat} {now : Int} (hm0 : Ro H m (stC 0 2 ep 0 recs nil0 nil0 ++ [nil0])) : Spc Tryz.prog 49 #[ptr m, .int .i64 now] H fun r H' => Ext H H' ∧ r = .tuple #[] := by
  refine spec_of Tryz.func49 rfl Tryz.ntmps49 rfl (fun W => ?_)
  refine Am.on (Mem.startR hm0) ?_
  repeat (first | refine codeM (k := ?_) | refine condM (k := ?_) | refine offM (k := ?_) | refine offMn (k := ?_) | refine pureM (k := ?_) | refine loadM (k := ?_) | refine loadB (k := ?_) | refine storeM (k := ?_) | refine storeB (k := ?_))
  exact ret0M rfl (.inl rfl) (fun H hm => ⟨hm.toExt (by repeat (first | exact Pick.nil | refine Pick.keep ?_ | refine Pick.drop (by first | assumption | omega) ?_)), rfl⟩)
theorem expire0 {H : Heap} {m ep recs : Nat} {now : Int} (hm0 : Ro H m (stC 0 2 ep 0 recs nil0 nil0 ++ [nil0])) : Spc Tryz.prog 47 #[ptr m, .int .i64 now] H fun r H' => Ext H H' ∧ r = .tuple #[] := by
  refine spec_of Tryz.func47 rfl Tryz.ntmps47 rfl (fun W => ?_)
  refine Am.on (Mem.startR hm0) ?_
  repeat (first | refine codeM (k := ?_) | refine condM (k := ?_) | refine offM (k := ?_) | refine offMn (k := ?_) | refine pureM (k := ?_) | refine loadM (k := ?_) | refine loadB (k := ?_) | refine storeM (k := ?_) | refine storeB (k := ?_))
  refine pM (p_build [.int .i64 0, .int .i64 0] rfl rfl) rfl rfl rfl ?_
  refine allocM rfl rfl rfl (fun x hx => ?_)
  repeat (first | refine codeM (k := ?_) | refine condM (k := ?_) | refine offM (k := ?_) | refine offMn (k := ?_) | refine pureM (k := ?_) | refine loadM (k := ?_) | refine loadB (k := ?_) | refine storeM (k := ?_) | refine storeB (k := ?_))
  exact ret0M rfl (.inl rfl) (fun H hm => ⟨hm.toExt (by repeat (first | exact Pick.nil | refine Pick.keep ?_ | refine Pick.drop (by first | assumption | omega) ?_)), rfl⟩)
set_option maxHeartbeats 2000000 in
theorem starts0 {H : Heap} {m ep recs : Nat} {now : Int} (hm0 : Ro H m (stC 0 2 ep 0 recs nil0 nil0 ++ [nil0])) (h0 : 0 ≤ now) (h1 : now ≤ 1099511627776) : Spc Tryz.prog 50 #[ptr m, .int .i64 now] H fun r H' => Ext H H' ∧ r = .tuple #[] := by
  refine spec_of Tryz.func50 rfl Tryz.ntmps50 rfl (fun W => ?_)
  refine Am.on (Mem.startR hm0) ?_
  repeat (first | refine codeM (k := ?_) | refine condM (k := ?_) | refine offM (k := ?_) | refine offMn (k := ?_) | refine pureM (k := ?_) | refine loadM (k := ?_) | refine loadB (k := ?_) | refine storeM (k := ?_) | refine storeB (k := ?_))
  refine loadN (stC 0 2 ep 0 recs nil0 nil0) rfl (.r .here) rfl rfl rfl rfl rfl ?_
  refine allocM rfl rfl rfl (fun s hs => ?_)
  repeat (first | refine codeM (k := ?_) | refine condM (k := ?_) | refine offM (k := ?_) | refine offMn (k := ?_) | refine pureM (k := ?_) | refine loadM (k := ?_) | refine loadB (k := ?_) | refine storeM (k := ?_) | refine storeB (k := ?_))
  refine drawM [1, 2] Tryz.mixed ?_
  first | refine dpM 0 (k := ?_) | refine doffM 0 (k := ?_) | refine dldM 0 rfl (k := ?_) | refine doffNM 0 (k := ?_) | refine dldB 0 rfl (k := ?_)
  first | refine dpM 1 (k := ?_) | refine doffM 1 (k := ?_) | refine dldM 1 rfl (k := ?_) | refine doffNM 1 (k := ?_) | refine dldB 1 rfl (k := ?_)
  first | refine dpM 2 (k := ?_) | refine doffM 2 (k := ?_) | refine dldM 2 rfl (k := ?_) | refine doffNM 2 (k := ?_) | refine dldB 2 rfl (k := ?_)
  refine dxL 3 rfl (by kernel_rfl) rfl (fun Hx => ?_)
  refine callW rfl rfl rfl rfl (fun Hc hm => bload0 Hc ep recs) ?_
  rintro Hc _ H1 hm ⟨x1, rfl⟩
  refine Am.on (hm.ext x1) ?_
  first | refine leftA (k := ?_) | refine leftF (by kernel_rfl) ?_
  refine dxL 4 rfl (by kernel_rfl) rfl (fun Hx => ?_)
  refine callW rfl rfl rfl rfl (fun Hc hm => pnew0_spec Hc) ?_
  rintro Hc _ H1 hm ⟨x1, p, rfl, hp, hh⟩
  have hp2 := Nat.le_trans hm.size hp
  refine Am.on (hm.new x1 hp (Has.ofB (xs := profC nil0) hh rfl)) ?_
  first | refine leftA (k := ?_) | refine leftF (by kernel_rfl) ?_
  first | refine dpM 5 (k := ?_) | refine doffM 5 (k := ?_) | refine dldM 5 rfl (k := ?_) | refine doffNM 5 (k := ?_) | refine dldB 5 rfl (k := ?_)
  first | refine dpM 6 (k := ?_) | refine doffM 6 (k := ?_) | refine dldM 6 rfl (k := ?_) | refine doffNM 6 (k := ?_) | refine dldB 6 rfl (k := ?_)
  first | refine dpM 7 (k := ?_) | refine doffM 7 (k := ?_) | refine dldM 7 rfl (k := ?_) | refine doffNM 7 (k := ?_) | refine dldB 7 rfl (k := ?_)
  first | refine dpM 8 (k := ?_) | refine doffM 8 (k := ?_) | refine dldM 8 rfl (k := ?_) | refine doffNM 8 (k := ?_) | refine dldB 8 rfl (k := ?_)
  first | refine dpM 9 (k := ?_) | refine doffM 9 (k := ?_) | refine dldM 9 rfl (k := ?_) | refine doffNM 9 (k := ?_) | refine dldB 9 rfl (k := ?_)
  refine ddoneM (by kernel_rfl) ?_
  repeat (first | refine codeM (k := ?_) | refine condM (k := ?_) | refine offM (k := ?_) | refine offMn (k := ?_) | refine pureM (k := ?_) | refine loadM (k := ?_) | refine loadB (k := ?_) | refine storeM (k := ?_) | refine storeB (k := ?_))
  refine callM rfl rfl rfl rfl rfl (fun Hc hm => ready0 Hc now) ?_
  rintro Hc _ H1 hm ⟨x1, rfl⟩
  refine Am.on (hm.ext x1) ?_
  repeat (first | refine codeM (k := ?_) | refine condM (k := ?_) | refine offM (k := ?_) | refine offMn (k := ?_) | refine pureM (k := ?_) | refine loadM (k := ?_) | refine loadB (k := ?_) | refine storeM (k := ?_) | refine storeB (k := ?_))
  refine callM rfl rfl rfl rfl rfl (fun Hc hm => renew0 (hm.has1 .here).ro h0 h1) ?_
  rintro Hc _ H1 hm ⟨x1, rfl⟩
  refine Am.on (hm.ext x1) ?_
  repeat (first | refine codeM (k := ?_) | refine condM (k := ?_) | refine offM (k := ?_) | refine offMn (k := ?_) | refine pureM (k := ?_) | refine loadM (k := ?_) | refine loadB (k := ?_) | refine storeM (k := ?_) | refine storeB (k := ?_))
  refine callM rfl rfl rfl rfl rfl (fun Hc hm => equal0 Hc) ?_
  rintro Hc _ H1 hm ⟨x1, rfl⟩
  refine Am.on (hm.ext x1) ?_
  repeat (first | refine codeM (k := ?_) | refine condM (k := ?_) | refine offM (k := ?_) | refine offMn (k := ?_) | refine pureM (k := ?_) | refine loadM (k := ?_) | refine loadB (k := ?_) | refine storeM (k := ?_) | refine storeB (k := ?_))
  exact ret0M rfl (.inl rfl) (fun H hm => ⟨hm.toExt (by repeat (first | exact Pick.nil | refine Pick.keep ?_ | refine Pick.drop (by first | assumption | omega) ?_)), rfl⟩)
set_option maxHeartbeats 2000000 in
theorem ttick0 (H : Heap) {ep recs : Nat} {now : Int} (h0 : 0 ≤ now) (h1 : now ≤ 1099511627776) : Spc Tryz.prog 21 #[.agg (stC 0 2 ep 0 recs nil0 nil0).toArray, .int .i64 now] H fun r H' => Ext H H' ∧ r = nil0 := by
  refine spec_of Tryz.func21 rfl Tryz.ntmps21 rfl (fun W => ?_)
  refine Am.new ?_
  repeat (first | refine codeM (k := ?_) | refine condM (k := ?_) | refine offM (k := ?_) | refine offMn (k := ?_) | refine pureM (k := ?_) | refine loadM (k := ?_) | refine loadB (k := ?_) | refine storeM (k := ?_) | refine storeB (k := ?_))
  refine boxM rfl rfl rfl rfl (fun x hx => ?_)
  repeat (first | refine codeM (k := ?_) | refine condM (k := ?_) | refine offM (k := ?_) | refine offMn (k := ?_) | refine pureM (k := ?_) | refine loadM (k := ?_) | refine loadB (k := ?_) | refine storeM (k := ?_) | refine storeB (k := ?_))
  refine callM rfl rfl rfl rfl rfl (fun Hc hm => tickRight_ok Hc h0 h1) ?_
  rintro Hc _ H1 hm ⟨rfl, rfl⟩
  refine Am.on hm ?_
  repeat (first | refine codeM (k := ?_) | refine condM (k := ?_) | refine offM (k := ?_) | refine offMn (k := ?_) | refine pureM (k := ?_) | refine loadM (k := ?_) | refine loadB (k := ?_) | refine storeM (k := ?_) | refine storeB (k := ?_))
  refine pM (p_build (stC 0 2 ep 0 recs nil0 nil0 ++ [nil0]) rfl rfl) rfl rfl rfl ?_
  refine boxM (ys := stC 0 2 ep 0 recs nil0 nil0 ++ [nil0]) rfl rfl rfl rfl (fun m hmm => ?_)
  repeat (first | refine codeM (k := ?_) | refine condM (k := ?_) | refine offM (k := ?_) | refine offMn (k := ?_) | refine pureM (k := ?_) | refine loadM (k := ?_) | refine loadB (k := ?_) | refine storeM (k := ?_) | refine storeB (k := ?_))
  refine callM rfl rfl rfl rfl rfl (fun Hc hm => ends0 (hm.has1 .here).ro) ?_
  rintro Hc _ H1 hm ⟨x1, rfl⟩
  refine Am.on (hm.ext x1) ?_
  repeat (first | refine codeM (k := ?_) | refine condM (k := ?_) | refine offM (k := ?_) | refine offMn (k := ?_) | refine pureM (k := ?_) | refine loadM (k := ?_) | refine loadB (k := ?_) | refine storeM (k := ?_) | refine storeB (k := ?_))
  refine callM rfl rfl rfl rfl rfl (fun Hc hm => dues0 (hm.has1 .here).ro) ?_
  rintro Hc _ H1 hm ⟨x1, rfl⟩
  refine Am.on (hm.ext x1) ?_
  repeat (first | refine codeM (k := ?_) | refine condM (k := ?_) | refine offM (k := ?_) | refine offMn (k := ?_) | refine pureM (k := ?_) | refine loadM (k := ?_) | refine loadB (k := ?_) | refine storeM (k := ?_) | refine storeB (k := ?_))
  refine callM rfl rfl rfl rfl rfl (fun Hc hm => expire0 (hm.has1 .here).ro) ?_
  rintro Hc _ H1 hm ⟨x1, rfl⟩
  refine Am.on (hm.ext x1) ?_
  repeat (first | refine codeM (k := ?_) | refine condM (k := ?_) | refine offM (k := ?_) | refine offMn (k := ?_) | refine pureM (k := ?_) | refine loadM (k := ?_) | refine loadB (k := ?_) | refine storeM (k := ?_) | refine storeB (k := ?_))
  refine callM rfl rfl rfl rfl rfl (fun Hc hm => releases0 (now := now) (hm.has1 .here).ro) ?_
  rintro Hc _ H1 hm ⟨x1, rfl⟩
  refine Am.on (hm.ext x1) ?_
  repeat (first | refine codeM (k := ?_) | refine condM (k := ?_) | refine offM (k := ?_) | refine offMn (k := ?_) | refine pureM (k := ?_) | refine loadM (k := ?_) | refine loadB (k := ?_) | refine storeM (k := ?_) | refine storeB (k := ?_))
  refine callM rfl rfl rfl rfl rfl (fun Hc hm => owns0 (hm.has1 .here).ro) ?_
  rintro Hc _ H1 hm ⟨x1, rfl⟩
  refine Am.on (hm.ext x1) ?_
  repeat (first | refine codeM (k := ?_) | refine condM (k := ?_) | refine offM (k := ?_) | refine offMn (k := ?_) | refine pureM (k := ?_) | refine loadM (k := ?_) | refine loadB (k := ?_) | refine storeM (k := ?_) | refine storeB (k := ?_))
  refine callM rfl rfl rfl rfl rfl (fun Hc hm => starts0 (hm.has1 .here).ro h0 h1) ?_
  rintro Hc _ H1 hm ⟨x1, rfl⟩
  refine Am.on (hm.ext x1) ?_
  repeat (first | refine codeM (k := ?_) | refine condM (k := ?_) | refine offM (k := ?_) | refine offMn (k := ?_) | refine pureM (k := ?_) | refine loadM (k := ?_) | refine loadB (k := ?_) | refine storeM (k := ?_) | refine storeB (k := ?_))
  exact ret1M rfl rfl (fun H hm => ⟨hm.toExt (by repeat (first | exact Pick.nil | refine Pick.keep ?_ | refine Pick.drop (by first | assumption | omega) ?_)), rfl⟩)
end Go.Proofs.YtlaobecajieaaaaGreat
