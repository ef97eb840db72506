/- Words of the page; lists of numbers. -/
import Derived.Test.YticgbdeoiihbmaaDoorShD
namespace Go.Proofs.YticgbdeoiihbmaaDoor
open Go Ev
set_option linter.unusedVariables false
set_option linter.unusedSimpArgs false

/-- a list of the function's own, with nothing older touched; rows tell values only -/
structure Fresh {α : Type} (H0 H : Heap) (e : TypeId) (R : α → List Value → Prop) (v : Value) (xs : List α) : Prop where
  ext : Ext H0 H
  own : OwnL H e 1 R v xs
  new : ∀ g, v.ownBlock = some g → H0.size ≤ g
theorem Fresh.nil {α : Type} (H : Heap) (e : TypeId) (R : α → List Value → Prop) : Fresh H H e R (.slice none 0 0) [] := ⟨Kept.refl _ _, OwnL.nil _ _ _ _, fun g h => by cases h⟩
theorem Fresh.on {α : Type} {H0 H H' : Heap} {e : TypeId} {R : α → List Value → Prop} {v : Value} {xs : List α} (h : Fresh H0 H e R v xs) (hx : Ext H H') : Fresh H0 H' e R v xs :=
  ⟨h.ext.trans hx, h.own.keep hx (fun _ _ f => f) (fun _ _ _ h => h), h.new⟩
section
variable {P : Program} {n : Nat} {W : World} {env : Env} {H0 H : Heap} {Q : Exit → Act → World → Prop} {K : Act → World → Prop}
variable {ty : TypeId} {pos : String} {af : Array Edge} {gd : Option (Nat × Bool)}
theorem W_push {α : Type} {R : α → List Value → Prop} {x y : Operand} {t e : TypeId} {de : TypeDesc} {sz sb bytes : Nat} {z ez : Value} {dd b c : Nat} [h : Ty P t (.slice e) sz sb z] [he : Ty P e de 1 bytes ez] {v u : Value} {xs : List α} {a : α} {cs : Array Value} {bt : TypeId}
    (hx : ev env x = some v) (hy : ev env y = some (.slice (some ⟨b, 0, none⟩) 1 c)) (ho : Fresh H0 H e R v xs) (hb : H[b]? = some (.cells cs bt (0, 0))) (hcs : cs.toList = [u]) (ha : R a [u]) (h1 : u.oneCell' = true) (hz : ez.cells.size = 1)
    (h63 : xs.length ≤ 1000000) (hby : bytes ≤ 100000) (hn : Nat.blt dd n = true)
    (k : ∀ v' H', Fresh H0 H' e R v' (xs ++ [a]) → At n W ((dd, v') :: env) H' K) : At n W env H (fun a w => Oper.wp P ⟨some dd, .call ⟨.builtin .append, #[x, y], #[t, t]⟩, ty, pos, af, gd⟩ a w K Q) := by
  refine W_append1 (R := R) (row := [u]) (fun _ => R) hx hy ho.own hb hcs ha rfl (fun w hw => by rw [List.mem_singleton.1 hw]; exact h1) hz (by decide) h63 hby hn (fun _ _ _ _ _ _ _ hr => hr) ?_
  intro g c' H' own hk hg
  refine k _ H' ⟨?_, own, fun g' hg' => ?_⟩
  · exact Kept.trans ho.ext hk (fun _ f _ => f) (fun i hi hl => absurd (ho.new i hi) (by omega))
  · simp only [Value.ownBlock, Option.some.injEq] at hg'
    rcases hg with hg | hg
    · exact hg' ▸ ho.new g hg
    · have := ho.ext.size
      omega
end
attribute [local irreducible] Go.wpList Go.bodyPost Go.Code.wp Go.Exit.then Go.Exit.inBlock Go.Exit.noGoto Ev.wpAnyG Go.Oper.wp Ev.Back Ev.Left Ev.Spc Ev.At Ev.Pure Ev.Reads Ev.Runs Ev.Does Ev.Cell

theorem wordsFrom_step (cur : List UInt8) (b : UInt8) (r : List UInt8) : wordsFrom cur (b :: r) = if b = 32 then cur :: wordsFrom [] r else wordsFrom (cur ++ [b]) r := by rw [wordsFrom]
theorem wordsFrom_nil (cur : List UInt8) : wordsFrom cur [] = [cur] := by rw [wordsFrom]
set_option maxHeartbeats 2000000 in
theorem refWords_spec (l : List UInt8) (H : Heap) (hl : l.length ≤ 100000) : Spc Tryd.prog 12 #[sv l] H fun r H' => Fresh H H' 9 SR r (words l) := by
  refine spec_of Tryd.func12 rfl Tryd.ntmps12 rfl (fun W => ?_)
  repeat (first | refine codeA (k := ?_) | refine condA (k := ?_) | refine offA (k := ?_) | refine pureA (k := ?_) | refine readA (k := ?_))
  refine At_cut (fun (s : Value) => [(3, s)]) (fun s H' => Fresh H H' 9 SR s (words l)) ?_ ?_
  · refine At_block ?_
    refine At_loop (fun (s : Value × List (List UInt8) × Nat × Nat) => [(0, sv l), (3, s.1), (4, .int .i64 s.2.2.1), (5, .int .i64 s.2.2.2)])
      (fun s H' => Fresh H H' 9 SR s.1 s.2.1 ∧ s.2.2.1 ≤ s.2.2.2 ∧ s.2.1.length ≤ s.2.2.2 ∧ ((s.2.2.2 ≤ l.length ∧ words l = s.2.1 ++ wordsFrom ((l.drop s.2.2.1).take (s.2.2.2 - s.2.2.1)) (l.drop s.2.2.2)) ∨ (s.2.2.2 = l.length + 1 ∧ words l = s.2.1))) (fun s => l.length + 1 - s.2.2.2) (.slice none 0 0, [], 0, 0) ?_ ⟨Fresh.nil _ _ _, Nat.le_refl _, Nat.le_refl _, .inl ⟨Nat.zero_le _, by simp [words]⟩⟩ ?_
    · (repeat (first | exact Sub.nil | refine Sub.cons rfl ?_))
    rintro ⟨v, done, from_, i⟩ H1 ⟨hf, hfi, hdn, hw⟩
    dsimp only at hf hfi hdn hw
    show At _ W [(0, sv l), (3, v), (4, .int .i64 from_), (5, .int .i64 i)] H1 _
    repeat (first | refine codeA (k := ?_) | refine condA (k := ?_) | refine offA (k := ?_) | refine pureA (k := ?_) | refine readA (k := ?_))
    refine At_pure (p_lenS rfl rfl) rfl rfl rfl ?_
    rcases hw with ⟨hi, hw⟩ | ⟨rfl, hw⟩
    rotate_left
    · repeat (first | refine codeA (k := ?_) | refine condA (k := ?_) | refine offA (k := ?_) | refine pureA (k := ?_) | refine readA (k := ?_))
      refine At_meet (E := fun (s : Value) => [(3, s)]) (J := fun s H' => Fresh H H' 9 SR s (words l)) v ?_ (hw ▸ hf)
      (repeat (first | exact Sub.nil | refine Sub.cons rfl ?_))
    repeat (first | refine codeA (k := ?_) | refine condA (k := ?_) | refine offA (k := ?_) | refine pureA (k := ?_) | refine readA (k := ?_) | refine At_block ?_)
    refine At_pure (p_lenS rfl rfl) rfl rfl rfl ?_
    by_cases hil : i = l.length
    · subst hil
      rw [List.drop_length, wordsFrom_nil] at hw
      repeat (first | refine codeA (k := ?_) | refine condA (k := ?_) | refine offA (k := ?_) | refine pureA (k := ?_) | refine readA (k := ?_))
      refine At_pure (p_sliceS rfl rfl rfl hfi (Nat.le_refl _)) rfl rfl rfl ?_
      refine At_wp (W_buildSlice1 rfl rfl rfl (by decide) rfl ?_) rfl
      intro g3 H3 hn3
      refine At_wp (W_push (a := (l.drop from_).take (l.length - from_)) rfl rfl (hf.on hn3.ext) hn3.at_ rfl rfl rfl rfl (by omega) (by decide) rfl ?_) rfl
      intro v' H4 hf4
      repeat (first | refine codeA (k := ?_) | refine condA (k := ?_) | refine offA (k := ?_) | refine pureA (k := ?_) | refine readA (k := ?_))
      refine At_back (v', done ++ [(l.drop from_).take (l.length - from_)], l.length + 1, l.length + 1) ?_ ⟨hf4, Nat.le_refl _, by simp; omega, .inr ⟨rfl, hw⟩⟩ (by dsimp only; omega)
      (repeat (first | exact Sub.nil | refine Sub.cons rfl ?_))
    have hx : l[i]? = some l[i] := by simp [show i < l.length by omega]
    have hd : l.drop i = l[i] :: l.drop (i + 1) := List.drop_eq_getElem_cons (by omega)
    have hlt : i < l.length := by omega
    generalize l[i] = b at hx hd
    rw [hd, wordsFrom_step] at hw
    repeat (first | refine codeA (k := ?_) | refine condA (k := ?_) | refine offA (k := ?_) | refine pureA (k := ?_) | refine readA (k := ?_))
    refine At_pure (p_indexS (i := i) (b := b) rfl rfl hx) rfl rfl rfl ?_
    by_cases hb : b.toNat = 32
    · rw [if_pos (show b = 32 from byte_eq hb)] at hw
      repeat (first | refine codeA (k := ?_) | refine condA (k := ?_) | refine offA (k := ?_) | refine pureA (k := ?_) | refine readA (k := ?_))
      refine At_pure (p_sliceS rfl rfl rfl hfi hi) rfl rfl rfl ?_
      refine At_wp (W_buildSlice1 rfl rfl rfl (by decide) rfl ?_) rfl
      intro g3 H3 hn3
      refine At_wp (W_push (a := (l.drop from_).take (i - from_)) rfl rfl (hf.on hn3.ext) hn3.at_ rfl rfl rfl rfl (by omega) (by decide) rfl ?_) rfl
      intro v' H4 hf4
      repeat (first | refine codeA (k := ?_) | refine condA (k := ?_) | refine offA (k := ?_) | refine pureA (k := ?_) | refine readA (k := ?_))
      refine At_back (v', done ++ [(l.drop from_).take (i - from_)], i + 1, i + 1) ?_ ⟨hf4, Nat.le_refl _, by simp; omega, .inl ⟨hlt, by rw [hw]; simp⟩⟩ (by dsimp only; omega)
      (repeat (first | exact Sub.nil | refine Sub.cons rfl ?_))
    · rw [if_neg (fun e => hb (by rw [e]; rfl))] at hw
      repeat (first | refine codeA (k := ?_) | refine condA (k := ?_) | refine offA (k := ?_) | refine pureA (k := ?_) | refine readA (k := ?_))
      refine At_back (v, done, from_, i + 1) ?_ ⟨hf, by dsimp only; omega, by dsimp only; omega, .inl ⟨hlt, ?_⟩⟩ (by dsimp only; omega)
      · (repeat (first | exact Sub.nil | refine Sub.cons rfl ?_))
      · dsimp only
        rw [hw]
        congr 2
        rw [show i + 1 - from_ = (i - from_) + 1 by omega, List.take_add_one]
        congr 1
        rw [List.getElem?_drop, show from_ + (i - from_) = i by omega, hx]
        rfl
  intro v H' hf
  repeat (first | refine codeA (k := ?_) | refine condA (k := ?_) | refine offA (k := ?_) | refine pureA (k := ?_) | refine readA (k := ?_))
  exact At_ret1 rfl rfl hf
end Go.Proofs.YticgbdeoiihbmaaDoor
