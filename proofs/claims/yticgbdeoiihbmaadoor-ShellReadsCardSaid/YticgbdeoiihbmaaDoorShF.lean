/- Lists of numbers. -/
import Derived.Test.YticgbdeoiihbmaaDoorShE
namespace Go.Proofs.YticgbdeoiihbmaaDoor
open Go Ev
set_option linter.unusedVariables false
set_option linter.unusedSimpArgs false

/-- a slice whose elements are f of the list's -/
def Vs {α : Type} (f : α → Value) (H : Heap) (v : Value) (xs : List α) : Prop :=
  ∃ p c, v = .slice p xs.length c ∧ xs.length ≤ c ∧ ∀ (i : Nat) (x : α), xs[i]? = some x → ∃ b o, p = some ⟨b, o, none⟩ ∧ Cell H b (o + i) (f x)
theorem Vs.on {α : Type} {f : α → Value} {H H' : Heap} {v : Value} {xs : List α} (h : Vs f H v xs) (hx : Ext H H') : Vs f H' v xs := by
  obtain ⟨p, c, e, hc, h⟩ := h
  refine ⟨p, c, e, hc, fun i x hi => ?_⟩
  obtain ⟨b, o, e, hb⟩ := h i x hi
  exact ⟨b, o, e, hb.keep hx (fun f => f)⟩
theorem Vs.nil {α : Type} (f : α → Value) (H : Heap) : Vs f H (.slice none 0 0) [] := ⟨none, 0, rfl, Nat.le_refl _, fun i x h => by simp at h⟩
theorem Vs.own {α : Type} {f : α → Value} {H : Heap} {v : Value} {xs : List α} {e : TypeId} {R : α → List Value → Prop} (h : OwnL H e 1 R v xs) (hR : ∀ x row, R x row → row = [f x]) : Vs f H v xs := by
  rcases h.form with ⟨rfl, rfl⟩ | ⟨g, c, rfl, h1, h2, h3⟩
  · exact Vs.nil f H
  · refine ⟨_, c, rfl, h2, fun i x hx => ⟨g, 0, rfl, ?_⟩⟩
    obtain ⟨row, hr, hl, hc⟩ := h.cells hx
    have := hR x row hr
    subst this
    have := hc 0 _ rfl
    rw [show 0 + i = i * 1 + 0 by omega]
    exact this
/-- .. that has elements -/
theorem Vs.some {α : Type} {f : α → Value} {H : Heap} {v : Value} {xs : List α} (h : Vs f H v xs) (hne : xs ≠ []) : ∃ b o c, v = .slice (some ⟨b, o, none⟩) xs.length c ∧ xs.length ≤ c ∧ ∀ (i : Nat) (x : α), xs[i]? = some x → Cell H b (o + i * 1) (f x) := by
  obtain ⟨p, c, rfl, hc, h⟩ := h
  cases xs with
  | nil => exact absurd rfl hne
  | cons x0 r =>
    obtain ⟨b, o, rfl, _⟩ := h 0 x0 rfl
    refine ⟨b, o, c, rfl, hc, fun i x hx => ?_⟩
    obtain ⟨b', o', e, hb⟩ := h i x hx
    simp only [Option.some.injEq, Addr.mk.injEq] at e
    obtain ⟨rfl, rfl, _⟩ := e
    rw [Nat.mul_one]
    exact hb
section
variable {P : Program} {n : Nat} {W : World} {env : Env} {H0 H : Heap} {Q : Exit → Act → World → Prop} {K : Act → World → Prop}
variable {ty : TypeId} {pos : String} {af : Array Edge} {gd : Option (Nat × Bool)}
/-- s[lo:] -/
theorem p_dropV {α : Type} {f : α → Value} {ds : Option Tmp} {x lo : Operand} {t e : TypeId} {d : TypeDesc} {sz sb eb : Nat} {z ez : Value} {kl : IntKind} {i : Nat} {v : Value} {xs : List α} [h : Ty P t (.slice e) sz sb z] [he : Ty P e d 1 eb ez]
    (hv : Vs f H v xs) (hx : ev env x = some v) (hlo : ev env lo = some (.int kl i)) (h1 : i ≤ xs.length) (h0 : 1 ≤ xs.length) :
    ∃ v', Vs f H v' (xs.drop i) ∧ Pure P n env ⟨ds, .slice t x (some lo) none none, ty, pos, af, gd⟩ v' := by
  obtain ⟨b, o, c, rfl, hc, hcell⟩ := hv.some (fun e => by rw [e] at h0; simp at h0)
  by_cases hic : i < c
  · refine ⟨_, ⟨some ⟨b, o + i * 1, none⟩, c - i, ?_, by simp; omega, fun j y hy => ⟨b, o + i * 1, rfl, ?_⟩⟩, p_slice_lo hx hlo h1 hic⟩
    · simp
    · rw [List.getElem?_drop] at hy
      have := hcell _ y hy
      rw [show o + i * 1 + j = o + (i + j) * 1 by omega]
      exact this
  · have : c = i := by omega
    refine ⟨_, ⟨some ⟨b, o, none⟩, c - i, ?_, by simp; omega, fun j y hy => ?_⟩, p_slice_lo_end hx hlo h1 this⟩
    · simp
    · rw [List.getElem?_drop] at hy
      have := (List.getElem?_eq_some_iff.1 hy).1
      omega
theorem p_lenV {α : Type} {f : α → Value} {ds : Option Tmp} {x : Operand} {ats : Array TypeId} {t e : TypeId} {sz sb : Nat} {z : Value} {v : Value} {xs : List α} [h : Ty P t (.slice e) sz sb z] (hv : Vs f H v xs) (hx : ev env x = some v) (hats : ats = #[t]) :
    Pure P n env ⟨ds, .call ⟨.builtin .len, #[x], ats⟩, ty, pos, af, gd⟩ (.int .i64 xs.length) := by
  obtain ⟨p, c, rfl, _⟩ := hv
  exact p_len hx hats
end
def IR (x : Int) (row : List Value) : Prop := row = [.int .i64 x]
def nums : List (List UInt8) → Option (List Int)
  | [] => some []
  | w :: r => match num w with
    | none => none
    | some n => (nums r).map (n :: ·)
theorem nums_len : ∀ {ws : List (List UInt8)} {ns : List Int}, nums ws = some ns → ns.length = ws.length
  | [], ns, h => by simp [nums] at h; subst h; rfl
  | w :: r, ns, h => by
    unfold nums at h
    split at h
    · cases h
    · cases hr : nums r with
      | none => rw [hr] at h; cases h
      | some m =>
        rw [hr] at h
        simp only [Option.map_some, Option.some.injEq] at h
        subst h
        simp [nums_len hr]
attribute [local irreducible] Go.wpList Go.bodyPost Go.Code.wp Go.Exit.then Go.Exit.inBlock Go.Exit.noGoto Ev.wpAnyG Go.Oper.wp Ev.Back Ev.Left Ev.Spc Ev.At Ev.Pure Ev.Reads Ev.Runs Ev.Does Ev.Cell

theorem nums_drop {ws : List (List UInt8)} {i : Nat} {w : List UInt8} (hw : ws[i]? = some w) : nums (ws.drop i) = match num w with
    | none => none
    | some n => (nums (ws.drop (i + 1))).map (n :: ·) := by
  have hlt := (List.getElem?_eq_some_iff.1 hw).1
  have : ws.drop i = w :: ws.drop (i + 1) := by
    rw [List.drop_eq_getElem_cons hlt]
    congr 1
    rw [← Option.some.injEq, ← hw]
    simp [hlt]
  rw [this, nums]
set_option maxHeartbeats 2000000 in
theorem numbers_spec {H : Heap} {v : Value} {ws : List (List UInt8)} (hv : Vs sv H v ws) (hn : ws.length ≤ 100000) (hl : ∀ w ∈ ws, w.length ≤ 100000) :
    Spc Tryd.prog 10 #[v] H fun r H' => match nums ws with
      | none => Ext H H' ∧ r = .tuple #[.slice none 0 0, .bool false]
      | some ns => ∃ v', r = .tuple #[v', .bool true] ∧ Fresh H H' 3 IR v' ns := by
  refine spec_of Tryd.func10 rfl Tryd.ntmps10 rfl (fun W => ?_)
  repeat (first | refine codeA (k := ?_) | refine condA (k := ?_) | refine offA (k := ?_) | refine pureA (k := ?_) | refine readA (k := ?_))
  refine At_pure (p_lenV hv rfl rfl) rfl rfl rfl ?_
  repeat (first | refine codeA (k := ?_) | refine condA (k := ?_) | refine offA (k := ?_) | refine pureA (k := ?_) | refine readA (k := ?_))
  refine At_cut (fun (s : Value) => [(4, s)]) (fun s H' => ∃ ns, nums ws = some ns ∧ Fresh H H' 3 IR s ns) ?_ ?_
  · refine At_block ?_
    refine At_loop (fun (s : Value × List Int × Nat) => [(4, s.1), (9, v), (10, .int .i64 ws.length), (11, .int .i64 s.2.2)])
      (fun s H' => Fresh H H' 3 IR s.1 s.2.1 ∧ s.2.2 ≤ ws.length ∧ s.2.1.length = s.2.2 ∧ nums ws = (nums (ws.drop s.2.2)).map (s.2.1 ++ ·)) (fun s => ws.length - s.2.2) (.slice none 0 0, [], 0) ?_ ⟨Fresh.nil _ _ _, Nat.zero_le _, rfl, by simp⟩ ?_
    · (repeat (first | exact Sub.nil | refine Sub.cons rfl ?_))
    rintro ⟨s, done, i⟩ H1 ⟨hf, hi, hdn, hw⟩
    dsimp only at hf hi hdn hw
    show At _ W [(4, s), (9, v), (10, .int .i64 ws.length), (11, .int .i64 i)] H1 _
    by_cases hil : i < ws.length
    rotate_left
    · obtain rfl : i = ws.length := by omega
      repeat (first | refine codeA (k := ?_) | refine condA (k := ?_) | refine offA (k := ?_) | refine pureA (k := ?_) | refine readA (k := ?_))
      refine At_meet (E := fun (s : Value) => [(4, s)]) (J := fun s H' => ∃ ns, nums ws = some ns ∧ Fresh H H' 3 IR s ns) s ?_ ⟨done, by rw [hw]; simp [nums], hf⟩
      (repeat (first | exact Sub.nil | refine Sub.cons rfl ?_))
    have hx : ws[i]? = some ws[i] := by simp [hil]
    have hm : ws[i].length ≤ 100000 := hl _ (List.getElem_mem _)
    generalize ws[i] = x at hx hm
    obtain ⟨b, o, c, rfl, hc, hcell⟩ := (hv.on hf.ext).some (fun e => by rw [e] at hil; simp at hil)
    have hxc := hcell i x hx
    rw [nums_drop hx] at hw
    repeat (first | refine codeA (k := ?_) | refine condA (k := ?_) | refine offA (k := ?_) | refine pureA (k := ?_) | refine readA (k := ?_) | refine At_block ?_)
    refine At_wp (W_call rfl rfl (number_spec x H1 (by omega)) rfl rfl ?_) rfl
    rintro _ _ ⟨rfl, rfl⟩
    cases hnx : num x with
    | none =>
      rw [hnx] at hw
      rw [show nums ws = none from hw]
      repeat (first | refine codeA (k := ?_) | refine condA (k := ?_) | refine offA (k := ?_) | refine pureA (k := ?_) | refine readA (k := ?_))
      exact At_ret2 rfl rfl rfl ⟨hf.ext, rfl⟩
    | some m =>
      rw [hnx] at hw
      repeat (first | refine codeA (k := ?_) | refine condA (k := ?_) | refine offA (k := ?_) | refine pureA (k := ?_) | refine readA (k := ?_))
      refine At_wp (W_buildSlice1 rfl rfl rfl (by decide) rfl ?_) rfl
      intro g3 H3 hn3
      refine At_wp (W_push (a := m) rfl rfl (hf.on hn3.ext) hn3.at_ rfl rfl rfl rfl (by omega) (by decide) rfl ?_) rfl
      intro v' H4 hf4
      repeat (first | refine codeA (k := ?_) | refine condA (k := ?_) | refine offA (k := ?_) | refine pureA (k := ?_) | refine readA (k := ?_))
      refine At_back (v', done ++ [m], i + 1) ?_ ⟨hf4, hil, by simp; omega, ?_⟩ (by dsimp only; omega)
      · (repeat (first | exact Sub.nil | refine Sub.cons rfl ?_))
      · dsimp only
        rw [hw]
        cases nums (ws.drop (i + 1)) <;> simp
  rintro s H' ⟨ns, e, hf⟩
  rw [e]
  repeat (first | refine codeA (k := ?_) | refine condA (k := ?_) | refine offA (k := ?_) | refine pureA (k := ?_) | refine readA (k := ?_))
  exact At_ret2 rfl rfl rfl ⟨s, rfl, hf⟩
set_option maxHeartbeats 2000000 in
theorem refNumbers_spec {H : Heap} (hL : Lb H) {v : Value} {ws : List (List UInt8)} (hv : Vs sv H v ws) (hn : ws.length ≤ 100000) (hl : ∀ w ∈ ws, w.length ≤ 100000) :
    Spc Tryd.prog 14 #[v] H fun r H' => match nums ws with
      | none => Ext H H' ∧ r = .tuple #[.slice none 0 0, .bool false]
      | some ns => ∃ v', r = .tuple #[v', .bool true] ∧ Fresh H H' 3 IR v' ns := by
  refine spec_of Tryd.func14 rfl Tryd.ntmps14 rfl (fun W => ?_)
  repeat (first | refine codeA (k := ?_) | refine condA (k := ?_) | refine offA (k := ?_) | refine pureA (k := ?_) | refine readA (k := ?_))
  refine At_cut (fun (s : Value) => [(4, s)]) (fun s H' => ∃ ns, nums ws = some ns ∧ Fresh H H' 3 IR s ns) ?_ ?_
  · refine At_block ?_
    refine At_loop (fun (s : Value × List Int × Nat) => [(0, v), (4, s.1), (5, .int .i64 s.2.2)])
      (fun s H' => Fresh H H' 3 IR s.1 s.2.1 ∧ s.2.2 ≤ ws.length ∧ s.2.1.length = s.2.2 ∧ nums ws = (nums (ws.drop s.2.2)).map (s.2.1 ++ ·)) (fun s => ws.length - s.2.2) (.slice none 0 0, [], 0) ?_ ⟨Fresh.nil _ _ _, Nat.zero_le _, rfl, by simp⟩ ?_
    · (repeat (first | exact Sub.nil | refine Sub.cons rfl ?_))
    rintro ⟨s, done, i⟩ H1 ⟨hf, hi, hdn, hw⟩
    dsimp only at hf hi hdn hw
    show At _ W [(0, v), (4, s), (5, .int .i64 i)] H1 _
    repeat (first | refine codeA (k := ?_) | refine condA (k := ?_) | refine offA (k := ?_) | refine pureA (k := ?_) | refine readA (k := ?_))
    refine At_pure (p_lenV hv rfl rfl) rfl rfl rfl ?_
    by_cases hil : i < ws.length
    rotate_left
    · obtain rfl : i = ws.length := by omega
      repeat (first | refine codeA (k := ?_) | refine condA (k := ?_) | refine offA (k := ?_) | refine pureA (k := ?_) | refine readA (k := ?_))
      refine At_meet (E := fun (s : Value) => [(4, s)]) (J := fun s H' => ∃ ns, nums ws = some ns ∧ Fresh H H' 3 IR s ns) s ?_ ⟨done, by rw [hw]; simp [nums], hf⟩
      (repeat (first | exact Sub.nil | refine Sub.cons rfl ?_))
    have hx : ws[i]? = some ws[i] := by simp [hil]
    have hm : ws[i].length ≤ 100000 := hl _ (List.getElem_mem _)
    generalize ws[i] = x at hx hm
    obtain ⟨b, o, c, rfl, hc, hcell⟩ := (hv.on hf.ext).some (fun e => by rw [e] at hil; simp at hil)
    have hxc := hcell i x hx
    rw [nums_drop hx] at hw
    repeat (first | refine codeA (k := ?_) | refine condA (k := ?_) | refine offA (k := ?_) | refine pureA (k := ?_) | refine readA (k := ?_) | refine At_block ?_)
    refine At_wp (W_call rfl rfl (refNumber_spec x (hL.on hf.ext) (by omega)) rfl rfl ?_) rfl
    rintro _ H2 ⟨hx2, rfl⟩
    have hf := hf.on hx2
    cases hnx : num x with
    | none =>
      rw [hnx] at hw
      rw [show nums ws = none from hw]
      repeat (first | refine codeA (k := ?_) | refine condA (k := ?_) | refine offA (k := ?_) | refine pureA (k := ?_) | refine readA (k := ?_))
      exact At_ret2 rfl rfl rfl ⟨hf.ext, rfl⟩
    | some m =>
      rw [hnx] at hw
      repeat (first | refine codeA (k := ?_) | refine condA (k := ?_) | refine offA (k := ?_) | refine pureA (k := ?_) | refine readA (k := ?_))
      refine At_wp (W_buildSlice1 rfl rfl rfl (by decide) rfl ?_) rfl
      intro g3 H3 hn3
      refine At_wp (W_push (a := m) rfl rfl (hf.on hn3.ext) hn3.at_ rfl rfl rfl rfl (by omega) (by decide) rfl ?_) rfl
      intro v' H4 hf4
      repeat (first | refine codeA (k := ?_) | refine condA (k := ?_) | refine offA (k := ?_) | refine pureA (k := ?_) | refine readA (k := ?_))
      refine At_back (v', done ++ [m], i + 1) ?_ ⟨hf4, hil, by simp; omega, ?_⟩ (by dsimp only; omega)
      · (repeat (first | exact Sub.nil | refine Sub.cons rfl ?_))
      · dsimp only
        rw [hw]
        cases nums (ws.drop (i + 1)) <;> simp
  rintro s H' ⟨ns, e, hf⟩
  rw [e]
  repeat (first | refine codeA (k := ?_) | refine condA (k := ?_) | refine offA (k := ?_) | refine pureA (k := ?_) | refine readA (k := ?_))
  exact At_ret2 rfl rfl rfl ⟨s, rfl, hf⟩
end Go.Proofs.YticgbdeoiihbmaaDoor
