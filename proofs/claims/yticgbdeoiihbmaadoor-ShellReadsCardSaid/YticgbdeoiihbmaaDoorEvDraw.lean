/- A region that draws its order: operations that only read are taken first; of the others each comes up when it may. Plain theorems over any program. -/
import Derived.Test.YticgbdeoiihbmaaDoorEvOps
import Derived.OrdersHeld
namespace Ev
open Go
section
variable {P : Program} {ops : Array Oper} {Q : Exit → Act → World → Prop} {md : Region.Mode} {S : Heap → Prop} {needy : List Nat}
def waitsFor (ops : Array Oper) (md : Region.Mode) (j i : Nat) : Bool := match ops[j]? with
  | some o => o.after.any fun e => Region.binds md e && Nat.beq e.on i
  | none => true
/-- may the operation j come up before one of the needy ones? -/
def conf (ops : Array Oper) (md : Region.Mode) (needy : List Nat) (j : Nat) : Bool := needy.any fun i => !(Nat.beq i j) && !(waitsFor ops md j i)
def wpAnyG (P : Program) (md : Region.Mode) (ops : Array Oper) (Q : Exit → Act → World → Prop) (needy : List Nat) (S : Heap → Prop) : Nat → Array Bool → Act → World → Prop
  | 0, listed, a, w => Region.ready md ops listed = [] ∧ Q .normal a w
  | fuel + 1, listed, a, w =>
    (Region.ready md ops listed = [] → Q .normal a w) ∧
    ∀ i ∈ Region.ready md ops listed, wpOp P ops Q i (fun a' w' => (conf ops md needy i = true → S w.heap → S w'.heap) ∧ wpAnyG P md ops Q needy S fuel (listed.setIfInBounds i true) a' w') a w
theorem wpAny_of_G : ∀ (fuel : Nat) (listed : Array Bool) (a : Act) (w : World), wpAnyG P md ops Q needy S fuel listed a w → wpAny P md ops Q fuel listed a w
  | 0, _, _, _, h => h
  | fuel + 1, _, _, _, h => ⟨h.1, fun i hi => wpOp_mono (fun a' w' h' => wpAny_of_G fuel _ a' w' h'.2) (h.2 i hi)⟩
theorem conf_of {i j : Nat} {oj : Oper} (hn : i ∈ needy) (hji : j ≠ i) (hj : ops[j]? = some oj) (hnot : ∀ e ∈ oj.after, Region.binds md e = true → e.on ≠ i) : conf ops md needy j = true := by
  refine List.any_eq_true.2 ⟨i, hn, ?_⟩
  have h1 : Nat.beq i j = false := by
    cases h : Nat.beq i j with
    | false => rfl
    | true => exact absurd (Nat.eq_of_beq_eq_true h).symm hji
  have h2 : waitsFor ops md j i = false := by
    unfold waitsFor
    rw [hj]
    refine Array.any_eq_false.2 ?_
    intro k hk hc
    simp only [Bool.and_eq_true] at hc
    exact hnot _ (Array.getElem_mem hk) hc.1 (Nat.eq_of_beq_eq_true hc.2)
  simp [h1, h2]
theorem wpAnyG_first {i : Nat} {oi : Oper} {v : Value} (hi : ops[i]? = some oi) (hsel : ∀ (j : Nat) (o : Oper) cs b, ops[j]? = some o → o.op ≠ .select cs b)
    (hQ : ∀ c a w, Q (.panic c) (a.put oi.dst v) w → Q (.panic c) a w) :
    ∀ (fuel : Nat) (listed : Array Bool) (a : Act) (w : World),
      (∀ j oj, ops[j]? = some oj → j ≠ i → listed.getD j true = false → (∀ e ∈ oj.after, Region.binds md e = true → e.on ≠ i) → oi.apart ops oj = true) →
      i ∈ Region.ready md ops listed → YieldsIf P ops (fun w => i ∈ needy → S w.heap) oi v a → (i ∈ needy → S w.heap) →
      wpAnyG P md ops Q needy S fuel (listed.setIfInBounds i true) (a.put oi.dst v) w → wpAnyG P md ops Q needy S (fuel + 1) listed a w := by
  intro fuel
  induction fuel with
  | zero =>
    intro listed a w _ hr hy hS H
    refine ⟨fun h => (by rw [h] at hr; cases hr), fun j hj => ?_⟩
    by_cases hji : j = i
    · subst hji; exact hy.wpOp hi hS ⟨fun _ x => x, H⟩
    · have := ready_mono hj hji
      rw [H.1] at this
      cases this
  | succ fuel ih =>
    intro listed a w hfree hr hy hS H
    refine ⟨fun h => (by rw [h] at hr; cases hr), fun j hj => ?_⟩
    by_cases hji : j = i
    · subst hji; exact hy.wpOp hi hS ⟨fun _ x => x, H⟩
    · have h1 := H.2 j (ready_mono hj hji)
      obtain ⟨hjun, oj, hoj, hall⟩ := mem_ready.1 hj
      have hnot : ∀ e ∈ oj.after, Region.binds md e = true → e.on ≠ i := fun e he hb heq => by
        have h1 := hall e he hb
        have h0 := (mem_ready.1 hr).1
        rw [heq] at h1
        rcases Nat.lt_or_ge i listed.size with h' | h'
        · simp [h'] at h0 h1; rw [h0] at h1; cases h1
        · simp [Array.getElem?_eq_none h'] at h1
      have h2 := wpOp_putIf hoj (hfree j oj hoj hji hjun hnot) (fun cs b => hsel i oi cs b hi) (fun cs b => hsel j oj cs b hoj) hQ hy h1
      have hfree' : ∀ k ok, ops[k]? = some ok → k ≠ i → (listed.setIfInBounds j true).getD k true = false →
          (∀ e ∈ ok.after, Region.binds md e = true → e.on ≠ i) → oi.apart ops ok = true := fun k ok hk hki hun hno => by
        refine hfree k ok hk hki ?_ hno
        by_cases hjk : j = k
        · subst hjk; exact hjun
        · rw [getD_set_ne true hjk] at hun; exact hun
      refine wpOp_mono (fun a' w' h3 => ⟨h3.2.1, ih (listed.setIfInBounds j true) a' w' hfree' (ready_mono hr (Ne.symm hji)) h3.1 (fun hn => h3.2.1 (conf_of hn hji hoj hnot) (hS hn)) ?_⟩) h2
      rw [Array.setIfInBounds_comm _ _ hji]
      exact h3.2.2
end

section
variable {P : Program} {n : Nat} {W : World} {env : Env} {H : Heap} {Q : Exit → Act → World → Prop} {ops : Array Oper} {S : Heap → Prop} {needy : List Nat} {fuel : Nat} {listed : Array Bool}
/-- a region that draws its order: 'needy' are the numbers of the operations that read the heap, S what they lean on -/
theorem At_draw {id : Nat} {l : List Oper} (needy : List Nat) (S : Heap → Prop) (hm : P.follows .mixedOrders = true)
    (h : At n W env H (wpAnyG P .any l.toArray Q needy S l.length (Array.replicate l.length false))) : At n W env H ((Code.region id l.toArray true).wp P Q) := fun a w f e k =>
  wp_region_any hm (wpAny_of_G _ _ _ _ (by simpa using h a w.drew f e ⟨k.os, k.tape, k.output⟩))
/-- the post says the same of a panic whatever the frame holds -/
def Calm (Q : Exit → Act → World → Prop) : Prop := ∀ c a d v w, Q (.panic c) (a.put d v) w → Q (.panic c) a w
theorem Calm.post {fn : Func} {R : Value → Heap → Prop} : Calm (Post P fn W R) := fun c a d v w h => by
  cases d <;> exact h
theorem Calm.then {K : Act → World → Prop} (h : Calm Q) : Calm (Exit.then K Q) := h
theorem Calm.inBlock {id : Nat} (h : Calm Q) : Calm (Exit.inBlock id Q) := h
theorem Calm.noGoto (h : Calm Q) : Calm (Exit.noGoto Q) := h
theorem G_pure (i : Nat) {o : Oper} {d : Nat} {v : Value} (ho : ops[i]? = some o) (hp : Pure P n env o v) (hq : Calm Q) (hw : want ops env o = some true) (hd : o.dst = some d) (hn : Nat.blt d n = true)
    (hc : (Region.noSelect ops && Region.free .any ops listed i && (Region.ready .any ops listed).contains i && !needy.contains i) = true)
    (k : At n W ((d, v) :: env) H (wpAnyG P .any ops Q needy S fuel (listed.setIfInBounds i true))) : At n W env H (wpAnyG P .any ops Q needy S (fuel + 1) listed) := fun a w f e l => by
  simp only [Bool.and_eq_true, Bool.not_eq_true'] at hc
  have hni : i ∉ needy := fun h => by simp [h] at hc
  exact wpAnyG_first ho (Region.noSelect_spec hc.1.1.1) (fun c a w => hq c a _ _ w) fuel listed a w (Region.free_spec ho hc.1.1.2) (by simpa using hc.1.2) (.inl ⟨f.wanted hw, fun w _ => hp a w f⟩) (fun h => (hni h).elim) (by rw [hd]; exact k _ w (f.put hn _) e l)
theorem G_off (i : Nat) {o : Oper} {d : Nat} (ho : ops[i]? = some o) (hq : Calm Q) (hw : want ops env o = some false) (hd : o.dst = some d) (hn : Nat.blt d n = true)
    (hc : (Region.noSelect ops && Region.free .any ops listed i && (Region.ready .any ops listed).contains i && !needy.contains i) = true)
    (k : At n W ((d, undef) :: env) H (wpAnyG P .any ops Q needy S fuel (listed.setIfInBounds i true))) : At n W env H (wpAnyG P .any ops Q needy S (fuel + 1) listed) := fun a w f e l => by
  simp only [Bool.and_eq_true, Bool.not_eq_true'] at hc
  have hni : i ∉ needy := fun h => by simp [h] at hc
  exact wpAnyG_first ho (Region.noSelect_spec hc.1.1.1) (fun c a w => hq c a _ _ w) fuel listed a w (Region.free_spec ho hc.1.1.2) (by simpa using hc.1.2) (.inr ⟨f.wanted hw, rfl⟩) (fun h => (hni h).elim) (by rw [hd]; exact k _ w (f.put hn _) e l)
theorem G_off_needy (i : Nat) {o : Oper} {d : Nat} (ho : ops[i]? = some o) (hs : S H) (hq : Calm Q) (hw : want ops env o = some false) (hd : o.dst = some d) (hn : Nat.blt d n = true)
    (hc : (Region.noSelect ops && Region.free .any ops listed i && (Region.ready .any ops listed).contains i) = true)
    (k : At n W ((d, undef) :: env) H (wpAnyG P .any ops Q needy S fuel (listed.setIfInBounds i true))) : At n W env H (wpAnyG P .any ops Q needy S (fuel + 1) listed) := fun a w f e l => by
  simp only [Bool.and_eq_true] at hc
  exact wpAnyG_first ho (Region.noSelect_spec hc.1.1) (fun c a w => hq c a _ _ w) fuel listed a w (Region.free_spec ho hc.1.2) (by simpa using hc.2) (.inr ⟨f.wanted hw, rfl⟩) (fun _ => by rw [e]; exact hs) (by rw [hd]; exact k _ w (f.put hn _) e l)
theorem G_read (i : Nat) {o : Oper} {d : Nat} {v : Value} (ho : ops[i]? = some o) (hs : S H) (hp : ∀ H', S H' → Reads P n env H' o v) (hq : Calm Q) (hw : want ops env o = some true) (hd : o.dst = some d) (hn : Nat.blt d n = true)
    (hc : (Region.noSelect ops && Region.free .any ops listed i && (Region.ready .any ops listed).contains i && needy.contains i) = true)
    (k : At n W ((d, v) :: env) H (wpAnyG P .any ops Q needy S fuel (listed.setIfInBounds i true))) : At n W env H (wpAnyG P .any ops Q needy S (fuel + 1) listed) := fun a w f e l => by
  simp only [Bool.and_eq_true] at hc
  have hi : i ∈ needy := by simpa using hc.2
  exact wpAnyG_first ho (Region.noSelect_spec hc.1.1.1) (fun c a w => hq c a _ _ w) fuel listed a w (Region.free_spec ho hc.1.1.2) (by simpa using hc.1.2) (.inl ⟨f.wanted hw, fun w h => hp _ (h hi) a w f rfl⟩) (fun _ => by rw [e]; exact hs) (by rw [hd]; exact k _ w (f.put hn _) e l)
/-- what is left behind an operation that may turn the heap -/
def Left (P : Program) (ops : Array Oper) (Q : Exit → Act → World → Prop) (needy : List Nat) (S : Heap → Prop) (fuel : Nat) (listed : Array Bool) (i : Nat) (H : Heap) : Act → World → Prop :=
  fun a w => (conf ops .any needy i = true → S H → S w.heap) ∧ wpAnyG P .any ops Q needy S fuel (listed.setIfInBounds i true) a w
theorem G_op (i : Nat) {o : Oper} (ho : ops[i]? = some o) (hr : Region.ready .any ops listed = [i]) (hw : want ops env o = some true)
    (h : At n W env H (fun a w => o.wp P a w (Left P ops Q needy S fuel listed i H) Q)) : At n W env H (wpAnyG P .any ops Q needy S (fuel + 1) listed) := fun a w f e l => by
  refine ⟨fun h0 => (by rw [hr] at h0; cases h0), fun j hj => ?_⟩
  rw [hr] at hj
  obtain rfl : j = i := by simpa using hj
  unfold wpOp
  simp only [ho]
  rw [f.wanted hw, if_pos rfl]
  refine .inl ?_
  subst e
  exact h a w f rfl l
/-- two that may come up -/
theorem G_op2 (i j : Nat) {o p : Oper} (ho : ops[i]? = some o) (hp : ops[j]? = some p) (hr : Region.ready .any ops listed = [i, j]) (hw : want ops env o = some true) (hw2 : want ops env p = some true)
    (h : At n W env H (fun a w => o.wp P a w (Left P ops Q needy S fuel listed i H) Q)) (h2 : At n W env H (fun a w => p.wp P a w (Left P ops Q needy S fuel listed j H) Q)) : At n W env H (wpAnyG P .any ops Q needy S (fuel + 1) listed) := fun a w f e l => by
  refine ⟨fun h0 => (by rw [hr] at h0; cases h0), fun k hk => ?_⟩
  rw [hr] at hk
  subst e
  simp only [List.mem_cons, List.not_mem_nil, or_false] at hk
  rcases hk with rfl | rfl
  · unfold wpOp
    simp only [ho]
    rw [f.wanted hw, if_pos rfl]
    exact .inl (h a w f rfl l)
  · unfold wpOp
    simp only [hp]
    rw [f.wanted hw2, if_pos rfl]
    exact .inl (h2 a w f rfl l)
theorem G_next {i : Nat} {H0 : Heap} (hS : conf ops .any needy i = true → S H0 → S H) (k : At n W env H (wpAnyG P .any ops Q needy S fuel (listed.setIfInBounds i true))) : At n W env H (Left P ops Q needy S fuel listed i H0) := fun a w f e l =>
  ⟨fun h1 h2 => by rw [e]; exact hS h1 h2, k a w f e l⟩
theorem G_free {i : Nat} {H0 : Heap} (hc : conf ops .any needy i = false) (k : At n W env H (wpAnyG P .any ops Q needy S fuel (listed.setIfInBounds i true))) : At n W env H (Left P ops Q needy S fuel listed i H0) :=
  G_next (fun h => by rw [hc] at h; cases h) k
theorem G_done (hr : Region.ready .any ops listed = []) (h : At n W env H (Q .normal)) : At n W env H (wpAnyG P .any ops Q needy S fuel listed) := fun a w f e l => by
  have := h a w f e l
  cases fuel with
  | zero => exact ⟨hr, this⟩
  | succ k => exact ⟨fun _ => this, by rw [hr]; simp⟩
end
end Ev
