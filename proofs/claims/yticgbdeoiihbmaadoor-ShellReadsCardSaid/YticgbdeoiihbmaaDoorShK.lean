/- The walk of shell.readSubmit. -/
import Derived.Test.YticgbdeoiihbmaaDoorShH
namespace Go.Proofs.YticgbdeoiihbmaaDoor
open Go Ev
set_option linter.unusedVariables false
set_option linter.unusedSimpArgs false

def subGood (ws : List (List UInt8)) : Bool :=
  decide (17 ≤ ws.length ∧ ws[2]? = some [117, 115, 101, 114] ∧ ws[4]? = some [110, 101, 101, 100] ∧ ws[7]? = some [119, 97, 108, 108] ∧ ws[9]? = some [114, 117, 110] ∧ ws[11]? = some [98, 97, 115, 101] ∧ ws[13]? = some [97, 102, 116, 101, 114] ∧
    (ws[15]? = some [115, 105, 116, 101, 115] ∨ ws[15]? = some [112, 97, 99, 116]))
def subAct (n : List Int) (s : List Int) (pact : Bool) : Option Ac := match n with
  | [n0, n1, n2, n3, n4, n5, n6, n7] => if okAm n2 n3 then some { Ac0 with k := 1, at_ := n0, ck := 1, user := n1, nn := fl n2, nl := fl n3, wall := n4, run_ := n5, base := n6, aft := n7, sites := s, pact := pact } else none
  | _ => none
def g8 (ws : List (List UInt8)) : List (List UInt8) := [ws.getD 1 [], ws.getD 3 [], ws.getD 5 [], ws.getD 6 [], ws.getD 8 [], ws.getD 10 [], ws.getD 12 [], ws.getD 14 []]
def sub (ws : List (List UInt8)) : Option Ac := match subGood ws with
  | false => none
  | true => match nums (g8 ws), nums (ws.drop 16) with
    | some n, some s => subAct n s (decide (ws.getD 15 [] = [112, 97, 99, 116]))
    | _, _ => none
theorem len8 {n : List Int} (h : n.length = 8) : ∃ n0 n1 n2 n3 n4 n5 n6 n7, n = [n0, n1, n2, n3, n4, n5, n6, n7] := by
  match n, h with
  | [n0, n1, n2, n3, n4, n5, n6, n7], _ => exact ⟨n0, n1, n2, n3, n4, n5, n6, n7, rfl⟩
theorem getW {ws : List (List UInt8)} {j : Nat} (h : j < ws.length) : ws[j]? = some (ws.getD j []) := by
  simp [List.getD, h]
theorem subGood_false {ws : List (List UInt8)} (h : ¬ (17 ≤ ws.length ∧ ws[2]? = some [117, 115, 101, 114] ∧ ws[4]? = some [110, 101, 101, 100] ∧ ws[7]? = some [119, 97, 108, 108] ∧ ws[9]? = some [114, 117, 110] ∧ ws[11]? = some [98, 97, 115, 101] ∧ ws[13]? = some [97, 102, 116, 101, 114] ∧
    (ws[15]? = some [115, 105, 116, 101, 115] ∨ ws[15]? = some [112, 97, 99, 116]))) : subGood ws = false := decide_eq_false h
theorem vs_put {α : Type} {f : α → Value} {H H' : Heap} {v : Value} {xs : List α} {g : Nat} (h : Vs f H v xs) (hk : Kept (· = g) H H') (hb : ∀ b, v.ownBlock = some b → b ≠ g) : Vs f H' v xs := by
  obtain ⟨p, c, e, hc, h⟩ := h
  refine ⟨p, c, e, hc, fun i x hi => ?_⟩
  obtain ⟨b, o, e2, hcell⟩ := h i x hi
  subst e2
  exact ⟨b, o, rfl, hcell.keep hk (hb b (by rw [e]; rfl))⟩
theorem vs_block {α : Type} {f : α → Value} {H : Heap} {b : Nat} {cs : Array Value} {t : TypeId} {fr : Nat × Nat} {xs : List α} (hb : H[b]? = some (.cells cs t fr)) (hc : cs.toList = xs.map f) : Vs f H (.slice (some ⟨b, 0, none⟩) xs.length xs.length) xs :=
  ⟨_, _, rfl, Nat.le_refl _, fun i x hx => ⟨b, 0, rfl, Cell.of hb (by
    rw [← Array.getElem?_toList, hc, Nat.zero_add, List.getElem?_map, hx]
    rfl)⟩⟩
section
variable {P : Program} {n : Nat} {W : World} {env : Env} {H0 H : Heap} {Q : Exit → Act → World → Prop} {K : Act → World → Prop}
variable {ty : TypeId} {pos : String} {af : Array Edge} {gd : Option (Nat × Bool)}
theorem W_dropV {α : Type} {f : α → Value} {dd : Nat} {x lo : Operand} {t e : TypeId} {d : TypeDesc} {sz sb eb : Nat} {z ez : Value} {kl : IntKind} (i : Nat) {v : Value} {xs : List α} [h : Ty P t (.slice e) sz sb z] [he : Ty P e d 1 eb ez]
    (hv : Vs f H v xs) (hx : ev env x = some v) (hlo : ev env lo = some (.int kl i)) (h1 : i ≤ xs.length) (h0 : 1 ≤ xs.length) (hn : Nat.blt dd n = true) (k : ∀ v', Vs f H v' (xs.drop i) → At n W ((dd, v') :: env) H K) :
    At n W env H (fun a w => Oper.wp P ⟨some dd, .slice t x (some lo) none none, ty, pos, af, gd⟩ a w K Q) := by
  obtain ⟨v', hv', hp⟩ := p_dropV (P := P) (n := n) (ds := some dd) (ty := ty) (pos := pos) (af := af) (gd := gd) (t := t) hv hx hlo h1 h0
  exact W_run hp.reads.runs rfl hn (k v' hv')
end
/-- a list of words as numbers, whatever comes of it -/
def NR (ws : List (List UInt8)) (H : Heap) (r : Value) (H' : Heap) : Prop := Ext H H' ∧ ∃ v', r = .tuple #[v', .bool (nums ws).isSome] ∧ Vs iv H' v' ((nums ws).getD []) ∧ ∀ g, v'.ownBlock = some g → H.size ≤ g
theorem iv_own {H : Heap} {v : Value} {ns : List Int} {e : TypeId} (h : OwnL H e 1 IR v ns) : Vs iv H v ns := Vs.own h (fun x row hr => hr)
theorem NR.of {ws : List (List UInt8)} {H H' : Heap} {r : Value} {e : TypeId} (h : match nums ws with
      | none => Ext H H' ∧ r = .tuple #[.slice none 0 0, .bool false]
      | some ns => ∃ v', r = .tuple #[v', .bool true] ∧ Fresh H H' e IR v' ns) : NR ws H r H' := by
  unfold NR
  cases hn : nums ws with
  | none =>
    rw [hn] at h
    exact ⟨h.1, _, h.2, Vs.nil _ _, fun g e => by cases e⟩
  | some ns =>
    rw [hn] at h
    obtain ⟨v', h1, h2⟩ := h
    exact ⟨h2.ext, v', h1, iv_own h2.own, h2.new⟩
attribute [local irreducible] Go.wpList Go.bodyPost Go.Code.wp Go.Exit.then Go.Exit.inBlock Go.Exit.noGoto Ev.wpAnyG Go.Oper.wp Ev.Back Ev.Left Ev.Spc Ev.At Ev.Pure Ev.Reads Ev.Runs Ev.Does Ev.Cell

theorem numbers_nr {H : Heap} {v : Value} {ws : List (List UInt8)} (hv : Vs sv H v ws) (hn : ws.length ≤ 100000) (hl : ∀ w ∈ ws, w.length ≤ 100000) : Spc Tryd.prog 10 #[v] H fun r H' => NR ws H r H' :=
  (numbers_spec hv hn hl).mono fun r H' h => NR.of h
theorem refNumbers_nr {H : Heap} (hL : Lb H) {v : Value} {ws : List (List UInt8)} (hv : Vs sv H v ws) (hn : ws.length ≤ 100000) (hl : ∀ w ∈ ws, w.length ≤ 100000) : Spc Tryd.prog 14 #[v] H fun r H' => NR ws H r H' :=
  (refNumbers_spec hL hv hn hl).mono fun r H' h => NR.of h
theorem g8_len {ws : List (List UInt8)} (h17 : 17 ≤ ws.length) (hl : ∀ w ∈ ws, w.length ≤ 100000) : ∀ w ∈ g8 ws, w.length ≤ 100000 := by
  have hg : ∀ j, j < ws.length → (ws.getD j []).length ≤ 100000 := fun j hj => hl _ (List.mem_of_getElem? (getW hj))
  intro w hw
  simp only [g8, List.mem_cons, List.not_mem_nil, or_false] at hw
  rcases hw with rfl | rfl | rfl | rfl | rfl | rfl | rfl | rfl <;> exact hg _ (by omega)
theorem drop_len {ws : List (List UInt8)} (hl : ∀ w ∈ ws, w.length ≤ 100000) (i : Nat) : ∀ w ∈ ws.drop i, w.length ≤ 100000 := fun w hw => hl w (List.mem_of_mem_drop hw)

set_option maxHeartbeats 8000000 in
theorem readSubmit_spec {H : Heap} {v : Value} {ws : List (List UInt8)} (hv : Vs sv H v ws) (hn : ws.length ≤ 100000) (hl : ∀ w ∈ ws, w.length ≤ 100000) :
    Spc Tryd.prog 9 #[v] H fun r H' => PR (sub ws) H r H' := by
  refine spec_of Tryd.func9 rfl Tryd.ntmps9 rfl (fun W => ?_)
  repeat (first | refine codeA (k := ?_) | refine condA (k := ?_) | refine offA (k := ?_) | refine pureA (k := ?_) | refine readA (k := ?_))
  refine At_wp (W_alloc rfl rfl ?_) rfl
  intro g2 H1 n2
  have hv := hv.on n2.ext
  (repeat (first | refine pureA (k := ?_)))
  refine At_nil ?_
  refine At_then_normal ?_
  refine At_seq ?_
  refine At_seq ?_
  refine At_cut (fun (s : Unit) => [(0, v), (2, .pointer (some ⟨g2, 0, none⟩)), (61, .bool (!(subGood ws)))]) (fun s H' => H' = H1) ?_ ?_
  · by_cases h17 : 17 ≤ ws.length
    rotate_left
    · rw [subGood_false (fun e => h17 e.1)]
      obtain ⟨p, c, rfl, _⟩ := hv
      repeat (first | refine codeA (k := ?_) | refine condA (k := ?_) | refine offA (k := ?_) | refine pureA (k := ?_) | refine readA (k := ?_) | refine strA (k := ?_) | refine At_block ?_)
      refine At_meet (E := fun (s : Unit) => _) (J := fun s H' => H' = H1) () ?_ rfl
      (repeat (first | exact Sub.nil | refine Sub.cons rfl ?_))
    obtain ⟨b, o, c, rfl, hc, hcell⟩ := hv.some (fun e => by rw [e] at h17; simp at h17)
    have h2 := getW (ws := ws) (j := 2) (by omega)
    have h4 := getW (ws := ws) (j := 4) (by omega)
    have h7 := getW (ws := ws) (j := 7) (by omega)
    have h9 := getW (ws := ws) (j := 9) (by omega)
    have h11 := getW (ws := ws) (j := 11) (by omega)
    have h13 := getW (ws := ws) (j := 13) (by omega)
    have h15 := getW (ws := ws) (j := 15) (by omega)
    generalize ws.getD 2 [] = w2 at h2
    generalize ws.getD 4 [] = w4 at h4
    generalize ws.getD 7 [] = w7 at h7
    generalize ws.getD 9 [] = w9 at h9
    generalize ws.getD 11 [] = w11 at h11
    generalize ws.getD 13 [] = w13 at h13
    generalize ws.getD 15 [] = w15 at h15
    have c2 := hcell 2 _ h2
    have c4 := hcell 4 _ h4
    have c7 := hcell 7 _ h7
    have c9 := hcell 9 _ h9
    have c11 := hcell 11 _ h11
    have c13 := hcell 13 _ h13
    have c15 := hcell 15 _ h15
    by_cases e2 : w2 = [117, 115, 101, 114]
    rotate_left
    · rw [subGood_false (fun e => e2 (by have := e.2.1; rw [h2] at this; simpa using this))]
      repeat (first | refine codeA (k := ?_) | refine condA (k := ?_) | refine offA (k := ?_) | refine pureA (k := ?_) | refine readA (k := ?_) | refine strA (k := ?_) | refine At_block ?_)
      refine At_meet (E := fun (s : Unit) => _) (J := fun s H' => H' = H1) () ?_ rfl
      (repeat (first | exact Sub.nil | refine Sub.cons rfl ?_))
    subst e2
    by_cases e4 : w4 = [110, 101, 101, 100]
    rotate_left
    · rw [subGood_false (fun e => e4 (by have := e.2.2.1; rw [h4] at this; simpa using this))]
      repeat (first | refine codeA (k := ?_) | refine condA (k := ?_) | refine offA (k := ?_) | refine pureA (k := ?_) | refine readA (k := ?_) | refine strA (k := ?_) | refine At_block ?_)
      refine At_meet (E := fun (s : Unit) => _) (J := fun s H' => H' = H1) () ?_ rfl
      (repeat (first | exact Sub.nil | refine Sub.cons rfl ?_))
    subst e4
    by_cases e7 : w7 = [119, 97, 108, 108]
    rotate_left
    · rw [subGood_false (fun e => e7 (by have := e.2.2.2.1; rw [h7] at this; simpa using this))]
      repeat (first | refine codeA (k := ?_) | refine condA (k := ?_) | refine offA (k := ?_) | refine pureA (k := ?_) | refine readA (k := ?_) | refine strA (k := ?_) | refine At_block ?_)
      refine At_meet (E := fun (s : Unit) => _) (J := fun s H' => H' = H1) () ?_ rfl
      (repeat (first | exact Sub.nil | refine Sub.cons rfl ?_))
    subst e7
    by_cases e9 : w9 = [114, 117, 110]
    rotate_left
    · rw [subGood_false (fun e => e9 (by have := e.2.2.2.2.1; rw [h9] at this; simpa using this))]
      repeat (first | refine codeA (k := ?_) | refine condA (k := ?_) | refine offA (k := ?_) | refine pureA (k := ?_) | refine readA (k := ?_) | refine strA (k := ?_) | refine At_block ?_)
      refine At_meet (E := fun (s : Unit) => _) (J := fun s H' => H' = H1) () ?_ rfl
      (repeat (first | exact Sub.nil | refine Sub.cons rfl ?_))
    subst e9
    by_cases e11 : w11 = [98, 97, 115, 101]
    rotate_left
    · rw [subGood_false (fun e => e11 (by have := e.2.2.2.2.2.1; rw [h11] at this; simpa using this))]
      repeat (first | refine codeA (k := ?_) | refine condA (k := ?_) | refine offA (k := ?_) | refine pureA (k := ?_) | refine readA (k := ?_) | refine strA (k := ?_) | refine At_block ?_)
      refine At_meet (E := fun (s : Unit) => _) (J := fun s H' => H' = H1) () ?_ rfl
      (repeat (first | exact Sub.nil | refine Sub.cons rfl ?_))
    subst e11
    by_cases e13 : w13 = [97, 102, 116, 101, 114]
    rotate_left
    · rw [subGood_false (fun e => e13 (by have := e.2.2.2.2.2.2.1; rw [h13] at this; simpa using this))]
      repeat (first | refine codeA (k := ?_) | refine condA (k := ?_) | refine offA (k := ?_) | refine pureA (k := ?_) | refine readA (k := ?_) | refine strA (k := ?_) | refine At_block ?_)
      refine At_meet (E := fun (s : Unit) => _) (J := fun s H' => H' = H1) () ?_ rfl
      (repeat (first | exact Sub.nil | refine Sub.cons rfl ?_))
    subst e13
    by_cases e15 : w15 = [115, 105, 116, 101, 115]
    · subst e15
      rw [show subGood ws = true from decide_eq_true ⟨h17, h2, h4, h7, h9, h11, h13, .inl h15⟩]
      repeat (first | refine codeA (k := ?_) | refine condA (k := ?_) | refine offA (k := ?_) | refine pureA (k := ?_) | refine readA (k := ?_) | refine strA (k := ?_) | refine At_block ?_)
      refine At_meet (E := fun (s : Unit) => _) (J := fun s H' => H' = H1) () ?_ rfl
      (repeat (first | exact Sub.nil | refine Sub.cons rfl ?_))
    by_cases f15 : w15 = [112, 97, 99, 116]
    · subst f15
      rw [show subGood ws = true from decide_eq_true ⟨h17, h2, h4, h7, h9, h11, h13, .inr h15⟩]
      repeat (first | refine codeA (k := ?_) | refine condA (k := ?_) | refine offA (k := ?_) | refine pureA (k := ?_) | refine readA (k := ?_) | refine strA (k := ?_) | refine At_block ?_)
      refine At_meet (E := fun (s : Unit) => _) (J := fun s H' => H' = H1) () ?_ rfl
      (repeat (first | exact Sub.nil | refine Sub.cons rfl ?_))
    · rw [subGood_false (fun e => by
        have := e.2.2.2.2.2.2.2
        rw [h15] at this
        rcases this with this | this
        · exact e15 (by simpa using this)
        · exact f15 (by simpa using this))]
      repeat (first | refine codeA (k := ?_) | refine condA (k := ?_) | refine offA (k := ?_) | refine pureA (k := ?_) | refine readA (k := ?_) | refine strA (k := ?_) | refine At_block ?_)
      refine At_meet (E := fun (s : Unit) => _) (J := fun s H' => H' = H1) () ?_ rfl
      (repeat (first | exact Sub.nil | refine Sub.cons rfl ?_))
  rintro _ _ rfl
  rename_i H1
  unfold sub
  cases hg : subGood ws
  · dsimp only
    repeat (first | refine codeA (k := ?_) | refine condA (k := ?_) | refine offA (k := ?_) | refine pureA (k := ?_) | refine readA (k := ?_))
    refine At_pure (p_build (acC Ac0 (.slice none 0 0)) rfl rfl) rfl rfl rfl ?_
    refine At_wp (W_storeB rfl rfl n2.at_ rfl rfl rfl rfl ?_) rfl
    intro H5 p5
    repeat (first | refine codeA (k := ?_) | refine condA (k := ?_) | refine offA (k := ?_) | refine pureA (k := ?_) | refine readA (k := ?_))
    exact At_retC2 rfl rfl p5.at_ rfl rfl rfl (PR.none (ext_put n2.ext p5.kept n2.blk))
  have hgp := of_decide_eq_true hg
  have h17 := hgp.1
  dsimp only
  have hgl := g8_len h17 hl
  obtain ⟨b, o, c, rfl, hc, hcell⟩ := hv.some (fun e => by rw [e] at h17; simp at h17)
  have c1 := hcell 1 _ (getW (j := 1) (by omega))
  have c3 := hcell 3 _ (getW (j := 3) (by omega))
  have c5 := hcell 5 _ (getW (j := 5) (by omega))
  have c6 := hcell 6 _ (getW (j := 6) (by omega))
  have c8 := hcell 8 _ (getW (j := 8) (by omega))
  have c10 := hcell 10 _ (getW (j := 10) (by omega))
  have c12 := hcell 12 _ (getW (j := 12) (by omega))
  have c14 := hcell 14 _ (getW (j := 14) (by omega))
  have c15 := hcell 15 _ (getW (j := 15) (by omega))
  have ss : Ext H1 H1 := Kept.refl _ _
  repeat (first | refine codeA (k := ?_) | refine condA (k := ?_) | refine offA (k := ?_) | refine pureA (k := ?_) | refine readA (k := ?_))
  refine At_draw [2, 5, 8, 11, 14, 17, 20, 23] (fun H' => Ext H1 H') Tryd.mixed ?_
  first | refine gA 0 (k := ?_) | refine goffA 0 (k := ?_)
  refine gqA 1 rfl (p_indexAddr (i := 1) rfl rfl (by omega)) (k := ?_)
  refine grA 2 ss (fun H' hS' => r_load rfl rfl ((c1.keep hS' (fun f => f)))) (k := ?_)
  first | refine gA 3 (k := ?_) | refine goffA 3 (k := ?_)
  refine gqA 4 rfl (p_indexAddr (i := 3) rfl rfl (by omega)) (k := ?_)
  refine grA 5 ss (fun H' hS' => r_load rfl rfl ((c3.keep hS' (fun f => f)))) (k := ?_)
  first | refine gA 6 (k := ?_) | refine goffA 6 (k := ?_)
  refine gqA 7 rfl (p_indexAddr (i := 5) rfl rfl (by omega)) (k := ?_)
  refine grA 8 ss (fun H' hS' => r_load rfl rfl ((c5.keep hS' (fun f => f)))) (k := ?_)
  first | refine gA 9 (k := ?_) | refine goffA 9 (k := ?_)
  refine gqA 10 rfl (p_indexAddr (i := 6) rfl rfl (by omega)) (k := ?_)
  refine grA 11 ss (fun H' hS' => r_load rfl rfl ((c6.keep hS' (fun f => f)))) (k := ?_)
  first | refine gA 12 (k := ?_) | refine goffA 12 (k := ?_)
  refine gqA 13 rfl (p_indexAddr (i := 8) rfl rfl (by omega)) (k := ?_)
  refine grA 14 ss (fun H' hS' => r_load rfl rfl ((c8.keep hS' (fun f => f)))) (k := ?_)
  first | refine gA 15 (k := ?_) | refine goffA 15 (k := ?_)
  refine gqA 16 rfl (p_indexAddr (i := 10) rfl rfl (by omega)) (k := ?_)
  refine grA 17 ss (fun H' hS' => r_load rfl rfl ((c10.keep hS' (fun f => f)))) (k := ?_)
  first | refine gA 18 (k := ?_) | refine goffA 18 (k := ?_)
  refine gqA 19 rfl (p_indexAddr (i := 12) rfl rfl (by omega)) (k := ?_)
  refine grA 20 ss (fun H' hS' => r_load rfl rfl ((c12.keep hS' (fun f => f)))) (k := ?_)
  first | refine gA 21 (k := ?_) | refine goffA 21 (k := ?_)
  refine gqA 22 rfl (p_indexAddr (i := 14) rfl rfl (by omega)) (k := ?_)
  refine grA 23 ss (fun H' hS' => r_load rfl rfl ((c14.keep hS' (fun f => f)))) (k := ?_)
  refine G_op 24 rfl (by kernel_rfl) rfl (W_buildSliceN (cs := ((g8 ws).map sv).toArray) rfl (by kernel_rfl) (by decide) rfl ?_) 
  intro g8' H2 n8
  refine G_free (by kernel_rfl) ?_
  refine G_op 25 rfl (by kernel_rfl) rfl (W_call rfl rfl (numbers_nr (vs_block n8.at_ rfl) (show 8 ≤ 100000 by decide) hgl) rfl rfl ?_) 
  rintro _ H3 ⟨hx3, v1, rfl, hv1, _⟩
  refine G_next (fun _ s => s.trans hx3) ?_
  first | refine gA 26 (k := ?_) | refine goffA 26 (k := ?_)
  first | refine gA 27 (k := ?_) | refine goffA 27 (k := ?_)
  first | refine gA 28 (k := ?_) | refine goffA 28 (k := ?_)
  first | refine gA 29 (k := ?_) | refine goffA 29 (k := ?_)
  first | refine gA 30 (k := ?_) | refine goffA 30 (k := ?_)
  refine G_done (by kernel_rfl) ?_
  repeat (first | refine codeA (k := ?_) | refine condA (k := ?_) | refine offA (k := ?_) | refine pureA (k := ?_) | refine readA (k := ?_))
  have hv3 := hv.on (n8.ext.trans hx3)
  refine At_wp (W_dropV 16 hv3 rfl rfl (by omega) (by omega) rfl ?_) rfl
  intro v2 hv2
  repeat (first | refine codeA (k := ?_) | refine condA (k := ?_) | refine offA (k := ?_) | refine pureA (k := ?_) | refine readA (k := ?_))
  refine At_wp (W_call rfl rfl (numbers_nr hv2 (by simp; omega) (drop_len hl 16)) rfl rfl ?_) rfl
  rintro _ H4 ⟨hx4, v3, rfl, hv4, hnew⟩
  have n24 : Ext H1 H4 := (n8.ext.trans hx3).trans hx4
  have r2 := n24.keep n2.at_ (fun f => f)
  cases hns : nums (g8 ws) with
  | none =>
    dsimp only
    repeat (first | refine codeA (k := ?_) | refine condA (k := ?_) | refine offA (k := ?_) | refine pureA (k := ?_) | refine readA (k := ?_))
    refine At_pure (p_build (acC Ac0 (.slice none 0 0)) rfl rfl) rfl rfl rfl ?_
    refine At_wp (W_storeB rfl rfl r2 rfl rfl rfl rfl ?_) rfl
    intro H5 p5
    repeat (first | refine codeA (k := ?_) | refine condA (k := ?_) | refine offA (k := ?_) | refine pureA (k := ?_) | refine readA (k := ?_))
    exact At_retC2 rfl rfl p5.at_ rfl rfl rfl (PR.none (ext_put (n2.ext.trans n24) p5.kept n2.blk))
  | some ns =>
  cases hss : nums (ws.drop 16) with
  | none =>
    dsimp only
    repeat (first | refine codeA (k := ?_) | refine condA (k := ?_) | refine offA (k := ?_) | refine pureA (k := ?_) | refine readA (k := ?_))
    refine At_pure (p_build (acC Ac0 (.slice none 0 0)) rfl rfl) rfl rfl rfl ?_
    refine At_wp (W_storeB rfl rfl r2 rfl rfl rfl rfl ?_) rfl
    intro H5 p5
    repeat (first | refine codeA (k := ?_) | refine condA (k := ?_) | refine offA (k := ?_) | refine pureA (k := ?_) | refine readA (k := ?_))
    exact At_retC2 rfl rfl p5.at_ rfl rfl rfl (PR.none (ext_put (n2.ext.trans n24) p5.kept n2.blk))
  | some st =>
  dsimp only
  rw [hns] at hv1
  rw [hss] at hv4
  have hnl := nums_len hns
  obtain ⟨n0, n1, n2', n3, n4, n5, n6, n7, rfl⟩ := len8 (n := ns) (by rw [hnl]; rfl)
  have hv1 : Vs iv H4 v1 [n0, n1, n2', n3, n4, n5, n6, n7] := hv1.on hx4
  have hv4 : Vs iv H4 v3 st := hv4
  obtain ⟨b1, o1, q1, rfl, hq1, hcel⟩ := hv1.some (by simp)
  obtain ⟨p3, q3, e3, hq3, _⟩ := id hv4
  subst e3
  have d0 : Cell H4 b1 (o1 + 0 * 1) (.int .i64 n0) := hcel 0 _ rfl
  have d1 : Cell H4 b1 (o1 + 1 * 1) (.int .i64 n1) := hcel 1 _ rfl
  have d2 : Cell H4 b1 (o1 + 2 * 1) (.int .i64 n2') := hcel 2 _ rfl
  have d3 : Cell H4 b1 (o1 + 3 * 1) (.int .i64 n3) := hcel 3 _ rfl
  have d4 : Cell H4 b1 (o1 + 4 * 1) (.int .i64 n4) := hcel 4 _ rfl
  have d5 : Cell H4 b1 (o1 + 5 * 1) (.int .i64 n5) := hcel 5 _ rfl
  have d6 : Cell H4 b1 (o1 + 6 * 1) (.int .i64 n6) := hcel 6 _ rfl
  have d7 : Cell H4 b1 (o1 + 7 * 1) (.int .i64 n7) := hcel 7 _ rfl
  have e8 : ([n0, n1, n2', n3, n4, n5, n6, n7] : List Int).length = 8 := rfl
  rw [e8]
  have c15 := c15.keep n24 (fun f => f)
  have ss4 : Ext H4 H4 := Kept.refl _ _
  repeat (first | refine codeA (k := ?_) | refine condA (k := ?_) | refine offA (k := ?_) | refine pureA (k := ?_) | refine readA (k := ?_))
  refine At_draw [2, 5] (fun H' => Ext H4 H') Tryd.mixed ?_
  first | refine gA 0 (k := ?_) | refine goffA 0 (k := ?_)
  refine gqA 1 rfl (p_indexAddr (i := 2) rfl rfl (by omega)) (k := ?_)
  refine grA 2 ss4 (fun H' hS' => r_load rfl rfl ((d2.keep hS' (fun f => f)))) (k := ?_)
  first | refine gA 3 (k := ?_) | refine goffA 3 (k := ?_)
  refine gqA 4 rfl (p_indexAddr (i := 3) rfl rfl (by omega)) (k := ?_)
  refine grA 5 ss4 (fun H' hS' => r_load rfl rfl ((d3.keep hS' (fun f => f)))) (k := ?_)
  refine G_op 6 rfl (by kernel_rfl) rfl (W_call rfl rfl (make1_spec n2' n3 H4) rfl rfl ?_) 
  rintro _ _ ⟨rfl, rfl⟩
  refine G_next (fun _ s => s) ?_
  unfold am subAct
  dsimp only
  by_cases hok : okAm n2' n3
  rotate_left
  · rw [if_neg hok, if_neg hok]
    first | refine gA 7 (k := ?_) | refine goffA 7 (k := ?_)
    first | refine gA 8 (k := ?_) | refine goffA 8 (k := ?_)
    first | refine gA 9 (k := ?_) | refine goffA 9 (k := ?_)
    first | refine gA 10 (k := ?_) | refine goffA 10 (k := ?_)
    first | refine gA 11 (k := ?_) | refine goffA 11 (k := ?_)
    refine G_done (by kernel_rfl) ?_
    repeat (first | refine codeA (k := ?_) | refine condA (k := ?_) | refine offA (k := ?_) | refine pureA (k := ?_) | refine readA (k := ?_))
    refine At_pure (p_build (acC Ac0 (.slice none 0 0)) rfl rfl) rfl rfl rfl ?_
    refine At_wp (W_storeB rfl rfl r2 rfl rfl rfl rfl ?_) rfl
    intro H5 p5
    repeat (first | refine codeA (k := ?_) | refine condA (k := ?_) | refine offA (k := ?_) | refine pureA (k := ?_) | refine readA (k := ?_))
    exact At_retC2 rfl rfl p5.at_ rfl rfl rfl (PR.none (ext_put (n2.ext.trans n24) p5.kept n2.blk))
  rw [if_pos hok, if_pos hok]
  first | refine gA 7 (k := ?_) | refine goffA 7 (k := ?_)
  first | refine gA 8 (k := ?_) | refine goffA 8 (k := ?_)
  first | refine gA 9 (k := ?_) | refine goffA 9 (k := ?_)
  first | refine gA 10 (k := ?_) | refine goffA 10 (k := ?_)
  first | refine gA 11 (k := ?_) | refine goffA 11 (k := ?_)
  refine G_done (by kernel_rfl) ?_
  repeat (first | refine codeA (k := ?_) | refine condA (k := ?_) | refine offA (k := ?_) | refine pureA (k := ?_) | refine readA (k := ?_))
  refine At_draw [2, 6, 9, 12, 15, 19] (fun H' => Ext H4 H') Tryd.mixed ?_
  first | refine gA 0 (k := ?_) | refine goffA 0 (k := ?_)
  refine gqA 1 rfl (p_indexAddr (i := 1) rfl rfl (by omega)) (k := ?_)
  refine grA 2 ss4 (fun H' hS' => r_load rfl rfl ((d1.keep hS' (fun f => f)))) (k := ?_)
  first | refine gA 3 (k := ?_) | refine goffA 3 (k := ?_)
  first | refine gA 4 (k := ?_) | refine goffA 4 (k := ?_)
  refine gqA 5 rfl (p_indexAddr (i := 4) rfl rfl (by omega)) (k := ?_)
  refine grA 6 ss4 (fun H' hS' => r_load rfl rfl ((d4.keep hS' (fun f => f)))) (k := ?_)
  first | refine gA 7 (k := ?_) | refine goffA 7 (k := ?_)
  refine gqA 8 rfl (p_indexAddr (i := 5) rfl rfl (by omega)) (k := ?_)
  refine grA 9 ss4 (fun H' hS' => r_load rfl rfl ((d5.keep hS' (fun f => f)))) (k := ?_)
  first | refine gA 10 (k := ?_) | refine goffA 10 (k := ?_)
  refine gqA 11 rfl (p_indexAddr (i := 6) rfl rfl (by omega)) (k := ?_)
  refine grA 12 ss4 (fun H' hS' => r_load rfl rfl ((d6.keep hS' (fun f => f)))) (k := ?_)
  first | refine gA 13 (k := ?_) | refine goffA 13 (k := ?_)
  refine gqA 14 rfl (p_indexAddr (i := 7) rfl rfl (by omega)) (k := ?_)
  refine grA 15 ss4 (fun H' hS' => r_load rfl rfl ((d7.keep hS' (fun f => f)))) (k := ?_)
  first | refine gA 16 (k := ?_) | refine goffA 16 (k := ?_)
  first | refine gA 17 (k := ?_) | refine goffA 17 (k := ?_)
  refine gqA 18 rfl (p_indexAddr (i := 15) rfl rfl (by omega)) (k := ?_)
  refine grA 19 ss4 (fun H' hS' => r_load rfl rfl ((c15.keep hS' (fun f => f)))) (k := ?_)
  refine gqA 20 rfl (p_eql_string rfl rfl) (k := ?_)
  generalize hpc : decide (ws.getD 15 [] = [112, 97, 99, 116]) = pc
  refine gpA 21 (p_build (jobC { Ac0 with user := n1, nn := fl n2', nl := fl n3, wall := n4, run_ := n5, base := n6, aft := n7, pact := pc } (.slice p3 st.length q3)) rfl rfl) (k := ?_)
  refine G_op 22 rfl (by kernel_rfl) rfl (W_alloc rfl rfl ?_) 
  intro g10 H6 n10
  refine G_next (fun _ s => s.trans n10.ext) ?_
  refine G_op 23 rfl (by kernel_rfl) rfl (W_storeB rfl rfl n10.at_ rfl rfl rfl rfl ?_) 
  intro H7 p7
  refine G_free (by kernel_rfl) ?_
  refine G_done (by kernel_rfl) ?_
  repeat (first | refine codeA (k := ?_) | refine condA (k := ?_) | refine offA (k := ?_) | refine pureA (k := ?_) | refine readA (k := ?_))
  have x47 : Ext H4 H7 := ext_put n10.ext p7.kept n10.blk
  have d0 := d0.keep x47 (fun f => f)
  have ss7 : Ext H7 H7 := Kept.refl _ _
  refine At_draw [2, 3] (fun H' => Ext H7 H') Tryd.mixed ?_
  first | refine gA 0 (k := ?_) | refine goffA 0 (k := ?_)
  refine gqA 1 rfl (p_indexAddr (i := 0) rfl rfl (by omega)) (k := ?_)
  refine grA 2 ss7 (fun H' hS' => r_load rfl rfl ((d0.keep hS' (fun f => f)))) (k := ?_)
  refine grA 3 ss7 (fun H' hS' => r_loadB rfl (hS'.keep p7.at_ (fun f => f)) rfl rfl) (k := ?_)
  refine gpA 4 (p_build (cmdC { Ac0 with ck := 1, user := n1, nn := fl n2', nl := fl n3, wall := n4, run_ := n5, base := n6, aft := n7, pact := pc } (.slice p3 st.length q3)) rfl rfl) (k := ?_)
  refine G_op 5 rfl (by kernel_rfl) rfl (W_call rfl rfl (command_spec n0 { Ac0 with ck := 1, user := n1, nn := fl n2', nl := fl n3, wall := n4, run_ := n5, base := n6, aft := n7, pact := pc } p3 st.length q3 H7) rfl rfl ?_) 
  rintro _ H8 ⟨hx8, rfl⟩
  refine G_next (fun _ s => s.trans hx8) ?_
  refine G_op 6 rfl (by kernel_rfl) rfl (W_storeB rfl rfl ((x47.trans hx8).keep r2 (fun f => f)) rfl rfl rfl rfl ?_) 
  intro H9 p9
  refine G_free (by kernel_rfl) ?_
  first | refine gA 7 (k := ?_) | refine goffA 7 (k := ?_)
  refine G_done (by kernel_rfl) ?_
  repeat (first | refine codeA (k := ?_) | refine condA (k := ?_) | refine offA (k := ?_) | refine pureA (k := ?_) | refine readA (k := ?_))
  refine At_retC2 rfl rfl p9.at_ rfl rfl rfl ?_
  have x9 : Ext H H9 := ext_put (((n2.ext.trans n24).trans x47).trans hx8) p9.kept n2.blk
  have hlt : g2 < H3.size := lt_of_heap ((n8.ext.trans hx3).keep n2.at_ (fun f => f))
  have hv9 := vs_put (hv4.on (x47.trans hx8)) p9.kept (fun b e => by have := hnew b e; omega)
  exact PR.some (a := { Ac0 with k := 1, at_ := n0, ck := 1, user := n1, nn := fl n2', nl := fl n3, wall := n4, run_ := n5, base := n6, aft := n7, sites := st, pact := pc }) x9 hv9 (fun g e => by have := hnew g e; have := n2.ext.size; have := n8.ext.size; have := hx3.size; omega)
end Go.Proofs.YticgbdeoiihbmaaDoor
