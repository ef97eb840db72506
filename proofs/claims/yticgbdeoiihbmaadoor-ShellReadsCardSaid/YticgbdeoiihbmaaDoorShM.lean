/- The walk of hanseref26.submit. -/
import Derived.Test.YticgbdeoiihbmaaDoorShK
namespace Go.Proofs.YticgbdeoiihbmaaDoor
open Go Ev
set_option linter.unusedVariables false
set_option linter.unusedSimpArgs false

def nmL : List (List UInt8) := [[115, 117, 98, 109, 105, 116], [117, 115, 101, 114], [110, 101, 101, 100], [119, 97, 108, 108], [114, 117, 110], [98, 97, 115, 101], [97, 102, 116, 101, 114]]
def atL : List Nat := [0, 2, 4, 7, 9, 11, 13]
def natV (j : Nat) : Value := .int .i64 (j : Int)
def subR (ws : List (List UInt8)) : Option Ac := if ws[0]? = some [115, 117, 98, 109, 105, 116] then sub ws else none
theorem subR_none {ws : List (List UInt8)} {k j : Nat} (h1 : atL[k]? = some j) (h2 : ws[j]? ≠ nmL[k]?) : subR ws = none := by
  unfold subR
  split
  · rename_i h0
    have hb : subGood ws = false := subGood_false (by
      rintro ⟨_, e1, e2, e3, e4, e5, e6, _⟩
      match k, h1, h2 with
      | 0, h1, h2 => simp [atL] at h1; subst h1; exact h2 h0
      | 1, h1, h2 => simp [atL] at h1; subst h1; exact h2 e1
      | 2, h1, h2 => simp [atL] at h1; subst h1; exact h2 e2
      | 3, h1, h2 => simp [atL] at h1; subst h1; exact h2 e3
      | 4, h1, h2 => simp [atL] at h1; subst h1; exact h2 e4
      | 5, h1, h2 => simp [atL] at h1; subst h1; exact h2 e5
      | 6, h1, h2 => simp [atL] at h1; subst h1; exact h2 e6
      | k + 7, h1, h2 => simp [atL] at h1)
    unfold sub
    rw [hb]
  · rfl
theorem subR_short {ws : List (List UInt8)} (h : subGood ws = false) : subR ws = none := by
  unfold subR sub
  rw [h]
  simp
theorem cell_block {α : Type} {f : α → Value} {H : Heap} {b : Nat} {cs : Array Value} {t : TypeId} {fr : Nat × Nat} {xs : List α} (hb : H[b]? = some (.cells cs t fr)) (hc : cs.toList = xs.map f) {i : Nat} {x : α} (hx : xs[i]? = some x) : Cell H b (0 + i * 1) (f x) :=
  Cell.of hb (by rw [← Array.getElem?_toList, hc, Nat.zero_add, Nat.mul_one, List.getElem?_map, hx]; rfl)
theorem atL_get : ∀ i : Nat, i < 7 → ∃ j, atL[i]? = some j ∧ j < 17 ∧ ∃ y, nmL[i]? = some y := by
  intro i hi
  match i, hi with
  | 0, _ => exact ⟨0, rfl, by decide, _, rfl⟩
  | 1, _ => exact ⟨2, rfl, by decide, _, rfl⟩
  | 2, _ => exact ⟨4, rfl, by decide, _, rfl⟩
  | 3, _ => exact ⟨7, rfl, by decide, _, rfl⟩
  | 4, _ => exact ⟨9, rfl, by decide, _, rfl⟩
  | 5, _ => exact ⟨11, rfl, by decide, _, rfl⟩
  | 6, _ => exact ⟨13, rfl, by decide, _, rfl⟩
attribute [local irreducible] Go.wpList Go.bodyPost Go.Code.wp Go.Exit.then Go.Exit.inBlock Go.Exit.noGoto Ev.wpAnyG Go.Oper.wp Ev.Back Ev.Left Ev.Spc Ev.At Ev.Pure Ev.Reads Ev.Runs Ev.Does Ev.Cell

set_option maxHeartbeats 8000000 in
theorem submit_spec {H : Heap} (hL : Lb H) {v : Value} {ws : List (List UInt8)} (hv : Vs sv H v ws) (hn : ws.length ≤ 100000) (hl : ∀ w ∈ ws, w.length ≤ 100000) :
    Spc Tryd.prog 13 #[v] H fun r H' => PR (subR ws) H r H' := by
  refine spec_of Tryd.func13 rfl Tryd.ntmps13 rfl (fun W => ?_)
  repeat (first | refine codeA (k := ?_) | refine condA (k := ?_) | refine offA (k := ?_) | refine pureA (k := ?_) | refine readA (k := ?_))
  refine At_wp (W_alloc rfl rfl ?_) rfl
  intro g2 H1 n2
  have hv := hv.on n2.ext
  by_cases h17 : 17 ≤ ws.length
  rotate_left
  · rw [subR_short (subGood_false (fun e => h17 e.1))]
    obtain ⟨p, c, rfl, _⟩ := hv
    repeat (first | refine codeA (k := ?_) | refine condA (k := ?_) | refine offA (k := ?_) | refine pureA (k := ?_) | refine readA (k := ?_))
    refine At_pure (p_build (acC Ac0 (.slice none 0 0)) rfl rfl) rfl rfl rfl ?_
    refine At_wp (W_storeB rfl rfl n2.at_ rfl rfl rfl rfl ?_) rfl
    intro H5 p5
    repeat (first | refine codeA (k := ?_) | refine condA (k := ?_) | refine offA (k := ?_) | refine pureA (k := ?_) | refine readA (k := ?_))
    exact At_retC2 rfl rfl p5.at_ rfl rfl rfl (PR.none (ext_put n2.ext p5.kept n2.blk))
  obtain ⟨b, o, c, rfl, hc, hcell⟩ := hv.some (fun e => by rw [e] at h17; simp at h17)
  repeat (first | refine codeA (k := ?_) | refine condA (k := ?_) | refine offA (k := ?_) | refine pureA (k := ?_) | refine readA (k := ?_))
  refine At_wp (W_buildSliceN (cs := (nmL.map sv).toArray) rfl (by kernel_rfl) (by decide) rfl ?_) rfl
  intro g4 Ha na
  repeat (first | refine codeA (k := ?_) | refine condA (k := ?_) | refine offA (k := ?_) | refine pureA (k := ?_) | refine readA (k := ?_))
  refine At_wp (W_buildSliceN (cs := (atL.map natV).toArray) rfl (by kernel_rfl) (by decide) rfl ?_) rfl
  intro g5 H3' nb
  have x13 : Ext H1 H3' := na.ext.trans nb.ext
  have r4 := nb.ext.keep na.at_ (fun f => f)
  repeat (first | refine codeA (k := ?_) | refine condA (k := ?_) | refine offA (k := ?_) | refine pureA (k := ?_) | refine readA (k := ?_))
  refine At_cut (fun (s : Unit) => [(0, .slice (some ⟨b, o, none⟩) ws.length c), (2, .pointer (some ⟨g2, 0, none⟩))]) (fun s H' => H' = H3' ∧ ∀ k j : Nat, atL[k]? = some j → ws[j]? = nmL[k]?) ?_ ?_
  · refine At_block ?_
    refine At_loop (fun (s : Nat) => [(0, .slice (some ⟨b, o, none⟩) ws.length c), (2, .pointer (some ⟨g2, 0, none⟩)), (4, .slice (some ⟨g4, 0, none⟩) 7 7), (5, .slice (some ⟨g5, 0, none⟩) 7 7), (6, .int .i64 s)])
      (fun s H' => H' = H3' ∧ s ≤ 7 ∧ ∀ k j : Nat, k < s → atL[k]? = some j → ws[j]? = nmL[k]?) (fun s => 7 - s) 0 ?_ ⟨rfl, Nat.zero_le _, fun k j h => by omega⟩ ?_
    · (repeat (first | exact Sub.nil | refine Sub.cons rfl ?_))
    rintro i _ ⟨rfl, hi, hall⟩
    rename_i H3'
    by_cases hi7 : i < 7
    rotate_left
    · obtain rfl : i = 7 := by omega
      repeat (first | refine codeA (k := ?_) | refine condA (k := ?_) | refine offA (k := ?_) | refine pureA (k := ?_) | refine readA (k := ?_))
      refine At_meet (E := fun (s : Unit) => _) (J := fun s H' => H' = H3' ∧ ∀ k j : Nat, atL[k]? = some j → ws[j]? = nmL[k]?) () ?_ ⟨rfl, fun k j hk => hall k j (by have := (List.getElem?_eq_some_iff.1 hk).1; simp [atL] at this; omega) hk⟩
      (repeat (first | exact Sub.nil | refine Sub.cons rfl ?_))
    obtain ⟨j, hj, hj17, y, hy⟩ := atL_get i hi7
    have hx := getW (ws := ws) (j := j) (by omega)
    generalize ws.getD j [] = x at hx
    have ca := cell_block (f := natV) nb.at_ rfl hj
    have cn := cell_block (f := sv) r4 rfl hy
    have cw := (hcell j x hx).keep x13 (fun f => f)
    have ss : Ext H3' H3' := Kept.refl _ _
    repeat (first | refine codeA (k := ?_) | refine condA (k := ?_) | refine offA (k := ?_) | refine pureA (k := ?_) | refine readA (k := ?_) | refine At_block ?_)
    refine At_draw [4, 6, 10] (fun H' => Ext H3' H') Tryd.mixed ?_
    first | refine gA 0 (k := ?_) | refine goffA 0 (k := ?_)
    first | refine gA 1 (k := ?_) | refine goffA 1 (k := ?_)
    first | refine gA 2 (k := ?_) | refine goffA 2 (k := ?_)
    refine gqA 3 rfl (p_indexAddr (i := i) rfl rfl (by omega)) (k := ?_)
    refine grA 4 ss (fun H' hS' => r_load rfl rfl ((ca.keep hS' (fun f => f)))) (k := ?_)
    refine gqA 5 rfl (p_indexAddr (i := j) rfl rfl (by omega)) (k := ?_)
    refine grA 6 ss (fun H' hS' => r_load rfl rfl ((cw.keep hS' (fun f => f)))) (k := ?_)
    first | refine gA 7 (k := ?_) | refine goffA 7 (k := ?_)
    first | refine gA 8 (k := ?_) | refine goffA 8 (k := ?_)
    refine gqA 9 rfl (p_indexAddr (i := i) rfl rfl (by omega)) (k := ?_)
    refine grA 10 ss (fun H' hS' => r_load rfl rfl ((cn.keep hS' (fun f => f)))) (k := ?_)
    by_cases hxy : x = y
    rotate_left
    · refine gqA 11 rfl (p_true (p_neq_string rfl rfl) hxy) (k := ?_)
      refine G_done (by kernel_rfl) ?_
      rw [subR_none hj (by rw [hx, hy]; simpa using hxy)]
      repeat (first | refine codeA (k := ?_) | refine condA (k := ?_) | refine offA (k := ?_) | refine pureA (k := ?_) | refine readA (k := ?_))
      refine At_pure (p_build (acC Ac0 (.slice none 0 0)) rfl rfl) rfl rfl rfl ?_
      refine At_wp (W_storeB rfl rfl (x13.keep n2.at_ (fun f => f)) rfl rfl rfl rfl ?_) rfl
      intro H5 p5
      repeat (first | refine codeA (k := ?_) | refine condA (k := ?_) | refine offA (k := ?_) | refine pureA (k := ?_) | refine readA (k := ?_))
      exact At_retC2 rfl rfl p5.at_ rfl rfl rfl (PR.none (ext_put (n2.ext.trans x13) p5.kept n2.blk))
    subst hxy
    refine gqA 11 rfl (p_false (p_neq_string rfl rfl) (by simp)) (k := ?_)
    refine G_done (by kernel_rfl) ?_
    repeat (first | refine codeA (k := ?_) | refine condA (k := ?_) | refine offA (k := ?_) | refine pureA (k := ?_) | refine readA (k := ?_))
    refine At_tell 6 (.int .i64 (i + 1 : Nat)) rfl rfl ?_
    refine At_back (i + 1) ?_ ⟨rfl, hi7, fun k j' hk hj' => ?_⟩ (by omega)
    · (repeat (first | exact Sub.nil | refine Sub.cons rfl ?_))
    · by_cases hki : k < i
      · exact hall k j' hki hj'
      · obtain rfl : k = i := by omega
        rw [hj] at hj'
        cases hj'
        rw [hx, hy]
  rintro _ _ ⟨rfl, hall⟩
  rename_i H3'
  have h0 : ws[0]? = some [115, 117, 98, 109, 105, 116] := hall 0 0 rfl
  have h2 : ws[2]? = some [117, 115, 101, 114] := hall 1 2 rfl
  have h4 : ws[4]? = some [110, 101, 101, 100] := hall 2 4 rfl
  have h7 : ws[7]? = some [119, 97, 108, 108] := hall 3 7 rfl
  have h9 : ws[9]? = some [114, 117, 110] := hall 4 9 rfl
  have h11 : ws[11]? = some [98, 97, 115, 101] := hall 5 11 rfl
  have h13 : ws[13]? = some [97, 102, 116, 101, 114] := hall 6 13 rfl
  have hR : subR ws = sub ws := by unfold subR; rw [if_pos h0]
  rw [hR]
  refine At_seq ?_
  refine At_seq ?_
  refine At_cut (fun (s : Unit) => [(0, .slice (some ⟨b, o, none⟩) ws.length c), (2, .pointer (some ⟨g2, 0, none⟩)), (47, .bool (!(subGood ws)))]) (fun s H' => H' = H3') ?_ ?_
  · have h15 := getW (ws := ws) (j := 15) (by omega)
    generalize ws.getD 15 [] = w15 at h15
    have c15 := (hcell 15 _ h15).keep x13 (fun f => f)
    by_cases e15 : w15 = [115, 105, 116, 101, 115]
    · subst e15
      rw [show subGood ws = true from decide_eq_true ⟨h17, h2, h4, h7, h9, h11, h13, .inl h15⟩]
      repeat (first | refine codeA (k := ?_) | refine condA (k := ?_) | refine offA (k := ?_) | refine pureA (k := ?_) | refine readA (k := ?_) | refine strA (k := ?_) | refine At_block ?_)
      refine At_meet (E := fun (s : Unit) => _) (J := fun s H' => H' = H3') () ?_ rfl
      (repeat (first | exact Sub.nil | refine Sub.cons rfl ?_))
    by_cases f15 : w15 = [112, 97, 99, 116]
    · subst f15
      rw [show subGood ws = true from decide_eq_true ⟨h17, h2, h4, h7, h9, h11, h13, .inr h15⟩]
      repeat (first | refine codeA (k := ?_) | refine condA (k := ?_) | refine offA (k := ?_) | refine pureA (k := ?_) | refine readA (k := ?_) | refine strA (k := ?_) | refine At_block ?_)
      refine At_meet (E := fun (s : Unit) => _) (J := fun s H' => H' = H3') () ?_ rfl
      (repeat (first | exact Sub.nil | refine Sub.cons rfl ?_))
    · rw [subGood_false (fun e => by
        have := e.2.2.2.2.2.2.2
        rw [h15] at this
        rcases this with this | this
        · exact e15 (by simpa using this)
        · exact f15 (by simpa using this))]
      repeat (first | refine codeA (k := ?_) | refine condA (k := ?_) | refine offA (k := ?_) | refine pureA (k := ?_) | refine readA (k := ?_) | refine strA (k := ?_) | refine At_block ?_)
      refine At_meet (E := fun (s : Unit) => _) (J := fun s H' => H' = H3') () ?_ rfl
      (repeat (first | exact Sub.nil | refine Sub.cons rfl ?_))
  rintro _ _ rfl
  rename_i H3'
  unfold sub
  cases hg : subGood ws
  · dsimp only
    repeat (first | refine codeA (k := ?_) | refine condA (k := ?_) | refine offA (k := ?_) | refine pureA (k := ?_) | refine readA (k := ?_))
    refine At_pure (p_build (acC Ac0 (.slice none 0 0)) rfl rfl) rfl rfl rfl ?_
    refine At_wp (W_storeB rfl rfl (x13.keep n2.at_ (fun f => f)) rfl rfl rfl rfl ?_) rfl
    intro H5 p5
    repeat (first | refine codeA (k := ?_) | refine condA (k := ?_) | refine offA (k := ?_) | refine pureA (k := ?_) | refine readA (k := ?_))
    exact At_retC2 rfl rfl p5.at_ rfl rfl rfl (PR.none (ext_put (n2.ext.trans x13) p5.kept n2.blk))
  have hv := hv.on x13
  have hL := (hL.on n2.ext).on x13
  have hcell := fun i x hx => (hcell i x hx).keep x13 (fun f => f)
  dsimp only
  have hgl := g8_len h17 hl
  have c1 := hcell 1 _ (getW (j := 1) (by omega))
  have c3 := hcell 3 _ (getW (j := 3) (by omega))
  have c5 := hcell 5 _ (getW (j := 5) (by omega))
  have c6 := hcell 6 _ (getW (j := 6) (by omega))
  have c8 := hcell 8 _ (getW (j := 8) (by omega))
  have c10 := hcell 10 _ (getW (j := 10) (by omega))
  have c12 := hcell 12 _ (getW (j := 12) (by omega))
  have c14 := hcell 14 _ (getW (j := 14) (by omega))
  have c15 := hcell 15 _ (getW (j := 15) (by omega))
  have ss : Ext H3' H3' := Kept.refl _ _
  repeat (first | refine codeA (k := ?_) | refine condA (k := ?_) | refine offA (k := ?_) | refine pureA (k := ?_) | refine readA (k := ?_))
  refine At_draw [2, 5, 8, 11, 14, 17, 20, 23] (fun H' => Ext H3' H') Tryd.mixed ?_
  first | refine gA 0 (k := ?_) | refine goffA 0 (k := ?_)
  refine gqA 1 rfl (p_indexAddr (i := 1) rfl rfl (by omega)) (k := ?_)
  refine grA 2 ss (fun H' hS' => r_load rfl rfl ((c1.keep hS' (fun f => f)))) (k := ?_)
  first | refine gA 3 (k := ?_) | refine goffA 3 (k := ?_)
  refine gqA 4 rfl (p_indexAddr (i := 3) rfl rfl (by omega)) (k := ?_)
  refine grA 5 ss (fun H' hS' => r_load rfl rfl ((c3.keep hS' (fun f => f)))) (k := ?_)
  first | refine gA 6 (k := ?_) | refine goffA 6 (k := ?_)
  refine gqA 7 rfl (p_indexAddr (i := 5) rfl rfl (by omega)) (k := ?_)
  refine grA 8 ss (fun H' hS' => r_load rfl rfl ((c5.keep hS' (fun f => f)))) (k := ?_)
  first | refine gA 9 (k := ?_) | refine goffA 9 (k := ?_)
  refine gqA 10 rfl (p_indexAddr (i := 6) rfl rfl (by omega)) (k := ?_)
  refine grA 11 ss (fun H' hS' => r_load rfl rfl ((c6.keep hS' (fun f => f)))) (k := ?_)
  first | refine gA 12 (k := ?_) | refine goffA 12 (k := ?_)
  refine gqA 13 rfl (p_indexAddr (i := 8) rfl rfl (by omega)) (k := ?_)
  refine grA 14 ss (fun H' hS' => r_load rfl rfl ((c8.keep hS' (fun f => f)))) (k := ?_)
  first | refine gA 15 (k := ?_) | refine goffA 15 (k := ?_)
  refine gqA 16 rfl (p_indexAddr (i := 10) rfl rfl (by omega)) (k := ?_)
  refine grA 17 ss (fun H' hS' => r_load rfl rfl ((c10.keep hS' (fun f => f)))) (k := ?_)
  first | refine gA 18 (k := ?_) | refine goffA 18 (k := ?_)
  refine gqA 19 rfl (p_indexAddr (i := 12) rfl rfl (by omega)) (k := ?_)
  refine grA 20 ss (fun H' hS' => r_load rfl rfl ((c12.keep hS' (fun f => f)))) (k := ?_)
  first | refine gA 21 (k := ?_) | refine goffA 21 (k := ?_)
  refine gqA 22 rfl (p_indexAddr (i := 14) rfl rfl (by omega)) (k := ?_)
  refine grA 23 ss (fun H' hS' => r_load rfl rfl ((c14.keep hS' (fun f => f)))) (k := ?_)
  refine G_op 24 rfl (by kernel_rfl) rfl (W_buildSliceN (cs := ((g8 ws).map sv).toArray) rfl (by kernel_rfl) (by decide) rfl ?_) 
  intro g8' H2 n8
  refine G_free (by kernel_rfl) ?_
  refine G_op 25 rfl (by kernel_rfl) rfl (W_call rfl rfl (refNumbers_nr (hL.on n8.ext) (vs_block n8.at_ rfl) (show 8 ≤ 100000 by decide) hgl) rfl rfl ?_) 
  rintro _ H3 ⟨hx3, v1, rfl, hv1, _⟩
  refine G_next (fun _ s => s.trans hx3) ?_
  first | refine gA 26 (k := ?_) | refine goffA 26 (k := ?_)
  first | refine gA 27 (k := ?_) | refine goffA 27 (k := ?_)
  first | refine gA 28 (k := ?_) | refine goffA 28 (k := ?_)
  first | refine gA 29 (k := ?_) | refine goffA 29 (k := ?_)
  first | refine gA 30 (k := ?_) | refine goffA 30 (k := ?_)
  refine G_done (by kernel_rfl) ?_
  repeat (first | refine codeA (k := ?_) | refine condA (k := ?_) | refine offA (k := ?_) | refine pureA (k := ?_) | refine readA (k := ?_))
  have hv3 := hv.on (n8.ext.trans hx3)
  refine At_wp (W_dropV 16 hv3 rfl rfl (by omega) (by omega) rfl ?_) rfl
  intro v2 hv2
  repeat (first | refine codeA (k := ?_) | refine condA (k := ?_) | refine offA (k := ?_) | refine pureA (k := ?_) | refine readA (k := ?_))
  refine At_wp (W_call rfl rfl (refNumbers_nr ((hL.on n8.ext).on hx3) hv2 (by simp; omega) (drop_len hl 16)) rfl rfl ?_) rfl
  rintro _ H4 ⟨hx4, v3, rfl, hv4, hnew⟩
  have n24 : Ext H3' H4 := (n8.ext.trans hx3).trans hx4
  have r2 := (x13.trans n24).keep n2.at_ (fun f => f)
  cases hns : nums (g8 ws) with
  | none =>
    dsimp only
    repeat (first | refine codeA (k := ?_) | refine condA (k := ?_) | refine offA (k := ?_) | refine pureA (k := ?_) | refine readA (k := ?_))
    refine At_pure (p_build (acC Ac0 (.slice none 0 0)) rfl rfl) rfl rfl rfl ?_
    refine At_wp (W_storeB rfl rfl r2 rfl rfl rfl rfl ?_) rfl
    intro H5 p5
    repeat (first | refine codeA (k := ?_) | refine condA (k := ?_) | refine offA (k := ?_) | refine pureA (k := ?_) | refine readA (k := ?_))
    exact At_retC2 rfl rfl p5.at_ rfl rfl rfl (PR.none (ext_put ((n2.ext.trans x13).trans n24) p5.kept n2.blk))
  | some ns =>
  cases hss : nums (ws.drop 16) with
  | none =>
    dsimp only
    repeat (first | refine codeA (k := ?_) | refine condA (k := ?_) | refine offA (k := ?_) | refine pureA (k := ?_) | refine readA (k := ?_))
    refine At_pure (p_build (acC Ac0 (.slice none 0 0)) rfl rfl) rfl rfl rfl ?_
    refine At_wp (W_storeB rfl rfl r2 rfl rfl rfl rfl ?_) rfl
    intro H5 p5
    repeat (first | refine codeA (k := ?_) | refine condA (k := ?_) | refine offA (k := ?_) | refine pureA (k := ?_) | refine readA (k := ?_))
    exact At_retC2 rfl rfl p5.at_ rfl rfl rfl (PR.none (ext_put ((n2.ext.trans x13).trans n24) p5.kept n2.blk))
  | some st =>
  dsimp only
  rw [hns] at hv1
  rw [hss] at hv4
  have hnl := nums_len hns
  obtain ⟨n0, n1, n2', n3, n4, n5, n6, n7, rfl⟩ := len8 (n := ns) (by rw [hnl]; rfl)
  have hv1 : Vs iv H4 v1 [n0, n1, n2', n3, n4, n5, n6, n7] := hv1.on hx4
  have hv4 : Vs iv H4 v3 st := hv4
  obtain ⟨b1, o1, q1, rfl, hq1, hcel⟩ := hv1.some (by simp)
  obtain ⟨p3, q3, e3, hq3, _⟩ := id hv4
  subst e3
  have d0 : Cell H4 b1 (o1 + 0 * 1) (.int .i64 n0) := hcel 0 _ rfl
  have d1 : Cell H4 b1 (o1 + 1 * 1) (.int .i64 n1) := hcel 1 _ rfl
  have d2 : Cell H4 b1 (o1 + 2 * 1) (.int .i64 n2') := hcel 2 _ rfl
  have d3 : Cell H4 b1 (o1 + 3 * 1) (.int .i64 n3) := hcel 3 _ rfl
  have d4 : Cell H4 b1 (o1 + 4 * 1) (.int .i64 n4) := hcel 4 _ rfl
  have d5 : Cell H4 b1 (o1 + 5 * 1) (.int .i64 n5) := hcel 5 _ rfl
  have d6 : Cell H4 b1 (o1 + 6 * 1) (.int .i64 n6) := hcel 6 _ rfl
  have d7 : Cell H4 b1 (o1 + 7 * 1) (.int .i64 n7) := hcel 7 _ rfl
  have e8 : ([n0, n1, n2', n3, n4, n5, n6, n7] : List Int).length = 8 := rfl
  rw [e8]
  have c15 := c15.keep n24 (fun f => f)
  have ss4 : Ext H4 H4 := Kept.refl _ _
  repeat (first | refine codeA (k := ?_) | refine condA (k := ?_) | refine offA (k := ?_) | refine pureA (k := ?_) | refine readA (k := ?_))
  refine At_draw [2, 5] (fun H' => Ext H4 H') Tryd.mixed ?_
  first | refine gA 0 (k := ?_) | refine goffA 0 (k := ?_)
  refine gqA 1 rfl (p_indexAddr (i := 2) rfl rfl (by omega)) (k := ?_)
  refine grA 2 ss4 (fun H' hS' => r_load rfl rfl ((d2.keep hS' (fun f => f)))) (k := ?_)
  first | refine gA 3 (k := ?_) | refine goffA 3 (k := ?_)
  refine gqA 4 rfl (p_indexAddr (i := 3) rfl rfl (by omega)) (k := ?_)
  refine grA 5 ss4 (fun H' hS' => r_load rfl rfl ((d3.keep hS' (fun f => f)))) (k := ?_)
  refine G_op 6 rfl (by kernel_rfl) rfl (W_call rfl rfl (make2_spec n2' n3 H4) rfl rfl ?_) 
  rintro _ _ ⟨rfl, rfl⟩
  refine G_next (fun _ s => s) ?_
  unfold am subAct
  dsimp only
  by_cases hok : okAm n2' n3
  rotate_left
  · rw [if_neg hok, if_neg hok]
    first | refine gA 7 (k := ?_) | refine goffA 7 (k := ?_)
    first | refine gA 8 (k := ?_) | refine goffA 8 (k := ?_)
    first | refine gA 9 (k := ?_) | refine goffA 9 (k := ?_)
    first | refine gA 10 (k := ?_) | refine goffA 10 (k := ?_)
    first | refine gA 11 (k := ?_) | refine goffA 11 (k := ?_)
    refine G_done (by kernel_rfl) ?_
    repeat (first | refine codeA (k := ?_) | refine condA (k := ?_) | refine offA (k := ?_) | refine pureA (k := ?_) | refine readA (k := ?_))
    refine At_pure (p_build (acC Ac0 (.slice none 0 0)) rfl rfl) rfl rfl rfl ?_
    refine At_wp (W_storeB rfl rfl r2 rfl rfl rfl rfl ?_) rfl
    intro H5 p5
    repeat (first | refine codeA (k := ?_) | refine condA (k := ?_) | refine offA (k := ?_) | refine pureA (k := ?_) | refine readA (k := ?_))
    exact At_retC2 rfl rfl p5.at_ rfl rfl rfl (PR.none (ext_put ((n2.ext.trans x13).trans n24) p5.kept n2.blk))
  rw [if_pos hok, if_pos hok]
  first | refine gA 7 (k := ?_) | refine goffA 7 (k := ?_)
  first | refine gA 8 (k := ?_) | refine goffA 8 (k := ?_)
  first | refine gA 9 (k := ?_) | refine goffA 9 (k := ?_)
  first | refine gA 10 (k := ?_) | refine goffA 10 (k := ?_)
  first | refine gA 11 (k := ?_) | refine goffA 11 (k := ?_)
  refine G_done (by kernel_rfl) ?_
  repeat (first | refine codeA (k := ?_) | refine condA (k := ?_) | refine offA (k := ?_) | refine pureA (k := ?_) | refine readA (k := ?_))
  generalize hpc : decide (ws.getD 15 [] = [112, 97, 99, 116]) = pc
  refine At_draw [2, 5, 9, 12, 15, 18, 22] (fun H' => Ext H4 H') Tryd.mixed ?_
  first | refine gA 0 (k := ?_) | refine goffA 0 (k := ?_)
  refine gqA 1 rfl (p_indexAddr (i := 0) rfl rfl (by omega)) (k := ?_)
  refine grA 2 ss4 (fun H' hS' => r_load rfl rfl ((d0.keep hS' (fun f => f)))) (k := ?_)
  first | refine gA 3 (k := ?_) | refine goffA 3 (k := ?_)
  refine gqA 4 rfl (p_indexAddr (i := 1) rfl rfl (by omega)) (k := ?_)
  refine grA 5 ss4 (fun H' hS' => r_load rfl rfl ((d1.keep hS' (fun f => f)))) (k := ?_)
  first | refine gA 6 (k := ?_) | refine goffA 6 (k := ?_)
  first | refine gA 7 (k := ?_) | refine goffA 7 (k := ?_)
  refine gqA 8 rfl (p_indexAddr (i := 4) rfl rfl (by omega)) (k := ?_)
  refine grA 9 ss4 (fun H' hS' => r_load rfl rfl ((d4.keep hS' (fun f => f)))) (k := ?_)
  first | refine gA 10 (k := ?_) | refine goffA 10 (k := ?_)
  refine gqA 11 rfl (p_indexAddr (i := 5) rfl rfl (by omega)) (k := ?_)
  refine grA 12 ss4 (fun H' hS' => r_load rfl rfl ((d5.keep hS' (fun f => f)))) (k := ?_)
  first | refine gA 13 (k := ?_) | refine goffA 13 (k := ?_)
  refine gqA 14 rfl (p_indexAddr (i := 6) rfl rfl (by omega)) (k := ?_)
  refine grA 15 ss4 (fun H' hS' => r_load rfl rfl ((d6.keep hS' (fun f => f)))) (k := ?_)
  first | refine gA 16 (k := ?_) | refine goffA 16 (k := ?_)
  refine gqA 17 rfl (p_indexAddr (i := 7) rfl rfl (by omega)) (k := ?_)
  refine grA 18 ss4 (fun H' hS' => r_load rfl rfl ((d7.keep hS' (fun f => f)))) (k := ?_)
  first | refine gA 19 (k := ?_) | refine goffA 19 (k := ?_)
  first | refine gA 20 (k := ?_) | refine goffA 20 (k := ?_)
  refine gqA 21 rfl (p_indexAddr (i := 15) rfl rfl (by omega)) (k := ?_)
  refine grA 22 ss4 (fun H' hS' => r_load rfl rfl ((c15.keep hS' (fun f => f)))) (k := ?_)
  refine gqA 23 rfl (p_eql_string rfl rfl) (k := ?_)
  rw [hpc]
  refine gpA 24 (p_build (jobC { Ac0 with user := n1, nn := fl n2', nl := fl n3, wall := n4, run_ := n5, base := n6, aft := n7, pact := pc } (.slice p3 st.length q3)) rfl rfl) (k := ?_)
  refine gpA 25 (p_build (cmdC { Ac0 with ck := 1, user := n1, nn := fl n2', nl := fl n3, wall := n4, run_ := n5, base := n6, aft := n7, pact := pc } (.slice p3 st.length q3)) rfl rfl) (k := ?_)
  refine G_op 26 rfl (by kernel_rfl) rfl (W_call rfl rfl (cmd_spec n0 { Ac0 with ck := 1, user := n1, nn := fl n2', nl := fl n3, wall := n4, run_ := n5, base := n6, aft := n7, pact := pc } p3 st.length q3 H4) rfl rfl ?_) 
  rintro _ H8 ⟨hx8, rfl⟩
  refine G_next (fun _ s => s.trans hx8) ?_
  refine G_op 27 rfl (by kernel_rfl) rfl (W_storeB rfl rfl (hx8.keep r2 (fun f => f)) rfl rfl rfl rfl ?_) 
  intro H9 p9
  refine G_free (by kernel_rfl) ?_
  first | refine gA 28 (k := ?_) | refine goffA 28 (k := ?_)
  refine G_done (by kernel_rfl) ?_
  repeat (first | refine codeA (k := ?_) | refine condA (k := ?_) | refine offA (k := ?_) | refine pureA (k := ?_) | refine readA (k := ?_))
  refine At_retC2 rfl rfl p9.at_ rfl rfl rfl ?_
  have x9 : Ext H H9 := ext_put (((n2.ext.trans x13).trans n24).trans hx8) p9.kept n2.blk
  have hlt : g2 < H3.size := lt_of_heap ((x13.trans (n8.ext.trans hx3)).keep n2.at_ (fun f => f))
  have hv9 := vs_put (hv4.on hx8) p9.kept (fun b e => by have := hnew b e; omega)
  exact PR.some (a := { Ac0 with k := 1, at_ := n0, ck := 1, user := n1, nn := fl n2', nl := fl n3, wall := n4, run_ := n5, base := n6, aft := n7, sites := st, pact := pc }) x9 hv9 (fun g e => by have := hnew g e; have := n2.ext.size; have := x13.size; have := n8.ext.size; have := hx3.size; omega)
end Go.Proofs.YticgbdeoiihbmaaDoor
