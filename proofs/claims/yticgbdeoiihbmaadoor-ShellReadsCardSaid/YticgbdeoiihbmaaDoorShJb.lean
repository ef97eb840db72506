/- The walk of hanseref26.plain, word by word. Printed by wip/tools/shell_gen.py. -/
import Derived.Test.YticgbdeoiihbmaaDoorShH
namespace Go.Proofs.YticgbdeoiihbmaaDoor
open Go Ev
set_option linter.unusedVariables false
set_option linter.unusedSimpArgs false
attribute [local irreducible] Go.wpList Go.bodyPost Go.Code.wp Go.Exit.then Go.Exit.inBlock Go.Exit.noGoto Ev.wpAnyG Go.Oper.wp Ev.Back Ev.Left Ev.Spc Ev.At Ev.Pure Ev.Reads Ev.Runs Ev.Does Ev.Cell

set_option maxHeartbeats 4000000 in
theorem pl_carry_spec {H : Heap} {v : Value} {ns : List Int} (hv : Vs iv H v ns) (hl : ns.length = 1) : Spc Tryd.prog 15 #[sv [99, 97, 114, 114, 121], v] H fun r H' => PR (pl_carry ns) H r H' := by
  refine spec_of Tryd.func15 rfl Tryd.ntmps15 rfl (fun W => ?_)
  repeat (first | refine codeA (k := ?_) | refine condA (k := ?_) | refine offA (k := ?_) | refine pureA (k := ?_) | refine readA (k := ?_))
  refine At_wp (W_alloc rfl rfl ?_) rfl
  intro g4 H1 n4
  have hv := hv.on n4.ext
  obtain ⟨a0, hns⟩ := len1 hl
  rw [show pl_carry ns = some { Ac0 with k := 3, n := a0 } from by rw [hns]; rfl]
  obtain ⟨b, o, c, rfl, hc, hcell⟩ := hv.some (fun e => by rw [e] at hl; simp at hl)
  have c0 : Cell H1 b (o + 0 * 1) (.int .i64 a0) := hcell 0 a0 (by rw [hns]; rfl)
  have ss : Ext H1 H1 := Kept.refl _ _
  repeat (first | refine codeA (k := ?_) | refine condA (k := ?_) | refine offA (k := ?_) | refine stqA (k := ?_) | refine pureA (k := ?_) | refine readA (k := ?_) | refine strA (k := ?_) | refine At_block ?_)
  repeat (first | refine codeA (k := ?_) | refine condA (k := ?_) | refine offA (k := ?_) | refine pureA (k := ?_) | refine readA (k := ?_) | refine strA (k := ?_) | refine At_block ?_)
  refine At_pure (p_build (acC { Ac0 with k := 3, n := a0 } (.slice none 0 0)) rfl rfl) rfl rfl rfl ?_
  refine At_wp (W_storeB rfl rfl n4.at_ rfl rfl rfl rfl ?_) rfl
  intro H5 p5
  repeat (first | refine codeA (k := ?_) | refine condA (k := ?_) | refine offA (k := ?_) | refine pureA (k := ?_) | refine readA (k := ?_))
  exact At_retC2 rfl rfl p5.at_ rfl rfl rfl (PR.some (a := { Ac0 with k := 3, n := a0 }) (ext_put n4.ext p5.kept n4.blk) (Vs.nil _ _) nilnew)
set_option maxHeartbeats 4000000 in
theorem pl_lose_spec {H : Heap} {v : Value} {ns : List Int} (hv : Vs iv H v ns) (hl : ns.length = 1) : Spc Tryd.prog 15 #[sv [108, 111, 115, 101], v] H fun r H' => PR (pl_lose ns) H r H' := by
  refine spec_of Tryd.func15 rfl Tryd.ntmps15 rfl (fun W => ?_)
  repeat (first | refine codeA (k := ?_) | refine condA (k := ?_) | refine offA (k := ?_) | refine pureA (k := ?_) | refine readA (k := ?_))
  refine At_wp (W_alloc rfl rfl ?_) rfl
  intro g4 H1 n4
  have hv := hv.on n4.ext
  obtain ⟨a0, hns⟩ := len1 hl
  rw [show pl_lose ns = some { Ac0 with k := 4, n := a0 } from by rw [hns]; rfl]
  obtain ⟨b, o, c, rfl, hc, hcell⟩ := hv.some (fun e => by rw [e] at hl; simp at hl)
  have c0 : Cell H1 b (o + 0 * 1) (.int .i64 a0) := hcell 0 a0 (by rw [hns]; rfl)
  have ss : Ext H1 H1 := Kept.refl _ _
  repeat (first | refine codeA (k := ?_) | refine condA (k := ?_) | refine offA (k := ?_) | refine stqA (k := ?_) | refine pureA (k := ?_) | refine readA (k := ?_) | refine strA (k := ?_) | refine At_block ?_)
  repeat (first | refine codeA (k := ?_) | refine condA (k := ?_) | refine offA (k := ?_) | refine pureA (k := ?_) | refine readA (k := ?_) | refine strA (k := ?_) | refine At_block ?_)
  refine At_pure (p_build (acC { Ac0 with k := 4, n := a0 } (.slice none 0 0)) rfl rfl) rfl rfl rfl ?_
  refine At_wp (W_storeB rfl rfl n4.at_ rfl rfl rfl rfl ?_) rfl
  intro H5 p5
  repeat (first | refine codeA (k := ?_) | refine condA (k := ?_) | refine offA (k := ?_) | refine pureA (k := ?_) | refine readA (k := ?_))
  exact At_retC2 rfl rfl p5.at_ rfl rfl rfl (PR.some (a := { Ac0 with k := 4, n := a0 }) (ext_put n4.ext p5.kept n4.blk) (Vs.nil _ _) nilnew)
set_option maxHeartbeats 4000000 in
theorem pl_twice_spec {H : Heap} {v : Value} {ns : List Int} (hv : Vs iv H v ns) (hl : ns.length = 1) : Spc Tryd.prog 15 #[sv [116, 119, 105, 99, 101], v] H fun r H' => PR (pl_twice ns) H r H' := by
  refine spec_of Tryd.func15 rfl Tryd.ntmps15 rfl (fun W => ?_)
  repeat (first | refine codeA (k := ?_) | refine condA (k := ?_) | refine offA (k := ?_) | refine pureA (k := ?_) | refine readA (k := ?_))
  refine At_wp (W_alloc rfl rfl ?_) rfl
  intro g4 H1 n4
  have hv := hv.on n4.ext
  obtain ⟨a0, hns⟩ := len1 hl
  rw [show pl_twice ns = some { Ac0 with k := 5, n := a0 } from by rw [hns]; rfl]
  obtain ⟨b, o, c, rfl, hc, hcell⟩ := hv.some (fun e => by rw [e] at hl; simp at hl)
  have c0 : Cell H1 b (o + 0 * 1) (.int .i64 a0) := hcell 0 a0 (by rw [hns]; rfl)
  have ss : Ext H1 H1 := Kept.refl _ _
  repeat (first | refine codeA (k := ?_) | refine condA (k := ?_) | refine offA (k := ?_) | refine stqA (k := ?_) | refine pureA (k := ?_) | refine readA (k := ?_) | refine strA (k := ?_) | refine At_block ?_)
  repeat (first | refine codeA (k := ?_) | refine condA (k := ?_) | refine offA (k := ?_) | refine pureA (k := ?_) | refine readA (k := ?_) | refine strA (k := ?_) | refine At_block ?_)
  refine At_pure (p_build (acC { Ac0 with k := 5, n := a0 } (.slice none 0 0)) rfl rfl) rfl rfl rfl ?_
  refine At_wp (W_storeB rfl rfl n4.at_ rfl rfl rfl rfl ?_) rfl
  intro H5 p5
  repeat (first | refine codeA (k := ?_) | refine condA (k := ?_) | refine offA (k := ?_) | refine pureA (k := ?_) | refine readA (k := ?_))
  exact At_retC2 rfl rfl p5.at_ rfl rfl rfl (PR.some (a := { Ac0 with k := 5, n := a0 }) (ext_put n4.ext p5.kept n4.blk) (Vs.nil _ _) nilnew)
set_option maxHeartbeats 4000000 in
theorem pl_cut_spec {H : Heap} {v : Value} {ns : List Int} (hv : Vs iv H v ns) (hl : ns.length = 2) : Spc Tryd.prog 15 #[sv [99, 117, 116], v] H fun r H' => PR (pl_cut ns) H r H' := by
  refine spec_of Tryd.func15 rfl Tryd.ntmps15 rfl (fun W => ?_)
  repeat (first | refine codeA (k := ?_) | refine condA (k := ?_) | refine offA (k := ?_) | refine pureA (k := ?_) | refine readA (k := ?_))
  refine At_wp (W_alloc rfl rfl ?_) rfl
  intro g4 H1 n4
  have hv := hv.on n4.ext
  obtain ⟨a0, a1, hns⟩ := len2 hl
  rw [show pl_cut ns = some { Ac0 with k := 6, at_ := a0, to_ := a1, on := true } from by rw [hns]; rfl]
  obtain ⟨b, o, c, rfl, hc, hcell⟩ := hv.some (fun e => by rw [e] at hl; simp at hl)
  have c0 : Cell H1 b (o + 0 * 1) (.int .i64 a0) := hcell 0 a0 (by rw [hns]; rfl)
  have c1 : Cell H1 b (o + 1 * 1) (.int .i64 a1) := hcell 1 a1 (by rw [hns]; rfl)
  have ss : Ext H1 H1 := Kept.refl _ _
  repeat (first | refine codeA (k := ?_) | refine condA (k := ?_) | refine offA (k := ?_) | refine stqA (k := ?_) | refine pureA (k := ?_) | refine readA (k := ?_) | refine strA (k := ?_) | refine At_block ?_)
  refine At_draw [2, 5] (fun H' => Ext H1 H') Tryd.mixed ?_
  first | refine gA 0 (k := ?_) | refine goffA 0 (k := ?_)
  refine gqA 1 rfl (p_indexAddr (i := 0) rfl rfl (by omega)) (k := ?_)
  refine grA 2 ss (fun H' hS' => r_load rfl rfl ((c0.keep hS' (fun f => f)))) (k := ?_)
  first | refine gA 3 (k := ?_) | refine goffA 3 (k := ?_)
  refine gqA 4 rfl (p_indexAddr (i := 1) rfl rfl (by omega)) (k := ?_)
  refine grA 5 ss (fun H' hS' => r_load rfl rfl ((c1.keep hS' (fun f => f)))) (k := ?_)
  refine gpA 6 (p_build (acC { Ac0 with k := 6, at_ := a0, to_ := a1, on := true } (.slice none 0 0)) rfl rfl) (k := ?_)
  refine G_op 7 rfl (by kernel_rfl) rfl (W_storeB rfl rfl n4.at_ rfl rfl rfl rfl ?_) 
  intro H5 p5
  refine G_free (by kernel_rfl) ?_
  first | refine gA 8 (k := ?_) | refine goffA 8 (k := ?_)
  refine G_done (by kernel_rfl) ?_
  repeat (first | refine codeA (k := ?_) | refine condA (k := ?_) | refine offA (k := ?_) | refine pureA (k := ?_) | refine readA (k := ?_))
  exact At_retC2 rfl rfl p5.at_ rfl rfl rfl (PR.some (a := { Ac0 with k := 6, at_ := a0, to_ := a1, on := true }) (ext_put n4.ext p5.kept n4.blk) (Vs.nil _ _) nilnew)
set_option maxHeartbeats 4000000 in
theorem pl_mend_spec {H : Heap} {v : Value} {ns : List Int} (hv : Vs iv H v ns) (hl : ns.length = 2) : Spc Tryd.prog 15 #[sv [109, 101, 110, 100], v] H fun r H' => PR (pl_mend ns) H r H' := by
  refine spec_of Tryd.func15 rfl Tryd.ntmps15 rfl (fun W => ?_)
  repeat (first | refine codeA (k := ?_) | refine condA (k := ?_) | refine offA (k := ?_) | refine pureA (k := ?_) | refine readA (k := ?_))
  refine At_wp (W_alloc rfl rfl ?_) rfl
  intro g4 H1 n4
  have hv := hv.on n4.ext
  obtain ⟨a0, a1, hns⟩ := len2 hl
  rw [show pl_mend ns = some { Ac0 with k := 6, at_ := a0, to_ := a1, on := false } from by rw [hns]; rfl]
  obtain ⟨b, o, c, rfl, hc, hcell⟩ := hv.some (fun e => by rw [e] at hl; simp at hl)
  have c0 : Cell H1 b (o + 0 * 1) (.int .i64 a0) := hcell 0 a0 (by rw [hns]; rfl)
  have c1 : Cell H1 b (o + 1 * 1) (.int .i64 a1) := hcell 1 a1 (by rw [hns]; rfl)
  have ss : Ext H1 H1 := Kept.refl _ _
  repeat (first | refine codeA (k := ?_) | refine condA (k := ?_) | refine offA (k := ?_) | refine stqA (k := ?_) | refine pureA (k := ?_) | refine readA (k := ?_) | refine strA (k := ?_) | refine At_block ?_)
  refine At_draw [2, 5] (fun H' => Ext H1 H') Tryd.mixed ?_
  first | refine gA 0 (k := ?_) | refine goffA 0 (k := ?_)
  refine gqA 1 rfl (p_indexAddr (i := 0) rfl rfl (by omega)) (k := ?_)
  refine grA 2 ss (fun H' hS' => r_load rfl rfl ((c0.keep hS' (fun f => f)))) (k := ?_)
  first | refine gA 3 (k := ?_) | refine goffA 3 (k := ?_)
  refine gqA 4 rfl (p_indexAddr (i := 1) rfl rfl (by omega)) (k := ?_)
  refine grA 5 ss (fun H' hS' => r_load rfl rfl ((c1.keep hS' (fun f => f)))) (k := ?_)
  refine gpA 6 (p_build (acC { Ac0 with k := 6, at_ := a0, to_ := a1, on := false } (.slice none 0 0)) rfl rfl) (k := ?_)
  refine G_op 7 rfl (by kernel_rfl) rfl (W_storeB rfl rfl n4.at_ rfl rfl rfl rfl ?_) 
  intro H5 p5
  refine G_free (by kernel_rfl) ?_
  first | refine gA 8 (k := ?_) | refine goffA 8 (k := ?_)
  refine G_done (by kernel_rfl) ?_
  repeat (first | refine codeA (k := ?_) | refine condA (k := ?_) | refine offA (k := ?_) | refine pureA (k := ?_) | refine readA (k := ?_))
  exact At_retC2 rfl rfl p5.at_ rfl rfl rfl (PR.some (a := { Ac0 with k := 6, at_ := a0, to_ := a1, on := false }) (ext_put n4.ext p5.kept n4.blk) (Vs.nil _ _) nilnew)
set_option maxHeartbeats 4000000 in
theorem pl_crash_spec {H : Heap} {v : Value} {ns : List Int} (hv : Vs iv H v ns) (hl : ns.length = 2) : Spc Tryd.prog 15 #[sv [99, 114, 97, 115, 104], v] H fun r H' => PR (pl_crash ns) H r H' := by
  refine spec_of Tryd.func15 rfl Tryd.ntmps15 rfl (fun W => ?_)
  repeat (first | refine codeA (k := ?_) | refine condA (k := ?_) | refine offA (k := ?_) | refine pureA (k := ?_) | refine readA (k := ?_))
  refine At_wp (W_alloc rfl rfl ?_) rfl
  intro g4 H1 n4
  have hv := hv.on n4.ext
  obtain ⟨a0, a1, hns⟩ := len2 hl
  rw [show pl_crash ns = some { Ac0 with k := 7, at_ := a0, n := a1 } from by rw [hns]; rfl]
  obtain ⟨b, o, c, rfl, hc, hcell⟩ := hv.some (fun e => by rw [e] at hl; simp at hl)
  have c0 : Cell H1 b (o + 0 * 1) (.int .i64 a0) := hcell 0 a0 (by rw [hns]; rfl)
  have c1 : Cell H1 b (o + 1 * 1) (.int .i64 a1) := hcell 1 a1 (by rw [hns]; rfl)
  have ss : Ext H1 H1 := Kept.refl _ _
  repeat (first | refine codeA (k := ?_) | refine condA (k := ?_) | refine offA (k := ?_) | refine stqA (k := ?_) | refine pureA (k := ?_) | refine readA (k := ?_) | refine strA (k := ?_) | refine At_block ?_)
  refine At_draw [2, 5] (fun H' => Ext H1 H') Tryd.mixed ?_
  first | refine gA 0 (k := ?_) | refine goffA 0 (k := ?_)
  refine gqA 1 rfl (p_indexAddr (i := 0) rfl rfl (by omega)) (k := ?_)
  refine grA 2 ss (fun H' hS' => r_load rfl rfl ((c0.keep hS' (fun f => f)))) (k := ?_)
  first | refine gA 3 (k := ?_) | refine goffA 3 (k := ?_)
  refine gqA 4 rfl (p_indexAddr (i := 1) rfl rfl (by omega)) (k := ?_)
  refine grA 5 ss (fun H' hS' => r_load rfl rfl ((c1.keep hS' (fun f => f)))) (k := ?_)
  refine gpA 6 (p_build (acC { Ac0 with k := 7, at_ := a0, n := a1 } (.slice none 0 0)) rfl rfl) (k := ?_)
  refine G_op 7 rfl (by kernel_rfl) rfl (W_storeB rfl rfl n4.at_ rfl rfl rfl rfl ?_) 
  intro H5 p5
  refine G_free (by kernel_rfl) ?_
  first | refine gA 8 (k := ?_) | refine goffA 8 (k := ?_)
  refine G_done (by kernel_rfl) ?_
  repeat (first | refine codeA (k := ?_) | refine condA (k := ?_) | refine offA (k := ?_) | refine pureA (k := ?_) | refine readA (k := ?_))
  exact At_retC2 rfl rfl p5.at_ rfl rfl rfl (PR.some (a := { Ac0 with k := 7, at_ := a0, n := a1 }) (ext_put n4.ext p5.kept n4.blk) (Vs.nil _ _) nilnew)
set_option maxHeartbeats 4000000 in
theorem pl_trip_spec {H : Heap} {v : Value} {ns : List Int} (hv : Vs iv H v ns) (hl : ns.length = 2) : Spc Tryd.prog 15 #[sv [116, 114, 105, 112], v] H fun r H' => PR (pl_trip ns) H r H' := by
  refine spec_of Tryd.func15 rfl Tryd.ntmps15 rfl (fun W => ?_)
  repeat (first | refine codeA (k := ?_) | refine condA (k := ?_) | refine offA (k := ?_) | refine pureA (k := ?_) | refine readA (k := ?_))
  refine At_wp (W_alloc rfl rfl ?_) rfl
  intro g4 H1 n4
  have hv := hv.on n4.ext
  obtain ⟨a0, a1, hns⟩ := len2 hl
  rw [show pl_trip ns = some { Ac0 with k := 8, at_ := a0, n := a1 } from by rw [hns]; rfl]
  obtain ⟨b, o, c, rfl, hc, hcell⟩ := hv.some (fun e => by rw [e] at hl; simp at hl)
  have c0 : Cell H1 b (o + 0 * 1) (.int .i64 a0) := hcell 0 a0 (by rw [hns]; rfl)
  have c1 : Cell H1 b (o + 1 * 1) (.int .i64 a1) := hcell 1 a1 (by rw [hns]; rfl)
  have ss : Ext H1 H1 := Kept.refl _ _
  repeat (first | refine codeA (k := ?_) | refine condA (k := ?_) | refine offA (k := ?_) | refine stqA (k := ?_) | refine pureA (k := ?_) | refine readA (k := ?_) | refine strA (k := ?_) | refine At_block ?_)
  refine At_draw [2, 5] (fun H' => Ext H1 H') Tryd.mixed ?_
  first | refine gA 0 (k := ?_) | refine goffA 0 (k := ?_)
  refine gqA 1 rfl (p_indexAddr (i := 0) rfl rfl (by omega)) (k := ?_)
  refine grA 2 ss (fun H' hS' => r_load rfl rfl ((c0.keep hS' (fun f => f)))) (k := ?_)
  first | refine gA 3 (k := ?_) | refine goffA 3 (k := ?_)
  refine gqA 4 rfl (p_indexAddr (i := 1) rfl rfl (by omega)) (k := ?_)
  refine grA 5 ss (fun H' hS' => r_load rfl rfl ((c1.keep hS' (fun f => f)))) (k := ?_)
  refine gpA 6 (p_build (acC { Ac0 with k := 8, at_ := a0, n := a1 } (.slice none 0 0)) rfl rfl) (k := ?_)
  refine G_op 7 rfl (by kernel_rfl) rfl (W_storeB rfl rfl n4.at_ rfl rfl rfl rfl ?_) 
  intro H5 p5
  refine G_free (by kernel_rfl) ?_
  first | refine gA 8 (k := ?_) | refine goffA 8 (k := ?_)
  refine G_done (by kernel_rfl) ?_
  repeat (first | refine codeA (k := ?_) | refine condA (k := ?_) | refine offA (k := ?_) | refine pureA (k := ?_) | refine readA (k := ?_))
  exact At_retC2 rfl rfl p5.at_ rfl rfl rfl (PR.some (a := { Ac0 with k := 8, at_ := a0, n := a1 }) (ext_put n4.ext p5.kept n4.blk) (Vs.nil _ _) nilnew)
set_option maxHeartbeats 4000000 in
theorem pl_start_spec {H : Heap} {v : Value} {ns : List Int} (hv : Vs iv H v ns) (hl : ns.length = 1) : Spc Tryd.prog 15 #[sv [115, 116, 97, 114, 116], v] H fun r H' => PR (pl_start ns) H r H' := by
  refine spec_of Tryd.func15 rfl Tryd.ntmps15 rfl (fun W => ?_)
  repeat (first | refine codeA (k := ?_) | refine condA (k := ?_) | refine offA (k := ?_) | refine pureA (k := ?_) | refine readA (k := ?_))
  refine At_wp (W_alloc rfl rfl ?_) rfl
  intro g4 H1 n4
  have hv := hv.on n4.ext
  obtain ⟨a0, hns⟩ := len1 hl
  rw [show pl_start ns = some { Ac0 with k := 9, at_ := a0 } from by rw [hns]; rfl]
  obtain ⟨b, o, c, rfl, hc, hcell⟩ := hv.some (fun e => by rw [e] at hl; simp at hl)
  have c0 : Cell H1 b (o + 0 * 1) (.int .i64 a0) := hcell 0 a0 (by rw [hns]; rfl)
  have ss : Ext H1 H1 := Kept.refl _ _
  repeat (first | refine codeA (k := ?_) | refine condA (k := ?_) | refine offA (k := ?_) | refine stqA (k := ?_) | refine pureA (k := ?_) | refine readA (k := ?_) | refine strA (k := ?_) | refine At_block ?_)
  repeat (first | refine codeA (k := ?_) | refine condA (k := ?_) | refine offA (k := ?_) | refine pureA (k := ?_) | refine readA (k := ?_) | refine strA (k := ?_) | refine At_block ?_)
  refine At_pure (p_build (acC { Ac0 with k := 9, at_ := a0 } (.slice none 0 0)) rfl rfl) rfl rfl rfl ?_
  refine At_wp (W_storeB rfl rfl n4.at_ rfl rfl rfl rfl ?_) rfl
  intro H5 p5
  repeat (first | refine codeA (k := ?_) | refine condA (k := ?_) | refine offA (k := ?_) | refine pureA (k := ?_) | refine readA (k := ?_))
  exact At_retC2 rfl rfl p5.at_ rfl rfl rfl (PR.some (a := { Ac0 with k := 9, at_ := a0 }) (ext_put n4.ext p5.kept n4.blk) (Vs.nil _ _) nilnew)
end Go.Proofs.YticgbdeoiihbmaaDoor
