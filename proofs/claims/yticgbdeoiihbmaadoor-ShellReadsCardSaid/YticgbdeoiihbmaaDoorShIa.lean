/- The walk of shell.readPlain, word by word. Printed by wip/tools/shell_gen.py. -/
import Derived.Test.YticgbdeoiihbmaaDoorShH
namespace Go.Proofs.YticgbdeoiihbmaaDoor
open Go Ev
set_option linter.unusedVariables false
set_option linter.unusedSimpArgs false
attribute [local irreducible] Go.wpList Go.bodyPost Go.Code.wp Go.Exit.then Go.Exit.inBlock Go.Exit.noGoto Ev.wpAnyG Go.Oper.wp Ev.Back Ev.Left Ev.Spc Ev.At Ev.Pure Ev.Reads Ev.Runs Ev.Does Ev.Cell

set_option maxHeartbeats 4000000 in
theorem rp_cancel_spec {H : Heap} {v : Value} {ns : List Int} (hv : Vs iv H v ns)  : Spc Tryd.prog 11 #[sv [99, 97, 110, 99, 101, 108], v] H fun r H' => PR (pl_cancel ns) H r H' := by
  refine spec_of Tryd.func11 rfl Tryd.ntmps11 rfl (fun W => ?_)
  repeat (first | refine codeA (k := ?_) | refine condA (k := ?_) | refine offA (k := ?_) | refine pureA (k := ?_) | refine readA (k := ?_))
  refine At_wp (W_alloc rfl rfl ?_) rfl
  intro g4 H1 n4
  have hv := hv.on n4.ext
  by_cases hl : ns.length = 3
  · obtain ⟨a0, a1, a2, hns⟩ := len3 hl
    rw [show pl_cancel ns = some { Ac0 with k := 1, at_ := a0, ck := 2, i1 := a1, i2 := a2 } from by rw [hns]; rfl]
    obtain ⟨b, o, c, rfl, hc, hcell⟩ := hv.some (fun e => by rw [e] at hl; simp at hl)
    have c0 : Cell H1 b (o + 0 * 1) (.int .i64 a0) := hcell 0 a0 (by rw [hns]; rfl)
    have c1 : Cell H1 b (o + 1 * 1) (.int .i64 a1) := hcell 1 a1 (by rw [hns]; rfl)
    have c2 : Cell H1 b (o + 2 * 1) (.int .i64 a2) := hcell 2 a2 (by rw [hns]; rfl)
    have ss : Ext H1 H1 := Kept.refl _ _
    repeat (first | refine codeA (k := ?_) | refine condA (k := ?_) | refine offA (k := ?_) | refine pureA (k := ?_) | refine readA (k := ?_))
    refine At_wp (W_call rfl rfl (size_spec [99, 97, 110, 99, 101, 108] H1) rfl rfl ?_) rfl
    rintro _ _ ⟨rfl, rfl⟩
    rw [show sz [99, 97, 110, 99, 101, 108] = 3 from by decide]
    repeat (first | refine codeA (k := ?_) | refine condA (k := ?_) | refine offA (k := ?_) | refine stqA (k := ?_) | refine pureA (k := ?_) | refine readA (k := ?_) | refine strA (k := ?_) | refine At_block ?_)
    refine At_draw [2, 5, 8] (fun H' => Ext H1 H') Tryd.mixed ?_
    first | refine gA 0 (k := ?_) | refine goffA 0 (k := ?_)
    refine gqA 1 rfl (p_indexAddr (i := 0) rfl rfl (by omega)) (k := ?_)
    refine grA 2 ss (fun H' hS' => r_load rfl rfl ((c0.keep hS' (fun f => f)))) (k := ?_)
    first | refine gA 3 (k := ?_) | refine goffA 3 (k := ?_)
    refine gqA 4 rfl (p_indexAddr (i := 1) rfl rfl (by omega)) (k := ?_)
    refine grA 5 ss (fun H' hS' => r_load rfl rfl ((c1.keep hS' (fun f => f)))) (k := ?_)
    first | refine gA 6 (k := ?_) | refine goffA 6 (k := ?_)
    refine gqA 7 rfl (p_indexAddr (i := 2) rfl rfl (by omega)) (k := ?_)
    refine grA 8 ss (fun H' hS' => r_load rfl rfl ((c2.keep hS' (fun f => f)))) (k := ?_)
    refine gpA 9 (p_build [.int .i64 a1, .int .i64 a2] rfl rfl) (k := ?_)
    refine gpA 10 (p_build (cmdC { Ac0 with ck := 2, i1 := a1, i2 := a2 } (.slice none 0 0)) rfl rfl) (k := ?_)
    refine G_op 11 rfl (by kernel_rfl) rfl (W_call rfl rfl (command_spec a0 { Ac0 with ck := 2, i1 := a1, i2 := a2 } none 0 0 H1) rfl rfl ?_) 
    rintro _ H2 ⟨hx2, rfl⟩
    refine G_next (fun _ s => s.trans hx2) ?_
    refine G_op 12 rfl (by kernel_rfl) rfl (W_storeB rfl rfl (hx2.keep n4.at_ (fun f => f)) rfl rfl rfl rfl ?_) 
    intro H5 p5
    refine G_free (by kernel_rfl) ?_
    first | refine gA 13 (k := ?_) | refine goffA 13 (k := ?_)
    refine G_done (by kernel_rfl) ?_
    repeat (first | refine codeA (k := ?_) | refine condA (k := ?_) | refine offA (k := ?_) | refine pureA (k := ?_) | refine readA (k := ?_))
    exact At_retC2 rfl rfl p5.at_ rfl rfl rfl (PR.some (a := { Ac0 with k := 1, at_ := a0, ck := 2, i1 := a1, i2 := a2 }) (ext_put (n4.ext.trans hx2) p5.kept n4.blk) (Vs.nil _ _) nilnew)
  · rw [pl_cancel_none hl]
    obtain ⟨p, c, rfl, hc, hcell⟩ := hv
    repeat (first | refine codeA (k := ?_) | refine condA (k := ?_) | refine offA (k := ?_) | refine pureA (k := ?_) | refine readA (k := ?_))
    refine At_wp (W_call rfl rfl (size_spec [99, 97, 110, 99, 101, 108] H1) rfl rfl ?_) rfl
    rintro _ _ ⟨rfl, rfl⟩
    rw [show sz [99, 97, 110, 99, 101, 108] = 3 from by decide]
    repeat (first | refine codeA (k := ?_) | refine condA (k := ?_) | refine offA (k := ?_) | refine pureA (k := ?_) | refine readA (k := ?_))
    refine At_pure (p_build (acC Ac0 (.slice none 0 0)) rfl rfl) rfl rfl rfl ?_
    refine At_wp (W_storeB rfl rfl n4.at_ rfl rfl rfl rfl ?_) rfl
    intro H5 p5
    repeat (first | refine codeA (k := ?_) | refine condA (k := ?_) | refine offA (k := ?_) | refine pureA (k := ?_) | refine readA (k := ?_))
    exact At_retC2 rfl rfl p5.at_ rfl rfl rfl (PR.none (ext_put n4.ext p5.kept n4.blk))
set_option maxHeartbeats 4000000 in
theorem rp_status_spec {H : Heap} {v : Value} {ns : List Int} (hv : Vs iv H v ns)  : Spc Tryd.prog 11 #[sv [115, 116, 97, 116, 117, 115], v] H fun r H' => PR (pl_status ns) H r H' := by
  refine spec_of Tryd.func11 rfl Tryd.ntmps11 rfl (fun W => ?_)
  repeat (first | refine codeA (k := ?_) | refine condA (k := ?_) | refine offA (k := ?_) | refine pureA (k := ?_) | refine readA (k := ?_))
  refine At_wp (W_alloc rfl rfl ?_) rfl
  intro g4 H1 n4
  have hv := hv.on n4.ext
  by_cases hl : ns.length = 3
  · obtain ⟨a0, a1, a2, hns⟩ := len3 hl
    rw [show pl_status ns = some { Ac0 with k := 1, at_ := a0, ck := 3, i1 := a1, i2 := a2 } from by rw [hns]; rfl]
    obtain ⟨b, o, c, rfl, hc, hcell⟩ := hv.some (fun e => by rw [e] at hl; simp at hl)
    have c0 : Cell H1 b (o + 0 * 1) (.int .i64 a0) := hcell 0 a0 (by rw [hns]; rfl)
    have c1 : Cell H1 b (o + 1 * 1) (.int .i64 a1) := hcell 1 a1 (by rw [hns]; rfl)
    have c2 : Cell H1 b (o + 2 * 1) (.int .i64 a2) := hcell 2 a2 (by rw [hns]; rfl)
    have ss : Ext H1 H1 := Kept.refl _ _
    repeat (first | refine codeA (k := ?_) | refine condA (k := ?_) | refine offA (k := ?_) | refine pureA (k := ?_) | refine readA (k := ?_))
    refine At_wp (W_call rfl rfl (size_spec [115, 116, 97, 116, 117, 115] H1) rfl rfl ?_) rfl
    rintro _ _ ⟨rfl, rfl⟩
    rw [show sz [115, 116, 97, 116, 117, 115] = 3 from by decide]
    repeat (first | refine codeA (k := ?_) | refine condA (k := ?_) | refine offA (k := ?_) | refine stqA (k := ?_) | refine pureA (k := ?_) | refine readA (k := ?_) | refine strA (k := ?_) | refine At_block ?_)
    refine At_draw [2, 5, 8] (fun H' => Ext H1 H') Tryd.mixed ?_
    first | refine gA 0 (k := ?_) | refine goffA 0 (k := ?_)
    refine gqA 1 rfl (p_indexAddr (i := 0) rfl rfl (by omega)) (k := ?_)
    refine grA 2 ss (fun H' hS' => r_load rfl rfl ((c0.keep hS' (fun f => f)))) (k := ?_)
    first | refine gA 3 (k := ?_) | refine goffA 3 (k := ?_)
    refine gqA 4 rfl (p_indexAddr (i := 1) rfl rfl (by omega)) (k := ?_)
    refine grA 5 ss (fun H' hS' => r_load rfl rfl ((c1.keep hS' (fun f => f)))) (k := ?_)
    first | refine gA 6 (k := ?_) | refine goffA 6 (k := ?_)
    refine gqA 7 rfl (p_indexAddr (i := 2) rfl rfl (by omega)) (k := ?_)
    refine grA 8 ss (fun H' hS' => r_load rfl rfl ((c2.keep hS' (fun f => f)))) (k := ?_)
    refine gpA 9 (p_build [.int .i64 a1, .int .i64 a2] rfl rfl) (k := ?_)
    refine gpA 10 (p_build (cmdC { Ac0 with ck := 3, i1 := a1, i2 := a2 } (.slice none 0 0)) rfl rfl) (k := ?_)
    refine G_op 11 rfl (by kernel_rfl) rfl (W_call rfl rfl (command_spec a0 { Ac0 with ck := 3, i1 := a1, i2 := a2 } none 0 0 H1) rfl rfl ?_) 
    rintro _ H2 ⟨hx2, rfl⟩
    refine G_next (fun _ s => s.trans hx2) ?_
    refine G_op 12 rfl (by kernel_rfl) rfl (W_storeB rfl rfl (hx2.keep n4.at_ (fun f => f)) rfl rfl rfl rfl ?_) 
    intro H5 p5
    refine G_free (by kernel_rfl) ?_
    first | refine gA 13 (k := ?_) | refine goffA 13 (k := ?_)
    refine G_done (by kernel_rfl) ?_
    repeat (first | refine codeA (k := ?_) | refine condA (k := ?_) | refine offA (k := ?_) | refine pureA (k := ?_) | refine readA (k := ?_))
    exact At_retC2 rfl rfl p5.at_ rfl rfl rfl (PR.some (a := { Ac0 with k := 1, at_ := a0, ck := 3, i1 := a1, i2 := a2 }) (ext_put (n4.ext.trans hx2) p5.kept n4.blk) (Vs.nil _ _) nilnew)
  · rw [pl_status_none hl]
    obtain ⟨p, c, rfl, hc, hcell⟩ := hv
    repeat (first | refine codeA (k := ?_) | refine condA (k := ?_) | refine offA (k := ?_) | refine pureA (k := ?_) | refine readA (k := ?_))
    refine At_wp (W_call rfl rfl (size_spec [115, 116, 97, 116, 117, 115] H1) rfl rfl ?_) rfl
    rintro _ _ ⟨rfl, rfl⟩
    rw [show sz [115, 116, 97, 116, 117, 115] = 3 from by decide]
    repeat (first | refine codeA (k := ?_) | refine condA (k := ?_) | refine offA (k := ?_) | refine pureA (k := ?_) | refine readA (k := ?_))
    refine At_pure (p_build (acC Ac0 (.slice none 0 0)) rfl rfl) rfl rfl rfl ?_
    refine At_wp (W_storeB rfl rfl n4.at_ rfl rfl rfl rfl ?_) rfl
    intro H5 p5
    repeat (first | refine codeA (k := ?_) | refine condA (k := ?_) | refine offA (k := ?_) | refine pureA (k := ?_) | refine readA (k := ?_))
    exact At_retC2 rfl rfl p5.at_ rfl rfl rfl (PR.none (ext_put n4.ext p5.kept n4.blk))
set_option maxHeartbeats 4000000 in
theorem rp_reserve_spec {H : Heap} {v : Value} {ns : List Int} (hv : Vs iv H v ns)  : Spc Tryd.prog 11 #[sv [114, 101, 115, 101, 114, 118, 101], v] H fun r H' => PR (pl_reserve ns) H r H' := by
  refine spec_of Tryd.func11 rfl Tryd.ntmps11 rfl (fun W => ?_)
  repeat (first | refine codeA (k := ?_) | refine condA (k := ?_) | refine offA (k := ?_) | refine pureA (k := ?_) | refine readA (k := ?_))
  refine At_wp (W_alloc rfl rfl ?_) rfl
  intro g4 H1 n4
  have hv := hv.on n4.ext
  by_cases hl : ns.length = 5
  · obtain ⟨a0, a1, a2, a3, a4, hns⟩ := len5 hl
    rw [show pl_reserve ns = if okAm a3 a4 then some { Ac0 with k := 1, at_ := a0, ck := 4, b1 := a1, b2 := a2, bn := fl a3, bl := fl a4 } else none from by rw [hns]; rfl]
    obtain ⟨b, o, c, rfl, hc, hcell⟩ := hv.some (fun e => by rw [e] at hl; simp at hl)
    have c0 : Cell H1 b (o + 0 * 1) (.int .i64 a0) := hcell 0 a0 (by rw [hns]; rfl)
    have c1 : Cell H1 b (o + 1 * 1) (.int .i64 a1) := hcell 1 a1 (by rw [hns]; rfl)
    have c2 : Cell H1 b (o + 2 * 1) (.int .i64 a2) := hcell 2 a2 (by rw [hns]; rfl)
    have c3 : Cell H1 b (o + 3 * 1) (.int .i64 a3) := hcell 3 a3 (by rw [hns]; rfl)
    have c4 : Cell H1 b (o + 4 * 1) (.int .i64 a4) := hcell 4 a4 (by rw [hns]; rfl)
    have ss : Ext H1 H1 := Kept.refl _ _
    repeat (first | refine codeA (k := ?_) | refine condA (k := ?_) | refine offA (k := ?_) | refine pureA (k := ?_) | refine readA (k := ?_))
    refine At_wp (W_call rfl rfl (size_spec [114, 101, 115, 101, 114, 118, 101] H1) rfl rfl ?_) rfl
    rintro _ _ ⟨rfl, rfl⟩
    rw [show sz [114, 101, 115, 101, 114, 118, 101] = 5 from by decide]
    repeat (first | refine codeA (k := ?_) | refine condA (k := ?_) | refine offA (k := ?_) | refine stqA (k := ?_) | refine pureA (k := ?_) | refine readA (k := ?_) | refine strA (k := ?_) | refine At_block ?_)
    refine At_draw [2, 5] (fun H' => Ext H1 H') Tryd.mixed ?_
    first | refine gA 0 (k := ?_) | refine goffA 0 (k := ?_)
    refine gqA 1 rfl (p_indexAddr (i := 3) rfl rfl (by omega)) (k := ?_)
    refine grA 2 ss (fun H' hS' => r_load rfl rfl ((c3.keep hS' (fun f => f)))) (k := ?_)
    first | refine gA 3 (k := ?_) | refine goffA 3 (k := ?_)
    refine gqA 4 rfl (p_indexAddr (i := 4) rfl rfl (by omega)) (k := ?_)
    refine grA 5 ss (fun H' hS' => r_load rfl rfl ((c4.keep hS' (fun f => f)))) (k := ?_)
    refine G_op 6 rfl (by kernel_rfl) rfl (W_call rfl rfl (make1_spec a3 a4 H1) rfl rfl ?_) 
    rintro _ _ ⟨rfl, rfl⟩
    refine G_next (fun _ s => s) ?_
    unfold am
    by_cases hok : okAm a3 a4
    · rw [if_pos hok, if_pos hok]
      first | refine gA 7 (k := ?_) | refine goffA 7 (k := ?_)
      first | refine gA 8 (k := ?_) | refine goffA 8 (k := ?_)
      first | refine gA 9 (k := ?_) | refine goffA 9 (k := ?_)
      first | refine gA 10 (k := ?_) | refine goffA 10 (k := ?_)
      first | refine gA 11 (k := ?_) | refine goffA 11 (k := ?_)
      refine G_done (by kernel_rfl) ?_
      repeat (first | refine codeA (k := ?_) | refine condA (k := ?_) | refine offA (k := ?_) | refine pureA (k := ?_) | refine readA (k := ?_))
      refine At_draw [2, 5, 8] (fun H' => Ext H1 H') Tryd.mixed ?_
      first | refine gA 0 (k := ?_) | refine goffA 0 (k := ?_)
      refine gqA 1 rfl (p_indexAddr (i := 0) rfl rfl (by omega)) (k := ?_)
      refine grA 2 ss (fun H' hS' => r_load rfl rfl ((c0.keep hS' (fun f => f)))) (k := ?_)
      first | refine gA 3 (k := ?_) | refine goffA 3 (k := ?_)
      refine gqA 4 rfl (p_indexAddr (i := 1) rfl rfl (by omega)) (k := ?_)
      refine grA 5 ss (fun H' hS' => r_load rfl rfl ((c1.keep hS' (fun f => f)))) (k := ?_)
      first | refine gA 6 (k := ?_) | refine goffA 6 (k := ?_)
      refine gqA 7 rfl (p_indexAddr (i := 2) rfl rfl (by omega)) (k := ?_)
      refine grA 8 ss (fun H' hS' => r_load rfl rfl ((c2.keep hS' (fun f => f)))) (k := ?_)
      first | refine gA 9 (k := ?_) | refine goffA 9 (k := ?_)
      refine gpA 10 (p_build [.int .i64 a1, .int .i64 a2, (.complex .f64 (fl a3) (fl a4))] rfl rfl) (k := ?_)
      refine gpA 11 (p_build (cmdC { Ac0 with ck := 4, b1 := a1, b2 := a2, bn := fl a3, bl := fl a4 } (.slice none 0 0)) rfl rfl) (k := ?_)
      refine G_op 12 rfl (by kernel_rfl) rfl (W_call rfl rfl (command_spec a0 { Ac0 with ck := 4, b1 := a1, b2 := a2, bn := fl a3, bl := fl a4 } none 0 0 H1) rfl rfl ?_) 
      rintro _ H2 ⟨hx2, rfl⟩
      refine G_next (fun _ s => s.trans hx2) ?_
      refine G_op 13 rfl (by kernel_rfl) rfl (W_storeB rfl rfl (hx2.keep n4.at_ (fun f => f)) rfl rfl rfl rfl ?_) 
      intro H5 p5
      refine G_free (by kernel_rfl) ?_
      first | refine gA 14 (k := ?_) | refine goffA 14 (k := ?_)
      refine G_done (by kernel_rfl) ?_
      repeat (first | refine codeA (k := ?_) | refine condA (k := ?_) | refine offA (k := ?_) | refine pureA (k := ?_) | refine readA (k := ?_))
      exact At_retC2 rfl rfl p5.at_ rfl rfl rfl (PR.some (a := { Ac0 with k := 1, at_ := a0, ck := 4, b1 := a1, b2 := a2, bn := fl a3, bl := fl a4 }) (ext_put (n4.ext.trans hx2) p5.kept n4.blk) (Vs.nil _ _) nilnew)
    · rw [if_neg hok, if_neg hok]
      first | refine gA 7 (k := ?_) | refine goffA 7 (k := ?_)
      first | refine gA 8 (k := ?_) | refine goffA 8 (k := ?_)
      first | refine gA 9 (k := ?_) | refine goffA 9 (k := ?_)
      first | refine gA 10 (k := ?_) | refine goffA 10 (k := ?_)
      first | refine gA 11 (k := ?_) | refine goffA 11 (k := ?_)
      refine G_done (by kernel_rfl) ?_
      repeat (first | refine codeA (k := ?_) | refine condA (k := ?_) | refine offA (k := ?_) | refine pureA (k := ?_) | refine readA (k := ?_))
      refine At_pure (p_build (acC Ac0 (.slice none 0 0)) rfl rfl) rfl rfl rfl ?_
      refine At_wp (W_storeB rfl rfl n4.at_ rfl rfl rfl rfl ?_) rfl
      intro H5 p5
      repeat (first | refine codeA (k := ?_) | refine condA (k := ?_) | refine offA (k := ?_) | refine pureA (k := ?_) | refine readA (k := ?_))
      exact At_retC2 rfl rfl p5.at_ rfl rfl rfl (PR.none (ext_put n4.ext p5.kept n4.blk))
  · rw [pl_reserve_none hl]
    obtain ⟨p, c, rfl, hc, hcell⟩ := hv
    repeat (first | refine codeA (k := ?_) | refine condA (k := ?_) | refine offA (k := ?_) | refine pureA (k := ?_) | refine readA (k := ?_))
    refine At_wp (W_call rfl rfl (size_spec [114, 101, 115, 101, 114, 118, 101] H1) rfl rfl ?_) rfl
    rintro _ _ ⟨rfl, rfl⟩
    rw [show sz [114, 101, 115, 101, 114, 118, 101] = 5 from by decide]
    repeat (first | refine codeA (k := ?_) | refine condA (k := ?_) | refine offA (k := ?_) | refine pureA (k := ?_) | refine readA (k := ?_))
    refine At_pure (p_build (acC Ac0 (.slice none 0 0)) rfl rfl) rfl rfl rfl ?_
    refine At_wp (W_storeB rfl rfl n4.at_ rfl rfl rfl rfl ?_) rfl
    intro H5 p5
    repeat (first | refine codeA (k := ?_) | refine condA (k := ?_) | refine offA (k := ?_) | refine pureA (k := ?_) | refine readA (k := ?_))
    exact At_retC2 rfl rfl p5.at_ rfl rfl rfl (PR.none (ext_put n4.ext p5.kept n4.blk))
set_option maxHeartbeats 4000000 in
theorem rp_unreserve_spec {H : Heap} {v : Value} {ns : List Int} (hv : Vs iv H v ns)  : Spc Tryd.prog 11 #[sv [117, 110, 114, 101, 115, 101, 114, 118, 101], v] H fun r H' => PR (pl_unreserve ns) H r H' := by
  refine spec_of Tryd.func11 rfl Tryd.ntmps11 rfl (fun W => ?_)
  repeat (first | refine codeA (k := ?_) | refine condA (k := ?_) | refine offA (k := ?_) | refine pureA (k := ?_) | refine readA (k := ?_))
  refine At_wp (W_alloc rfl rfl ?_) rfl
  intro g4 H1 n4
  have hv := hv.on n4.ext
  by_cases hl : ns.length = 2
  · obtain ⟨a0, a1, hns⟩ := len2 hl
    rw [show pl_unreserve ns = some { Ac0 with k := 1, at_ := a0, ck := 5, cn := a1 } from by rw [hns]; rfl]
    obtain ⟨b, o, c, rfl, hc, hcell⟩ := hv.some (fun e => by rw [e] at hl; simp at hl)
    have c0 : Cell H1 b (o + 0 * 1) (.int .i64 a0) := hcell 0 a0 (by rw [hns]; rfl)
    have c1 : Cell H1 b (o + 1 * 1) (.int .i64 a1) := hcell 1 a1 (by rw [hns]; rfl)
    have ss : Ext H1 H1 := Kept.refl _ _
    repeat (first | refine codeA (k := ?_) | refine condA (k := ?_) | refine offA (k := ?_) | refine pureA (k := ?_) | refine readA (k := ?_))
    refine At_wp (W_call rfl rfl (size_spec [117, 110, 114, 101, 115, 101, 114, 118, 101] H1) rfl rfl ?_) rfl
    rintro _ _ ⟨rfl, rfl⟩
    rw [show sz [117, 110, 114, 101, 115, 101, 114, 118, 101] = 2 from by decide]
    repeat (first | refine codeA (k := ?_) | refine condA (k := ?_) | refine offA (k := ?_) | refine stqA (k := ?_) | refine pureA (k := ?_) | refine readA (k := ?_) | refine strA (k := ?_) | refine At_block ?_)
    refine At_draw [2, 5] (fun H' => Ext H1 H') Tryd.mixed ?_
    first | refine gA 0 (k := ?_) | refine goffA 0 (k := ?_)
    refine gqA 1 rfl (p_indexAddr (i := 0) rfl rfl (by omega)) (k := ?_)
    refine grA 2 ss (fun H' hS' => r_load rfl rfl ((c0.keep hS' (fun f => f)))) (k := ?_)
    first | refine gA 3 (k := ?_) | refine goffA 3 (k := ?_)
    refine gqA 4 rfl (p_indexAddr (i := 1) rfl rfl (by omega)) (k := ?_)
    refine grA 5 ss (fun H' hS' => r_load rfl rfl ((c1.keep hS' (fun f => f)))) (k := ?_)
    refine gpA 6 (p_build (cmdC { Ac0 with ck := 5, cn := a1 } (.slice none 0 0)) rfl rfl) (k := ?_)
    refine G_op 7 rfl (by kernel_rfl) rfl (W_call rfl rfl (command_spec a0 { Ac0 with ck := 5, cn := a1 } none 0 0 H1) rfl rfl ?_) 
    rintro _ H2 ⟨hx2, rfl⟩
    refine G_next (fun _ s => s.trans hx2) ?_
    refine G_op 8 rfl (by kernel_rfl) rfl (W_storeB rfl rfl (hx2.keep n4.at_ (fun f => f)) rfl rfl rfl rfl ?_) 
    intro H5 p5
    refine G_free (by kernel_rfl) ?_
    first | refine gA 9 (k := ?_) | refine goffA 9 (k := ?_)
    refine G_done (by kernel_rfl) ?_
    repeat (first | refine codeA (k := ?_) | refine condA (k := ?_) | refine offA (k := ?_) | refine pureA (k := ?_) | refine readA (k := ?_))
    exact At_retC2 rfl rfl p5.at_ rfl rfl rfl (PR.some (a := { Ac0 with k := 1, at_ := a0, ck := 5, cn := a1 }) (ext_put (n4.ext.trans hx2) p5.kept n4.blk) (Vs.nil _ _) nilnew)
  · rw [pl_unreserve_none hl]
    obtain ⟨p, c, rfl, hc, hcell⟩ := hv
    repeat (first | refine codeA (k := ?_) | refine condA (k := ?_) | refine offA (k := ?_) | refine pureA (k := ?_) | refine readA (k := ?_))
    refine At_wp (W_call rfl rfl (size_spec [117, 110, 114, 101, 115, 101, 114, 118, 101] H1) rfl rfl ?_) rfl
    rintro _ _ ⟨rfl, rfl⟩
    rw [show sz [117, 110, 114, 101, 115, 101, 114, 118, 101] = 2 from by decide]
    repeat (first | refine codeA (k := ?_) | refine condA (k := ?_) | refine offA (k := ?_) | refine pureA (k := ?_) | refine readA (k := ?_))
    refine At_pure (p_build (acC Ac0 (.slice none 0 0)) rfl rfl) rfl rfl rfl ?_
    refine At_wp (W_storeB rfl rfl n4.at_ rfl rfl rfl rfl ?_) rfl
    intro H5 p5
    repeat (first | refine codeA (k := ?_) | refine condA (k := ?_) | refine offA (k := ?_) | refine pureA (k := ?_) | refine readA (k := ?_))
    exact At_retC2 rfl rfl p5.at_ rfl rfl rfl (PR.none (ext_put n4.ext p5.kept n4.blk))
set_option maxHeartbeats 4000000 in
theorem rp_drain_spec {H : Heap} {v : Value} {ns : List Int} (hv : Vs iv H v ns)  : Spc Tryd.prog 11 #[sv [100, 114, 97, 105, 110], v] H fun r H' => PR (pl_drain ns) H r H' := by
  refine spec_of Tryd.func11 rfl Tryd.ntmps11 rfl (fun W => ?_)
  repeat (first | refine codeA (k := ?_) | refine condA (k := ?_) | refine offA (k := ?_) | refine pureA (k := ?_) | refine readA (k := ?_))
  refine At_wp (W_alloc rfl rfl ?_) rfl
  intro g4 H1 n4
  have hv := hv.on n4.ext
  by_cases hl : ns.length = 1
  · obtain ⟨a0, hns⟩ := len1 hl
    rw [show pl_drain ns = some { Ac0 with k := 1, at_ := a0, ck := 6, con := true } from by rw [hns]; rfl]
    obtain ⟨b, o, c, rfl, hc, hcell⟩ := hv.some (fun e => by rw [e] at hl; simp at hl)
    have c0 : Cell H1 b (o + 0 * 1) (.int .i64 a0) := hcell 0 a0 (by rw [hns]; rfl)
    have ss : Ext H1 H1 := Kept.refl _ _
    repeat (first | refine codeA (k := ?_) | refine condA (k := ?_) | refine offA (k := ?_) | refine pureA (k := ?_) | refine readA (k := ?_))
    refine At_wp (W_call rfl rfl (size_spec [100, 114, 97, 105, 110] H1) rfl rfl ?_) rfl
    rintro _ _ ⟨rfl, rfl⟩
    rw [show sz [100, 114, 97, 105, 110] = 1 from by decide]
    repeat (first | refine codeA (k := ?_) | refine condA (k := ?_) | refine offA (k := ?_) | refine stqA (k := ?_) | refine pureA (k := ?_) | refine readA (k := ?_) | refine strA (k := ?_) | refine At_block ?_)
    repeat (first | refine codeA (k := ?_) | refine condA (k := ?_) | refine offA (k := ?_) | refine pureA (k := ?_) | refine readA (k := ?_) | refine strA (k := ?_) | refine At_block ?_)
    refine At_pure (p_build (cmdC { Ac0 with ck := 6, con := true } (.slice none 0 0)) rfl rfl) rfl rfl rfl ?_
    refine At_wp (W_call rfl rfl (command_spec a0 { Ac0 with ck := 6, con := true } none 0 0 H1) rfl rfl ?_) rfl
    rintro _ H2 ⟨hx2, rfl⟩
    refine At_wp (W_storeB rfl rfl (hx2.keep n4.at_ (fun f => f)) rfl rfl rfl rfl ?_) rfl
    intro H5 p5
    repeat (first | refine codeA (k := ?_) | refine condA (k := ?_) | refine offA (k := ?_) | refine pureA (k := ?_) | refine readA (k := ?_))
    exact At_retC2 rfl rfl p5.at_ rfl rfl rfl (PR.some (a := { Ac0 with k := 1, at_ := a0, ck := 6, con := true }) (ext_put (n4.ext.trans hx2) p5.kept n4.blk) (Vs.nil _ _) nilnew)
  · rw [pl_drain_none hl]
    obtain ⟨p, c, rfl, hc, hcell⟩ := hv
    repeat (first | refine codeA (k := ?_) | refine condA (k := ?_) | refine offA (k := ?_) | refine pureA (k := ?_) | refine readA (k := ?_))
    refine At_wp (W_call rfl rfl (size_spec [100, 114, 97, 105, 110] H1) rfl rfl ?_) rfl
    rintro _ _ ⟨rfl, rfl⟩
    rw [show sz [100, 114, 97, 105, 110] = 1 from by decide]
    repeat (first | refine codeA (k := ?_) | refine condA (k := ?_) | refine offA (k := ?_) | refine pureA (k := ?_) | refine readA (k := ?_))
    refine At_pure (p_build (acC Ac0 (.slice none 0 0)) rfl rfl) rfl rfl rfl ?_
    refine At_wp (W_storeB rfl rfl n4.at_ rfl rfl rfl rfl ?_) rfl
    intro H5 p5
    repeat (first | refine codeA (k := ?_) | refine condA (k := ?_) | refine offA (k := ?_) | refine pureA (k := ?_) | refine readA (k := ?_))
    exact At_retC2 rfl rfl p5.at_ rfl rfl rfl (PR.none (ext_put n4.ext p5.kept n4.blk))
set_option maxHeartbeats 4000000 in
theorem rp_undrain_spec {H : Heap} {v : Value} {ns : List Int} (hv : Vs iv H v ns)  : Spc Tryd.prog 11 #[sv [117, 110, 100, 114, 97, 105, 110], v] H fun r H' => PR (pl_undrain ns) H r H' := by
  refine spec_of Tryd.func11 rfl Tryd.ntmps11 rfl (fun W => ?_)
  repeat (first | refine codeA (k := ?_) | refine condA (k := ?_) | refine offA (k := ?_) | refine pureA (k := ?_) | refine readA (k := ?_))
  refine At_wp (W_alloc rfl rfl ?_) rfl
  intro g4 H1 n4
  have hv := hv.on n4.ext
  by_cases hl : ns.length = 1
  · obtain ⟨a0, hns⟩ := len1 hl
    rw [show pl_undrain ns = some { Ac0 with k := 1, at_ := a0, ck := 6, con := false } from by rw [hns]; rfl]
    obtain ⟨b, o, c, rfl, hc, hcell⟩ := hv.some (fun e => by rw [e] at hl; simp at hl)
    have c0 : Cell H1 b (o + 0 * 1) (.int .i64 a0) := hcell 0 a0 (by rw [hns]; rfl)
    have ss : Ext H1 H1 := Kept.refl _ _
    repeat (first | refine codeA (k := ?_) | refine condA (k := ?_) | refine offA (k := ?_) | refine pureA (k := ?_) | refine readA (k := ?_))
    refine At_wp (W_call rfl rfl (size_spec [117, 110, 100, 114, 97, 105, 110] H1) rfl rfl ?_) rfl
    rintro _ _ ⟨rfl, rfl⟩
    rw [show sz [117, 110, 100, 114, 97, 105, 110] = 1 from by decide]
    repeat (first | refine codeA (k := ?_) | refine condA (k := ?_) | refine offA (k := ?_) | refine stqA (k := ?_) | refine pureA (k := ?_) | refine readA (k := ?_) | refine strA (k := ?_) | refine At_block ?_)
    repeat (first | refine codeA (k := ?_) | refine condA (k := ?_) | refine offA (k := ?_) | refine pureA (k := ?_) | refine readA (k := ?_) | refine strA (k := ?_) | refine At_block ?_)
    refine At_pure (p_build (cmdC { Ac0 with ck := 6, con := false } (.slice none 0 0)) rfl rfl) rfl rfl rfl ?_
    refine At_wp (W_call rfl rfl (command_spec a0 { Ac0 with ck := 6, con := false } none 0 0 H1) rfl rfl ?_) rfl
    rintro _ H2 ⟨hx2, rfl⟩
    refine At_wp (W_storeB rfl rfl (hx2.keep n4.at_ (fun f => f)) rfl rfl rfl rfl ?_) rfl
    intro H5 p5
    repeat (first | refine codeA (k := ?_) | refine condA (k := ?_) | refine offA (k := ?_) | refine pureA (k := ?_) | refine readA (k := ?_))
    exact At_retC2 rfl rfl p5.at_ rfl rfl rfl (PR.some (a := { Ac0 with k := 1, at_ := a0, ck := 6, con := false }) (ext_put (n4.ext.trans hx2) p5.kept n4.blk) (Vs.nil _ _) nilnew)
  · rw [pl_undrain_none hl]
    obtain ⟨p, c, rfl, hc, hcell⟩ := hv
    repeat (first | refine codeA (k := ?_) | refine condA (k := ?_) | refine offA (k := ?_) | refine pureA (k := ?_) | refine readA (k := ?_))
    refine At_wp (W_call rfl rfl (size_spec [117, 110, 100, 114, 97, 105, 110] H1) rfl rfl ?_) rfl
    rintro _ _ ⟨rfl, rfl⟩
    rw [show sz [117, 110, 100, 114, 97, 105, 110] = 1 from by decide]
    repeat (first | refine codeA (k := ?_) | refine condA (k := ?_) | refine offA (k := ?_) | refine pureA (k := ?_) | refine readA (k := ?_))
    refine At_pure (p_build (acC Ac0 (.slice none 0 0)) rfl rfl) rfl rfl rfl ?_
    refine At_wp (W_storeB rfl rfl n4.at_ rfl rfl rfl rfl ?_) rfl
    intro H5 p5
    repeat (first | refine codeA (k := ?_) | refine condA (k := ?_) | refine offA (k := ?_) | refine pureA (k := ?_) | refine readA (k := ?_))
    exact At_retC2 rfl rfl p5.at_ rfl rfl rfl (PR.none (ext_put n4.ext p5.kept n4.blk))
set_option maxHeartbeats 4000000 in
theorem rp_tick_spec {H : Heap} {v : Value} {ns : List Int} (hv : Vs iv H v ns)  : Spc Tryd.prog 11 #[sv [116, 105, 99, 107], v] H fun r H' => PR (pl_tick ns) H r H' := by
  refine spec_of Tryd.func11 rfl Tryd.ntmps11 rfl (fun W => ?_)
  repeat (first | refine codeA (k := ?_) | refine condA (k := ?_) | refine offA (k := ?_) | refine pureA (k := ?_) | refine readA (k := ?_))
  refine At_wp (W_alloc rfl rfl ?_) rfl
  intro g4 H1 n4
  have hv := hv.on n4.ext
  by_cases hl : ns.length = 1
  · obtain ⟨a0, hns⟩ := len1 hl
    rw [show pl_tick ns = some { Ac0 with k := 2, at_ := a0 } from by rw [hns]; rfl]
    obtain ⟨b, o, c, rfl, hc, hcell⟩ := hv.some (fun e => by rw [e] at hl; simp at hl)
    have c0 : Cell H1 b (o + 0 * 1) (.int .i64 a0) := hcell 0 a0 (by rw [hns]; rfl)
    have ss : Ext H1 H1 := Kept.refl _ _
    repeat (first | refine codeA (k := ?_) | refine condA (k := ?_) | refine offA (k := ?_) | refine pureA (k := ?_) | refine readA (k := ?_))
    refine At_wp (W_call rfl rfl (size_spec [116, 105, 99, 107] H1) rfl rfl ?_) rfl
    rintro _ _ ⟨rfl, rfl⟩
    rw [show sz [116, 105, 99, 107] = 1 from by decide]
    repeat (first | refine codeA (k := ?_) | refine condA (k := ?_) | refine offA (k := ?_) | refine stqA (k := ?_) | refine pureA (k := ?_) | refine readA (k := ?_) | refine strA (k := ?_) | refine At_block ?_)
    repeat (first | refine codeA (k := ?_) | refine condA (k := ?_) | refine offA (k := ?_) | refine pureA (k := ?_) | refine readA (k := ?_) | refine strA (k := ?_) | refine At_block ?_)
    refine At_pure (p_build (acC { Ac0 with k := 2, at_ := a0 } (.slice none 0 0)) rfl rfl) rfl rfl rfl ?_
    refine At_wp (W_storeB rfl rfl n4.at_ rfl rfl rfl rfl ?_) rfl
    intro H5 p5
    repeat (first | refine codeA (k := ?_) | refine condA (k := ?_) | refine offA (k := ?_) | refine pureA (k := ?_) | refine readA (k := ?_))
    exact At_retC2 rfl rfl p5.at_ rfl rfl rfl (PR.some (a := { Ac0 with k := 2, at_ := a0 }) (ext_put n4.ext p5.kept n4.blk) (Vs.nil _ _) nilnew)
  · rw [pl_tick_none hl]
    obtain ⟨p, c, rfl, hc, hcell⟩ := hv
    repeat (first | refine codeA (k := ?_) | refine condA (k := ?_) | refine offA (k := ?_) | refine pureA (k := ?_) | refine readA (k := ?_))
    refine At_wp (W_call rfl rfl (size_spec [116, 105, 99, 107] H1) rfl rfl ?_) rfl
    rintro _ _ ⟨rfl, rfl⟩
    rw [show sz [116, 105, 99, 107] = 1 from by decide]
    repeat (first | refine codeA (k := ?_) | refine condA (k := ?_) | refine offA (k := ?_) | refine pureA (k := ?_) | refine readA (k := ?_))
    refine At_pure (p_build (acC Ac0 (.slice none 0 0)) rfl rfl) rfl rfl rfl ?_
    refine At_wp (W_storeB rfl rfl n4.at_ rfl rfl rfl rfl ?_) rfl
    intro H5 p5
    repeat (first | refine codeA (k := ?_) | refine condA (k := ?_) | refine offA (k := ?_) | refine pureA (k := ?_) | refine readA (k := ?_))
    exact At_retC2 rfl rfl p5.at_ rfl rfl rfl (PR.none (ext_put n4.ext p5.kept n4.blk))
end Go.Proofs.YticgbdeoiihbmaaDoor
