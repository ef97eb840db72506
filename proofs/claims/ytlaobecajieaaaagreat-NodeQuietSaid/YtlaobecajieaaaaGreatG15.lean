/- A state's twin. -/
import Derived.Test.YtlaobecajieaaaaGreatG14
import Derived.Test.YtlaobecajieaaaaGreatG10
import Derived.Test.YtlaobecajieaaaaGreatG06
import Derived.Lib.AppendZeros
namespace Go.Proofs.YtlaobecajieaaaaGreat
open Go Ev
set_option linter.unusedVariables false
set_option linter.unusedSimpArgs false
attribute [local irreducible] Go.wpList Go.bodyPost Go.Code.wp Go.Exit.then Go.Exit.inBlock Go.Exit.noGoto Ev.wpAnyG Go.Oper.wp Ev.Back Ev.Left Ev.Spc Ev.At Ev.Pure Ev.Reads Ev.Runs Ev.Does Ev.Cell

set_option maxHeartbeats 2000000 in
theorem twin0_spec (H : Heap) (me cap epoch next recs : Nat) : Spc Tryz.prog 60 #[.agg (stC me cap epoch next recs nilV nilV).toArray] H fun r H' => Ext H H' ∧ r = .agg (stC me cap epoch next recs nilV nilV).toArray := by
  refine spec_of Tryz.func60 rfl Tryz.ntmps60 rfl (fun W => ?_)
  repeat (first | refine codeA (k := ?_) | refine condA (k := ?_) | refine offA (k := ?_) | refine pureA (k := ?_) | refine readA (k := ?_))
  refine At_wp (W_box (cs := (stC me cap epoch next recs nilV nilV).toArray) rfl rfl rfl ?_) rfl
  intro s H1 n1
  refine At_wp (W_alloc rfl rfl ?_) rfl
  intro y H2 n2
  have e1 := n1.blk
  have e2 := n2.blk
  have q1 := n1.size
  have hs := n2.ext.keep n1.at_ (fun f => f)
  have hy2 := n2.at_
  have x2 : Ext H H2 := n1.ext.trans n2.ext
  have hs2 := hs
  repeat (first | refine codeA (k := ?_) | refine condA (k := ?_) | refine offA (k := ?_) | refine pureA (k := ?_) | refine readA (k := ?_))
  refine At_read (r_load rfl rfl (Cell.of hs2 rfl)) rfl rfl rfl ?_
  refine At_wp (W_call rfl rfl (cloneOwn0 _) rfl rfl ?_) rfl
  rintro _ _ ⟨rfl, rfl⟩
  repeat (first | refine codeA (k := ?_) | refine condA (k := ?_) | refine offA (k := ?_) | refine pureA (k := ?_) | refine readA (k := ?_))
  refine At_wp (W_store rfl rfl hs2 rfl rfl rfl rfl ?_) rfl
  intro H3 p3
  have hs3 : H3[s]? = some (.cells (stC me cap epoch next recs nilV nilV).toArray 44 (0, 0)) := p3.at_
  have hy3 := p3.kept.keep hy2 (fun (e : y = s) => by omega)
  have x3 : Ext H H3 := Kept.trans x2 p3.kept (fun _ f _ => f) (fun b e hb => by omega)
  repeat (first | refine codeA (k := ?_) | refine condA (k := ?_) | refine offA (k := ?_) | refine pureA (k := ?_) | refine readA (k := ?_))
  refine At_read (r_load rfl rfl (Cell.of hs3 rfl)) rfl rfl rfl ?_
  repeat (first | refine codeA (k := ?_) | refine condA (k := ?_) | refine offA (k := ?_) | refine pureA (k := ?_) | refine readA (k := ?_))
  refine At_block ?_
  refine At_loop (fun (_ : Unit) => [(1, .pointer (some ⟨s, 0, none⟩)), (2, .pointer (some ⟨y, 0, none⟩)), (13, .int .i64 (0 : Nat)), (14, .int .i64 0)]) (fun _ H' => H' = H3) (fun _ => 0) () ?_ rfl ?_
  · (repeat (first | exact Sub.nil | refine Sub.cons rfl ?_))
  rintro _ _ rfl
  repeat (first | refine codeA (k := ?_) | refine condA (k := ?_) | refine offA (k := ?_) | refine pureA (k := ?_) | refine readA (k := ?_))
  refine At_read (r_load rfl rfl (Cell.of hs3 rfl)) rfl rfl rfl ?_
  refine At_wp (W_call rfl rfl (cloneCopy0 _) rfl rfl ?_) rfl
  rintro _ _ ⟨rfl, rfl⟩
  repeat (first | refine codeA (k := ?_) | refine condA (k := ?_) | refine offA (k := ?_) | refine pureA (k := ?_) | refine readA (k := ?_))
  refine At_wp (W_store rfl rfl hs3 rfl rfl rfl rfl ?_) rfl
  intro H4 p4
  have hs4 : H4[s]? = some (.cells (stC me cap epoch next recs nilV nilV).toArray 44 (0, 0)) := p4.at_
  have hy4 := p4.kept.keep hy3 (fun (e : y = s) => by omega)
  have x4 : Ext H H4 := Kept.trans x3 p4.kept (fun _ f _ => f) (fun b e hb => by omega)
  repeat (first | refine codeA (k := ?_) | refine condA (k := ?_) | refine offA (k := ?_) | refine pureA (k := ?_) | refine readA (k := ?_))
  refine At_read (r_load rfl rfl (Cell.of hs4 rfl)) rfl rfl rfl ?_
  repeat (first | refine codeA (k := ?_) | refine condA (k := ?_) | refine offA (k := ?_) | refine pureA (k := ?_) | refine readA (k := ?_))
  refine At_block ?_
  refine At_loop (fun (_ : Unit) => [(1, .pointer (some ⟨s, 0, none⟩)), (2, .pointer (some ⟨y, 0, none⟩)), (85, .int .i64 (0 : Nat)), (86, .int .i64 0)]) (fun _ H' => H' = H4) (fun _ => 0) () ?_ rfl ?_
  · (repeat (first | exact Sub.nil | refine Sub.cons rfl ?_))
  rintro _ _ rfl
  repeat (first | refine codeA (k := ?_) | refine condA (k := ?_) | refine offA (k := ?_) | refine pureA (k := ?_) | refine readA (k := ?_))
  refine At_read (r_load rfl rfl (Cell.of hs4 rfl)) rfl rfl rfl ?_
  refine At_wp (W_call rfl rfl (cloneResv0 _) rfl rfl ?_) rfl
  rintro _ _ ⟨rfl, rfl⟩
  repeat (first | refine codeA (k := ?_) | refine condA (k := ?_) | refine offA (k := ?_) | refine pureA (k := ?_) | refine readA (k := ?_))
  refine At_wp (W_store rfl rfl hs4 rfl rfl rfl rfl ?_) rfl
  intro H5 p5
  have hs5 : H5[s]? = some (.cells (stC me cap epoch next recs nilV nilV).toArray 44 (0, 0)) := p5.at_
  have hy5 := p5.kept.keep hy4 (fun (e : y = s) => by omega)
  have x5 : Ext H H5 := Kept.trans x4 p5.kept (fun _ f _ => f) (fun b e hb => by omega)
  repeat (first | refine codeA (k := ?_) | refine condA (k := ?_) | refine offA (k := ?_) | refine pureA (k := ?_) | refine readA (k := ?_))
  refine At_read (r_load rfl rfl (Cell.of hs5 rfl)) rfl rfl rfl ?_
  refine At_wp (W_call rfl rfl (cloneSlot0 _) rfl rfl ?_) rfl
  rintro _ _ ⟨rfl, rfl⟩
  repeat (first | refine codeA (k := ?_) | refine condA (k := ?_) | refine offA (k := ?_) | refine pureA (k := ?_) | refine readA (k := ?_))
  refine At_wp (W_store rfl rfl hs5 rfl rfl rfl rfl ?_) rfl
  intro H6 p6
  have hs6 : H6[s]? = some (.cells (stC me cap epoch next recs nilV nilV).toArray 44 (0, 0)) := p6.at_
  have hy6 := p6.kept.keep hy5 (fun (e : y = s) => by omega)
  have x6 : Ext H H6 := Kept.trans x5 p6.kept (fun _ f _ => f) (fun b e hb => by omega)
  repeat (first | refine codeA (k := ?_) | refine condA (k := ?_) | refine offA (k := ?_) | refine pureA (k := ?_) | refine readA (k := ?_))
  refine At_read (r_load rfl rfl (Cell.of hs6 rfl)) rfl rfl rfl ?_
  refine At_wp (W_call rfl rfl (cloneUse0 _) rfl rfl ?_) rfl
  rintro _ _ ⟨rfl, rfl⟩
  repeat (first | refine codeA (k := ?_) | refine condA (k := ?_) | refine offA (k := ?_) | refine pureA (k := ?_) | refine readA (k := ?_))
  refine At_wp (W_store rfl rfl hs6 rfl rfl rfl rfl ?_) rfl
  intro H7 p7
  have hs7 : H7[s]? = some (.cells (stC me cap epoch next recs nilV nilV).toArray 44 (0, 0)) := p7.at_
  have hy7 := p7.kept.keep hy6 (fun (e : y = s) => by omega)
  have x7 : Ext H H7 := Kept.trans x6 p7.kept (fun _ f _ => f) (fun b e hb => by omega)
  repeat (first | refine codeA (k := ?_) | refine condA (k := ?_) | refine offA (k := ?_) | refine pureA (k := ?_) | refine readA (k := ?_))
  refine At_read (r_loadB rfl hs7 rfl rfl) rfl rfl rfl ?_
  refine At_wp (W_storeB (cs' := (stC me cap epoch next recs nilV nilV).toArray) rfl rfl hy7 rfl rfl rfl rfl ?_) rfl
  intro H8 p8
  repeat (first | refine codeA (k := ?_) | refine condA (k := ?_) | refine offA (k := ?_) | refine pureA (k := ?_) | refine readA (k := ?_))
  exact At_retC1 rfl rfl p8.at_ rfl rfl ⟨Kept.trans x7 p8.kept (fun _ f _ => f) (fun b e hb => by omega), rfl⟩
end Go.Proofs.YtlaobecajieaaaaGreat
/- Records applied to an empty state: none, and an epoch's. -/
namespace Go.Proofs.YtlaobecajieaaaaGreat
open Go Ev
set_option linter.unusedVariables false
set_option linter.unusedSimpArgs false
attribute [local irreducible] Go.wpList Go.bodyPost Go.Code.wp Go.Exit.then Go.Exit.inBlock Go.Exit.noGoto Ev.wpAnyG Go.Oper.wp Ev.Back Ev.Left Ev.Spc Ev.At Ev.Pure Ev.Reads Ev.Runs Ev.Does Ev.Cell

set_option maxHeartbeats 2000000 in
theorem apply0_spec (H : Heap) (me cap epoch next recs : Nat) : Spc Tryz.prog 27 #[.agg (stC me cap epoch next recs nilV nilV).toArray, .slice none 0 0] H fun r H' => Ext H H' ∧ r = .tuple #[.agg (stC me cap epoch next recs nilV nilV).toArray, .int .i64 0] := by
  refine spec_of Tryz.func27 rfl Tryz.ntmps27 rfl (fun W => ?_)
  repeat (first | refine codeA (k := ?_) | refine condA (k := ?_) | refine offA (k := ?_) | refine pureA (k := ?_) | refine readA (k := ?_))
  refine At_wp (W_box (cs := (stC me cap epoch next recs nilV nilV).toArray) rfl rfl rfl ?_) rfl
  intro s H1 n1
  refine At_wp (W_alloc rfl rfl ?_) rfl
  intro y H2 n2
  have e1 := n1.blk
  have q1 := n1.size
  have e2 := n2.blk
  have hs := n2.ext.keep n1.at_ (fun f => f)
  repeat (first | refine codeA (k := ?_) | refine condA (k := ?_) | refine offA (k := ?_) | refine pureA (k := ?_) | refine readA (k := ?_))
  refine At_read (r_loadB rfl hs rfl rfl) rfl rfl rfl ?_
  refine At_wp (W_call rfl rfl (twin0_spec H2 me cap epoch next recs) rfl rfl ?_) rfl
  rintro _ H3 ⟨x3, rfl⟩
  have hs3 := x3.keep hs (fun f => f)
  have hy3 := x3.keep n2.at_ (fun f => f)
  refine At_wp (W_storeB (cs' := (stC me cap epoch next recs nilV nilV).toArray) rfl rfl hs3 rfl rfl rfl rfl ?_) rfl
  intro H4 p4
  have hy4 := p4.kept.keep hy3 (fun (e : y = s) => by omega)
  have x4 : Ext H H4 := Kept.trans ((n1.ext.trans n2.ext).trans x3) p4.kept (fun _ f _ => f) (fun b e hb => by omega)
  repeat (first | refine codeA (k := ?_) | refine condA (k := ?_) | refine offA (k := ?_) | refine pureA (k := ?_) | refine readA (k := ?_))
  refine At_block ?_
  refine At_loop (fun (_ : Unit) => [(2, .pointer (some ⟨s, 0, none⟩)), (4, .pointer (some ⟨y, 0, none⟩)), (5, .int .i64 0), (11, .int .i64 (0 : Nat)), (12, .int .i64 0)]) (fun _ H' => H' = H4) (fun _ => 0) () ?_ rfl ?_
  · (repeat (first | exact Sub.nil | refine Sub.cons rfl ?_))
  rintro _ _ rfl
  repeat (first | refine codeA (k := ?_) | refine condA (k := ?_) | refine offA (k := ?_) | refine pureA (k := ?_) | refine readA (k := ?_))
  refine At_read (r_loadB rfl p4.at_ rfl rfl) rfl rfl rfl ?_
  refine At_wp (W_storeB (cs' := (stC me cap epoch next recs nilV nilV).toArray) rfl rfl hy4 rfl rfl rfl rfl ?_) rfl
  intro H5 p5
  repeat (first | refine codeA (k := ?_) | refine condA (k := ?_) | refine offA (k := ?_) | refine pureA (k := ?_) | refine readA (k := ?_))
  exact At_retC2 rfl rfl p5.at_ rfl rfl rfl ⟨Kept.trans x4 p5.kept (fun _ f _ => f) (fun b e hb => by omega), rfl⟩
end Go.Proofs.YtlaobecajieaaaaGreat
/- An epoch's record applied. -/
namespace Go.Proofs.YtlaobecajieaaaaGreat
open Go Ev
set_option linter.unusedVariables false
set_option linter.unusedSimpArgs false

/-- the record of an epoch's beginning -/
def epochR (e : Nat) : Rc := { kind := 29, ia := 0, inn := 0, site := 0, tok := e, tick := 0, until_ := 0, how := 0, on := false, job := jo0 }
attribute [local irreducible] Go.wpList Go.bodyPost Go.Code.wp Go.Exit.then Go.Exit.inBlock Go.Exit.noGoto Ev.wpAnyG Go.Oper.wp Ev.Back Ev.Left Ev.Spc Ev.At Ev.Pure Ev.Reads Ev.Runs Ev.Does Ev.Cell

set_option maxHeartbeats 2000000 in
theorem stateRecE_spec {H : Heap} {s me cap epoch next recs : Nat} {cv rv : Value} (hb : H[s]? = some (.cells (stC me cap epoch next recs cv rv).toArray 44 (0, 0))) (he : epoch < 1000000) :
    Spc Tryz.prog 118 #[.pointer (some ⟨s, 0, none⟩), .agg (recC (epochR (epoch + 1)) nilV).toArray] H fun r H' => r = .bool true ∧ Kept (· = s) H H' ∧ H'[s]? = some (.cells (stC me cap (epoch + 1) next recs cv rv).toArray 44 (0, 0)) := by
  have hsl := lt_of_heap hb
  refine spec_of Tryz.func118 rfl Tryz.ntmps118 rfl (fun W => ?_)
  repeat (first | refine codeA (k := ?_) | refine condA (k := ?_) | refine offA (k := ?_) | refine pureA (k := ?_) | refine readA (k := ?_))
  refine At_wp (W_box (cs := (recC (epochR (epoch + 1)) nilV).toArray) rfl rfl rfl ?_) rfl
  intro y H1 n1
  have e1 := n1.blk
  have hy := n1.at_
  have hb1 := n1.ext.keep hb (fun f => f)
  repeat (first | refine codeA (k := ?_) | refine condA (k := ?_) | refine offA (k := ?_) | refine pureA (k := ?_) | refine readA (k := ?_))
  refine At_read (r_load (v := .int .i64 29) rfl rfl (Cell.of hy rfl)) rfl rfl rfl ?_
  repeat (first | refine codeA (k := ?_) | refine condA (k := ?_) | refine offA (k := ?_) | refine pureA (k := ?_) | refine readA (k := ?_) | refine At_block ?_)
  have hx0 : Ext H1 H1 := Kept.refl _ _
  refine At_draw [1, 5] (fun H' => Ext H1 H') Tryz.mixed ?_
  first | refine gA 0 (k := ?_) | refine goffA 0 (k := ?_)
  refine grA 1 hx0 (fun H' hS' => r_load rfl rfl ((Cell.of (hS'.keep hy (fun f => f)) (show _ = some (Value.int .i64 ((epoch + 1 : Nat) : Int)) from rfl)))) (k := ?_)
  first | refine gA 2 (k := ?_) | refine goffA 2 (k := ?_)
  first | refine gA 3 (k := ?_) | refine goffA 3 (k := ?_)
  first | refine gA 4 (k := ?_) | refine goffA 4 (k := ?_)
  refine grA 5 hx0 (fun H' hS' => r_load rfl rfl ((Cell.of (hS'.keep hb1 (fun f => f)) (show _ = some (Value.int .i64 ((epoch : Nat) : Int)) from rfl)))) (k := ?_)
  first | refine gA 6 (k := ?_) | refine goffA 6 (k := ?_)
  first | refine gA 7 (k := ?_) | refine goffA 7 (k := ?_)
  refine G_done (by kernel_rfl) ?_
  repeat (first | refine codeA (k := ?_) | refine condA (k := ?_) | refine offA (k := ?_) | refine pureA (k := ?_) | refine readA (k := ?_))
  refine At_read (r_load (v := .int .i64 (epoch + 1 : Nat)) rfl rfl (Cell.of hy rfl)) rfl rfl rfl ?_
  repeat (first | refine codeA (k := ?_) | refine condA (k := ?_) | refine offA (k := ?_) | refine pureA (k := ?_) | refine readA (k := ?_))
  refine At_wp (W_store rfl rfl hb1 rfl rfl rfl rfl ?_) rfl
  intro H2 p2
  repeat (first | refine codeA (k := ?_) | refine condA (k := ?_) | refine offA (k := ?_) | refine pureA (k := ?_) | refine readA (k := ?_))
  exact At_ret1 rfl rfl ⟨rfl, Kept.trans n1.ext p2.kept (fun _ f _ => f.elim) (fun b e _ => e), p2.at_⟩
theorem applyE_spec {H : Heap} {s me cap epoch next recs : Nat} {cv rv : Value} (hb : H[s]? = some (.cells (stC me cap epoch next recs cv rv).toArray 44 (0, 0))) (he : epoch < 1000000) :
    Spc Tryz.prog 61 #[.pointer (some ⟨s, 0, none⟩), .agg (recC (epochR (epoch + 1)) nilV).toArray] H fun r H' => r = .bool true ∧ Kept (· = s) H H' ∧ H'[s]? = some (.cells (stC me cap (epoch + 1) next recs cv rv).toArray 44 (0, 0)) := by
  have hsl := lt_of_heap hb
  refine spec_of Tryz.func61 rfl Tryz.ntmps61 rfl (fun W => ?_)
  repeat (first | refine codeA (k := ?_) | refine condA (k := ?_) | refine offA (k := ?_) | refine pureA (k := ?_) | refine readA (k := ?_))
  refine At_wp (W_box (cs := (recC (epochR (epoch + 1)) nilV).toArray) rfl rfl rfl ?_) rfl
  intro y H1 n1
  have e1 := n1.blk
  have hy := n1.at_
  have hb1 := n1.ext.keep hb (fun f => f)
  repeat (first | refine codeA (k := ?_) | refine condA (k := ?_) | refine offA (k := ?_) | refine pureA (k := ?_) | refine readA (k := ?_))
  refine At_read (r_load (v := .int .i64 29) rfl rfl (Cell.of hy rfl)) rfl rfl rfl ?_
  repeat (first | refine codeA (k := ?_) | refine condA (k := ?_) | refine offA (k := ?_) | refine pureA (k := ?_) | refine readA (k := ?_) | refine At_block ?_)
  refine At_read (r_loadB rfl hy rfl rfl) rfl rfl rfl ?_
  refine At_wp (W_call rfl rfl (stateRecE_spec hb1 he) rfl rfl ?_) rfl
  rintro _ H2 ⟨rfl, k2, hb2⟩
  repeat (first | refine codeA (k := ?_) | refine condA (k := ?_) | refine offA (k := ?_) | refine pureA (k := ?_) | refine readA (k := ?_))
  exact At_ret1 rfl rfl ⟨rfl, Kept.trans n1.ext k2 (fun _ f _ => f.elim) (fun b e _ => e), hb2⟩
end Go.Proofs.YtlaobecajieaaaaGreat
/- One epoch's record applied to an empty state. -/
namespace Go.Proofs.YtlaobecajieaaaaGreat
open Go Ev
set_option linter.unusedVariables false
set_option linter.unusedSimpArgs false
attribute [local irreducible] Go.wpList Go.bodyPost Go.Code.wp Go.Exit.then Go.Exit.inBlock Go.Exit.noGoto Ev.wpAnyG Go.Oper.wp Ev.Back Ev.Left Ev.Spc Ev.At Ev.Pure Ev.Reads Ev.Runs Ev.Does Ev.Cell

set_option maxHeartbeats 4000000 in
theorem applyE1_spec {H : Heap} {rb rc : Nat} (me cap epoch next recs : Nat) (he : epoch < 1000000) (hr : recs < 1000000) (hrb : ∀ (j : Nat) (u : Value), (recC (epochR (epoch + 1)) nilV)[j]? = some u → Cell H rb (0 + 0 * 24 + j) u) :
    Spc Tryz.prog 27 #[.agg (stC me cap epoch next recs nilV nilV).toArray, .slice (some ⟨rb, 0, none⟩) 1 rc] H fun r H' => Ext H H' ∧ r = .tuple #[.agg (stC me cap (epoch + 1) next (recs + 1) nilV nilV).toArray, .int .i64 0] := by
  refine spec_of Tryz.func27 rfl Tryz.ntmps27 rfl (fun W => ?_)
  repeat (first | refine codeA (k := ?_) | refine condA (k := ?_) | refine offA (k := ?_) | refine pureA (k := ?_) | refine readA (k := ?_))
  refine At_wp (W_box (cs := (stC me cap epoch next recs nilV nilV).toArray) rfl rfl rfl ?_) rfl
  intro s H1 n1
  refine At_wp (W_alloc rfl rfl ?_) rfl
  intro y H2 n2
  have e1 := n1.blk
  have q1 := n1.size
  have e2 := n2.blk
  have q2 := n2.size
  have hs := n2.ext.keep n1.at_ (fun f => f)
  repeat (first | refine codeA (k := ?_) | refine condA (k := ?_) | refine offA (k := ?_) | refine pureA (k := ?_) | refine readA (k := ?_))
  refine At_read (r_loadB rfl hs rfl rfl) rfl rfl rfl ?_
  refine At_wp (W_call rfl rfl (twin0_spec H2 me cap epoch next recs) rfl rfl ?_) rfl
  rintro _ H3 ⟨x3, rfl⟩
  have hs3 := x3.keep hs (fun f => f)
  have hy3 := x3.keep n2.at_ (fun f => f)
  have q3 := x3.size
  refine At_wp (W_storeB (cs' := (stC me cap epoch next recs nilV nilV).toArray) rfl rfl hs3 rfl rfl rfl rfl ?_) rfl
  intro H4 p4
  have q4 := p4.size
  have hy4 := p4.kept.keep hy3 (fun (e : y = s) => by omega)
  have x4 : Ext H H4 := Kept.trans ((n1.ext.trans n2.ext).trans x3) p4.kept (fun _ f _ => f) (fun b e hb => by omega)
  repeat (first | refine codeA (k := ?_) | refine condA (k := ?_) | refine offA (k := ?_) | refine pureA (k := ?_) | refine readA (k := ?_))
  refine At_block ?_
  refine At_loop (fun (i : Bool) => [(2, .pointer (some ⟨s, 0, none⟩)), (4, .pointer (some ⟨y, 0, none⟩)), (5, .int .i64 0), (10, .slice (some ⟨rb, 0, none⟩) 1 rc), (11, .int .i64 (1 : Nat)), (12, .int .i64 (if i then 1 else 0 : Nat))]) (fun i H' => Ext H H' ∧ H4.size ≤ H'.size ∧ H'[y]? = H4[y]? ∧ H'[s]? = some (.cells (stC me cap (if i then epoch + 1 else epoch) next (if i then recs + 1 else recs) nilV nilV).toArray 44 (0, 0))) (fun i => if i then 0 else 1) false ?_ ⟨x4, Nat.le_refl _, rfl, p4.at_⟩ ?_
  · (repeat (first | exact Sub.nil | refine Sub.cons rfl ?_))
  rintro i H5 ⟨x5, q5, hy5, hs5⟩
  rw [hy4] at hy5
  cases i with
  | true =>
    simp only [if_true] at hs5 ⊢
    repeat (first | refine codeA (k := ?_) | refine condA (k := ?_) | refine offA (k := ?_) | refine pureA (k := ?_) | refine readA (k := ?_))
    refine At_read (r_loadB rfl hs5 rfl rfl) rfl rfl rfl ?_
    refine At_wp (W_storeB (cs' := (stC me cap (epoch + 1) next (recs + 1) nilV nilV).toArray) rfl rfl hy5 rfl rfl rfl rfl ?_) rfl
    intro H6 p6
    repeat (first | refine codeA (k := ?_) | refine condA (k := ?_) | refine offA (k := ?_) | refine pureA (k := ?_) | refine readA (k := ?_))
    exact At_retC2 rfl rfl p6.at_ rfl rfl rfl ⟨Kept.trans x5 p6.kept (fun _ f _ => f) (fun b e hb => by omega), rfl⟩
  | false =>
    simp only [Bool.false_eq_true, if_false] at hs5 ⊢
    repeat (first | refine codeA (k := ?_) | refine condA (k := ?_) | refine offA (k := ?_) | refine pureA (k := ?_) | refine readA (k := ?_) | refine At_block ?_)
    refine At_read (r_loadN (b := rb) (o := 0 + 0 * 24) (cs := recC (epochR (epoch + 1)) nilV) rfl rfl rfl (fun j u hj => (hrb j u hj).keep x5 (fun f => f))) rfl rfl rfl ?_
    refine At_wp (W_alloc rfl rfl ?_) rfl
    intro z H6 n6
    have e6 := n6.blk
    have q6 := n6.size
    have hsl := lt_of_heap hs5
    have hyl := lt_of_heap hy5
    refine At_wp (W_storeB (cs' := (recC (epochR (epoch + 1)) nilV).toArray) rfl rfl n6.at_ rfl rfl rfl rfl ?_) rfl
    intro H7 p7
    have q7 := p7.size
    have hs7 := p7.kept.keep (n6.ext.keep hs5 (fun f => f)) (fun (e : s = z) => by omega)
    have hy7 := p7.kept.keep (n6.ext.keep hy5 (fun f => f)) (fun (e : y = z) => by omega)
    repeat (first | refine codeA (k := ?_) | refine condA (k := ?_) | refine offA (k := ?_) | refine pureA (k := ?_) | refine readA (k := ?_))
    refine At_read (r_loadB rfl p7.at_ rfl rfl) rfl rfl rfl ?_
    refine At_wp (W_call rfl rfl (applyE_spec hs7 he) rfl rfl ?_) rfl
    rintro _ H8 ⟨rfl, k8, hs8⟩
    have q8 := k8.size
    have hy8 := k8.keep hy7 (fun (e : y = s) => by omega)
    repeat (first | refine codeA (k := ?_) | refine condA (k := ?_) | refine offA (k := ?_) | refine pureA (k := ?_) | refine readA (k := ?_))
    refine At_read (r_load (v := .int .i64 (recs : Nat)) rfl rfl (Cell.of hs8 rfl)) rfl rfl rfl ?_
    repeat (first | refine codeA (k := ?_) | refine condA (k := ?_) | refine offA (k := ?_) | refine pureA (k := ?_) | refine readA (k := ?_))
    refine At_wp (W_store rfl rfl hs8 rfl rfl rfl rfl ?_) rfl
    intro H9 p9
    have q9 := p9.size
    have hy9 := p9.kept.keep hy8 (fun (e : y = s) => by omega)
    have hs9 : H9[s]? = some (.cells (stC me cap (epoch + 1) next (recs + 1) nilV nilV).toArray 44 (0, 0)) := p9.at_
    have x7 : Ext H H7 := Kept.trans (x5.trans n6.ext) p7.kept (fun _ f _ => f) (fun b e hb => by have := x5.size; omega)
    have x8 : Ext H H8 := Kept.trans x7 k8 (fun _ f _ => f) (fun b e hb => by omega)
    have x9 : Ext H H9 := Kept.trans x8 p9.kept (fun _ f _ => f) (fun b e hb => by omega)
    repeat (first | refine codeA (k := ?_) | refine condA (k := ?_) | refine offA (k := ?_) | refine pureA (k := ?_) | refine readA (k := ?_))
    refine At_tell 12 (.int .i64 (1 : Nat)) rfl rfl ?_
    refine At_back true ?_ ⟨x9, by omega, by rw [hy9, hy4], hs9⟩ (by decide)
    (repeat (first | exact Sub.nil | refine Sub.cons rfl ?_))
end Go.Proofs.YtlaobecajieaaaaGreat
/- A profile of nothing. -/
namespace Go.Proofs.YtlaobecajieaaaaGreat
open Go Ev
set_option linter.unusedVariables false
set_option linter.unusedSimpArgs false
attribute [local irreducible] Go.wpList Go.bodyPost Go.Code.wp Go.Exit.then Go.Exit.inBlock Go.Exit.noGoto Ev.wpAnyG Go.Oper.wp Ev.Back Ev.Left Ev.Spc Ev.At Ev.Pure Ev.Reads Ev.Runs Ev.Does Ev.Cell

set_option maxHeartbeats 2000000 in
theorem sumCap_spec {H : Heap} {b c : Nat} (h : Cell H b (0 + 0 * 1) (amt 2)) : Spc Tryz.prog 170 #[.slice (some ⟨b, 0, none⟩) 1 c] H fun r H' => H' = H ∧ r = .tuple #[amt 2, .int .i64 0] := by
  refine spec_of Tryz.func170 rfl Tryz.ntmps170 rfl (fun W => ?_)
  repeat (first | refine codeA (k := ?_) | refine condA (k := ?_) | refine offA (k := ?_) | refine pureA (k := ?_) | refine readA (k := ?_))
  refine At_block ?_
  refine At_loop (fun (i : Bool) => [(7, .slice (some ⟨b, 0, none⟩) 1 c), (8, .int .i64 (1 : Nat)), (9, .int .i64 (if i then 1 else 0 : Nat)), (4, amt (if i then 2 else 0))]) (fun i H' => H' = H) (fun i => if i then 0 else 1) false ?_ rfl ?_
  · (repeat (first | exact Sub.nil | refine Sub.cons rfl ?_))
  rintro i _ rfl
  cases i with
  | true =>
    simp only [if_true]
    repeat (first | refine codeA (k := ?_) | refine condA (k := ?_) | refine offA (k := ?_) | refine pureA (k := ?_) | refine readA (k := ?_))
    exact At_ret2 rfl rfl rfl ⟨rfl, rfl⟩
  | false =>
    simp only [Bool.false_eq_true, if_false]
    repeat (first | refine codeA (k := ?_) | refine condA (k := ?_) | refine offA (k := ?_) | refine pureA (k := ?_) | refine readA (k := ?_) | refine At_block ?_)
    refine At_wp (W_call rfl rfl (right_spec 2 _) rfl rfl ?_) rfl
    rintro _ _ ⟨rfl, rfl⟩
    repeat (first | refine codeA (k := ?_) | refine condA (k := ?_) | refine offA (k := ?_) | refine pureA (k := ?_) | refine readA (k := ?_))
    refine At_pure (p_binC (amt 2) rfl rfl rfl (by kernel_rfl)) rfl rfl rfl ?_
    repeat (first | refine codeA (k := ?_) | refine condA (k := ?_) | refine offA (k := ?_) | refine pureA (k := ?_) | refine readA (k := ?_))
    refine At_wp (W_call rfl rfl (right_spec 2 _) rfl rfl ?_) rfl
    rintro _ _ ⟨rfl, rfl⟩
    repeat (first | refine codeA (k := ?_) | refine condA (k := ?_) | refine offA (k := ?_) | refine pureA (k := ?_) | refine readA (k := ?_))
    refine At_tell 9 (.int .i64 (1 : Nat)) rfl rfl ?_
    refine At_back true ?_ rfl (by decide)
    (repeat (first | exact Sub.nil | refine Sub.cons rfl ?_))
set_option maxHeartbeats 2000000 in
theorem pnew0_spec (H : Heap) : Spc Tryz.prog 85 #[amt 2, .slice none 0 0] H fun r H' => Ext H H' ∧ ∃ p, r = .tuple #[.pointer (some ⟨p, 0, none⟩), .int .i64 0] ∧ H.size ≤ p ∧ H'[p]? = some (.cells #[amt 2, .slice none 0 0] 263 (0, 0)) := by
  refine spec_of Tryz.func85 rfl Tryz.ntmps85 rfl (fun W => ?_)
  repeat (first | refine codeA (k := ?_) | refine condA (k := ?_) | refine offA (k := ?_) | refine pureA (k := ?_) | refine readA (k := ?_))
  refine At_wp (W_buildSlice1 rfl rfl rfl (by decide) rfl ?_) rfl
  intro g H1 n1
  have e1 := n1.blk
  have q1 := n1.size
  have c1 : Cell H1 g (0 + 0 * 1) (amt 2) := Cell.of n1.at_ rfl
  refine At_wp (W_call rfl rfl (sumCap_spec c1) rfl rfl ?_) rfl
  rintro _ _ ⟨rfl, rfl⟩
  repeat (first | refine codeA (k := ?_) | refine condA (k := ?_) | refine offA (k := ?_) | refine pureA (k := ?_) | refine readA (k := ?_))
  refine At_pure (p_build [amt 2, .slice none 0 0] rfl rfl) rfl rfl rfl ?_
  refine At_wp (W_box (cs := #[amt 2, .slice none 0 0]) rfl rfl rfl ?_) rfl
  intro p H2 n2
  have e2 := n2.blk
  repeat (first | refine codeA (k := ?_) | refine condA (k := ?_) | refine offA (k := ?_) | refine pureA (k := ?_) | refine readA (k := ?_))
  refine At_block ?_
  refine At_loop (fun (_ : Unit) => [(7, .pointer (some ⟨p, 0, none⟩)), (24, .int .i64 (0 : Nat)), (25, .int .i64 0)]) (fun _ H' => H' = H2) (fun _ => 0) () ?_ rfl ?_
  · (repeat (first | exact Sub.nil | refine Sub.cons rfl ?_))
  rintro _ _ rfl
  repeat (first | refine codeA (k := ?_) | refine condA (k := ?_) | refine offA (k := ?_) | refine pureA (k := ?_) | refine readA (k := ?_))
  exact At_ret2 rfl rfl rfl ⟨n1.ext.trans n2.ext, p, rfl, by omega, n2.at_⟩
end Go.Proofs.YtlaobecajieaaaaGreat
/- A profile of nothing: where, what is free, what fits. -/
namespace Go.Proofs.YtlaobecajieaaaaGreat
open Go Ev
set_option linter.unusedVariables false
set_option linter.unusedSimpArgs false
abbrev ptr (b : Nat) : Value := .pointer (some ⟨b, 0, none⟩)
abbrev nil0 : Value := .slice none 0 0
def busyC (f t : Int) (k : Nat) : List Value := [.int .i64 f, .int .i64 t, amt k]
def profC (s : Value) : List Value := [amt 2, s]
/-- a function that only reckons -/
abbrev Fn0 (f : FuncId) (args : Array Value) (v : Value) : Prop := ∀ H, Spc Tryz.prog f args H fun r H' => Ext H H' ∧ r = v
attribute [local irreducible] Go.wpList Go.bodyPost Go.Code.wp Go.Exit.then Go.Exit.inBlock Go.Exit.noGoto Ev.wpAnyG Go.Oper.wp Ev.Back Ev.Left Ev.Spc Ev.At Ev.Pure Ev.Reads Ev.Runs Ev.Does Ev.Cell Ev.Am Ev.Has Ev.Kn Go.Code.rounds

theorem search0 (f : Value) (H : Heap) : Spc Tryz.prog 308 #[.int .i64 0, f] H fun r H' => Ext H H' ∧ r = .int .i64 0 := by
  refine spec_of Tryz.func308 rfl Tryz.ntmps308 rfl (fun W => ?_)
  refine Am.new ?_
  repeat (first | refine codeM (k := ?_) | refine condM (k := ?_) | refine offM (k := ?_) | refine offMn (k := ?_) | refine pureM (k := ?_) | refine loadM (k := ?_) | refine loadB (k := ?_) | refine storeM (k := ?_) | refine storeB (k := ?_))
  exact ret1M rfl rfl (fun H hm => ⟨hm.toExt (by repeat (first | exact Pick.nil | refine Pick.keep ?_ | refine Pick.drop (by first | assumption | omega) ?_)), rfl⟩)
theorem behind0 {H : Heap} {p : Nat} (hp : Ro H p (profC nil0)) (t : Int) : Spc Tryz.prog 262 #[ptr p, .int .i64 t] H fun r H' => Ext H H' ∧ r = .int .i64 0 := by
  refine spec_of Tryz.func262 rfl Tryz.ntmps262 rfl (fun W => ?_)
  refine Am.on (Mem.startR hp) ?_
  repeat (first | refine codeM (k := ?_) | refine condM (k := ?_) | refine offM (k := ?_) | refine offMn (k := ?_) | refine pureM (k := ?_) | refine loadM (k := ?_) | refine loadB (k := ?_) | refine storeM (k := ?_) | refine storeB (k := ?_))
  refine boxM rfl rfl rfl rfl (fun a ha => ?_)
  refine boxM rfl rfl rfl rfl (fun b hb => ?_)
  repeat (first | refine codeM (k := ?_) | refine condM (k := ?_) | refine offM (k := ?_) | refine offMn (k := ?_) | refine pureM (k := ?_) | refine loadM (k := ?_) | refine loadB (k := ?_) | refine storeM (k := ?_) | refine storeB (k := ?_))
  refine callM rfl rfl rfl rfl rfl (fun Hc hm => search0 _ Hc) ?_
  rintro Hc _ H1 hm ⟨x1, rfl⟩
  refine Am.on (hm.ext x1) ?_
  repeat (first | refine codeM (k := ?_) | refine condM (k := ?_) | refine offM (k := ?_) | refine offMn (k := ?_) | refine pureM (k := ?_) | refine loadM (k := ?_) | refine loadB (k := ?_) | refine storeM (k := ?_) | refine storeB (k := ?_))
  exact ret1M rfl rfl (fun H hm => ⟨hm.toExt (by repeat (first | exact Pick.nil | refine Pick.keep ?_ | refine Pick.drop (by first | assumption | omega) ?_)), rfl⟩)
theorem ahead0 {H : Heap} {p : Nat} {s : Value} (hp : Ro H p (profC s)) : Spc Tryz.prog 264 #[ptr p, .int .i64 0] H fun r H' => Ext H H' ∧ r = amt 2 := by
  refine spec_of Tryz.func264 rfl Tryz.ntmps264 rfl (fun W => ?_)
  refine Am.on (Mem.startR hp) ?_
  repeat (first | refine codeM (k := ?_) | refine condM (k := ?_) | refine offM (k := ?_) | refine offMn (k := ?_) | refine pureM (k := ?_) | refine loadM (k := ?_) | refine loadB (k := ?_) | refine storeM (k := ?_) | refine storeB (k := ?_))
  exact ret1M rfl rfl (fun H hm => ⟨hm.toExt (by repeat (first | exact Pick.nil | refine Pick.keep ?_ | refine Pick.drop (by first | assumption | omega) ?_)), rfl⟩)
theorem pend0 {H : Heap} {p : Nat} (hp : Ro H p (profC nil0)) : Spc Tryz.prog 263 #[ptr p, .int .i64 0] H fun r H' => Ext H H' ∧ r = .int .i64 1099511627776 := by
  refine spec_of Tryz.func263 rfl Tryz.ntmps263 rfl (fun W => ?_)
  refine Am.on (Mem.startR hp) ?_
  repeat (first | refine codeM (k := ?_) | refine condM (k := ?_) | refine offM (k := ?_) | refine offMn (k := ?_) | refine pureM (k := ?_) | refine loadM (k := ?_) | refine loadB (k := ?_) | refine storeM (k := ?_) | refine storeB (k := ?_))
  exact ret1M rfl rfl (fun H hm => ⟨hm.toExt (by repeat (first | exact Pick.nil | refine Pick.keep ?_ | refine Pick.drop (by first | assumption | omega) ?_)), rfl⟩)
theorem fitsAmt (H : Heap) : Spc Tryz.prog 261 #[amt 1, amt 2] H fun r H' => Ext H H' ∧ r = .bool true := by
  refine spec_of Tryz.func261 rfl Tryz.ntmps261 rfl (fun W => ?_)
  refine Am.new ?_
  repeat (first | refine codeM (k := ?_) | refine condM (k := ?_) | refine offM (k := ?_) | refine offMn (k := ?_) | refine pureM (k := ?_) | refine loadM (k := ?_) | refine loadB (k := ?_) | refine storeM (k := ?_) | refine storeB (k := ?_))
  refine callM rfl rfl rfl rfl rfl (fun Hc hm => right_spec 1 Hc) ?_
  rintro Hc _ H1 hm ⟨rfl, rfl⟩
  refine Am.on hm ?_
  repeat (first | refine codeM (k := ?_) | refine condM (k := ?_) | refine offM (k := ?_) | refine offMn (k := ?_) | refine pureM (k := ?_) | refine loadM (k := ?_) | refine loadB (k := ?_) | refine storeM (k := ?_) | refine storeB (k := ?_))
  refine callM rfl rfl rfl rfl rfl (fun Hc hm => right_spec 2 Hc) ?_
  rintro Hc _ H1 hm ⟨rfl, rfl⟩
  refine Am.on hm ?_
  repeat (first | refine codeM (k := ?_) | refine condM (k := ?_) | refine offM (k := ?_) | refine offMn (k := ?_) | refine pureM (k := ?_) | refine loadM (k := ?_) | refine loadB (k := ?_) | refine storeM (k := ?_) | refine storeB (k := ?_))
  exact ret1M rfl rfl (fun H hm => ⟨hm.toExt (by repeat (first | exact Pick.nil | refine Pick.keep ?_ | refine Pick.drop (by first | assumption | omega) ?_)), rfl⟩)
theorem mayF {H : Heap} {b : Nat} {f t : Int} (hb : Ro H b (busyC f t 1)) : Spc Tryz.prog 301 #[amt 2, ptr b] H fun r H' => Ext H H' ∧ r = .bool true := by
  refine spec_of Tryz.func301 rfl Tryz.ntmps301 rfl (fun W => ?_)
  refine Am.on (Mem.startR hb) ?_
  repeat (first | refine codeM (k := ?_) | refine condM (k := ?_) | refine offM (k := ?_) | refine offMn (k := ?_) | refine pureM (k := ?_) | refine loadM (k := ?_) | refine loadB (k := ?_) | refine storeM (k := ?_) | refine storeB (k := ?_))
  refine callM rfl rfl rfl rfl rfl (fun Hc hm => fitsAmt Hc) ?_
  rintro Hc _ H1 hm ⟨x1, rfl⟩
  refine Am.on (hm.ext x1) ?_
  repeat (first | refine codeM (k := ?_) | refine condM (k := ?_) | refine offM (k := ?_) | refine offMn (k := ?_) | refine pureM (k := ?_) | refine loadM (k := ?_) | refine loadB (k := ?_) | refine storeM (k := ?_) | refine storeB (k := ?_))
  exact ret1M rfl rfl (fun H hm => ⟨hm.toExt (by repeat (first | exact Pick.nil | refine Pick.keep ?_ | refine Pick.drop (by first | assumption | omega) ?_)), rfl⟩)
theorem pright (H : Heap) {f t : Int} (h0 : 0 ≤ f) (h1 : f < t) (h2 : t ≤ 1099511627776) : Spc Tryz.prog 258 #[.agg (busyC f t 1).toArray] H fun r H' => Ext H H' ∧ r = .int .i64 0 := by
  refine spec_of Tryz.func258 rfl Tryz.ntmps258 rfl (fun W => ?_)
  refine Am.new ?_
  repeat (first | refine codeM (k := ?_) | refine condM (k := ?_) | refine offM (k := ?_) | refine offMn (k := ?_) | refine pureM (k := ?_) | refine loadM (k := ?_) | refine loadB (k := ?_) | refine storeM (k := ?_) | refine storeB (k := ?_))
  refine boxM rfl rfl rfl rfl (fun a ha => ?_)
  repeat (first | refine codeM (k := ?_) | refine condM (k := ?_) | refine offM (k := ?_) | refine offMn (k := ?_) | refine pureM (k := ?_) | refine loadM (k := ?_) | refine loadB (k := ?_) | refine storeM (k := ?_) | refine storeB (k := ?_))
  refine callM rfl rfl rfl rfl rfl (fun Hc hm => right_spec 1 Hc) ?_
  rintro Hc _ H1 hm ⟨rfl, rfl⟩
  refine Am.on hm ?_
  repeat (first | refine codeM (k := ?_) | refine condM (k := ?_) | refine offM (k := ?_) | refine offMn (k := ?_) | refine pureM (k := ?_) | refine loadM (k := ?_) | refine loadB (k := ?_) | refine storeM (k := ?_) | refine storeB (k := ?_))
  exact ret1M rfl rfl (fun H hm => ⟨hm.toExt (by repeat (first | exact Pick.nil | refine Pick.keep ?_ | refine Pick.drop (by first | assumption | omega) ?_)), rfl⟩)
theorem pall0 {H : Heap} {p b : Nat} {f t : Int} (hp : Ro H p (profC nil0)) (hb : Ro H b (busyC f t 1)) (h2 : t ≤ 1099511627776) : Spc Tryz.prog 259 #[ptr p, .int .i64 f, .int .i64 t, .func (.func 301) #[] #[ptr b]] H fun r H' => Ext H H' ∧ r = .bool true := by
  refine spec_of Tryz.func259 rfl Tryz.ntmps259 rfl (fun W => ?_)
  refine Am.on ((Mem.startR hp).andR hb) ?_
  repeat (first | refine codeM (k := ?_) | refine condM (k := ?_) | refine offM (k := ?_) | refine offMn (k := ?_) | refine pureM (k := ?_) | refine loadM (k := ?_) | refine loadB (k := ?_) | refine storeM (k := ?_) | refine storeB (k := ?_))
  refine callM rfl rfl rfl rfl rfl (fun Hc hm => behind0 (hm.roOf (.r (.there .here))) f) ?_
  rintro Hc _ H1 hm ⟨x1, rfl⟩
  refine Am.on (hm.ext x1) ?_
  repeat (first | refine codeM (k := ?_) | refine condM (k := ?_) | refine offM (k := ?_) | refine offMn (k := ?_) | refine pureM (k := ?_) | refine loadM (k := ?_) | refine loadB (k := ?_) | refine storeM (k := ?_) | refine storeB (k := ?_))
  refine callM rfl rfl rfl rfl rfl (fun Hc hm => ahead0 (hm.roOf (.r (.there .here)))) ?_
  rintro Hc _ H1 hm ⟨x1, rfl⟩
  refine Am.on (hm.ext x1) ?_
  refine callMv (first := []) (cap := [ptr b]) rfl rfl rfl rfl rfl rfl (fun H hm => mayF (hm.roOf (.r .here))) ?_
  rintro Hc _ H1 hm ⟨x1, rfl⟩
  refine Am.on (hm.ext x1) ?_
  repeat (first | refine codeM (k := ?_) | refine condM (k := ?_) | refine offM (k := ?_) | refine offMn (k := ?_) | refine pureM (k := ?_) | refine loadM (k := ?_) | refine loadB (k := ?_) | refine storeM (k := ?_) | refine storeB (k := ?_))
  refine callM rfl rfl rfl rfl rfl (fun Hc hm => pend0 (hm.roOf (.r (.there .here)))) ?_
  rintro Hc _ H1 hm ⟨x1, rfl⟩
  refine Am.on (hm.ext x1) ?_
  repeat (first | refine codeM (k := ?_) | refine condM (k := ?_) | refine offM (k := ?_) | refine offMn (k := ?_) | refine pureM (k := ?_) | refine loadM (k := ?_) | refine loadB (k := ?_) | refine storeM (k := ?_) | refine storeB (k := ?_))
  exact ret1M rfl rfl (fun H hm => ⟨hm.toExt (by repeat (first | exact Pick.nil | refine Pick.keep ?_ | refine Pick.drop (by first | assumption | omega) ?_)), rfl⟩)
theorem pmay0 {H : Heap} {p : Nat} {f t : Int} (hp : Ro H p (profC nil0)) (h0 : 0 ≤ f) (h1 : f < t) (h2 : t ≤ 1099511627776) : Spc Tryz.prog 250 #[ptr p, .agg (busyC f t 1).toArray] H fun r H' => Ext H H' ∧ r = .int .i64 0 := by
  refine spec_of Tryz.func250 rfl Tryz.ntmps250 rfl (fun W => ?_)
  refine Am.on (Mem.startR hp) ?_
  repeat (first | refine codeM (k := ?_) | refine condM (k := ?_) | refine offM (k := ?_) | refine offMn (k := ?_) | refine pureM (k := ?_) | refine loadM (k := ?_) | refine loadB (k := ?_) | refine storeM (k := ?_) | refine storeB (k := ?_))
  refine boxM rfl rfl rfl rfl (fun a ha => ?_)
  repeat (first | refine codeM (k := ?_) | refine condM (k := ?_) | refine offM (k := ?_) | refine offMn (k := ?_) | refine pureM (k := ?_) | refine loadM (k := ?_) | refine loadB (k := ?_) | refine storeM (k := ?_) | refine storeB (k := ?_))
  refine callM rfl rfl rfl rfl rfl (fun Hc hm => pright Hc h0 h1 h2) ?_
  rintro Hc _ H1 hm ⟨x1, rfl⟩
  refine Am.on (hm.ext x1) ?_
  repeat (first | refine codeM (k := ?_) | refine condM (k := ?_) | refine offM (k := ?_) | refine offMn (k := ?_) | refine pureM (k := ?_) | refine loadM (k := ?_) | refine loadB (k := ?_) | refine storeM (k := ?_) | refine storeB (k := ?_))
  refine callM rfl rfl rfl rfl rfl (fun Hc hm => pall0 (hm.roOf (.r .here)) (hm.roOf (.l .here)) h2) ?_
  rintro Hc _ H1 hm ⟨x1, rfl⟩
  refine Am.on (hm.ext x1) ?_
  repeat (first | refine codeM (k := ?_) | refine condM (k := ?_) | refine offM (k := ?_) | refine offMn (k := ?_) | refine pureM (k := ?_) | refine loadM (k := ?_) | refine loadB (k := ?_) | refine storeM (k := ?_) | refine storeB (k := ?_))
  exact ret1M rfl rfl (fun H hm => ⟨hm.toExt (by repeat (first | exact Pick.nil | refine Pick.keep ?_ | refine Pick.drop (by first | assumption | omega) ?_)), rfl⟩)
theorem pfits0 {H : Heap} {p : Nat} {f t : Int} (hp : Ro H p (profC nil0)) (h0 : 0 ≤ f) (h1 : f < t) (h2 : t ≤ 1099511627776) : Spc Tryz.prog 214 #[ptr p, .agg (busyC f t 1).toArray] H fun r H' => Ext H H' ∧ r = .bool true := by
  refine spec_of Tryz.func214 rfl Tryz.ntmps214 rfl (fun W => ?_)
  refine Am.on (Mem.startR hp) ?_
  repeat (first | refine codeM (k := ?_) | refine condM (k := ?_) | refine offM (k := ?_) | refine offMn (k := ?_) | refine pureM (k := ?_) | refine loadM (k := ?_) | refine loadB (k := ?_) | refine storeM (k := ?_) | refine storeB (k := ?_))
  refine boxM rfl rfl rfl rfl (fun a ha => ?_)
  repeat (first | refine codeM (k := ?_) | refine condM (k := ?_) | refine offM (k := ?_) | refine offMn (k := ?_) | refine pureM (k := ?_) | refine loadM (k := ?_) | refine loadB (k := ?_) | refine storeM (k := ?_) | refine storeB (k := ?_))
  refine callM rfl rfl rfl rfl rfl (fun Hc hm => pmay0 (hm.roOf (.r .here)) h0 h1 h2) ?_
  rintro Hc _ H1 hm ⟨x1, rfl⟩
  refine Am.on (hm.ext x1) ?_
  repeat (first | refine codeM (k := ?_) | refine condM (k := ?_) | refine offM (k := ?_) | refine offMn (k := ?_) | refine pureM (k := ?_) | refine loadM (k := ?_) | refine loadB (k := ?_) | refine storeM (k := ?_) | refine storeB (k := ?_))
  exact ret1M rfl rfl (fun H hm => ⟨hm.toExt (by repeat (first | exact Pick.nil | refine Pick.keep ?_ | refine Pick.drop (by first | assumption | omega) ?_)), rfl⟩)
end Go.Proofs.YtlaobecajieaaaaGreat
/- One more at the end of a slice; room made for one. -/
namespace Go.Proofs.YtlaobecajieaaaaGreat
open Go Ev
set_option linter.unusedVariables false
set_option linter.unusedSimpArgs false

/-- a row of one's own, with room -/
def Room (H : Heap) (g : Nat) (e : TypeId) (es c : Nat) : Prop := c ≤ maxLen ∧ ∃ cur, H[g]? = some (.cells cur e (0, 0)) ∧ cur.size = c * es
theorem Room.own {H : Heap} {g : Nat} {e : TypeId} {es c : Nat} (h : Room H g e es c) : Own H 0 e es (.slice (some ⟨g, 0, none⟩) 0 c) 0 [] := by
  obtain ⟨h1, cur, h2, h3⟩ := h
  exact ⟨by simp, .inr ⟨g, c, cur, rfl, Nat.zero_le _, h2, Nat.zero_le _, h1, h3, by simp⟩⟩
theorem Room.keep {S : Nat → Prop} {H H' : Heap} {g : Nat} {e : TypeId} {es c : Nat} (h : Room H g e es c) (hk : Kept S H H') (hS : ¬ S g) : Room H' g e es c := by
  obtain ⟨h1, cur, h2, h3⟩ := h
  exact ⟨h1, cur, hk.keep h2 hS, h3⟩
section
variable {P : Program} {n : Nat} {W : World} {env : Env} {H : Heap} {Q : Exit → Act → World → Prop} {K : Act → World → Prop}
variable {ty : TypeId} {pos : String} {af : Array Edge} {gd : Option (Nat × Bool)}
theorem W_appendMk {x y : Operand} {t tn e : TypeId} {d : TypeDesc} {kn kv : IntKind} {sz sb sz2 sb2 es eb m dd : Nat} {z z2 ez : Value} [h : Ty P t (.slice e) sz sb z] [hn' : Ty P tn (.int kn) sz2 sb2 z2] [he : Ty P e d es eb ez] (hx : ev env x = some (.slice none 0 0)) (hy : ev env y = some (.int kv m)) (h0 : 0 < m) (hm : m ≤ 1000) (hs : 0 < es) (hb : eb ≤ 1000000) (hz : ez.cells.size = es) (hn : Nat.blt dd n = true)
    (k : ∀ g c H', Ext H H' → H.size ≤ g → m ≤ c → Room H' g e es c → At n W ((dd, .slice (some ⟨g, 0, none⟩) m c) :: env) H' K) : At n W env H (fun a w => Oper.wp P ⟨some dd, .call ⟨.builtin .append, #[x, y], #[t, tn]⟩, ty, pos, af, gd⟩ a w K Q) := fun a w f eq hl => by
  subst eq
  obtain ⟨i, h1, h2, h3, h4⟩ := he.info
  have hbi : m * i.bytes ≤ 1000 * 1000000 := Nat.mul_le_mul hm (by omega)
  have hr := Go.Lib.run_append_nil_zeros (P := P) w t tn ty e i ez kv kn h.und hn'.und h1 h4 m h0 (by omega) (by omega) (by omega)
  have hge := grownCap_ge w m 0 e
  have hle := grownCap_le_maxLen w m 0 e (by simp only [maxLen]; omega)
  have hrun : (execOp a.eval ⟨some dd, .call ⟨.builtin .append, #[x, y], #[t, tn]⟩, ty, pos, af, gd⟩).run P w = .ok (.value (.slice (some ⟨w.heap.size, 0, none⟩) m (grownCap w m 0 e))) (w.drew.alloc (.cells (Builtin.zeroCells ez.cells m ++ Builtin.zeroCells ez.cells (grownCap w m 0 e - m)) e)) := by
    simp [execOp, resolve, invoke, builtin, f.ev hx, f.ev hy, hr]
  show Oper.wp P _ a w K Q
  unfold Oper.wp
  rw [hrun, Oper.upon_value]
  have hne := New.of w.heap (.cells (Builtin.zeroCells ez.cells m ++ Builtin.zeroCells ez.cells (grownCap w m 0 e - m)) e)
  refine k w.heap.size _ _ hne.ext (Nat.le_refl _) hge ⟨hle, _, hne.at_, ?_⟩ _ _ (f.put hn _) rfl (hl.trans ⟨rfl, rfl, rfl⟩)
  simp only [Builtin.zeroCells, Array.size_append, Array.size_map, Array.size_range, hz]
  rw [← Nat.add_mul]
  congr 1
  omega
end
attribute [local irreducible] Go.wpList Go.bodyPost Go.Code.wp Go.Exit.then Go.Exit.inBlock Go.Exit.noGoto Ev.wpAnyG Go.Oper.wp Ev.Back Ev.Left Ev.Spc Ev.At Ev.Pure Ev.Reads Ev.Runs Ev.Does Ev.Cell Ev.Am Ev.Has Ev.Kn Go.Code.rounds

theorem insStep0 {H : Heap} {b c : Nat} {ys : List Value} (hb : Ro H b ys) (hl : ys.length = 2) (h1 : ∀ u ∈ ys, u.oneCell' = true) :
    Spc Tryz.prog 331 #[.slice none 0 0, .int .i64 0, .slice (some ⟨b, 0, none⟩) 1 c] H fun r H' => ∃ g c', r = .slice (some ⟨g, 0, none⟩) 1 c' ∧ H.size ≤ g ∧ Ext H H' ∧ Own H' 0 340 2 (.slice (some ⟨g, 0, none⟩) 1 c') 1 ys := by
  refine spec_of Tryz.func331 rfl Tryz.ntmps331 rfl (fun W => ?_)
  refine Am.on (Mem.startR hb) ?_
  repeat (first | refine codeM (k := ?_) | refine condM (k := ?_) | refine offM (k := ?_) | refine offMn (k := ?_) | refine pureM (k := ?_) | refine loadM (k := ?_) | refine loadB (k := ?_) | refine storeM (k := ?_) | refine storeB (k := ?_))
  refine pM (p_slice_lo_end (i := 0) rfl rfl (by decide) rfl) rfl rfl rfl ?_
  repeat (first | refine codeM (k := ?_) | refine condM (k := ?_) | refine offM (k := ?_) | refine offMn (k := ?_) | refine pureM (k := ?_) | refine loadM (k := ?_) | refine loadB (k := ?_) | refine storeM (k := ?_) | refine storeB (k := ?_))
  refine At_am ?_
  intro H1 hm
  have x1 : Ext H H1 := hm.kept.mono (fun _ h _ => by cases h)
  refine At_wp (W_append (news := ys) rfl rfl (Own.nil H1 0 _ 2) (by rw [hl]) (fun j u hj => by rw [Nat.zero_add]; exact (hb.2 j u hj).keep x1 (fun f => f)) h1 (Nat.zero_le _) rfl (by decide) (by decide) (by simp [maxLen]) (by decide) rfl ?_) rfl
  intro g' c' H2 own hk hg
  have x2 : Ext H1 H2 := hk.mono (fun i e _ => by cases e)
  have hg : H1.size ≤ g' := by
    rcases hg with e | e
    · cases e
    · exact e
  repeat (first | refine codeA (k := ?_) | refine condA (k := ?_) | refine offA (k := ?_) | refine pureA (k := ?_) | refine readA (k := ?_))
  exact At_ret1 rfl rfl ⟨g', c', rfl, by have := x1.size; omega, x1.trans x2, own⟩
theorem insCopy0 {H : Heap} {b c : Nat} {ys : List Value} (hb : Ro H b ys) (hl : Nat.beq ys.length (1 * 17) = true) (h1 : ys.all (·.oneCell') = true) :
    Spc Tryz.prog 208 #[.slice none 0 0, .int .i64 0, .slice (some ⟨b, 0, none⟩) 1 c] H fun r H' => ∃ g c', r = .slice (some ⟨g, 0, none⟩) 1 c' ∧ H.size ≤ g ∧ 1 ≤ c' ∧ Mem H [] [(g, ys)] H' := by
  refine spec_of Tryz.func208 rfl Tryz.ntmps208 rfl (fun W => ?_)
  refine Am.on (Mem.startR hb) ?_
  repeat (first | refine codeM (k := ?_) | refine condM (k := ?_) | refine offM (k := ?_) | refine offMn (k := ?_) | refine pureM (k := ?_) | refine loadM (k := ?_) | refine loadB (k := ?_) | refine storeM (k := ?_) | refine storeB (k := ?_))
  refine pM (p_slice_lo_end (i := 0) rfl rfl (by decide) rfl) rfl rfl rfl ?_
  repeat (first | refine codeM (k := ?_) | refine condM (k := ?_) | refine offM (k := ?_) | refine offMn (k := ?_) | refine pureM (k := ?_) | refine loadM (k := ?_) | refine loadB (k := ?_) | refine storeM (k := ?_) | refine storeB (k := ?_))
  refine app0M ys rfl rfl (.r .here) (by rw [List.drop_zero, List.take_length]) hl h1 rfl rfl rfl rfl rfl rfl rfl (fun g c' hg hc => ?_)
  repeat (first | refine codeM (k := ?_) | refine condM (k := ?_) | refine offM (k := ?_) | refine offMn (k := ?_) | refine pureM (k := ?_) | refine loadM (k := ?_) | refine loadB (k := ?_) | refine storeM (k := ?_) | refine storeB (k := ?_))
  exact ret1M rfl rfl (fun H hm => ⟨g, c', rfl, hg, hc, hm.pick (by repeat (first | exact Pick.nil | refine Pick.keep ?_ | refine Pick.drop (by first | assumption | omega) ?_))⟩)
theorem insResv0 {H : Heap} {b c : Nat} {ys : List Value} (hb : Ro H b ys) (hl : Nat.beq ys.length (1 * 8) = true) (h1 : ys.all (·.oneCell') = true) :
    Spc Tryz.prog 315 #[.slice none 0 0, .int .i64 0, .slice (some ⟨b, 0, none⟩) 1 c] H fun r H' => ∃ g c', r = .slice (some ⟨g, 0, none⟩) 1 c' ∧ H.size ≤ g ∧ 1 ≤ c' ∧ Mem H [] [(g, ys)] H' := by
  refine spec_of Tryz.func315 rfl Tryz.ntmps315 rfl (fun W => ?_)
  refine Am.on (Mem.startR hb) ?_
  repeat (first | refine codeM (k := ?_) | refine condM (k := ?_) | refine offM (k := ?_) | refine offMn (k := ?_) | refine pureM (k := ?_) | refine loadM (k := ?_) | refine loadB (k := ?_) | refine storeM (k := ?_) | refine storeB (k := ?_))
  refine pM (p_slice_lo_end (i := 0) rfl rfl (by decide) rfl) rfl rfl rfl ?_
  repeat (first | refine codeM (k := ?_) | refine condM (k := ?_) | refine offM (k := ?_) | refine offMn (k := ?_) | refine pureM (k := ?_) | refine loadM (k := ?_) | refine loadB (k := ?_) | refine storeM (k := ?_) | refine storeB (k := ?_))
  refine app0M ys rfl rfl (.r .here) (by rw [List.drop_zero, List.take_length]) hl h1 rfl rfl rfl rfl rfl rfl rfl (fun g c' hg hc => ?_)
  repeat (first | refine codeM (k := ?_) | refine condM (k := ?_) | refine offM (k := ?_) | refine offMn (k := ?_) | refine pureM (k := ?_) | refine loadM (k := ?_) | refine loadB (k := ?_) | refine storeM (k := ?_) | refine storeB (k := ?_))
  exact ret1M rfl rfl (fun H hm => ⟨g, c', rfl, hg, hc, hm.pick (by repeat (first | exact Pick.nil | refine Pick.keep ?_ | refine Pick.drop (by first | assumption | omega) ?_))⟩)
/-- .. behind those that are there -/
theorem insStep1 {H : Heap} {g c b c2 : Nat} {xs ys : List Value} (ho : Own H 0 340 2 (.slice (some ⟨g, 0, none⟩) 1 c) 1 xs) (hb : Ro H b ys) (hl : ys.length = 2) (h1 : ∀ u ∈ ys, u.oneCell' = true) :
    Spc Tryz.prog 331 #[.slice (some ⟨g, 0, none⟩) 1 c, .int .i64 1, .slice (some ⟨b, 0, none⟩) 1 c2] H fun r H' => ∃ g' c', r = .slice (some ⟨g', 0, none⟩) 2 c' ∧ Own H' 0 340 2 (.slice (some ⟨g', 0, none⟩) 2 c') 2 (xs ++ ys) ∧ Kept (· = g) H H' ∧ (g' = g ∨ H.size ≤ g') := by
  have hc : 1 ≤ c := by
    rcases ho.form with ⟨e, _⟩ | ⟨_, _, e, _, _, h, _⟩
    · cases e
    · cases e; exact h
  refine spec_of Tryz.func331 rfl Tryz.ntmps331 rfl (fun W => ?_)
  refine Am.on (Mem.startR hb) ?_
  repeat (first | refine codeM (k := ?_) | refine condM (k := ?_) | refine offM (k := ?_) | refine offMn (k := ?_) | refine pureM (k := ?_) | refine loadM (k := ?_) | refine loadB (k := ?_) | refine storeM (k := ?_) | refine storeB (k := ?_))
  refine At_am ?_
  intro H1 hm
  have ho1 := ho.keep hm.kept (fun _ _ h => by cases h)
  have x1 : Ext H H1 := hm.kept.mono (fun _ h _ => by cases h)
  refine At_read (show Reads _ _ _ _ _ (.slice (if c = 1 then some ⟨g, 0, none⟩ else some ⟨g, 0 + 1 * 2, none⟩) (1 - 1) (c - 1)) from ?_) rfl rfl rfl ?_
  · by_cases e : c = 1
    · rw [if_pos e]; exact (p_slice_lo_end (i := 1) rfl rfl (by omega) e).reads
    · rw [if_neg e]; exact (p_slice_lo (i := 1) rfl rfl (by omega) (by omega)).reads
  repeat (first | refine codeA (k := ?_) | refine condA (k := ?_) | refine offA (k := ?_) | refine pureA (k := ?_) | refine readA (k := ?_) | refine At_block ?_)
  refine At_wp (W_append (news := ys) rfl rfl ho1 (by rw [hl]) (fun j u hj => by rw [Nat.zero_add]; exact (hb.2 j u hj).keep x1 (fun f => f)) h1 (Nat.zero_le _) rfl (by decide) (by decide) (by simp [maxLen]) (by decide) rfl ?_) rfl
  intro g' c' H2 own hk hg
  repeat (first | refine codeA (k := ?_) | refine condA (k := ?_) | refine offA (k := ?_) | refine pureA (k := ?_) | refine readA (k := ?_))
  refine At_ret1 rfl rfl ⟨g', c', rfl, own, Kept.trans x1 hk (fun _ f _ => f.elim) (fun i e _ => by simp only [Value.ownBlock, Option.some.injEq] at e; exact e.symm), ?_⟩
  have := x1.size
  rcases hg with e | e
  · simp only [Value.ownBlock, Option.some.injEq] at e; exact .inl e.symm
  · exact .inr (by omega)
end Go.Proofs.YtlaobecajieaaaaGreat
