/- Take. -/
import Derived.Test.YtdbmhcchgbpccaaLinkF
namespace Go.Proofs.Ytdbmhcchgbpccaa
open Go Ev
set_option linter.unusedVariables false
set_option linter.unusedSimpArgs false
attribute [local irreducible] Go.wpList Go.bodyPost Go.Code.wp Go.Exit.then Go.Exit.inBlock Go.Exit.noGoto Ev.wpAnyG Go.Oper.wp Ev.Back Ev.Left Ev.Spc Ev.At Ev.Pure Ev.Reads Ev.Runs Ev.Does Ev.Cell

def takeA (L : Lk) (f : Fr) : Lk := if L.other < f.epoch then { L with other := f.epoch, waits := [], sent := 0, came := 0 } else L
def takeB (L : Lk) (f : Fr) : Lk × Option (List UInt8) :=
  if f.peer ≠ L.epoch then ({ L with owes := true }, none) else
  if f.seq = 0 then ({ L with waits := L.waits.filter fun x => decide (f.ack < x.1) }, none) else
  if f.seq ≠ L.came + 1 then ({ L with waits := L.waits.filter fun x => decide (f.ack < x.1), owes := true }, none) else
  ({ L with waits := L.waits.filter fun x => decide (f.ack < x.1), owes := true, came := f.seq }, some f.body)
def takeL (L : Lk) (f : Fr) : Lk × Option (List UInt8) := if f.epoch < L.other then (L, none) else takeB (takeA L f) f

/-- a link whose waiting bodies lie in blocks that D lets -/
structure LinkD (D : Nat → Prop) (H : Heap) (p : Nat) (vw : Value) (L : Lk) : Prop where
  blk : H[p]? = some (.cells (lkCells L vw) 53 (0, 0))
  own : OwnL H 55 2 (WRow D H) vw L.waits
  ne : vw.ownBlock ≠ some p
  dis : ∀ b, D b → ¬ Ft p vw b
theorem WRow.keep {D D' S : Nat → Prop} {H H' : Heap} {x : Int × List UInt8} {row : List Value} (hr : WRow D H x row) (hk : Kept S H H') (h1 : ∀ b, D b → b < H.size → ¬ S b ∧ D' b) : WRow D' H' x row := by
  obtain ⟨bv, e1, e2⟩ := hr
  exact ⟨bv, e1, e2.keep hk h1⟩
theorem LinkD.lnk {D : Nat → Prop} {H : Heap} {p : Nat} {vw : Value} {L : Lk} (h : LinkD D H p vw L) : LinkAt H p vw L :=
  ⟨h.blk, h.own.imp (fun x row _ hr => hr.keep (Kept.refl (fun _ => False) H) (fun b hb _ => ⟨fun f => f, h.dis b hb⟩)), h.ne⟩
theorem LinkD.keep {D D' S : Nat → Prop} {H H' : Heap} {p : Nat} {vw : Value} {L : Lk} (h : LinkD D H p vw L) (hk : Kept S H H') (hp : ¬ S p) (hv : ∀ g, vw.ownBlock = some g → ¬ S g) (h1 : ∀ b, D b → b < H.size → ¬ S b ∧ D' b) (hd : ∀ b, D' b → ¬ Ft p vw b) : LinkD D' H' p vw L :=
  ⟨hk.keep h.blk hp, h.own.keep hk hv (fun x row _ hr => hr.keep hk h1), h.ne, hd⟩
theorem LinkD.ext {D : Nat → Prop} {H H' : Heap} {p : Nat} {vw : Value} {L : Lk} (h : LinkD D H p vw L) (hk : Ext H H') : LinkD D H' p vw L :=
  h.keep hk (fun f => f) (fun _ _ f => f) (fun b hb _ => ⟨fun f => f, hb⟩) h.dis
theorem LinkD.put {D : Nat → Prop} {H H' : Heap} {p : Nat} {vw : Value} {L : Lk} (L' : Lk) (h : LinkD D H p vw L) (hp : Put H H' p (.cells (lkCells L' vw) 53 (0, 0))) (hw : L'.waits = L.waits) : LinkD D H' p vw L' := by
  refine ⟨hp.at_, ?_, h.ne, h.dis⟩
  rw [hw]
  exact h.own.keep hp.kept (fun g hg e => h.ne (by rw [hg, e])) (fun x row _ hr => hr.keep hp.kept (fun b hb _ => ⟨fun e => h.dis b hb (.inl e), hb⟩))
theorem LinkD.putW {D : Nat → Prop} {H H' : Heap} {p : Nat} {vw r : Value} (L' : Lk) (h : OwnL H 55 2 (WRow D H) r L'.waits) (hne : vw.ownBlock ≠ some p) (hr : r.ownBlock = vw.ownBlock) (hd : ∀ b, D b → ¬ Ft p vw b) (hp : Put H H' p (.cells (lkCells L' r) 53 (0, 0))) : LinkD D H' p r L' := by
  refine ⟨hp.at_, ?_, by rw [hr]; exact hne, fun b hb => by simpa only [Ft, hr] using hd b hb⟩
  exact h.keep hp.kept (fun g hg e => hne (by rw [← hr, hg, e])) (fun x row _ hw => hw.keep hp.kept (fun b hb _ => ⟨fun e => hd b hb (.inl e), hb⟩))

theorem frames_specD {D : Nat → Prop} {H : Heap} {p : Nat} {vw : Value} {L : Lk} (h : LinkD D H p vw L) (hw : L.waits.length ≤ 1000) (hb : ∀ x ∈ L.waits, x.2.length ≤ 131072) :
    Spc Try.prog 9 #[.pointer (some ⟨p, 0, none⟩)] H fun v H' => LinkD D H' p vw { L with owes := false } ∧ Kept (· = p) H H' ∧ OwnL H' 34 7 (FRow (fun b => H.size ≤ b ∧ v.ownBlock ≠ some b) H') v (framesOf L) ∧ ∀ g, v.ownBlock = some g → H.size ≤ g :=
  (frames_spec h.lnk hw hb).mono fun v H' ⟨h1, h2, h3, h4⟩ => ⟨⟨h1.blk, h.own.keep h2 (fun g hg e => h.ne (by rw [hg, e])) (fun x row _ hr => hr.keep h2 (fun b hb _ => ⟨fun e => h.dis b hb (.inl e), hb⟩)), h.ne, h.dis⟩, h2, h3, h4⟩

/-- what Take leaves -/
structure TakeR (D : Nat → Prop) (H : Heap) (p : Nat) (vw : Value) (L : Lk) (f : Fr) (v : Value) (H' : Heap) : Prop where
  ex : ∃ bv vw', v = .tuple #[bv, .bool (takeL L f).2.isSome, .int .i64 0] ∧ BytesAt (fun b => H.size ≤ b) H' bv ((takeL L f).2.getD []) ∧ LinkD D H' p vw' (takeL L f).1 ∧ ∀ g, vw'.ownBlock = some g → vw.ownBlock = some g
  kept : Kept (Ft p vw) H H'

set_option maxHeartbeats 2000000 in
theorem take_spec {D : Nat → Prop} {H : Heap} {p : Nat} {vw bv : Value} {L : Lk} {f : Fr} (h : LinkD D H p vw L) (hb : BytesAt D H bv f.body) (hm : MayB L f) (hc : 0 ≤ L.came ∧ L.came ≤ 1000000000000) :
    Spc Try.prog 16 #[.pointer (some ⟨p, 0, none⟩), .agg (frCells f bv).toArray] H fun v H' => TakeR D H p vw L f v H' := by
  have hm' := hm
  obtain ⟨_, _, h3, h4, h5, h6, h7, _⟩ := hm'
  obtain ⟨q, c, rfl⟩ := hb.form
  have hbk := h.blk
  have hD := h.dis
  have hps := lt_of_heap hbk
  refine spec_of Try.func16 rfl Try.ntmps16 rfl (fun W => ?_)
  repeat (first | refine codeA (k := ?_) | refine condA (k := ?_) | refine offA (k := ?_) | refine pureA (k := ?_) | refine readA (k := ?_))
  refine At_wp (W_box (cs := #[.int .i64 f.frm, .int .i64 f.to, .int .i64 f.epoch, .int .i64 f.peer, .int .i64 f.seq, .int .i64 f.ack, .slice q f.body.length c]) rfl rfl rfl ?_) rfl
  intro bt H1 hn1
  have hx1 := hn1.ext
  have h1 : LinkD D H1 p vw L := h.ext hx1
  have hb1 : BytesAt D H1 (.slice q f.body.length c) f.body := hb.keep hx1 (fun b hb _ => ⟨fun f => f, hb⟩)
  have e1 := hn1.at_
  have hbt := hn1.blk
  repeat (first | refine codeA (k := ?_) | refine condA (k := ?_) | refine offA (k := ?_) | refine pureA (k := ?_) | refine readA (k := ?_))
  refine At_read (r_loadB rfl e1 rfl rfl) rfl rfl rfl ?_
  refine At_wp (W_call rfl rfl (may_yes h1.lnk hb1 hm) rfl rfl ?_) rfl
  rintro _ H2 ⟨hx2, rfl⟩
  have hx := hx1.trans hx2
  have h2 : LinkD D H2 p vw L := h.ext hx
  have e2 := hx2.keep e1 (fun f => f)
  have hbk2 := h2.blk
  have c2 : Cell H2 bt (0 + 2) (.int .i64 f.epoch) := Cell.of e2 rfl
  have d3 : Cell H2 p (0 + 3) (.int .i64 L.other) := Cell.of hbk2 rfl
  repeat (first | refine codeA (k := ?_) | refine condA (k := ?_) | refine offA (k := ?_) | refine pureA (k := ?_) | refine readA (k := ?_))
  by_cases hA : f.epoch < L.other
  · have eT : takeL L f = (L, none) := by unfold takeL; rw [if_pos hA]
    refine At_draw [1, 5] (fun H' => H' = H2) Try.mixed ?_
    first | refine gA 0 (k := ?_) | refine goffA 0 (k := ?_)
    refine grA 1 rfl (fun H' hS' => r_load rfl rfl (by subst hS'; exact c2)) (k := ?_)
    first | refine gA 2 (k := ?_) | refine goffA 2 (k := ?_)
    first | refine gA 3 (k := ?_) | refine goffA 3 (k := ?_)
    first | refine gA 4 (k := ?_) | refine goffA 4 (k := ?_)
    refine grA 5 rfl (fun H' hS' => r_load rfl rfl (by subst hS'; exact d3)) (k := ?_)
    first | refine gA 6 (k := ?_) | refine goffA 6 (k := ?_)
    refine G_done (by kernel_rfl) ?_
    repeat (first | refine codeA (k := ?_) | refine condA (k := ?_) | refine offA (k := ?_) | refine pureA (k := ?_) | refine readA (k := ?_))
    refine At_ret3 rfl rfl rfl rfl ⟨⟨.slice none 0 0, vw, ?_⟩, Kept.of_ext hx⟩
    rw [eT]
    exact ⟨rfl, BytesAt.nil _ _, h2, fun g hg => hg⟩
  · have eT : takeL L f = takeB (takeA L f) f := by unfold takeL; rw [if_neg hA]
    refine At_draw [1, 5] (fun H' => H' = H2) Try.mixed ?_
    first | refine gA 0 (k := ?_) | refine goffA 0 (k := ?_)
    refine grA 1 rfl (fun H' hS' => r_load rfl rfl (by subst hS'; exact c2)) (k := ?_)
    first | refine gA 2 (k := ?_) | refine goffA 2 (k := ?_)
    first | refine gA 3 (k := ?_) | refine goffA 3 (k := ?_)
    first | refine gA 4 (k := ?_) | refine goffA 4 (k := ?_)
    refine grA 5 rfl (fun H' hS' => r_load rfl rfl (by subst hS'; exact d3)) (k := ?_)
    first | refine gA 6 (k := ?_) | refine goffA 6 (k := ?_)
    refine G_done (by kernel_rfl) ?_
    repeat (first | refine codeA (k := ?_) | refine condA (k := ?_) | refine offA (k := ?_) | refine pureA (k := ?_) | refine readA (k := ?_))
    refine At_draw [1, 5] (fun H' => H' = H2) Try.mixed ?_
    first | refine gA 0 (k := ?_) | refine goffA 0 (k := ?_)
    refine grA 1 rfl (fun H' hS' => r_load rfl rfl (by subst hS'; exact c2)) (k := ?_)
    first | refine gA 2 (k := ?_) | refine goffA 2 (k := ?_)
    first | refine gA 3 (k := ?_) | refine goffA 3 (k := ?_)
    first | refine gA 4 (k := ?_) | refine goffA 4 (k := ?_)
    refine grA 5 rfl (fun H' hS' => r_load rfl rfl (by subst hS'; exact d3)) (k := ?_)
    refine gpA 6 (p_gtr rfl rfl) (k := ?_)
    refine G_done (by kernel_rfl) ?_
    refine At_then_normal ?_
    refine At_cut (fun (vw1 : Value) => [(0, .pointer (some ⟨p, 0, none⟩)), (3, .pointer (some ⟨bt, 0, none⟩))])
      (fun vw1 H' => LinkD D H' p vw1 (takeA L f) ∧ H'[bt]? = some (.cells #[.int .i64 f.frm, .int .i64 f.to, .int .i64 f.epoch, .int .i64 f.peer, .int .i64 f.seq, .int .i64 f.ack, .slice q f.body.length c] 34 (0, 0)) ∧ Kept (Ft p vw) H H' ∧ ∀ g, vw1.ownBlock = some g → vw.ownBlock = some g) ?_ ?_
    · refine At_cond_dec rfl (fun hB => ?_) (fun hB => ?_)
      · have hB' : L.other < f.epoch := hB
        repeat (first | refine codeA (k := ?_) | refine condA (k := ?_) | refine offA (k := ?_) | refine pureA (k := ?_) | refine readA (k := ?_))
        refine At_wp (W_store rfl rfl hbk2 rfl rfl rfl rfl ?_) rfl
        intro H3 p3
        repeat (first | refine codeA (k := ?_) | refine condA (k := ?_) | refine offA (k := ?_) | refine pureA (k := ?_) | refine readA (k := ?_))
        refine At_wp (W_store rfl rfl p3.at_ rfl rfl rfl rfl ?_) rfl
        intro H4 p4
        repeat (first | refine codeA (k := ?_) | refine condA (k := ?_) | refine offA (k := ?_) | refine pureA (k := ?_) | refine readA (k := ?_))
        refine At_wp (W_store rfl rfl p4.at_ rfl rfl rfl rfl ?_) rfl
        intro H5 p5
        repeat (first | refine codeA (k := ?_) | refine condA (k := ?_) | refine offA (k := ?_) | refine pureA (k := ?_) | refine readA (k := ?_))
        refine At_wp (W_store rfl rfl p5.at_ rfl rfl rfl rfl ?_) rfl
        intro H6 p6
        repeat (first | refine codeA (k := ?_) | refine condA (k := ?_) | refine offA (k := ?_) | refine pureA (k := ?_) | refine readA (k := ?_))
        have k6 : Kept (· = p) H2 H6 := Kept.trans (Kept.trans (Kept.trans p3.kept p4.kept (fun _ e _ => e) (fun _ e _ => e)) p5.kept (fun _ e _ => e) (fun _ e _ => e)) p6.kept (fun _ e _ => e) (fun _ e _ => e)
        refine At_meet (J := fun vw1 H' => LinkD D H' p vw1 (takeA L f) ∧ H'[bt]? = some (.cells #[.int .i64 f.frm, .int .i64 f.to, .int .i64 f.epoch, .int .i64 f.peer, .int .i64 f.seq, .int .i64 f.ack, .slice q f.body.length c] 34 (0, 0)) ∧ Kept (Ft p vw) H H' ∧ ∀ g, vw1.ownBlock = some g → vw.ownBlock = some g) (.slice none 0 0) ?_ ⟨?_, k6.keep e2 (fun e => by omega), Kept.trans hx k6 (fun _ f _ => f.elim) (fun i e _ => .inl e), fun g hg => by cases hg⟩
        · (repeat (first | exact Sub.nil | refine Sub.cons rfl ?_))
        · unfold takeA
          rw [if_pos hB']
          exact ⟨p6.at_, OwnL.nil _ _ _ _, (fun e => by cases e), fun b hb hf => hf.elim (fun e => hD b hb (.inl e)) (fun e => by cases e)⟩
      · have hB' : ¬ L.other < f.epoch := hB
        repeat (first | refine codeA (k := ?_) | refine condA (k := ?_) | refine offA (k := ?_) | refine pureA (k := ?_) | refine readA (k := ?_))
        refine At_meet (J := fun vw1 H' => LinkD D H' p vw1 (takeA L f) ∧ H'[bt]? = some (.cells #[.int .i64 f.frm, .int .i64 f.to, .int .i64 f.epoch, .int .i64 f.peer, .int .i64 f.seq, .int .i64 f.ack, .slice q f.body.length c] 34 (0, 0)) ∧ Kept (Ft p vw) H H' ∧ ∀ g, vw1.ownBlock = some g → vw.ownBlock = some g) vw ?_ ⟨?_, e2, Kept.of_ext hx, fun g hg => hg⟩
        · (repeat (first | exact Sub.nil | refine Sub.cons rfl ?_))
        · unfold takeA
          rw [if_neg hB']
          exact h2
    · rintro vw1 H3 ⟨h3', e3, hk3, hv1⟩
      have hcame : 0 ≤ (takeA L f).came ∧ (takeA L f).came ≤ 1000000000000 := by
        unfold takeA
        split
        · exact ⟨Int.le_refl 0, by show (0 : Int) ≤ 1000000000000; decide⟩
        · exact hc
      clear hA e1 e2 c2 d3 hbk2 h2 h1 hbk
      have hD3 : ∀ b, D b → ¬ Ft p vw1 b := fun b hb hf => by
        rcases hf with hf | hf
        · exact hD b hb (.inl hf)
        · exact hD b hb (.inr (hv1 b hf))
      have hb3 : BytesAt D H3 (.slice q f.body.length c) f.body := hb.keep hk3 (fun b hb _ => ⟨hD b hb, hb⟩)
      have hlt3 : bt < H3.size := lt_of_heap e3
      have hFt : ∀ i, Ft p vw1 i → Ft p vw i := fun i hf => hf.imp id (hv1 i)
      obtain ⟨q1, cap1, hvw1⟩ := h3'.lnk.vw
      have hblk := h3'.blk
      have hown := h3'.own
      have hne := h3'.ne
      have eT' : takeL L f = takeB (takeA L f) f := eT
      generalize takeA L f = L1 at *
      have hbt1 : ¬ Ft p vw bt := fun hf => by
        rcases hf with hf | hf
        · omega
        · rcases h.own.form with ⟨e, _⟩ | ⟨g, cg, e, hg, _⟩
          · rw [e] at hf; cases hf
          · rw [e] at hf
            simp only [Value.ownBlock, Option.some.injEq] at hf
            omega
      have c3 : Cell H3 bt (0 + 3) (.int .i64 f.peer) := Cell.of e3 rfl
      have d2 : Cell H3 p (0 + 2) (.int .i64 L1.epoch) := Cell.of hblk rfl
      by_cases hC : f.peer = L1.epoch
      rotate_left
      · have eU : takeL L f = ({ L1 with owes := true }, none) := by rw [eT']; unfold takeB; rw [if_pos hC]
        repeat (first | refine codeA (k := ?_) | refine condA (k := ?_) | refine offA (k := ?_) | refine pureA (k := ?_) | refine readA (k := ?_))
        refine At_draw [1, 5] (fun H' => H' = H3) Try.mixed ?_
        first | refine gA 0 (k := ?_) | refine goffA 0 (k := ?_)
        refine grA 1 rfl (fun H' hS' => r_load rfl rfl (by subst hS'; exact c3)) (k := ?_)
        first | refine gA 2 (k := ?_) | refine goffA 2 (k := ?_)
        first | refine gA 3 (k := ?_) | refine goffA 3 (k := ?_)
        first | refine gA 4 (k := ?_) | refine goffA 4 (k := ?_)
        refine grA 5 rfl (fun H' hS' => r_load rfl rfl (by subst hS'; exact d2)) (k := ?_)
        first | refine gA 6 (k := ?_) | refine goffA 6 (k := ?_)
        refine G_done (by kernel_rfl) ?_
        repeat (first | refine codeA (k := ?_) | refine condA (k := ?_) | refine offA (k := ?_) | refine pureA (k := ?_) | refine readA (k := ?_))
        refine At_wp (W_store rfl rfl hblk rfl rfl rfl rfl ?_) rfl
        intro H4 p4
        repeat (first | refine codeA (k := ?_) | refine condA (k := ?_) | refine offA (k := ?_) | refine pureA (k := ?_) | refine readA (k := ?_))
        refine At_ret3 rfl rfl rfl rfl ⟨⟨.slice none 0 0, vw1, ?_⟩, Kept.trans hk3 p4.kept (fun _ e _ => e) (fun _ e _ => .inl e)⟩
        rw [eU]
        exact ⟨rfl, BytesAt.nil _ _, h3'.put { L1 with owes := true } p4 rfl, hv1⟩
      repeat (first | refine codeA (k := ?_) | refine condA (k := ?_) | refine offA (k := ?_) | refine pureA (k := ?_) | refine readA (k := ?_))
      refine At_draw [1, 5] (fun H' => H' = H3) Try.mixed ?_
      first | refine gA 0 (k := ?_) | refine goffA 0 (k := ?_)
      refine grA 1 rfl (fun H' hS' => r_load rfl rfl (by subst hS'; exact c3)) (k := ?_)
      first | refine gA 2 (k := ?_) | refine goffA 2 (k := ?_)
      first | refine gA 3 (k := ?_) | refine goffA 3 (k := ?_)
      first | refine gA 4 (k := ?_) | refine goffA 4 (k := ?_)
      refine grA 5 rfl (fun H' hS' => r_load rfl rfl (by subst hS'; exact d2)) (k := ?_)
      first | refine gA 6 (k := ?_) | refine goffA 6 (k := ?_)
      refine G_done (by kernel_rfl) ?_
      repeat (first | refine codeA (k := ?_) | refine condA (k := ?_) | refine offA (k := ?_) | refine pureA (k := ?_) | refine readA (k := ?_))
      refine At_read (r_load rfl rfl (show Cell H3 p (0 + 4) vw1 from Cell.of hblk rfl)) rfl rfl rfl ?_
      refine At_pure (p_makeFunc0 (cap := [.tmp 3]) rfl) rfl rfl rfl ?_
      refine At_wp (W_call rfl rfl (delete_spec (bt := bt) (ack := f.ack) (Cell.of e3 rfl) hown (fun b hb e => hD3 b hb (.inr e)) (fun e => hbt1 (hFt _ (.inr e)))) rfl rfl ?_) rfl
      rintro r H4 ⟨hk4, ho4, hr4⟩
      have hblk4 := hk4.keep hblk hne
      have hlt4 := hk4.size
      have e4 := hk4.keep e3 (fun e => hbt1 (hFt _ (.inr e)))
      repeat (first | refine codeA (k := ?_) | refine condA (k := ?_) | refine offA (k := ?_) | refine pureA (k := ?_) | refine readA (k := ?_))
      refine At_wp (W_store rfl rfl hblk4 ?_ ?_ rfl rfl ?_) rfl
      · rcases ho4.form with ⟨e, _⟩ | ⟨g, cg, e, _⟩ <;> rw [e] <;> rfl
      · rcases ho4.form with ⟨e, _⟩ | ⟨g, cg, e, _⟩ <;> rw [e] <;> rfl
      intro H5 p5
      have h5' : LinkD D H5 p r { L1 with waits := L1.waits.filter fun x => decide (f.ack < x.1) } := LinkD.putW { L1 with waits := L1.waits.filter fun x => decide (f.ack < x.1) } ho4 hne hr4 hD3 p5
      have hbp : bt ≠ p := fun e => by omega
      have e5 := p5.kept.keep e4 hbp
      have hk5 : Kept (Ft p vw) H H5 := Kept.trans (Kept.trans hk3 hk4 (fun _ e _ => e) (fun i e _ => hFt i (.inr e))) p5.kept (fun _ e _ => e) (fun _ e _ => .inl e)
      have hv5 : ∀ g, r.ownBlock = some g → vw.ownBlock = some g := fun g hg => hv1 g (by rw [← hr4]; exact hg)
      have c4 : Cell H5 bt (0 + 4) (.int .i64 f.seq) := Cell.of e5 rfl
      have hblk5 := h5'.blk
      repeat (first | refine codeA (k := ?_) | refine condA (k := ?_) | refine offA (k := ?_) | refine pureA (k := ?_) | refine readA (k := ?_))
      by_cases hE : f.seq = 0
      · have eU : takeL L f = ({ L1 with waits := L1.waits.filter fun x => decide (f.ack < x.1) }, none) := by rw [eT']; unfold takeB; rw [if_neg (by simp [hC]), if_pos hE]
        repeat (first | refine codeA (k := ?_) | refine condA (k := ?_) | refine offA (k := ?_) | refine pureA (k := ?_) | refine readA (k := ?_))
        refine At_ret3 rfl rfl rfl rfl ⟨⟨.slice none 0 0, r, ?_⟩, hk5⟩
        rw [eU]
        exact ⟨rfl, BytesAt.nil _ _, h5', hv5⟩
      repeat (first | refine codeA (k := ?_) | refine condA (k := ?_) | refine offA (k := ?_) | refine pureA (k := ?_) | refine readA (k := ?_))
      refine At_wp (W_store rfl rfl hblk5 rfl rfl rfl rfl ?_) rfl
      intro H6 p6
      have h6' : LinkD D H6 p r { L1 with waits := L1.waits.filter fun x => decide (f.ack < x.1), owes := true } := h5'.put { L1 with waits := L1.waits.filter fun x => decide (f.ack < x.1), owes := true } p6 rfl
      have e6 := p6.kept.keep e5 hbp
      have hk6 : Kept (Ft p vw) H H6 := Kept.trans hk5 p6.kept (fun _ e _ => e) (fun _ e _ => .inl e)
      have hblk6 := h6'.blk
      have c6 : Cell H6 bt (0 + 4) (.int .i64 f.seq) := Cell.of e6 rfl
      have d6 : Cell H6 p (0 + 6) (.int .i64 L1.came) := Cell.of hblk6 rfl
      repeat (first | refine codeA (k := ?_) | refine condA (k := ?_) | refine offA (k := ?_) | refine pureA (k := ?_) | refine readA (k := ?_))
      by_cases hF : f.seq = L1.came + 1
      rotate_left
      · have eU : takeL L f = ({ L1 with waits := L1.waits.filter fun x => decide (f.ack < x.1), owes := true }, none) := by rw [eT']; unfold takeB; rw [if_neg (by simp [hC]), if_neg hE, if_pos hF]
        refine At_draw [1, 5] (fun H' => H' = H6) Try.mixed ?_
        first | refine gA 0 (k := ?_) | refine goffA 0 (k := ?_)
        refine grA 1 rfl (fun H' hS' => r_load rfl rfl (by subst hS'; exact c6)) (k := ?_)
        first | refine gA 2 (k := ?_) | refine goffA 2 (k := ?_)
        first | refine gA 3 (k := ?_) | refine goffA 3 (k := ?_)
        first | refine gA 4 (k := ?_) | refine goffA 4 (k := ?_)
        refine grA 5 rfl (fun H' hS' => r_load rfl rfl (by subst hS'; exact d6)) (k := ?_)
        first | refine gA 6 (k := ?_) | refine goffA 6 (k := ?_)
        first | refine gA 7 (k := ?_) | refine goffA 7 (k := ?_)
        refine G_done (by kernel_rfl) ?_
        repeat (first | refine codeA (k := ?_) | refine condA (k := ?_) | refine offA (k := ?_) | refine pureA (k := ?_) | refine readA (k := ?_))
        refine At_ret3 rfl rfl rfl rfl ⟨⟨.slice none 0 0, r, ?_⟩, hk6⟩
        rw [eU]
        exact ⟨rfl, BytesAt.nil _ _, h6', hv5⟩
      have eU : takeL L f = ({ L1 with waits := L1.waits.filter fun x => decide (f.ack < x.1), owes := true, came := f.seq }, some f.body) := by rw [eT']; unfold takeB; rw [if_neg (by simp [hC]), if_neg hE, if_neg (by simp [hF])]
      refine At_draw [1, 5] (fun H' => H' = H6) Try.mixed ?_
      first | refine gA 0 (k := ?_) | refine goffA 0 (k := ?_)
      refine grA 1 rfl (fun H' hS' => r_load rfl rfl (by subst hS'; exact c6)) (k := ?_)
      first | refine gA 2 (k := ?_) | refine goffA 2 (k := ?_)
      first | refine gA 3 (k := ?_) | refine goffA 3 (k := ?_)
      first | refine gA 4 (k := ?_) | refine goffA 4 (k := ?_)
      refine grA 5 rfl (fun H' hS' => r_load rfl rfl (by subst hS'; exact d6)) (k := ?_)
      first | refine gA 6 (k := ?_) | refine goffA 6 (k := ?_)
      first | refine gA 7 (k := ?_) | refine goffA 7 (k := ?_)
      refine G_done (by kernel_rfl) ?_
      repeat (first | refine codeA (k := ?_) | refine condA (k := ?_) | refine offA (k := ?_) | refine pureA (k := ?_) | refine readA (k := ?_))
      refine At_wp (W_store rfl rfl hblk6 rfl rfl rfl rfl ?_) rfl
      intro H7 p7
      have h7' : LinkD D H7 p r { L1 with waits := L1.waits.filter fun x => decide (f.ack < x.1), owes := true, came := f.seq } := h6'.put { L1 with waits := L1.waits.filter fun x => decide (f.ack < x.1), owes := true, came := f.seq } p7 rfl
      have e7 := p7.kept.keep e6 hbp
      have hk7 : Kept (Ft p vw) H H7 := Kept.trans hk6 p7.kept (fun _ e _ => e) (fun _ e _ => .inl e)
      have hb7 : BytesAt D H7 (.slice q f.body.length c) f.body := hb.keep hk7 (fun b hb _ => ⟨hD b hb, hb⟩)
      have hs7 := hk7.size
      repeat (first | refine codeA (k := ?_) | refine condA (k := ?_) | refine offA (k := ?_) | refine pureA (k := ?_) | refine readA (k := ?_))
      refine At_read (r_load rfl rfl (show Cell H7 bt (0 + 6) (.slice q f.body.length c) from Cell.of e7 rfl)) rfl rfl rfl ?_
      refine At_wp (W_call rfl rfl (clone_spec hb7 (by omega)) rfl rfl ?_) rfl
      rintro vb H8 ⟨hx8, hb8⟩
      repeat (first | refine codeA (k := ?_) | refine condA (k := ?_) | refine offA (k := ?_) | refine pureA (k := ?_) | refine readA (k := ?_))
      refine At_ret3 rfl rfl rfl rfl ⟨⟨vb, r, ?_⟩, hk7.then_ext hx8⟩
      rw [eU]
      exact ⟨rfl, hb8.mono (fun b hb _ => by omega), h7'.ext hx8, hv5⟩
end Go.Proofs.Ytdbmhcchgbpccaa
