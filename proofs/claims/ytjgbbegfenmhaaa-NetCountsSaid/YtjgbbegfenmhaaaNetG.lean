/- A network: Twice, and Lose. -/
import Derived.Test.YtjgbbegfenmhaaaNetE
namespace Go.Proofs.Ytjgbbegfenmhaaa
open Go Ev
set_option linter.unusedVariables false
set_option linter.unusedSimpArgs false
attribute [local irreducible] Go.wpList Go.bodyPost Go.Code.wp Go.Exit.then Go.Exit.inBlock Go.Exit.noGoto Ev.wpAnyG Go.Oper.wp Ev.Back Ev.Left Ev.Spc Ev.At Ev.Pure Ev.Reads Ev.Runs Ev.Does Ev.Cell

set_option maxHeartbeats 2000000 in
theorem twice_spec {D : Nat → Prop} {H : Heap} {p : Nat} {vr : Value} {N : Nt} {i : Nat} {f : Fr} (h : NetD D H p vr N) (hi : N.row[i]? = some f) (hl : f.body.length ≤ 70368744177664) (hr : N.row.length < 4096) :
    Spc Try.prog 14 #[.pointer (some ⟨p, 0, none⟩), .int .i64 i] H fun r H' => r = .int .i64 0 ∧ Kept (Fn p vr) H H' ∧ ∃ vr', NetD (Nu D H vr') H' p vr' { N with row := N.row ++ [f] } ∧ ∀ g, vr'.ownBlock = some g → vr.ownBlock = some g ∨ H.size ≤ g := by
  have hil : i < N.row.length := (List.getElem?_eq_some_iff.1 hi).1
  obtain ⟨g0, c0, hvr, hgl⟩ : ∃ g c, vr = .slice (some ⟨g, 0, none⟩) N.row.length c ∧ g < H.size := by
    rcases h.own.form with ⟨e1, e2⟩ | ⟨g, c, e1, e2, _⟩
    · rw [e2] at hil; simp at hil
    · exact ⟨g, c, e1, e2⟩
  have hown := h.own
  rw [hvr] at hown
  obtain ⟨row, ⟨bv, e1, e2⟩, e3, e4⟩ := hown.cells hi
  subst e1
  obtain ⟨q, c, rfl⟩ := e2.form
  have c1 := h.c1
  rw [hvr] at c1
  have hx1 : Ext H H := Kept.refl _ _
  have hplt := h.lt
  have ownlt : ∀ g, vr.ownBlock = some g → g < H.size := fun g hg => by
    rcases h.own.form with ⟨e, _⟩ | ⟨g', cg, e, hl, _⟩
    · rw [e] at hg; cases hg
    · rw [e] at hg
      simp only [Value.ownBlock, Option.some.injEq] at hg
      omega
  refine spec_of Try.func14 rfl Try.ntmps14 rfl (fun W => ?_)
  repeat (first | refine codeA (k := ?_) | refine condA (k := ?_) | refine offA (k := ?_) | refine pureA (k := ?_) | refine readA (k := ?_))
  refine At_wp (W_call rfl rfl (place_spec h i) rfl rfl ?_) rfl
  rintro _ _ ⟨rfl, rfl⟩
  rw [decide_eq_true ⟨by omega, by omega⟩]
  repeat (first | refine codeA (k := ?_) | refine condA (k := ?_) | refine offA (k := ?_) | refine pureA (k := ?_) | refine readA (k := ?_))
  have hxr : Kept (fun b => vr.ownBlock = some b) H H := Kept.refl _ _
  have hxp : ¬ vr.ownBlock = some p := h.ne
  refine At_draw [4, 8] (fun H' => Kept (fun b => vr.ownBlock = some b) H H') Try.mixed ?_
  first | refine gA 0 (k := ?_) | refine goffA 0 (k := ?_)
  first | refine gA 1 (k := ?_) | refine goffA 1 (k := ?_)
  first | refine gA 2 (k := ?_) | refine goffA 2 (k := ?_)
  first | refine gA 3 (k := ?_) | refine goffA 3 (k := ?_)
  refine grA 4 hxr (fun H' hS' => r_load rfl rfl (c1.keep hS' hxp)) (k := ?_)
  first | refine gA 5 (k := ?_) | refine goffA 5 (k := ?_)
  first | refine gA 6 (k := ?_) | refine goffA 6 (k := ?_)
  first | refine gA 7 (k := ?_) | refine goffA 7 (k := ?_)
  refine grA 8 hxr (fun H' hS' => r_load rfl rfl (c1.keep hS' hxp)) (k := ?_)
  first | refine gA 9 (k := ?_) | refine goffA 9 (k := ?_)
  first | refine gA 10 (k := ?_) | refine goffA 10 (k := ?_)
  refine G_op 11 rfl (by kernel_rfl) rfl (W_run (Reads.runs (r_loadN (b := g0) (o := 0 + i * 7) (cs := frCells f (.slice q f.body.length c)) rfl rfl rfl (fun j u hj => by rw [Nat.zero_add]; exact e4 j u hj))) rfl rfl ?_) 
  refine G_next (fun _ s => s) ?_
  refine G_op 12 rfl (by kernel_rfl) rfl (W_call rfl rfl (twin_spec (f := f) e2 hl) rfl rfl ?_) 
  rintro _ H2 ⟨bw, rfl, hx2, hb2⟩
  obtain ⟨qw, cw, rfl⟩ := hb2.form
  refine G_next (fun _ s => s.then_ext hx2) ?_
  refine G_op 13 rfl (by kernel_rfl) rfl (W_buildSlice1 rfl rfl rfl (by decide) rfl ?_) 
  intro g3 H3 hn3
  refine G_next (fun _ s => s.then_ext hn3.ext) ?_
  have hx3 := hx2.trans hn3.ext
  have hxa := hx1.trans hx3
  have h3 := h.ext hxa
  have s1 := hx1.size
  have s2 := hx2.size
  have s3 := hn3.size
  have b3 := hn3.blk
  have own3 := h3.own
  rw [hvr] at own3
  have hb3 : BytesAt (fun b => H.size ≤ b ∧ b < H3.size) H3 (.slice qw f.body.length cw) f.body := hb2.keep hn3.ext (fun b hb hl => ⟨fun f => f, by omega, by omega⟩)
  refine G_op 14 rfl (by kernel_rfl) rfl (W_append1 (R := fun x row => FRow (fun b => (b < H.size ∧ D b) ∨ (H.size ≤ b ∧ b < H3.size)) H3 x row) (a := f) (row := frCells f (.slice qw f.body.length cw)) (fun H' => FRow (fun b => (b < H.size ∧ D b) ∨ (H.size ≤ b ∧ b < H3.size)) H') rfl rfl (own3.imp (fun x row hx hr => ?_)) hn3.at_ rfl ⟨_, rfl, hb3.mono (fun b hb _ => .inr hb)⟩ rfl ?_ rfl (by decide) (by omega) (by decide) rfl ?_ ?_)
  · exact hr.keep (Kept.refl (fun _ => False) H3) (fun b hb hl => ⟨fun f => f, by rcases Nat.lt_or_ge b H.size with e | e; exact .inl ⟨e, hb⟩; exact .inr ⟨e, hl⟩⟩)
  · exact FRow.one (D := fun b => H.size ≤ b ∧ b < H3.size) (f := f) (H := H3) ⟨_, rfl, hb3⟩
  · intro H' g hk hg hgl x row hr
    refine hr.keep hk (fun b hb hl => ⟨fun e => ?_, hb⟩)
    rw [← hvr] at e
    have := ownlt b e
    rcases hb with ⟨_, hb⟩ | ⟨hb, _⟩
    · exact (h.dis b hb).2 e
    · omega
  intro g4 c4 H4 own4 hk4 hg4
  rw [← hvr] at hk4 hg4
  have hne := h.ne
  have g4p : g4 ≠ p := by
    rcases hg4 with e | e
    · intro e2; subst e2; exact hne e
    · omega
  obtain ⟨cs, k1, k2, k3⟩ := h3.blk
  have k4 := hk4.keep k1 hne
  refine G_next (fun _ s => Kept.trans s hk4 (fun _ e _ => e) (fun _ e _ => e)) ?_
  first | refine gA 15 (k := ?_) | refine goffA 15 (k := ?_)
  first | refine gA 16 (k := ?_) | refine goffA 16 (k := ?_)
  refine G_op 17 rfl (by kernel_rfl) rfl (W_store rfl rfl k4 rfl rfl rfl (Nat.ble_eq_true_of_le (by simp)) ?_) 
  intro H5 p5
  refine G_free (by kernel_rfl) ?_
  refine G_done (by kernel_rfl) ?_
  repeat (first | refine codeA (k := ?_) | refine condA (k := ?_) | refine offA (k := ?_) | refine pureA (k := ?_) | refine readA (k := ?_))
  have s4 := hk4.size
  have s5 := p5.size
  have hkp : Kept (Fn p vr) H H5 := by
    have a1 : Kept (Fn p vr) H H4 := Kept.trans (Kept.of_ext hxa : Kept (Fn p vr) H H3) hk4 (fun _ e _ => e) (fun _ e _ => .inr e)
    exact Kept.trans a1 p5.kept (fun _ e _ => e) (fun _ e _ => .inl e)
  refine At_ret1 rfl rfl ⟨rfl, hkp, .slice (some ⟨g4, 0, none⟩) (N.row.length + 1) c4, ?_, fun g hg => ?_⟩
  · refine ⟨⟨cs, ?_, k2, k3⟩, own4.keep p5.kept (fun g hg e => ?_) (fun x row _ hr => hr.keep p5.kept (fun b hb hl => ?_)), ?_, fun b hb => ?_⟩
    · rw [p5.at_]
      congr 2
    · simp only [Value.ownBlock, Option.some.injEq] at hg
      omega
    · rcases hb with ⟨hb, hd⟩ | ⟨hb, hd⟩
      · exact ⟨(h.dis b hd).1, .inl ⟨hb, hd⟩⟩
      · refine ⟨fun e => by omega, .inr ⟨hb, fun e => ?_⟩⟩
        simp only [Value.ownBlock, Option.some.injEq] at e
        rcases hg4 with e5 | e5
        · have := ownlt g4 e5
          omega
        · omega
    · intro e
      simp only [Value.ownBlock, Option.some.injEq] at e
      exact g4p e
    · rcases hb with ⟨hb, hd⟩ | ⟨hb, hd⟩
      · refine ⟨(h.dis b hd).1, fun e => ?_⟩
        simp only [Value.ownBlock, Option.some.injEq] at e
        rcases hg4 with e5 | e5
        · exact (h.dis b hd).2 (by rw [e5, e])
        · omega
      · exact ⟨fun e => by omega, hd⟩
  · simp only [Value.ownBlock, Option.some.injEq] at hg
    subst hg
    rcases hg4 with e5 | e5
    · exact .inl e5
    · exact .inr (by omega)
end Go.Proofs.Ytjgbbegfenmhaaa
