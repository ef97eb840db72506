/- Frames compared; 'wakes'. -/
import Derived.Test.YtdbmhcchgbpccaaLinkC
namespace Go.Proofs.Ytdbmhcchgbpccaa
open Go Ev
set_option linter.unusedVariables false
set_option linter.unusedSimpArgs false
attribute [local irreducible] Go.wpList Go.bodyPost Go.Code.wp Go.Exit.then Go.Exit.inBlock Go.Exit.noGoto Ev.wpAnyG Go.Oper.wp Ev.Back Ev.Left Ev.Spc Ev.At Ev.Pure Ev.Reads Ev.Runs Ev.Does Ev.Cell

set_option maxHeartbeats 1000000 in
theorem frame_eq {D D' : Nat → Prop} {H : Heap} {f : Fr} {bv bv' : Value} (h1 : BytesAt D H bv f.body) (h2 : BytesAt D' H bv' f.body) :
    Spc Try.prog 22 #[.agg (frCells f bv).toArray, .agg (frCells f bv').toArray] H fun r H' => Ext H H' ∧ r = .bool true := by
  obtain ⟨q, c, rfl⟩ := h1.form
  obtain ⟨q', c', rfl⟩ := h2.form
  refine spec_of Try.func22 rfl Try.ntmps22 rfl (fun W => ?_)
  repeat (first | refine codeA (k := ?_) | refine condA (k := ?_) | refine offA (k := ?_) | refine pureA (k := ?_) | refine readA (k := ?_))
  refine At_wp (W_box (cs := #[.int .i64 f.frm, .int .i64 f.to, .int .i64 f.epoch, .int .i64 f.peer, .int .i64 f.seq, .int .i64 f.ack, .slice q f.body.length c]) rfl rfl rfl ?_) rfl
  intro b1 H1 hn1
  refine At_wp (W_box (cs := #[.int .i64 f.frm, .int .i64 f.to, .int .i64 f.epoch, .int .i64 f.peer, .int .i64 f.seq, .int .i64 f.ack, .slice q' f.body.length c']) rfl rfl rfl ?_) rfl
  intro b2 H2 hn2
  have hx := hn1.ext.trans hn2.ext
  have ha := hn2.ext.keep hn1.at_ (fun f => f)
  have hb := hn2.at_
  have c0 : Cell H2 b1 (0 + 0) (.int .i64 f.frm) := Cell.of ha rfl
  have c1 : Cell H2 b1 (0 + 1) (.int .i64 f.to) := Cell.of ha rfl
  have c2 : Cell H2 b1 (0 + 2) (.int .i64 f.epoch) := Cell.of ha rfl
  have c3 : Cell H2 b1 (0 + 3) (.int .i64 f.peer) := Cell.of ha rfl
  have c4 : Cell H2 b1 (0 + 4) (.int .i64 f.seq) := Cell.of ha rfl
  have c5 : Cell H2 b1 (0 + 5) (.int .i64 f.ack) := Cell.of ha rfl
  have c6 : Cell H2 b1 (0 + 6) (.slice q f.body.length c) := Cell.of ha rfl
  have d0 : Cell H2 b2 (0 + 0) (.int .i64 f.frm) := Cell.of hb rfl
  have d1 : Cell H2 b2 (0 + 1) (.int .i64 f.to) := Cell.of hb rfl
  have d2 : Cell H2 b2 (0 + 2) (.int .i64 f.epoch) := Cell.of hb rfl
  have d3 : Cell H2 b2 (0 + 3) (.int .i64 f.peer) := Cell.of hb rfl
  have d4 : Cell H2 b2 (0 + 4) (.int .i64 f.seq) := Cell.of hb rfl
  have d5 : Cell H2 b2 (0 + 5) (.int .i64 f.ack) := Cell.of hb rfl
  have d6 : Cell H2 b2 (0 + 6) (.slice q' f.body.length c') := Cell.of hb rfl
  have e1 := h1.keep hx (fun b hb _ => ⟨fun f => f, hb⟩)
  have e2 := h2.keep hx (fun b hb _ => ⟨fun f => f, hb⟩)
  repeat (first | refine codeA (k := ?_) | refine condA (k := ?_) | refine offA (k := ?_) | refine pureA (k := ?_) | refine readA (k := ?_))
  refine At_wp (W_call rfl rfl (bytes_spec e1 e2) rfl rfl ?_) rfl
  rintro _ _ ⟨rfl, rfl⟩
  rw [decide_eq_true (rfl : f.body = f.body)]
  repeat (first | refine codeA (k := ?_) | refine condA (k := ?_) | refine offA (k := ?_) | refine pureA (k := ?_) | refine readA (k := ?_))
  exact At_ret1 rfl rfl ⟨hx, rfl⟩

set_option maxHeartbeats 1000000 in
theorem hkframes_eq {D D' : Nat → Prop} {H : Heap} {fs : List Fr} {v v' : Value} (h1 : OwnL H 34 7 (FRow D H) v fs) (h2 : OwnL H 34 7 (FRow D' H) v' fs) :
    Spc Try.prog 11 #[v, v'] H fun r H' => Ext H H' ∧ r = .bool true := by
  have hlen := h1.len_le
  simp only [maxLen] at hlen
  obtain ⟨q, c, hv⟩ : ∃ q c, v = .slice q fs.length c := by
    rcases h1.form with ⟨e1, e2⟩ | ⟨g, c, e1, _⟩
    · exact ⟨none, 0, by rw [e1, e2]; rfl⟩
    · exact ⟨_, _, e1⟩
  obtain ⟨q', c', hv'⟩ : ∃ q c, v' = .slice q fs.length c := by
    rcases h2.form with ⟨e1, e2⟩ | ⟨g, c, e1, _⟩
    · exact ⟨none, 0, by rw [e1, e2]; rfl⟩
    · exact ⟨_, _, e1⟩
  subst hv
  subst hv'
  refine spec_of Try.func11 rfl Try.ntmps11 rfl (fun W => ?_)
  repeat (first | refine codeA (k := ?_) | refine condA (k := ?_) | refine offA (k := ?_) | refine pureA (k := ?_) | refine readA (k := ?_) | refine At_block ?_)
  refine At_loop (fun (s : Nat) => [(0, .slice q fs.length c), (1, .slice q' fs.length c'), (5, .int .i64 s)]) (fun s H' => s ≤ fs.length ∧ Ext H H') (fun s => fs.length - s) 0 ?_ ⟨Nat.zero_le _, Kept.refl _ _⟩ ?_
  · (repeat (first | exact Sub.nil | refine Sub.cons rfl ?_))
  rintro k H1 ⟨hle, hx1⟩
  by_cases hk : k < fs.length
  · have hx : fs[k]? = some fs[k] := by simp [hk]
    generalize fs[k] = f at hx
    obtain ⟨g, rfl⟩ : ∃ g, q = some ⟨g, 0, none⟩ := by
      rcases h1.form with ⟨e1, e2⟩ | ⟨g, c, e1, _⟩
      · rw [e2] at hk; simp at hk
      · simp only [Value.slice.injEq] at e1
        exact ⟨g, e1.1⟩
    obtain ⟨g', rfl⟩ : ∃ g, q' = some ⟨g, 0, none⟩ := by
      rcases h2.form with ⟨e1, e2⟩ | ⟨g, c, e1, _⟩
      · rw [e2] at hk; simp at hk
      · simp only [Value.slice.injEq] at e1
        exact ⟨g, e1.1⟩
    obtain ⟨row, ⟨bv, e1, e2⟩, e3, e4⟩ := h1.cells hx
    obtain ⟨row', ⟨bv', e1', e2'⟩, e3', e4'⟩ := h2.cells hx
    subst e1
    subst e1'
    obtain ⟨p, pc, rfl⟩ := e2.form
    obtain ⟨p', pc', rfl⟩ := e2'.form
    repeat (first | refine codeA (k := ?_) | refine condA (k := ?_) | refine offA (k := ?_) | refine pureA (k := ?_) | refine readA (k := ?_) | refine At_block ?_)
    refine At_draw [3, 7] (fun H' => Ext H H') Try.mixed ?_
    first | refine gA 0 (k := ?_) | refine goffA 0 (k := ?_)
    first | refine gA 1 (k := ?_) | refine goffA 1 (k := ?_)
    first | refine gA 2 (k := ?_) | refine goffA 2 (k := ?_)
    refine grA 3 hx1 (fun H' hS' => r_loadN (b := g) (o := 0 + k * 7) (cs := frCells f (.slice p f.body.length pc)) rfl rfl rfl (fun j u hj => by rw [Nat.zero_add]; exact (e4 j u hj).keep hS' (fun f => f))) (k := ?_)
    first | refine gA 4 (k := ?_) | refine goffA 4 (k := ?_)
    first | refine gA 5 (k := ?_) | refine goffA 5 (k := ?_)
    first | refine gA 6 (k := ?_) | refine goffA 6 (k := ?_)
    refine grA 7 hx1 (fun H' hS' => r_loadN (b := g') (o := 0 + k * 7) (cs := frCells f (.slice p' f.body.length pc')) rfl rfl rfl (fun j u hj => by rw [Nat.zero_add]; exact (e4' j u hj).keep hS' (fun f => f))) (k := ?_)
    refine G_op 8 rfl (by kernel_rfl) rfl (W_call rfl rfl (frame_eq (e2.keep hx1 (fun b hb _ => ⟨fun f => f, hb⟩)) (e2'.keep hx1 (fun b hb _ => ⟨fun f => f, hb⟩))) rfl rfl ?_) 
    rintro _ H2 ⟨hx2, rfl⟩
    refine G_next (fun _ s => s.trans hx2) ?_
    first | refine gA 9 (k := ?_) | refine goffA 9 (k := ?_)
    refine G_done (by kernel_rfl) ?_
    repeat (first | refine codeA (k := ?_) | refine condA (k := ?_) | refine offA (k := ?_) | refine pureA (k := ?_) | refine readA (k := ?_))
    refine At_back (k + 1) ?_ ⟨by omega, hx1.trans hx2⟩ (by omega)
    (repeat (first | exact Sub.nil | refine Sub.cons rfl ?_))
  · obtain rfl : k = fs.length := by omega
    repeat (first | refine codeA (k := ?_) | refine condA (k := ?_) | refine offA (k := ?_) | refine pureA (k := ?_) | refine readA (k := ?_))
    exact At_ret1 rfl rfl ⟨hx1, rfl⟩

theorem new_link {H H' : Heap} {b : Nat} {me peer ep : Int} (hn : New H H' b (.cells #[.int .i64 me, .int .i64 peer, .int .i64 ep, .int .i64 0, .slice none 0 0, .int .i64 0, .int .i64 0, .bool false] 53)) :
    LinkAt H' b (.slice none 0 0) ⟨me, peer, ep, 0, [], 0, 0, false⟩ := ⟨hn.at_, OwnL.nil _ _ _ _, fun e => by cases e⟩

set_option maxHeartbeats 1000000 in
theorem wakes_spec (H : Heap) : Spc Try.prog 13 #[] H fun r H' => Ext H H' ∧ r = .bool true := by
  refine spec_of Try.func13 rfl Try.ntmps13 rfl (fun W => ?_)
  repeat (first | refine codeA (k := ?_) | refine condA (k := ?_) | refine offA (k := ?_) | refine pureA (k := ?_) | refine readA (k := ?_))
  refine At_wp (W_call rfl rfl (new_ok 0 1 1 H (by decide) (by decide) (by decide)) rfl rfl ?_) rfl
  rintro _ H1 ⟨b, rfl, hn⟩
  have hl := new_link hn
  repeat (first | refine codeA (k := ?_) | refine condA (k := ?_) | refine offA (k := ?_) | refine pureA (k := ?_) | refine readA (k := ?_))
  refine At_wp (W_buildSlice1 rfl rfl rfl (by decide) rfl ?_) rfl
  intro b2 H2 hn2
  refine At_wp (W_convertBytes rfl hn2.at_ rfl ?_) rfl
  intro H3 h3
  have hb1 := hn.blk
  have hs1 := hn.size
  have hb2 := hn2.blk
  have hs2 := hn2.size
  have hs3 := h3.size
  have hx2 : Kept (· = b2) H1 H3 := Kept.trans hn2.ext h3.kept (fun _ f _ => f.elim) (fun _ e _ => e)
  have hl3 : LinkAt H3 b (.slice none 0 0) ⟨0, 1, 1, 0, [], 0, 0, false⟩ := hl.keep hx2 (fun i hi e => by omega)
  have hby : BytesAt (fun i => i ≠ b) H3 (.slice (some ⟨b2, 0, none⟩) 1 1) [97] := BytesAt.mk (l := [97]) (Nat.le_refl _) (by simp [maxLen]) (by omega) (fun i x hx => by
    match i, hx with
    | 0, hx =>
      simp only [List.getElem?_cons_zero, Option.some.injEq] at hx
      subst hx
      exact Cell.of h3.at_ rfl)
  refine At_wp (W_call rfl rfl (send_ok hl3 hby (by decide) (by decide) (by decide)) rfl rfl ?_) rfl
  rintro _ H4 ⟨rfl, hk4, vw, hl4, _⟩
  repeat (first | refine codeA (k := ?_) | refine condA (k := ?_) | refine offA (k := ?_) | refine pureA (k := ?_) | refine readA (k := ?_))
  refine At_wp (W_call rfl rfl (waiting_spec hl4) rfl rfl ?_) rfl
  rintro _ _ ⟨rfl, rfl⟩
  have e1 : (((sentL ⟨0, 1, 1, 0, [], 0, 0, false⟩ [97]).waits.length : Nat) : Int) = 1 := rfl
  rw [e1]
  repeat (first | refine codeA (k := ?_) | refine condA (k := ?_) | refine offA (k := ?_) | refine pureA (k := ?_) | refine readA (k := ?_))
  refine At_wp (W_call rfl rfl (peer_spec hl4) rfl rfl ?_) rfl
  rintro _ _ ⟨rfl, rfl⟩
  have e2 : (sentL ⟨0, 1, 1, 0, [], 0, 0, false⟩ [97]).other = 0 := rfl
  rw [e2]
  repeat (first | refine codeA (k := ?_) | refine condA (k := ?_) | refine offA (k := ?_) | refine pureA (k := ?_) | refine readA (k := ?_))
  refine At_ret1 rfl rfl ⟨?_, rfl⟩
  have a1 : Kept (fun i => i = b2) H H3 := Kept.trans hn.ext hx2 (fun _ f _ => f.elim) (fun _ e _ => e)
  refine Kept.trans a1 hk4 (fun i e hi => by omega) (fun i e hi => ?_)
  rcases e with e | e
  · omega
  · cases e
end Go.Proofs.Ytdbmhcchgbpccaa
