/- Frames. -/
import Derived.Test.YtdbmhcchgbpccaaLinkB
namespace Go.Proofs.Ytdbmhcchgbpccaa
open Go Ev
set_option linter.unusedVariables false
set_option linter.unusedSimpArgs false
attribute [local irreducible] Go.wpList Go.bodyPost Go.Code.wp Go.Exit.then Go.Exit.inBlock Go.Exit.noGoto Ev.wpAnyG Go.Oper.wp Ev.Back Ev.Left Ev.Spc Ev.At Ev.Pure Ev.Reads Ev.Runs Ev.Does Ev.Cell

/-- a frame -/
structure Fr where
  frm : Int
  to : Int
  epoch : Int
  peer : Int
  seq : Int
  ack : Int
  body : List UInt8
def frCells (f : Fr) (bv : Value) : List Value := [.int .i64 f.frm, .int .i64 f.to, .int .i64 f.epoch, .int .i64 f.peer, .int .i64 f.seq, .int .i64 f.ack, bv]
def FRow (D : Nat → Prop) (H : Heap) (f : Fr) (row : List Value) : Prop := ∃ bv, row = frCells f bv ∧ BytesAt D H bv f.body
def frOf (L : Lk) (x : Int × List UInt8) : Fr := ⟨L.me, L.peer, L.epoch, L.other, x.1, L.came, x.2⟩
def framesOf (L : Lk) : List Fr := if L.waits = [] ∧ L.owes = true then [frOf L (0, [])] else L.waits.map (frOf L)

/-- one's own row and its elements' bodies, all of them new since H -/
def OutAt (H H' : Heap) (bf : Nat) (v : Value) (fs : List Fr) : Prop :=
  OwnL H' 34 7 (FRow (fun b => H.size ≤ b ∧ b ≠ bf ∧ v.ownBlock ≠ some b) H') v fs ∧ ∀ g, v.ownBlock = some g → H.size ≤ g ∧ g ≠ bf
theorem OutAt.keep {H H1 H2 : Heap} {bf : Nat} {v : Value} {fs : List Fr} (h : OutAt H H1 bf v fs) {S : Nat → Prop} (hk : Kept S H1 H2) (hS : ∀ b, S b → b < H1.size → b < H.size ∨ b = bf) : OutAt H H2 bf v fs := by
  refine ⟨h.1.keep hk (fun g hg s => ?_) (fun x row _ hr => ?_), h.2⟩
  · obtain ⟨a1, a2⟩ := h.2 g hg
    rcases h.1.form with ⟨e, _⟩ | ⟨g', c, e, hl, _⟩
    · rw [e] at hg; cases hg
    · rw [e] at hg
      simp only [Value.ownBlock, Option.some.injEq] at hg
      subst hg
      rcases hS g' s hl with a3 | a3 <;> omega
  · obtain ⟨bv, e1, e2⟩ := hr
    refine ⟨bv, e1, e2.keep hk (fun b hb hl => ⟨fun s => ?_, hb⟩)⟩
    rcases hS b s hl with a3 | a3 <;> omega

set_option maxHeartbeats 1000000 in
theorem out_append {n : Nat} {W : World} {env : Env} {H H1 : Heap} {Q : Exit → Act → World → Prop} {K : Act → World → Prop} {dd bf b c : Nat} {v bv : Value} {fs : List Fr} {f : Fr} {x y : Operand} {ty : TypeId} {pos : String} {af : Array Edge} {gd : Option (Nat × Bool)}
    (hx : ev env x = some v) (hy : ev env y = some (.slice (some ⟨b, 0, none⟩) 1 c)) (ho : OutAt H H1 bf v fs) (hb : H1[b]? = some (.cells (frCells f bv).toArray 34 (0, 0))) (hbv : BytesAt (fun b => H.size ≤ b ∧ b ≠ bf ∧ v.ownBlock ≠ some b) H1 bv f.body) (hH : H.size ≤ H1.size) (hbf : bf < H1.size) (hl : fs.length ≤ 1000000)
    (hn : Nat.blt dd n = true)
    (k : ∀ g c' H', OutAt H H' bf (.slice (some ⟨g, 0, none⟩) (fs.length + 1) c') (fs ++ [f]) → Kept (fun k => H.size ≤ k ∧ k ≠ bf) H1 H' →
      At n W ((dd, .slice (some ⟨g, 0, none⟩) (fs.length + 1) c') :: env) H' K) :
    At n W env H1 (fun a w => Oper.wp Try.prog ⟨some dd, .call ⟨.builtin .append, #[x, y], #[29, 29]⟩, ty, pos, af, gd⟩ a w K Q) := by
  obtain ⟨rows, ho1, ho2, ho3⟩ := ho.1.rows
  refine W_append (news := frCells f bv) hx hy ho1 rfl ?_ ?_ (Nat.zero_le _) rfl (by decide) (by decide) ?_ ?_ hn ?_
  · intro j u hj
    rw [Nat.zero_add]
    exact Cell.of hb (by simpa using hj)
  · intro u hu
    simp only [frCells, List.mem_cons, List.not_mem_nil, or_false] at hu
    rcases hu with rfl | rfl | rfl | rfl | rfl | rfl | rfl
    any_goals rfl
    exact hbv.one.2
  · simp only [maxLen]; omega
  · omega
  intro g c' H' hown hk hg
  have hgn : H.size ≤ g ∧ g ≠ bf := by
    rcases hg with e | e
    · exact ho.2 g e
    · omega
  have hnew : ∀ {bw : Value} {l : List UInt8}, BytesAt (fun b => H.size ≤ b ∧ b ≠ bf ∧ v.ownBlock ≠ some b) H1 bw l → BytesAt (fun b => H.size ≤ b ∧ b ≠ bf ∧ (Value.slice (some ⟨g, 0, none⟩) (fs.length + 1) c').ownBlock ≠ some b) H' bw l := fun hw =>
    hw.keep hk (fun b hb hlt => ⟨fun e => hb.2.2 e, hb.1, hb.2.1, fun e => by
      simp only [Value.ownBlock, Option.some.injEq] at e
      subst e
      rcases hg with e | e
      · exact hb.2.2 e
      · omega⟩)
  refine k g c' H' ⟨OwnL.snoc hown ho2 (fun i x row hx hr => ?_) ⟨bv, rfl, hnew hbv⟩ rfl, fun g' hg' => ?_⟩ (hk.mono fun i e _ => ho.2 i e)
  · obtain ⟨⟨bw, e1, e2⟩, e3⟩ := ho3 i x row hx hr
    exact ⟨⟨bw, e1, hnew e2⟩, e3⟩
  · simp only [Value.ownBlock, Option.some.injEq] at hg'
    subst hg'
    exact hgn

/-- the loop over the waiting frames: after k rounds -/
structure FJ (H : Heap) (p : Nat) (vw : Value) (L : Lk) (bf k : Nat) (vo : Value) (Hk : Heap) : Prop where
  le : k ≤ L.waits.length
  out : OutAt H Hk bf vo ((L.waits.take k).map (frOf L))
  f : ∃ sq bv, Hk[bf]? = some (.cells #[.int .i64 L.me, .int .i64 L.peer, .int .i64 L.epoch, .int .i64 L.other, .int .i64 sq, .int .i64 L.came, bv] 34 (0, 0)) ∧ (k = 0 → sq = 0 ∧ bv = .slice none 0 0)
  ext : Ext H Hk
  bf : H.size ≤ bf

theorem frames_end {H H3 H4 : Heap} {p bf : Nat} {vw v : Value} {L : Lk} {fs : List Fr} (h : LinkAt H p vw L) (hx : Ext H H3) (hp : Put H3 H4 p (.cells (lkCells { L with owes := false } vw) 53 (0, 0))) (ho : OutAt H H3 bf v fs) :
    LinkAt H4 p vw { L with owes := false } ∧ Kept (· = p) H H4 ∧ OwnL H4 34 7 (FRow (fun b => H.size ≤ b ∧ v.ownBlock ≠ some b) H4) v fs ∧ ∀ g, v.ownBlock = some g → H.size ≤ g := by
  have hps := lt_of_heap h.blk
  have hk : Kept (· = p) H H4 := Kept.trans hx hp.kept (fun _ f _ => f.elim) (fun _ e _ => e)
  have ho4 := ho.keep hp.kept (fun b e _ => .inl (by omega))
  refine ⟨⟨hp.at_, h.own.keep hk (fun g hg e => h.ne (by rw [hg, e])) (fun x row _ hr => ?_), h.ne⟩, hk, ho4.1.imp (fun x row _ hr => ?_), fun g hg => (ho4.2 g hg).1⟩
  · obtain ⟨bv, e1, e2⟩ := hr
    exact ⟨bv, e1, e2.keep hk (fun b hb _ => ⟨fun e => hb (.inl e), hb⟩)⟩
  · obtain ⟨bv, e1, e2⟩ := hr
    exact ⟨bv, e1, e2.mono (fun b hb _ => ⟨hb.1, hb.2.2⟩)⟩

set_option maxHeartbeats 2000000 in
theorem frames_spec {H : Heap} {p : Nat} {vw : Value} {L : Lk} (h : LinkAt H p vw L) (hw : L.waits.length ≤ 1000) (hb : ∀ x ∈ L.waits, x.2.length ≤ 131072) :
    Spc Try.prog 9 #[.pointer (some ⟨p, 0, none⟩)] H fun v H' => LinkAt H' p vw { L with owes := false } ∧ Kept (· = p) H H' ∧ OwnL H' 34 7 (FRow (fun b => H.size ≤ b ∧ v.ownBlock ≠ some b) H') v (framesOf L) ∧ ∀ g, v.ownBlock = some g → H.size ≤ g := by
  have hbk := h.blk
  have hps := lt_of_heap hbk
  obtain ⟨q0, c0, hvw⟩ := h.vw
  refine spec_of Try.func9 rfl Try.ntmps9 rfl (fun W => ?_)
  repeat (first | refine codeA (k := ?_) | refine condA (k := ?_) | refine offA (k := ?_) | refine pureA (k := ?_) | refine readA (k := ?_))
  refine At_draw [3, 7, 11, 15, 19] (fun H' => H'[p]? = some (.cells (lkCells L vw) 53 (0, 0))) Try.mixed ?_
  first | refine gA 0 (k := ?_) | refine goffA 0 (k := ?_)
  first | refine gA 1 (k := ?_) | refine goffA 1 (k := ?_)
  first | refine gA 2 (k := ?_) | refine goffA 2 (k := ?_)
  refine grA 3 hbk (fun H' hS' => r_load rfl rfl (show Cell H' p (0 + 0) (.int .i64 L.me) from Cell.of hS' rfl)) (k := ?_)
  first | refine gA 4 (k := ?_) | refine goffA 4 (k := ?_)
  first | refine gA 5 (k := ?_) | refine goffA 5 (k := ?_)
  first | refine gA 6 (k := ?_) | refine goffA 6 (k := ?_)
  refine grA 7 hbk (fun H' hS' => r_load rfl rfl (show Cell H' p (0 + 1) (.int .i64 L.peer) from Cell.of hS' rfl)) (k := ?_)
  first | refine gA 8 (k := ?_) | refine goffA 8 (k := ?_)
  first | refine gA 9 (k := ?_) | refine goffA 9 (k := ?_)
  first | refine gA 10 (k := ?_) | refine goffA 10 (k := ?_)
  refine grA 11 hbk (fun H' hS' => r_load rfl rfl (show Cell H' p (0 + 2) (.int .i64 L.epoch) from Cell.of hS' rfl)) (k := ?_)
  first | refine gA 12 (k := ?_) | refine goffA 12 (k := ?_)
  first | refine gA 13 (k := ?_) | refine goffA 13 (k := ?_)
  first | refine gA 14 (k := ?_) | refine goffA 14 (k := ?_)
  refine grA 15 hbk (fun H' hS' => r_load rfl rfl (show Cell H' p (0 + 3) (.int .i64 L.other) from Cell.of hS' rfl)) (k := ?_)
  first | refine gA 16 (k := ?_) | refine goffA 16 (k := ?_)
  first | refine gA 17 (k := ?_) | refine goffA 17 (k := ?_)
  first | refine gA 18 (k := ?_) | refine goffA 18 (k := ?_)
  refine grA 19 hbk (fun H' hS' => r_load rfl rfl (show Cell H' p (0 + 6) (.int .i64 L.came) from Cell.of hS' rfl)) (k := ?_)
  refine gpA 20 (p_build [.int .i64 L.me, .int .i64 L.peer, .int .i64 L.epoch, .int .i64 L.other, .int .i64 0, .int .i64 L.came, .slice none 0 0] rfl rfl) (k := ?_)
  refine G_op 21 rfl (by kernel_rfl) rfl (W_alloc rfl rfl ?_) 
  intro bf H1 hn1
  refine G_next (fun _ _ => hn1.ext.keep hbk (fun f => f)) ?_
  refine G_op 22 rfl (by kernel_rfl) rfl (W_storeB rfl rfl hn1.at_ rfl rfl rfl rfl ?_) 
  intro H2 h2
  refine G_next (fun _ s => h2.kept.keep s (fun e => ?_)) ?_
  · have := hn1.blk
    omega
  refine G_done (by kernel_rfl) ?_
  have hbf := hn1.blk
  have hx2 : Ext H H2 := Kept.trans hn1.ext h2.kept (fun _ f _ => f) (fun i e hl => by omega)
  have hbk2 := hx2.keep hbk (fun f => f)
  have hs2 := hx2.size
  repeat (first | refine codeA (k := ?_) | refine condA (k := ?_) | refine offA (k := ?_) | refine pureA (k := ?_) | refine readA (k := ?_))
  refine At_read (r_load rfl rfl (show Cell H2 p (0 + 4) vw from Cell.of hbk2 rfl)) rfl rfl rfl ?_
  rw [hvw]
  repeat (first | refine codeA (k := ?_) | refine condA (k := ?_) | refine offA (k := ?_) | refine pureA (k := ?_) | refine readA (k := ?_))
  refine At_cut (fun (s : Value) => [(0, .pointer (some ⟨p, 0, none⟩)), (3, .pointer (some ⟨bf, 0, none⟩)), (4, s)]) (fun s H' => FJ H p vw L bf L.waits.length s H') ?_ ?_
  · refine At_block ?_
    refine At_loop (fun (s : Nat × Value) => [(0, .pointer (some ⟨p, 0, none⟩)), (3, .pointer (some ⟨bf, 0, none⟩)), (4, s.2), (31, .slice q0 L.waits.length c0), (32, .int .i64 L.waits.length), (33, .int .i64 s.1)])
      (fun s H' => FJ H p vw L bf s.1 s.2 H') (fun s => L.waits.length - s.1) (0, .slice none 0 0) ?_ ?_ ?_
    · (repeat (first | exact Sub.nil | refine Sub.cons rfl ?_))
    · refine ⟨Nat.zero_le _, ⟨OwnL.nil _ _ _ _, fun g e => by cases e⟩, ⟨0, .slice none 0 0, h2.at_, fun _ => ⟨rfl, rfl⟩⟩, hx2, by omega⟩
    rintro ⟨k, vo⟩ H3 ⟨hle, hout, ⟨sq, bv, hf, hz⟩, hx3, hbf3⟩
    dsimp only at hle hout hz
    by_cases hk : k < L.waits.length
    · have hx : L.waits[k]? = some L.waits[k] := by simp [hk]
      generalize hwk : L.waits[k] = x at hx
      obtain ⟨sk, lk⟩ := x
      have hlen : lk.length ≤ 131072 := hb (sk, lk) (List.mem_of_getElem? hx)
      obtain ⟨g, cg, hg1, hg2, hg3⟩ : ∃ g cg, vw = .slice (some ⟨g, 0, none⟩) L.waits.length cg ∧ g < H.size ∧ g ≠ p := by
        rcases h.own.form with ⟨e1, e2⟩ | ⟨g, cg, e1, e2, _⟩
        · rw [e2] at hk; simp at hk
        · refine ⟨g, cg, e1, e2, fun e => h.ne ?_⟩
          rw [e1, e]; rfl
      have hown := h.own
      rw [hg1] at hown
      obtain ⟨row, ⟨bw, e1, e2⟩, e3, e4⟩ := hown.cells hx
      subst e1
      obtain ⟨qb, cb, rfl⟩ := e2.form
      have hq : q0 = some ⟨g, 0, none⟩ ∧ c0 = cg := by
        rw [hvw] at hg1
        simp only [Value.slice.injEq, true_and] at hg1
        exact hg1
      obtain ⟨rfl, rfl⟩ := hq
      repeat (first | refine codeA (k := ?_) | refine condA (k := ?_) | refine offA (k := ?_) | refine pureA (k := ?_) | refine readA (k := ?_) | refine At_block ?_)
      refine At_read (r_loadN (cs := [.int .i64 sk, .slice qb lk.length cb]) rfl rfl rfl (fun j u hj => ?_)) rfl rfl rfl ?_
      · rw [Nat.zero_add]
        exact (e4 j u hj).keep hx3 (fun f => f)
      refine At_wp (W_alloc rfl rfl ?_) rfl
      intro bw H4 hn4
      refine At_wp (W_storeB rfl rfl hn4.at_ rfl rfl rfl rfl ?_) rfl
      intro H5 h5
      have hb4 := hn4.blk
      have hs4 := hn4.size
      have hs5 := h5.size
      have hs3 := hx3.size
      have hbw := lt_of_heap hf
      have hx5 : Ext H3 H5 := Kept.trans hn4.ext h5.kept (fun _ f _ => f) (fun i e hl => by omega)
      have e5 : BytesAt (fun b => b < H.size) H5 (.slice qb lk.length cb) lk := e2.keep (hx3.trans hx5) (fun b _ hl => ⟨fun f => f, hl⟩)
      repeat (first | refine codeA (k := ?_) | refine condA (k := ?_) | refine offA (k := ?_) | refine pureA (k := ?_) | refine readA (k := ?_))
      refine At_draw [1, 3] (fun H' => H'[bw]? = some (.cells #[.int .i64 sk, .slice qb lk.length cb] 55 (0, 0))) Try.mixed ?_
      first | refine gA 0 (k := ?_) | refine goffA 0 (k := ?_)
      refine grA 1 h5.at_ (fun H' hS' => r_load rfl rfl (show Cell H' bw (0 + 0) (.int .i64 sk) from Cell.of hS' rfl)) (k := ?_)
      first | refine gA 2 (k := ?_) | refine goffA 2 (k := ?_)
      refine grA 3 h5.at_ (fun H' hS' => r_load rfl rfl (show Cell H' bw (0 + 1) (.slice qb lk.length cb) from Cell.of hS' rfl)) (k := ?_)
      first | refine gA 5 (k := ?_) | refine goffA 5 (k := ?_)
      refine G_op 4 rfl (by kernel_rfl) rfl (W_call rfl rfl (clone_spec e5 (by omega)) rfl rfl ?_) 
      rintro vb H6 ⟨hx6, hb6⟩
      refine G_next (fun _ s => hx6.keep s (fun f => f)) ?_
      have hf6 := (hx5.trans hx6).keep hf (fun f => f)
      have hs6 := hx6.size
      obtain ⟨qv, cv, rfl⟩ := hb6.form
      refine G_op 6 rfl (by kernel_rfl) rfl (W_store rfl rfl hf6 rfl rfl rfl rfl ?_) 
      intro H7 h7
      refine G_next (fun _ s => h7.kept.keep s (fun e => by omega)) ?_
      first | refine gA 7 (k := ?_) | refine goffA 7 (k := ?_)
      refine G_op 8 rfl (by kernel_rfl) rfl (W_store rfl rfl h7.at_ rfl rfl rfl rfl ?_) 
      intro H8 h8
      refine G_next (fun _ s => h8.kept.keep s (fun e => by omega)) ?_
      refine G_done (by kernel_rfl) ?_
      have hs7 := h7.size
      have hs8 := h8.size
      have hk8 : Kept (· = bf) H3 H8 := by
        have a1 : Kept (· = bf) H3 H7 := Kept.trans (hx5.trans hx6) h7.kept (fun _ f _ => f.elim) (fun i e _ => e)
        exact Kept.trans a1 h8.kept (fun _ e _ => e) (fun _ e _ => e)
      have ho8 : OutAt H H8 bf vo ((L.waits.take k).map (frOf L)) := hout.keep hk8 (fun b e _ => .inr e)
      have hb8 : BytesAt (fun b => H5.size ≤ b ∧ b < H6.size) H8 (.slice qv lk.length cv) lk := by
        have a1 := hb6.keep h7.kept (fun b hb hl => ⟨fun e => by omega, (⟨hb, hl⟩ : H5.size ≤ b ∧ b < H6.size)⟩)
        exact a1.keep h8.kept (fun b hb hl => ⟨fun e => by omega, hb⟩)
      have hf8 := h8.at_
      repeat (first | refine codeA (k := ?_) | refine condA (k := ?_) | refine offA (k := ?_) | refine pureA (k := ?_) | refine readA (k := ?_))
      refine At_read (r_loadB rfl hf8 rfl rfl) rfl rfl rfl ?_
      refine At_wp (W_buildSlice1 rfl rfl rfl (by decide) rfl ?_) rfl
      intro bs H9 hn9
      have hs9 := hn9.size
      have hb9 := hn9.blk
      have hf9 := hn9.ext.keep hf8 (fun f => f)
      have hlt : ((L.waits.take k).map (frOf L)).length = k := by simp; omega
      have hob : ∀ b, vo.ownBlock = some b → b < H3.size := fun b e => by
        rcases hout.1.form with ⟨e1, _⟩ | ⟨g', c', e1, e2, _⟩
        · rw [e1] at e; cases e
        · rw [e1] at e
          simp only [Value.ownBlock, Option.some.injEq] at e
          omega
      refine At_wp (out_append (H := H) (fs := (L.waits.take k).map (frOf L)) (f := frOf L (sk, lk)) rfl rfl (ho8.keep hn9.ext (fun _ f _ => f.elim)) hn9.at_ (hb8.keep hn9.ext (fun b hb _ => ⟨fun f => f, ?_⟩)) ?_ ?_ ?_ rfl ?_) rfl
      · refine ⟨by omega, by omega, fun e => ?_⟩
        have := hob b e
        omega
      · omega
      · omega
      · omega
      intro go co H10 hout10 hk10
      rw [hlt] at hout10 ⊢
      repeat (first | refine codeA (k := ?_) | refine condA (k := ?_) | refine offA (k := ?_) | refine pureA (k := ?_) | refine readA (k := ?_))
      have hs10 := hk10.size
      refine At_back (k + 1, .slice (some ⟨go, 0, none⟩) (k + 1) co) ?_ ⟨by omega, ?_, ?_, ?_, hbf3⟩ (by show L.waits.length - (k + 1) < L.waits.length - k; omega)
      · (repeat (first | exact Sub.nil | refine Sub.cons rfl ?_))
      · have e : (L.waits.take (k + 1)).map (frOf L) = (L.waits.take k).map (frOf L) ++ [frOf L (sk, lk)] := by
          rw [List.take_add_one, hx]; simp
        show OutAt H H10 bf (.slice (some ⟨go, 0, none⟩) (k + 1) co) ((L.waits.take (k + 1)).map (frOf L))
        rw [e]
        exact hout10
      · refine ⟨sk, .slice qv lk.length cv, hk10.keep hf9 (fun e => e.2 rfl), fun e => ?_⟩
        exact absurd e (Nat.succ_ne_zero k)
      · have a1 : Ext H H8 := Kept.trans hx3 hk8 (fun _ f _ => f) (fun i e hl => by omega)
        exact Kept.trans (a1.trans hn9.ext) hk10 (fun _ f _ => f) (fun i e hl => by omega)
    · obtain rfl : k = L.waits.length := by omega
      repeat (first | refine codeA (k := ?_) | refine condA (k := ?_) | refine offA (k := ?_) | refine pureA (k := ?_) | refine readA (k := ?_))
      refine At_meet vo ?_ ⟨hle, hout, ⟨sq, bv, hf, hz⟩, hx3, hbf3⟩
      (repeat (first | exact Sub.nil | refine Sub.cons rfl ?_))
  · rintro vo H3 ⟨hle, hout, ⟨sq, bv, hf, hz⟩, hx3, hbf3⟩
    have hbk3 := hx3.keep hbk (fun f => f)
    rw [List.take_length] at hout
    have hfr : ¬ (L.waits = [] ∧ L.owes = true) → framesOf L = L.waits.map (frOf L) := fun c => by unfold framesOf; rw [if_neg c]
    repeat (first | refine codeA (k := ?_) | refine condA (k := ?_) | refine offA (k := ?_) | refine pureA (k := ?_) | refine readA (k := ?_))
    refine At_read (r_load rfl rfl (show Cell H3 p (0 + 4) vw from Cell.of hbk3 rfl)) rfl rfl rfl ?_
    rw [hvw]
    by_cases hl0 : L.waits.length = 0
    · have hwn : L.waits = [] := List.eq_nil_of_length_eq_zero hl0
      repeat (first | refine codeA (k := ?_) | refine condA (k := ?_) | refine offA (k := ?_) | refine pureA (k := ?_) | refine readA (k := ?_))
      refine At_read (r_load rfl rfl (show Cell H3 p (0 + 7) (.bool L.owes) from Cell.of hbk3 rfl)) rfl rfl rfl ?_
      cases ho : L.owes
      · repeat (first | refine codeA (k := ?_) | refine condA (k := ?_) | refine offA (k := ?_) | refine pureA (k := ?_) | refine readA (k := ?_))
        rw [← hvw] at *
        refine At_wp (W_store rfl rfl hbk3 rfl rfl rfl rfl ?_) rfl
        intro H4 h4
        repeat (first | refine codeA (k := ?_) | refine condA (k := ?_) | refine offA (k := ?_) | refine pureA (k := ?_) | refine readA (k := ?_))
        refine At_ret1 rfl rfl ?_
        rw [hfr (by simp [ho])]
        exact frames_end h hx3 h4 hout
      · obtain ⟨rfl, rfl⟩ := hz hl0
        rw [hwn] at hout
        have hf3 : H3[bf]? = some (.cells (frCells (frOf L (0, [])) (.slice none 0 0)).toArray 34 (0, 0)) := hf
        repeat (first | refine codeA (k := ?_) | refine condA (k := ?_) | refine offA (k := ?_) | refine pureA (k := ?_) | refine readA (k := ?_))
        refine At_read (r_loadB rfl hf rfl rfl) rfl rfl rfl ?_
        refine At_wp (W_buildSlice1 rfl rfl rfl (by decide) rfl ?_) rfl
        intro bs H4 hn4
        have hs4 := hn4.size
        have hs3 := hx3.size
        have hb3 := lt_of_heap hf
        refine At_wp (out_append (H := H) (fs := []) (f := frOf L (0, [])) rfl rfl (hout.keep hn4.ext (fun _ f _ => f.elim)) hn4.at_ (BytesAt.nil _ _) (by omega) (by omega) (by simp) rfl ?_) rfl
        intro go co H5 hout5 hk5
        have hx5 : Ext H H5 := Kept.trans (hx3.trans hn4.ext) hk5 (fun _ f _ => f) (fun i e hl => by omega)
        have hbk5 := hx5.keep hbk (fun f => f)
        rw [← hvw] at *
        repeat (first | refine codeA (k := ?_) | refine condA (k := ?_) | refine offA (k := ?_) | refine pureA (k := ?_) | refine readA (k := ?_))
        refine At_wp (W_store rfl rfl hbk5 rfl rfl rfl rfl ?_) rfl
        intro H6 h6
        repeat (first | refine codeA (k := ?_) | refine condA (k := ?_) | refine offA (k := ?_) | refine pureA (k := ?_) | refine readA (k := ?_))
        refine At_ret1 rfl rfl ?_
        have e : framesOf L = [] ++ [frOf L (0, [])] := by unfold framesOf; rw [if_pos ⟨hwn, ho⟩]; rfl
        rw [e]
        exact frames_end h hx5 h6 hout5
    · have hl1 : ¬ ((L.waits.length : Int) = 0) := by omega
      repeat (first | refine codeA (k := ?_) | refine condA (k := ?_) | refine offA (k := ?_) | refine pureA (k := ?_) | refine readA (k := ?_))
      rw [← hvw] at *
      refine At_wp (W_store rfl rfl hbk3 rfl rfl rfl rfl ?_) rfl
      intro H4 h4
      repeat (first | refine codeA (k := ?_) | refine condA (k := ?_) | refine offA (k := ?_) | refine pureA (k := ?_) | refine readA (k := ?_))
      refine At_ret1 rfl rfl ?_
      rw [hfr (fun c => hl0 (by rw [c.1]; rfl))]
      exact frames_end h hx3 h4 hout
end Go.Proofs.Ytdbmhcchgbpccaa
