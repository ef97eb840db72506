/- Parts of memory told by tags; the acts of a link as steps of one part. -/
import Derived.Test.YtdbmhcchgbpccaaLinkG
namespace Go.Proofs.Ytdbmhcchgbpccaa
open Go Ev
set_option linter.unusedVariables false
set_option linter.unusedSimpArgs false
attribute [local irreducible] Go.wpList Go.bodyPost Go.Code.wp Go.Exit.then Go.Exit.inBlock Go.Exit.noGoto Ev.wpAnyG Go.Oper.wp Ev.Back Ev.Left Ev.Spc Ev.At Ev.Pure Ev.Reads Ev.Runs Ev.Does Ev.Cell

def NuD (D : Nat → Prop) (H : Heap) (v : Value) (b : Nat) : Prop := (D b ∧ b < H.size) ∨ (H.size ≤ b ∧ v.ownBlock ≠ some b)
set_option maxHeartbeats 1000000 in
theorem send_okD {D : Nat → Prop} {H : Heap} {p : Nat} {vw v : Value} {L : Lk} {l : List UInt8} (h : LinkD D H p vw L) (hb : BytesAt (fun b => b ≠ p) H v l) (hl : l.length ≤ 131072) (hw : L.waits.length < 4) (hs : -1000000000000 ≤ L.sent ∧ L.sent ≤ 1000000000000) :
    Spc Try.prog 8 #[.pointer (some ⟨p, 0, none⟩), v] H fun r H' => r = .int .i64 0 ∧ Kept (Ft p vw) H H' ∧
      ∃ vw', LinkD (NuD D H vw') H' p vw' (sentL L l) ∧ ∀ g, vw'.ownBlock = some g → vw.ownBlock = some g ∨ H.size ≤ g := by
  obtain ⟨rows, ho1, ho2, ho3⟩ := h.own.rows
  have hdis := h.dis
  obtain ⟨q, c, rfl⟩ := h.lnk.vw
  obtain ⟨q2, c2, rfl⟩ := hb.form
  have hbk := h.blk
  have hps := lt_of_heap hbk
  have hne := h.ne
  refine spec_of Try.func8 rfl Try.ntmps8 rfl (fun W => ?_)
  repeat (first | refine codeA (k := ?_) | refine condA (k := ?_) | refine offA (k := ?_) | refine pureA (k := ?_) | refine readA (k := ?_))
  refine At_read (r_load rfl rfl (Cell.of hbk rfl)) rfl rfl rfl ?_
  repeat (first | refine codeA (k := ?_) | refine condA (k := ?_) | refine offA (k := ?_) | refine pureA (k := ?_) | refine readA (k := ?_))
  refine At_read (r_load rfl rfl (Cell.of hbk rfl)) rfl rfl rfl ?_
  repeat (first | refine codeA (k := ?_) | refine condA (k := ?_) | refine offA (k := ?_) | refine pureA (k := ?_) | refine readA (k := ?_))
  refine At_wp (W_store rfl rfl hbk rfl rfl rfl rfl ?_) rfl
  intro H1 h1
  have hk1 := h1.kept
  have hp1 := h1.at_
  have hsz1 := h1.size
  have hb1 : BytesAt (fun b => b ≠ p) H1 (.slice q2 l.length c2) l := hb.keep hk1 (fun b hb _ => ⟨hb, hb⟩)
  have ho1' : Own H1 0 55 2 (.slice q L.waits.length c) L.waits.length rows.flatten := ho1.keep hk1 (fun g hg e => hne (by rw [hg, e]))
  repeat (first | refine codeA (k := ?_) | refine condA (k := ?_) | refine offA (k := ?_) | refine pureA (k := ?_) | refine readA (k := ?_))
  refine At_draw [4, 8] (fun H' => H'[p]? = some (.cells (lkCells { L with sent := L.sent + 1 } (.slice q L.waits.length c)) 53 (0, 0))) Try.mixed ?_
  first | refine gA 0 (k := ?_) | refine goffA 0 (k := ?_)
  first | refine gA 1 (k := ?_) | refine goffA 1 (k := ?_)
  first | refine gA 2 (k := ?_) | refine goffA 2 (k := ?_)
  first | refine gA 3 (k := ?_) | refine goffA 3 (k := ?_)
  refine grA 4 hp1 (fun H' hS' => r_load rfl rfl (show Cell H' p (0 + 4) (.slice q L.waits.length c) from Cell.of hS' rfl)) (k := ?_)
  first | refine gA 5 (k := ?_) | refine goffA 5 (k := ?_)
  first | refine gA 6 (k := ?_) | refine goffA 6 (k := ?_)
  first | refine gA 7 (k := ?_) | refine goffA 7 (k := ?_)
  refine grA 8 hp1 (fun H' hS' => r_load rfl rfl (show Cell H' p (0 + 5) (.int .i64 (L.sent + 1)) from Cell.of hS' rfl)) (k := ?_)
  first | refine gA 9 (k := ?_) | refine goffA 9 (k := ?_)
  refine G_op 10 rfl (by kernel_rfl) rfl (W_call rfl rfl (clone_spec hb1 (by omega)) rfl rfl ?_) 
  rintro vb H2 ⟨hk2, hb2⟩
  have hp2 := hk2.keep hp1 (fun f => f)
  have ho2' := ho1'.keep hk2 (fun g hg f => f)
  have hsz2 := hk2.size
  obtain ⟨q3, c3, rfl⟩ := hb2.form
  refine G_next (fun _ _ => hp2) ?_
  refine gpA 11 (p_build [.int .i64 (L.sent + 1), .slice q3 l.length c3] rfl rfl) (k := ?_)
  refine G_op 12 rfl (by kernel_rfl) rfl (W_buildSlice1 rfl rfl rfl (by decide) rfl ?_) 
  intro g3 H3 hn3
  have hk3 := hn3.ext
  have hp3 := hk3.keep hp2 (fun f => f)
  have ho3' := ho2'.keep hk3 (fun g hg f => f)
  have hb3 := hb2.keep hk3 (fun b hb hlt => ⟨fun f => f, (⟨hb, hlt⟩ : H1.size ≤ b ∧ b < H2.size)⟩)
  have hsz3 := hn3.size
  have hg3 := hn3.blk
  refine G_next (fun _ _ => hp3) ?_
  refine G_op 13 rfl (by kernel_rfl) rfl (W_append (news := [.int .i64 (L.sent + 1), .slice q3 l.length c3]) rfl rfl ho3' rfl ?_ ?_ (Nat.zero_le _) rfl (by decide) (by decide) ?_ ?_ rfl ?_)
  · intro j u hj
    rw [Nat.zero_add]
    exact Cell.of hn3.at_ (by simpa [Value.cells] using hj)
  · intro u hu
    simp only [List.mem_cons, List.not_mem_nil, or_false] at hu
    rcases hu with rfl | rfl <;> rfl
  · simp only [maxLen]; omega
  · omega
  intro g4 c4 H4 hown4 hk4 hg4
  have hp4 := hk4.keep hp3 hne
  have hsz4 := hk4.size
  refine G_next (fun _ _ => hp4) ?_
  first | refine gA 14 (k := ?_) | refine goffA 14 (k := ?_)
  first | refine gA 15 (k := ?_) | refine goffA 15 (k := ?_)
  refine G_op 16 rfl (by kernel_rfl) rfl (W_store rfl rfl hp4 rfl rfl rfl rfl ?_) 
  intro H5 h5
  refine G_free (by kernel_rfl) ?_
  refine G_done (by kernel_rfl) ?_
  repeat (first | refine codeA (k := ?_) | refine condA (k := ?_) | refine offA (k := ?_) | refine pureA (k := ?_) | refine readA (k := ?_))
  have hk5 := h5.kept
  have hg4p : g4 ≠ p := by
    rcases hg4 with e | e
    · intro e2; subst e2; exact hne e
    · omega
  have hglt : ∀ g, (Value.slice q L.waits.length c).ownBlock = some g → g < H.size := fun g hg => (ho1.lt hg).2
  refine At_ret1 rfl rfl ⟨rfl, ?_, .slice (some ⟨g4, 0, none⟩) (L.waits.length + 1) c4, ⟨?_, ?_, ?_, ?_⟩, ?_⟩
  · have a1 : Kept (Ft p (.slice q L.waits.length c)) H H1 := hk1.mono (fun i e _ => .inl e)
    have a2 : Kept (Ft p (.slice q L.waits.length c)) H H3 := a1.then_ext (hk2.trans hk3)
    have a3 : Kept (Ft p (.slice q L.waits.length c)) H H4 := Kept.trans a2 hk4 (fun i s _ => s) (fun i s _ => .inr s)
    exact Kept.trans a3 hk5 (fun i s _ => s) (fun i s _ => .inl s)
  · exact h5.at_
  · refine OwnL.snoc (rows := rows) (hown4.keep hk5 (fun g hg e => ?_)) ho2 ?_ ⟨_, rfl, ?_⟩ rfl
    · simp only [Value.ownBlock, Option.some.injEq] at hg
      omega
    · intro i x row hx hrow
      obtain ⟨⟨bv, e1, e2⟩, e3⟩ := ho3 i x row hx hrow
      refine ⟨⟨bv, e1, ?_⟩, e3⟩
      have a1 := e2.keep hk1 (fun b hb hlt => ⟨fun e => hdis b hb (.inl e), (⟨hb, hlt⟩ : D b ∧ b < H.size)⟩)
      have a2 := a1.keep (hk2.trans hk3) (fun b hb _ => ⟨fun f => f, hb⟩)
      have a3 := a2.keep hk4 (fun b hb _ => ⟨fun e => hdis b hb.1 (.inr e), hb⟩)
      exact a3.keep hk5 (fun b hb _ => ⟨fun e => hdis b hb.1 (.inl e), .inl hb⟩)
    · have a3 := hb3.keep hk4 (fun b hb _ => ⟨fun e => ?_, hb⟩)
      · refine a3.keep hk5 (fun b hb _ => ⟨fun e => by omega, .inr ⟨by omega, fun e => ?_⟩⟩)
        simp only [Value.ownBlock, Option.some.injEq] at e
        rcases hg4 with e5 | e5
        · have := hglt g4 e5
          omega
        · omega
      · have := hglt b e
        omega
  · intro e
    simp only [Value.ownBlock, Option.some.injEq] at e
    exact hg4p e
  · intro b hb hf
    rcases hb with ⟨hb, hl⟩ | ⟨hb, hv⟩
    · rcases hf with e | e
      · exact hdis b hb (.inl e)
      · simp only [Value.ownBlock, Option.some.injEq] at e
        subst e
        rcases hg4 with e5 | e5
        · exact hdis g4 hb (.inr e5)
        · omega
    · rcases hf with e | e
      · omega
      · exact hv e
  · intro g hg
    simp only [Value.ownBlock, Option.some.injEq] at hg
    subst hg
    rcases hg4 with e | e
    · exact .inl e
    · exact .inr (by omega)

/-- a step that turns only parts whose tag Z lets; new blocks bear tags as T' says -/
structure Stp (Z : Nat → Prop) (T T' : Nat → Nat) (H H' : Heap) : Prop where
  kept : Kept (fun b => Z (T b)) H H'
  same : ∀ b, b < H.size → T' b = T b
  new : ∀ b, H'.size ≤ b → T' b = 0
structure Ba (H0 : Heap) (T : Nat → Nat) (H : Heap) : Prop where
  ext : Ext H0 H
  old : ∀ b, b < H0.size → T b = 0
  new : ∀ b, H.size ≤ b → T b = 0
/-- a link whose blocks bear the tag t; the bodies that wait bear none -/
structure Lc (T : Nat → Nat) (H : Heap) (t p : Nat) (v : Value) (L : Lk) : Prop where
  d : LinkD (fun b => T b = 0) H p v L
  tp : T p = t
  tv : ∀ g, v.ownBlock = some g → T g = t
  t0 : t ≠ 0
/-- a list of one's own whose block bears the tag t -/
structure Ow {α : Type} (T : Nat → Nat) (H : Heap) (t : Nat) (e : TypeId) (size : Nat) (R : (Nat → Prop) → Heap → α → List Value → Prop) (v : Value) (xs : List α) : Prop where
  d : OwnL H e size (R (fun b => T b = 0) H) v xs
  tv : ∀ g, v.ownBlock = some g → T g = t
section
variable {Z Z' : Nat → Prop} {T T' T'' : Nat → Nat} {H0 H H' H'' : Heap} {t p : Nat} {v : Value} {L : Lk}
theorem Stp.mono (h : Stp Z T T' H H') (hz : ∀ i, Z i → Z' i) : Stp Z' T T' H H' := ⟨h.kept.mono (fun b hb _ => hz _ hb), h.same, h.new⟩
theorem Stp.trans (h : Stp Z T T' H H') (k : Stp Z T' T'' H' H'') : Stp Z T T'' H H'' :=
  ⟨Kept.trans h.kept k.kept (fun _ e _ => e) (fun b e hl => by rw [h.same b hl] at e; exact e), fun b hb => (k.same b (Nat.lt_of_lt_of_le hb h.kept.size)).trans (h.same b hb), k.new⟩
theorem Stp.of_ext (hb : Ba H0 T H) (h : Ext H H') : Stp Z T T H H' := ⟨h.mono (fun _ f _ => f.elim), fun _ _ => rfl, fun b hl => hb.new b (by have := h.size; omega)⟩
theorem Ba.stp (h : Ba H0 T H) (s : Stp Z T T' H H') (h0 : ¬ Z 0) : Ba H0 T' H' :=
  ⟨Kept.trans h.ext s.kept (fun _ f _ => f) (fun b e hl => by rw [h.old b hl] at e; exact h0 e), fun b hb => by rw [s.same b (by have := h.ext.size; omega)]; exact h.old b hb, s.new⟩
theorem Lc.stp (h : Lc T H t p v L) (s : Stp Z T T' H H') (h0 : ¬ Z 0) (ht : ¬ Z t) : Lc T' H' t p v L := by
  have hp := lt_of_heap h.d.blk
  have hv : ∀ g, v.ownBlock = some g → g < H.size := fun g hg => by
    rcases h.d.own.form with ⟨e, _⟩ | ⟨g', cg, e, hl, _⟩
    · rw [e] at hg; cases hg
    · rw [e] at hg
      simp only [Value.ownBlock, Option.some.injEq] at hg
      omega
  refine ⟨h.d.keep s.kept (fun e => ht (by rw [h.tp] at e; exact e)) (fun g hg e => ht (by rw [h.tv g hg] at e; exact e)) (fun b hb hl => ⟨fun e => h0 (by rw [hb] at e; exact e), by rw [s.same b hl]; exact hb⟩) (fun b hb hf => ?_), by rw [s.same p hp]; exact h.tp, fun g hg => by rw [s.same g (hv g hg)]; exact h.tv g hg, h.t0⟩
  rcases hf with e | e
  · subst e; rw [s.same b hp, h.tp] at hb; exact h.t0 hb
  · rw [s.same b (hv b e), h.tv b e] at hb; exact h.t0 hb
theorem Ow.stp {α : Type} {e : TypeId} {size : Nat} {R : (Nat → Prop) → Heap → α → List Value → Prop} {xs : List α} (hR : ∀ (D D' S : Nat → Prop) (H H' : Heap) x row, R D H x row → Kept S H H' → (∀ b, D b → b < H.size → ¬ S b ∧ D' b) → R D' H' x row)
    (h : Ow T H t e size R v xs) (s : Stp Z T T' H H') (h0 : ¬ Z 0) (ht : ¬ Z t) : Ow T' H' t e size R v xs := by
  have hv : ∀ g, v.ownBlock = some g → g < H.size := fun g hg => by
    rcases h.d.form with ⟨e, _⟩ | ⟨g', cg, e, hl, _⟩
    · rw [e] at hg; cases hg
    · rw [e] at hg
      simp only [Value.ownBlock, Option.some.injEq] at hg
      omega
  exact ⟨h.d.keep s.kept (fun g hg e => ht (by rw [h.tv g hg] at e; exact e)) (fun x row _ hr => hR _ _ _ _ _ x row hr s.kept (fun b hb hl => ⟨fun e => h0 (by rw [hb] at e; exact e), by rw [s.same b hl]; exact hb⟩)), fun g hg => by rw [s.same g (hv g hg)]; exact h.tv g hg⟩
theorem FRow.keepR (D D' S : Nat → Prop) (H H' : Heap) (x : Fr) (row : List Value) (hr : FRow D H x row) (hk : Kept S H H') (h : ∀ b, D b → b < H.size → ¬ S b ∧ D' b) : FRow D' H' x row := by
  obtain ⟨bv, e1, e2⟩ := hr
  exact ⟨bv, e1, e2.keep hk h⟩
theorem BRow.keepR (D D' S : Nat → Prop) (H H' : Heap) (x : List UInt8) (row : List Value) (hr : BRow D H x row) (hk : Kept S H H') (h : ∀ b, D b → b < H.size → ¬ S b ∧ D' b) : BRow D' H' x row := by
  obtain ⟨bv, e1, e2⟩ := hr
  exact ⟨bv, e1, e2.keep hk h⟩
/-- bytes in memory that no part owns, after a step -/
theorem bytes_stp {l : List UInt8} (hb : BytesAt (fun b => T b = 0) H v l) (s : Stp Z T T' H H') (h0 : ¬ Z 0) : BytesAt (fun b => T' b = 0) H' v l :=
  hb.keep s.kept (fun b hb hl => ⟨fun e => h0 (by rw [hb] at e; exact e), by rw [s.same b hl]; exact hb⟩)

/-- new blocks: the one of v' bears t, all others none -/
def tagNew (T : Nat → Nat) (H : Heap) (v' : Value) (t : Nat) (b : Nat) : Nat := if H.size ≤ b ∧ v'.ownBlock = some b then t else T b
theorem Stp.tagNew {v' : Value} (hb : Ba H0 T H) (hk : Kept (fun b => Z (T b)) H H') (hv : ∀ g, v'.ownBlock = some g → g < H'.size) : Stp Z T (tagNew T H v' t) H H' :=
  ⟨hk, fun b hl => if_neg (fun e => by omega), fun b hl => by
    unfold Proofs.Ytdbmhcchgbpccaa.tagNew
    rw [if_neg (fun e => by have := hv b e.2; omega)]
    exact hb.new b (by have := hk.size; omega)⟩

theorem new_c {me peer ep : Int} {b : Nat} (hba : Ba H0 T H) (ht : t ≠ 0) (hn : New H H' b (.cells #[.int .i64 me, .int .i64 peer, .int .i64 ep, .int .i64 0, .slice none 0 0, .int .i64 0, .int .i64 0, .bool false] 53)) :
    ∃ T', Stp (fun _ => False) T T' H H' ∧ Lc T' H' t b (.slice none 0 0) ⟨me, peer, ep, 0, [], 0, 0, false⟩ := by
  have h1 := hn.blk
  have h2 := hn.size
  refine ⟨fun i => if i = b then t else T i, ⟨hn.ext.mono (fun _ f _ => f.elim), fun i hi => if_neg (by omega), fun i hi => ?_⟩, ⟨hn.at_, OwnL.nil _ _ _ _, (fun e => by cases e), fun i hi hf => ?_⟩, if_pos rfl, (fun g e => by cases e), ht⟩
  · show (if i = b then t else T i) = 0
    rw [if_neg (by omega)]
    exact hba.new i (by omega)
  · rcases hf with e | e
    · subst e; simp only [if_pos] at hi; exact ht hi
    · cases e
theorem send_c {bv : Value} {l : List UInt8} (hba : Ba H0 T H) (h : Lc T H t p v L) (hb : BytesAt (fun b => T b = 0) H bv l) (hl : l.length ≤ 131072) (hw : L.waits.length < 4) (hs : -1000000000000 ≤ L.sent ∧ L.sent ≤ 1000000000000) :
    Spc Try.prog 8 #[.pointer (some ⟨p, 0, none⟩), bv] H fun r H' => r = .int .i64 0 ∧ ∃ T' v', Stp (· = t) T T' H H' ∧ Lc T' H' t p v' (sentL L l) := by
  refine (send_okD h.d (hb.mono (fun b hb _ e => h.t0 (by subst e; rw [← h.tp]; exact hb))) hl hw hs).mono fun r H' ⟨h1, h2, v', h3, h4⟩ => ⟨h1, tagNew T H v' t, v', ?_, ?_⟩
  · refine Stp.tagNew hba (h2.mono fun b hb _ => ?_) (fun g hg => ?_)
    · rcases hb with e | e
      · rw [e]; exact h.tp
      · exact h.tv b e
    · rcases h3.own.form with ⟨e, _⟩ | ⟨g', cg, e, hl, _⟩
      · rw [e] at hg; cases hg
      · rw [e] at hg
        simp only [Value.ownBlock, Option.some.injEq] at hg
        omega
  · have hp := lt_of_heap h.d.blk
    have tvn : ∀ g, v'.ownBlock = some g → tagNew T H v' t g = t := fun g hg => by
      unfold tagNew
      split
      · rfl
      · rename_i e
        rcases h4 g hg with e2 | e2
        · exact h.tv g e2
        · exact absurd ⟨e2, hg⟩ e
    have tpn : tagNew T H v' t p = t := by
      unfold tagNew
      rw [if_neg (fun e => by omega)]
      exact h.tp
    refine ⟨h3.keep (Kept.refl (fun _ => False) _) (fun f => f) (fun _ _ f => f) (fun b hb hl => ⟨fun f => f, ?_⟩) (fun b hb hf => ?_), tpn, tvn, h.t0⟩
    · rcases hb with ⟨hb, hl⟩ | ⟨hb, hv⟩
      · unfold tagNew; rw [if_neg (fun e => by omega)]; exact hb
      · unfold tagNew; rw [if_neg (fun e => hv e.2)]; exact hba.new b hb
    · rcases hf with e | e
      · subst e; rw [tpn] at hb; exact h.t0 hb
      · rw [tvn b e] at hb; exact h.t0 hb
theorem frames_c (hba : Ba H0 T H) (h : Lc T H t p v L) (hw : L.waits.length ≤ 1000) (hb : ∀ x ∈ L.waits, x.2.length ≤ 131072) :
    Spc Try.prog 9 #[.pointer (some ⟨p, 0, none⟩)] H fun r H' => Stp (· = t) T T H H' ∧ Lc T H' t p v { L with owes := false } ∧ Ow T H' 0 34 7 FRow r (framesOf L) := by
  refine (frames_specD h.d hw hb).mono fun r H' ⟨h1, h2, h3, h4⟩ => ⟨⟨h2.mono fun b e _ => by rw [e]; exact h.tp, fun _ _ => rfl, fun b hl => hba.new b (by have := h2.size; omega)⟩, ⟨h1, h.tp, h.tv, h.t0⟩, h3.imp fun x row _ hr => ?_, fun g hg => hba.new g (h4 g hg)⟩
  exact FRow.keepR _ _ (fun _ => False) _ _ x row hr (Kept.refl _ _) (fun b hb _ => ⟨fun f => f, hba.new b hb.1⟩)
theorem take_c {bv : Value} {f : Fr} (hba : Ba H0 T H) (h : Lc T H t p v L) (hb : BytesAt (fun b => T b = 0) H bv f.body) (hm : MayB L f) (hc : 0 ≤ L.came ∧ L.came ≤ 1000000000000) :
    Spc Try.prog 16 #[.pointer (some ⟨p, 0, none⟩), .agg (frCells f bv).toArray] H fun r H' => Stp (· = t) T T H H' ∧ ∃ bv v', r = .tuple #[bv, .bool (takeL L f).2.isSome, .int .i64 0] ∧ BytesAt (fun b => T b = 0) H' bv ((takeL L f).2.getD []) ∧ Lc T H' t p v' (takeL L f).1 := by
  refine (take_spec h.d hb hm hc).mono fun r H' ⟨⟨bv', v', h1, h2, h3, h4⟩, h5⟩ => ⟨⟨h5.mono fun b hb _ => ?_, fun _ _ => rfl, fun b hl => hba.new b (by have := h5.size; omega)⟩, bv', v', h1, h2.mono fun b hb _ => hba.new b hb, h3, h.tp, fun g hg => h.tv g (h4 g hg), h.t0⟩
  rcases hb with e | e
  · rw [e]; exact h.tp
  · exact h.tv b e
end
end Go.Proofs.Ytdbmhcchgbpccaa
