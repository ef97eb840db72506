/- Parts of memory told by tags; the acts of a link as steps of one part. -/
import Derived.Test.YtlaobecajieaaaaGreatG08
import Derived.Test.YtlaobecajieaaaaGreatG03
import Derived.Test.YtlaobecajieaaaaGreatG05
namespace Go.Proofs.YtlaobecajieaaaaGreat
open Go Ev
set_option linter.unusedVariables false
set_option linter.unusedSimpArgs false
attribute [local irreducible] Go.wpList Go.bodyPost Go.Code.wp Go.Exit.then Go.Exit.inBlock Go.Exit.noGoto Ev.wpAnyG Go.Oper.wp Ev.Back Ev.Left Ev.Spc Ev.At Ev.Pure Ev.Reads Ev.Runs Ev.Does Ev.Cell

def NuD (D : Nat → Prop) (H : Heap) (v : Value) (b : Nat) : Prop := (D b ∧ b < H.size) ∨ (H.size ≤ b ∧ v.ownBlock ≠ some b)
set_option maxHeartbeats 1000000 in
theorem send_okD {D : Nat → Prop} {H : Heap} {p : Nat} {vw v : Value} {L : Lk} {l : List UInt8} (h : LinkD D H p vw L) (hb : BytesAt (fun b => b ≠ p) H v l) (hl : l.length ≤ 131072) (hw : L.waits.length < 4) (hs : -1000000000000 ≤ L.sent ∧ L.sent ≤ 1000000000000) :
    Spc Tryz.prog 53 #[.pointer (some ⟨p, 0, none⟩), v] H fun r H' => r = .int .i64 0 ∧ Kept (Ft p vw) H H' ∧
      ∃ vw', LinkD (NuD D H vw') H' p vw' (sentL L l) ∧ ∀ g, vw'.ownBlock = some g → vw.ownBlock = some g ∨ H.size ≤ g := by
  obtain ⟨rows, ho1, ho2, ho3⟩ := h.own.rows
  have hdis := h.dis
  obtain ⟨q, c, rfl⟩ := h.lnk.vw
  obtain ⟨q2, c2, rfl⟩ := hb.form
  have hbk := h.blk
  have hps := lt_of_heap hbk
  have hne := h.ne
  refine spec_of Tryz.func53 rfl Tryz.ntmps53 rfl (fun W => ?_)
  repeat (first | refine codeA (k := ?_) | refine condA (k := ?_) | refine offA (k := ?_) | refine pureA (k := ?_) | refine readA (k := ?_))
  refine At_read (r_load rfl rfl (Cell.of hbk rfl)) rfl rfl rfl ?_
  repeat (first | refine codeA (k := ?_) | refine condA (k := ?_) | refine offA (k := ?_) | refine pureA (k := ?_) | refine readA (k := ?_))
  refine At_read (r_load rfl rfl (Cell.of hbk rfl)) rfl rfl rfl ?_
  repeat (first | refine codeA (k := ?_) | refine condA (k := ?_) | refine offA (k := ?_) | refine pureA (k := ?_) | refine readA (k := ?_))
  refine At_wp (W_store rfl rfl hbk rfl rfl rfl rfl ?_) rfl
  intro H1 h1
  have hk1 := h1.kept
  have hp1 := h1.at_
  have hsz1 := h1.size
  have hb1 : BytesAt (fun b => b ≠ p) H1 (.slice q2 l.length c2) l := hb.keep hk1 (fun b hb _ => ⟨hb, hb⟩)
  have ho1' : Own H1 0 133 2 (.slice q L.waits.length c) L.waits.length rows.flatten := ho1.keep hk1 (fun g hg e => hne (by rw [hg, e]))
  repeat (first | refine codeA (k := ?_) | refine condA (k := ?_) | refine offA (k := ?_) | refine pureA (k := ?_) | refine readA (k := ?_))
  refine At_draw [4, 8] (fun H' => H'[p]? = some (.cells (lkCells { L with sent := L.sent + 1 } (.slice q L.waits.length c)) 115 (0, 0))) Tryz.mixed ?_
  first | refine gA 0 (k := ?_) | refine goffA 0 (k := ?_)
  first | refine gA 1 (k := ?_) | refine goffA 1 (k := ?_)
  first | refine gA 2 (k := ?_) | refine goffA 2 (k := ?_)
  first | refine gA 3 (k := ?_) | refine goffA 3 (k := ?_)
  refine grA 4 hp1 (fun H' hS' => r_load rfl rfl (show Cell H' p (0 + 4) (.slice q L.waits.length c) from Cell.of hS' rfl)) (k := ?_)
  first | refine gA 5 (k := ?_) | refine goffA 5 (k := ?_)
  first | refine gA 6 (k := ?_) | refine goffA 6 (k := ?_)
  first | refine gA 7 (k := ?_) | refine goffA 7 (k := ?_)
  refine grA 8 hp1 (fun H' hS' => r_load rfl rfl (show Cell H' p (0 + 5) (.int .i64 (L.sent + 1)) from Cell.of hS' rfl)) (k := ?_)
  first | refine gA 9 (k := ?_) | refine goffA 9 (k := ?_)
  refine G_op 10 rfl (by kernel_rfl) rfl (W_call rfl rfl (clone_spec hb1 (by omega)) rfl rfl ?_) 
  rintro vb H2 ⟨hk2, hb2⟩
  have hp2 := hk2.keep hp1 (fun f => f)
  have ho2' := ho1'.keep hk2 (fun g hg f => f)
  have hsz2 := hk2.size
  obtain ⟨q3, c3, rfl⟩ := hb2.form
  refine G_next (fun _ _ => hp2) ?_
  refine gpA 11 (p_build [.int .i64 (L.sent + 1), .slice q3 l.length c3] rfl rfl) (k := ?_)
  refine G_op 12 rfl (by kernel_rfl) rfl (W_buildSlice1 rfl rfl rfl (by decide) rfl ?_) 
  intro g3 H3 hn3
  have hk3 := hn3.ext
  have hp3 := hk3.keep hp2 (fun f => f)
  have ho3' := ho2'.keep hk3 (fun g hg f => f)
  have hb3 := hb2.keep hk3 (fun b hb hlt => ⟨fun f => f, (⟨hb, hlt⟩ : H1.size ≤ b ∧ b < H2.size)⟩)
  have hsz3 := hn3.size
  have hg3 := hn3.blk
  refine G_next (fun _ _ => hp3) ?_
  refine G_op 13 rfl (by kernel_rfl) rfl (W_append (news := [.int .i64 (L.sent + 1), .slice q3 l.length c3]) rfl rfl ho3' rfl ?_ ?_ (Nat.zero_le _) rfl (by decide) (by decide) ?_ ?_ rfl ?_)
  · intro j u hj
    rw [Nat.zero_add]
    exact Cell.of hn3.at_ (by simpa [Value.cells] using hj)
  · intro u hu
    simp only [List.mem_cons, List.not_mem_nil, or_false] at hu
    rcases hu with rfl | rfl <;> rfl
  · simp only [maxLen]; omega
  · omega
  intro g4 c4 H4 hown4 hk4 hg4
  have hp4 := hk4.keep hp3 hne
  have hsz4 := hk4.size
  refine G_next (fun _ _ => hp4) ?_
  first | refine gA 14 (k := ?_) | refine goffA 14 (k := ?_)
  first | refine gA 15 (k := ?_) | refine goffA 15 (k := ?_)
  refine G_op 16 rfl (by kernel_rfl) rfl (W_store rfl rfl hp4 rfl rfl rfl rfl ?_) 
  intro H5 h5
  refine G_free (by kernel_rfl) ?_
  refine G_done (by kernel_rfl) ?_
  repeat (first | refine codeA (k := ?_) | refine condA (k := ?_) | refine offA (k := ?_) | refine pureA (k := ?_) | refine readA (k := ?_))
  have hk5 := h5.kept
  have hg4p : g4 ≠ p := by
    rcases hg4 with e | e
    · intro e2; subst e2; exact hne e
    · omega
  have hglt : ∀ g, (Value.slice q L.waits.length c).ownBlock = some g → g < H.size := fun g hg => (ho1.lt hg).2
  refine At_ret1 rfl rfl ⟨rfl, ?_, .slice (some ⟨g4, 0, none⟩) (L.waits.length + 1) c4, ⟨?_, ?_, ?_, ?_⟩, ?_⟩
  · have a1 : Kept (Ft p (.slice q L.waits.length c)) H H1 := hk1.mono (fun i e _ => .inl e)
    have a2 : Kept (Ft p (.slice q L.waits.length c)) H H3 := a1.then_ext (hk2.trans hk3)
    have a3 : Kept (Ft p (.slice q L.waits.length c)) H H4 := Kept.trans a2 hk4 (fun i s _ => s) (fun i s _ => .inr s)
    exact Kept.trans a3 hk5 (fun i s _ => s) (fun i s _ => .inl s)
  · exact h5.at_
  · refine OwnL.snoc (rows := rows) (hown4.keep hk5 (fun g hg e => ?_)) ho2 ?_ ⟨_, rfl, ?_⟩ rfl
    · simp only [Value.ownBlock, Option.some.injEq] at hg
      omega
    · intro i x row hx hrow
      obtain ⟨⟨bv, e1, e2⟩, e3⟩ := ho3 i x row hx hrow
      refine ⟨⟨bv, e1, ?_⟩, e3⟩
      have a1 := e2.keep hk1 (fun b hb hlt => ⟨fun e => hdis b hb (.inl e), (⟨hb, hlt⟩ : D b ∧ b < H.size)⟩)
      have a2 := a1.keep (hk2.trans hk3) (fun b hb _ => ⟨fun f => f, hb⟩)
      have a3 := a2.keep hk4 (fun b hb _ => ⟨fun e => hdis b hb.1 (.inr e), hb⟩)
      exact a3.keep hk5 (fun b hb _ => ⟨fun e => hdis b hb.1 (.inl e), .inl hb⟩)
    · have a3 := hb3.keep hk4 (fun b hb _ => ⟨fun e => ?_, hb⟩)
      · refine a3.keep hk5 (fun b hb _ => ⟨fun e => by omega, .inr ⟨by omega, fun e => ?_⟩⟩)
        simp only [Value.ownBlock, Option.some.injEq] at e
        rcases hg4 with e5 | e5
        · have := hglt g4 e5
          omega
        · omega
      · have := hglt b e
        omega
  · intro e
    simp only [Value.ownBlock, Option.some.injEq] at e
    exact hg4p e
  · intro b hb hf
    rcases hb with ⟨hb, hl⟩ | ⟨hb, hv⟩
    · rcases hf with e | e
      · exact hdis b hb (.inl e)
      · simp only [Value.ownBlock, Option.some.injEq] at e
        subst e
        rcases hg4 with e5 | e5
        · exact hdis g4 hb (.inr e5)
        · omega
    · rcases hf with e | e
      · omega
      · exact hv e
  · intro g hg
    simp only [Value.ownBlock, Option.some.injEq] at hg
    subst hg
    rcases hg4 with e | e
    · exact .inl e
    · exact .inr (by omega)

/-- a step that turns only parts whose tag Z lets; new blocks bear tags as T' says -/
structure Stp (Z : Nat → Prop) (T T' : Nat → Nat) (H H' : Heap) : Prop where
  kept : Kept (fun b => Z (T b)) H H'
  same : ∀ b, b < H.size → T' b = T b
  new : ∀ b, H'.size ≤ b → T' b = 0
structure Ba (H0 : Heap) (T : Nat → Nat) (H : Heap) : Prop where
  ext : Ext H0 H
  old : ∀ b, b < H0.size → T b = 0
  new : ∀ b, H.size ≤ b → T b = 0
/-- a link whose blocks bear the tag t; the bodies that wait bear none -/
structure Lc (T : Nat → Nat) (H : Heap) (t p : Nat) (v : Value) (L : Lk) : Prop where
  d : LinkD (fun b => T b = 0) H p v L
  tp : T p = t
  tv : ∀ g, v.ownBlock = some g → T g = t
  t0 : t ≠ 0
/-- a list of one's own whose block bears the tag t -/
structure Ow {α : Type} (T : Nat → Nat) (H : Heap) (t : Nat) (e : TypeId) (size : Nat) (R : (Nat → Prop) → Heap → α → List Value → Prop) (v : Value) (xs : List α) : Prop where
  d : OwnL H e size (R (fun b => T b = 0) H) v xs
  tv : ∀ g, v.ownBlock = some g → T g = t
section
variable {Z Z' : Nat → Prop} {T T' T'' : Nat → Nat} {H0 H H' H'' : Heap} {t p : Nat} {v : Value} {L : Lk}
theorem Stp.mono (h : Stp Z T T' H H') (hz : ∀ i, Z i → Z' i) : Stp Z' T T' H H' := ⟨h.kept.mono (fun b hb _ => hz _ hb), h.same, h.new⟩
theorem Stp.trans (h : Stp Z T T' H H') (k : Stp Z T' T'' H' H'') : Stp Z T T'' H H'' :=
  ⟨Kept.trans h.kept k.kept (fun _ e _ => e) (fun b e hl => by rw [h.same b hl] at e; exact e), fun b hb => (k.same b (Nat.lt_of_lt_of_le hb h.kept.size)).trans (h.same b hb), k.new⟩
theorem Stp.of_ext (hb : Ba H0 T H) (h : Ext H H') : Stp Z T T H H' := ⟨h.mono (fun _ f _ => f.elim), fun _ _ => rfl, fun b hl => hb.new b (by have := h.size; omega)⟩
theorem Ba.stp (h : Ba H0 T H) (s : Stp Z T T' H H') (h0 : ¬ Z 0) : Ba H0 T' H' :=
  ⟨Kept.trans h.ext s.kept (fun _ f _ => f) (fun b e hl => by rw [h.old b hl] at e; exact h0 e), fun b hb => by rw [s.same b (by have := h.ext.size; omega)]; exact h.old b hb, s.new⟩
theorem Lc.stp (h : Lc T H t p v L) (s : Stp Z T T' H H') (h0 : ¬ Z 0) (ht : ¬ Z t) : Lc T' H' t p v L := by
  have hp := lt_of_heap h.d.blk
  have hv : ∀ g, v.ownBlock = some g → g < H.size := fun g hg => by
    rcases h.d.own.form with ⟨e, _⟩ | ⟨g', cg, e, hl, _⟩
    · rw [e] at hg; cases hg
    · rw [e] at hg
      simp only [Value.ownBlock, Option.some.injEq] at hg
      omega
  refine ⟨h.d.keep s.kept (fun e => ht (by rw [h.tp] at e; exact e)) (fun g hg e => ht (by rw [h.tv g hg] at e; exact e)) (fun b hb hl => ⟨fun e => h0 (by rw [hb] at e; exact e), by rw [s.same b hl]; exact hb⟩) (fun b hb hf => ?_), by rw [s.same p hp]; exact h.tp, fun g hg => by rw [s.same g (hv g hg)]; exact h.tv g hg, h.t0⟩
  rcases hf with e | e
  · subst e; rw [s.same b hp, h.tp] at hb; exact h.t0 hb
  · rw [s.same b (hv b e), h.tv b e] at hb; exact h.t0 hb
theorem Ow.stp {α : Type} {e : TypeId} {size : Nat} {R : (Nat → Prop) → Heap → α → List Value → Prop} {xs : List α} (hR : ∀ (D D' S : Nat → Prop) (H H' : Heap) x row, R D H x row → Kept S H H' → (∀ b, D b → b < H.size → ¬ S b ∧ D' b) → R D' H' x row)
    (h : Ow T H t e size R v xs) (s : Stp Z T T' H H') (h0 : ¬ Z 0) (ht : ¬ Z t) : Ow T' H' t e size R v xs := by
  have hv : ∀ g, v.ownBlock = some g → g < H.size := fun g hg => by
    rcases h.d.form with ⟨e, _⟩ | ⟨g', cg, e, hl, _⟩
    · rw [e] at hg; cases hg
    · rw [e] at hg
      simp only [Value.ownBlock, Option.some.injEq] at hg
      omega
  exact ⟨h.d.keep s.kept (fun g hg e => ht (by rw [h.tv g hg] at e; exact e)) (fun x row _ hr => hR _ _ _ _ _ x row hr s.kept (fun b hb hl => ⟨fun e => h0 (by rw [hb] at e; exact e), by rw [s.same b hl]; exact hb⟩)), fun g hg => by rw [s.same g (hv g hg)]; exact h.tv g hg⟩
theorem FRow.keepR (D D' S : Nat → Prop) (H H' : Heap) (x : Fr) (row : List Value) (hr : FRow D H x row) (hk : Kept S H H') (h : ∀ b, D b → b < H.size → ¬ S b ∧ D' b) : FRow D' H' x row := by
  obtain ⟨bv, e1, e2⟩ := hr
  exact ⟨bv, e1, e2.keep hk h⟩
theorem BRow.keepR (D D' S : Nat → Prop) (H H' : Heap) (x : List UInt8) (row : List Value) (hr : BRow D H x row) (hk : Kept S H H') (h : ∀ b, D b → b < H.size → ¬ S b ∧ D' b) : BRow D' H' x row := by
  obtain ⟨bv, e1, e2⟩ := hr
  exact ⟨bv, e1, e2.keep hk h⟩
/-- bytes in memory that no part owns, after a step -/
theorem bytes_stp {l : List UInt8} (hb : BytesAt (fun b => T b = 0) H v l) (s : Stp Z T T' H H') (h0 : ¬ Z 0) : BytesAt (fun b => T' b = 0) H' v l :=
  hb.keep s.kept (fun b hb hl => ⟨fun e => h0 (by rw [hb] at e; exact e), by rw [s.same b hl]; exact hb⟩)

/-- new blocks: the one of v' bears t, all others none -/
def tagNew (T : Nat → Nat) (H : Heap) (v' : Value) (t : Nat) (b : Nat) : Nat := if H.size ≤ b ∧ v'.ownBlock = some b then t else T b
theorem Stp.tagNew {v' : Value} (hb : Ba H0 T H) (hk : Kept (fun b => Z (T b)) H H') (hv : ∀ g, v'.ownBlock = some g → g < H'.size) : Stp Z T (tagNew T H v' t) H H' :=
  ⟨hk, fun b hl => if_neg (fun e => by omega), fun b hl => by
    unfold Proofs.YtlaobecajieaaaaGreat.tagNew
    rw [if_neg (fun e => by have := hv b e.2; omega)]
    exact hb.new b (by have := hk.size; omega)⟩

theorem new_c {me peer ep : Int} {b : Nat} (hba : Ba H0 T H) (ht : t ≠ 0) (hn : New H H' b (.cells #[.int .i64 me, .int .i64 peer, .int .i64 ep, .int .i64 0, .slice none 0 0, .int .i64 0, .int .i64 0, .bool false] 115)) :
    ∃ T', Stp (fun _ => False) T T' H H' ∧ Lc T' H' t b (.slice none 0 0) ⟨me, peer, ep, 0, [], 0, 0, false⟩ := by
  have h1 := hn.blk
  have h2 := hn.size
  refine ⟨fun i => if i = b then t else T i, ⟨hn.ext.mono (fun _ f _ => f.elim), fun i hi => if_neg (by omega), fun i hi => ?_⟩, ⟨hn.at_, OwnL.nil _ _ _ _, (fun e => by cases e), fun i hi hf => ?_⟩, if_pos rfl, (fun g e => by cases e), ht⟩
  · show (if i = b then t else T i) = 0
    rw [if_neg (by omega)]
    exact hba.new i (by omega)
  · rcases hf with e | e
    · subst e; simp only [if_pos] at hi; exact ht hi
    · cases e
theorem send_c {bv : Value} {l : List UInt8} (hba : Ba H0 T H) (h : Lc T H t p v L) (hb : BytesAt (fun b => T b = 0) H bv l) (hl : l.length ≤ 131072) (hw : L.waits.length < 4) (hs : -1000000000000 ≤ L.sent ∧ L.sent ≤ 1000000000000) :
    Spc Tryz.prog 53 #[.pointer (some ⟨p, 0, none⟩), bv] H fun r H' => r = .int .i64 0 ∧ ∃ T' v', Stp (· = t) T T' H H' ∧ Lc T' H' t p v' (sentL L l) := by
  refine (send_okD h.d (hb.mono (fun b hb _ e => h.t0 (by subst e; rw [← h.tp]; exact hb))) hl hw hs).mono fun r H' ⟨h1, h2, v', h3, h4⟩ => ⟨h1, tagNew T H v' t, v', ?_, ?_⟩
  · refine Stp.tagNew hba (h2.mono fun b hb _ => ?_) (fun g hg => ?_)
    · rcases hb with e | e
      · rw [e]; exact h.tp
      · exact h.tv b e
    · rcases h3.own.form with ⟨e, _⟩ | ⟨g', cg, e, hl, _⟩
      · rw [e] at hg; cases hg
      · rw [e] at hg
        simp only [Value.ownBlock, Option.some.injEq] at hg
        omega
  · have hp := lt_of_heap h.d.blk
    have tvn : ∀ g, v'.ownBlock = some g → tagNew T H v' t g = t := fun g hg => by
      unfold tagNew
      split
      · rfl
      · rename_i e
        rcases h4 g hg with e2 | e2
        · exact h.tv g e2
        · exact absurd ⟨e2, hg⟩ e
    have tpn : tagNew T H v' t p = t := by
      unfold tagNew
      rw [if_neg (fun e => by omega)]
      exact h.tp
    refine ⟨h3.keep (Kept.refl (fun _ => False) _) (fun f => f) (fun _ _ f => f) (fun b hb hl => ⟨fun f => f, ?_⟩) (fun b hb hf => ?_), tpn, tvn, h.t0⟩
    · rcases hb with ⟨hb, hl⟩ | ⟨hb, hv⟩
      · unfold tagNew; rw [if_neg (fun e => by omega)]; exact hb
      · unfold tagNew; rw [if_neg (fun e => hv e.2)]; exact hba.new b hb
    · rcases hf with e | e
      · subst e; rw [tpn] at hb; exact h.t0 hb
      · rw [tvn b e] at hb; exact h.t0 hb
theorem frames_c (hba : Ba H0 T H) (h : Lc T H t p v L) (hw : L.waits.length ≤ 1000) (hb : ∀ x ∈ L.waits, x.2.length ≤ 131072) :
    Spc Tryz.prog 26 #[.pointer (some ⟨p, 0, none⟩)] H fun r H' => Stp (· = t) T T H H' ∧ Lc T H' t p v { L with owes := false } ∧ Ow T H' 0 92 7 FRow r (framesOf L) := by
  refine (frames_specD h.d hw hb).mono fun r H' ⟨h1, h2, h3, h4⟩ => ⟨⟨h2.mono fun b e _ => by rw [e]; exact h.tp, fun _ _ => rfl, fun b hl => hba.new b (by have := h2.size; omega)⟩, ⟨h1, h.tp, h.tv, h.t0⟩, h3.imp fun x row _ hr => ?_, fun g hg => hba.new g (h4 g hg)⟩
  exact FRow.keepR _ _ (fun _ => False) _ _ x row hr (Kept.refl _ _) (fun b hb _ => ⟨fun f => f, hba.new b hb.1⟩)
theorem take_c {bv : Value} {f : Fr} (hba : Ba H0 T H) (h : Lc T H t p v L) (hb : BytesAt (fun b => T b = 0) H bv f.body) (hm : MayB L f) (hc : 0 ≤ L.came ∧ L.came ≤ 1000000000000) :
    Spc Tryz.prog 65 #[.pointer (some ⟨p, 0, none⟩), .agg (frCells f bv).toArray] H fun r H' => Stp (· = t) T T H H' ∧ ∃ bv v', r = .tuple #[bv, .bool (takeL L f).2.isSome, .int .i64 0] ∧ BytesAt (fun b => T b = 0) H' bv ((takeL L f).2.getD []) ∧ Lc T H' t p v' (takeL L f).1 := by
  refine (take_spec h.d hb hm hc).mono fun r H' ⟨⟨bv', v', h1, h2, h3, h4⟩, h5⟩ => ⟨⟨h5.mono fun b hb _ => ?_, fun _ _ => rfl, fun b hl => hba.new b (by have := h5.size; omega)⟩, bv', v', h1, h2.mono fun b hb _ => hba.new b hb, h3, h.tp, fun g hg => h.tv g (h4 g hg), h.t0⟩
  rcases hb with e | e
  · rw [e]; exact h.tp
  · exact h.tv b e
end
end Go.Proofs.YtlaobecajieaaaaGreat
/- Amounts, ticks, leases: what they come to at the few values that the script needs. -/
namespace Go.Proofs.YtlaobecajieaaaaGreat
open Go Ev
set_option linter.unusedVariables false
set_option linter.unusedSimpArgs false

/-- 0, 1, 2 as words -/
def fw (k : Nat) : Nat := match k with
  | 0 => 0
  | 1 => 4607182418800017408
  | _ => 4611686018427387904
/-- an amount of k nodes -/
abbrev amt (k : Nat) : Value := .complex .f64 (fw k) 0
attribute [local irreducible] Go.wpList Go.bodyPost Go.Code.wp Go.Exit.then Go.Exit.inBlock Go.Exit.noGoto Ev.wpAnyG Go.Oper.wp Ev.Back Ev.Left Ev.Spc Ev.At Ev.Pure Ev.Reads Ev.Runs Ev.Does Ev.Cell

theorem trunc_spec (x : Nat) (H : Heap) (hx : Extern.MathFloor.toIntegral "math.archTrunc" .zero #[.float .f64 x] = pure (.float .f64 x)) : Spc Tryz.prog 69 #[.float .f64 x] H fun r H' => H = H' ∧ r = .float .f64 x := by
  refine spec_of Tryz.func69 rfl Tryz.ntmps69 rfl (fun W => ?_)
  repeat (first | refine codeA (k := ?_) | refine condA (k := ?_) | refine offA (k := ?_) | refine pureA (k := ?_) | refine readA (k := ?_))
  refine At_wp (W_extern (e := Extern.MathFloor.toIntegral "math.archTrunc" .zero) Tryz.func137 (by decide +kernel) rfl (by kernel_rfl) (by kernel_rfl) rfl rfl hx rfl rfl ?_) rfl
  repeat (first | refine codeA (k := ?_) | refine condA (k := ?_) | refine offA (k := ?_) | refine pureA (k := ?_) | refine readA (k := ?_))
  exact At_ret1 rfl rfl ⟨rfl, rfl⟩
theorem whole_of (x : Nat) (H : Heap) (hx : Extern.MathFloor.toIntegral "math.archTrunc" .zero #[.float .f64 x] = pure (.float .f64 x))
    (h1 : binOp .geq 95 (.float .f64 x) (.float .f64 0) = pure (.bool true)) (h2 : binOp .leq 95 (.float .f64 x) (.float .f64 4697254411347427328) = pure (.bool true)) (h3 : binOp .eql 95 (.float .f64 x) (.float .f64 x) = pure (.bool true)) :
    Spc Tryz.prog 31 #[.float .f64 x] H fun r H' => H = H' ∧ r = .bool true := by
  refine spec_of Tryz.func31 rfl Tryz.ntmps31 rfl (fun W => ?_)
  repeat (first | refine codeA (k := ?_) | refine condA (k := ?_) | refine offA (k := ?_) | refine pureA (k := ?_) | refine readA (k := ?_))
  refine At_pure (p_binC (.bool true) rfl rfl rfl h1) rfl rfl rfl ?_
  repeat (first | refine codeA (k := ?_) | refine condA (k := ?_) | refine offA (k := ?_) | refine pureA (k := ?_) | refine readA (k := ?_))
  refine At_pure (p_binC (.bool true) rfl rfl rfl h2) rfl rfl rfl ?_
  repeat (first | refine codeA (k := ?_) | refine condA (k := ?_) | refine offA (k := ?_) | refine pureA (k := ?_) | refine readA (k := ?_))
  refine At_wp (W_call rfl rfl (trunc_spec x H hx) rfl rfl ?_) rfl
  rintro _ _ ⟨rfl, rfl⟩
  refine At_pure (p_binC (.bool true) rfl rfl rfl h3) rfl rfl rfl ?_
  repeat (first | refine codeA (k := ?_) | refine condA (k := ?_) | refine offA (k := ?_) | refine pureA (k := ?_) | refine readA (k := ?_))
  exact At_ret1 rfl rfl ⟨rfl, rfl⟩
theorem whole0 (H : Heap) : Spc Tryz.prog 31 #[.float .f64 0] H fun r H' => H = H' ∧ r = .bool true := whole_of 0 H (by kernel_rfl) (by kernel_rfl) (by kernel_rfl) (by kernel_rfl)
theorem wholek (k : Nat) (H : Heap) : Spc Tryz.prog 31 #[.float .f64 (fw k)] H fun r H' => H = H' ∧ r = .bool true := by
  match k with
  | 0 => exact whole0 H
  | 1 => exact whole_of 4607182418800017408 H (by kernel_rfl) (by kernel_rfl) (by kernel_rfl) (by kernel_rfl)
  | k + 2 => exact whole_of 4611686018427387904 H (by kernel_rfl) (by kernel_rfl) (by kernel_rfl) (by kernel_rfl)
theorem right_spec (k : Nat) (H : Heap) : Spc Tryz.prog 12 #[amt k] H fun r H' => H = H' ∧ r = .bool true := by
  refine spec_of Tryz.func12 rfl Tryz.ntmps12 rfl (fun W => ?_)
  repeat (first | refine codeA (k := ?_) | refine condA (k := ?_) | refine offA (k := ?_) | refine pureA (k := ?_) | refine readA (k := ?_))
  refine At_pure (p_real rfl) rfl rfl rfl ?_
  refine At_wp (W_call rfl rfl (wholek k H) rfl rfl ?_) rfl
  rintro _ _ ⟨rfl, rfl⟩
  repeat (first | refine codeA (k := ?_) | refine condA (k := ?_) | refine offA (k := ?_) | refine pureA (k := ?_) | refine readA (k := ?_))
  refine At_pure (p_imag rfl) rfl rfl rfl ?_
  refine At_wp (W_call rfl rfl (whole0 H) rfl rfl ?_) rfl
  rintro _ _ ⟨rfl, rfl⟩
  repeat (first | refine codeA (k := ?_) | refine condA (k := ?_) | refine offA (k := ?_) | refine pureA (k := ?_) | refine readA (k := ?_))
  exact At_ret1 rfl rfl ⟨rfl, rfl⟩
theorem tickRight_spec (t : Int) (H : Heap) : Spc Tryz.prog 13 #[.int .i64 t] H fun r H' => H = H' ∧ r = .bool (decide (0 ≤ t ∧ t ≤ 1099511627776)) := by
  refine spec_of Tryz.func13 rfl Tryz.ntmps13 rfl (fun W => ?_)
  by_cases h0 : 0 ≤ t
  · by_cases h1 : t ≤ 1099511627776
    · rw [decide_eq_true ⟨h0, h1⟩]
      repeat (first | refine codeA (k := ?_) | refine condA (k := ?_) | refine offA (k := ?_) | refine pureA (k := ?_) | refine readA (k := ?_))
      exact At_ret1 rfl rfl ⟨rfl, rfl⟩
    · rw [decide_eq_false (fun e => h1 e.2)]
      repeat (first | refine codeA (k := ?_) | refine condA (k := ?_) | refine offA (k := ?_) | refine pureA (k := ?_) | refine readA (k := ?_))
      exact At_ret1 rfl rfl ⟨rfl, rfl⟩
  · rw [decide_eq_false (fun e => h0 e.1)]
    repeat (first | refine codeA (k := ?_) | refine condA (k := ?_) | refine offA (k := ?_) | refine pureA (k := ?_) | refine readA (k := ?_))
    exact At_ret1 rfl rfl ⟨rfl, rfl⟩
theorem tickRight_ok {t : Int} (H : Heap) (h0 : 0 ≤ t) (h1 : t ≤ 1099511627776) : Spc Tryz.prog 13 #[.int .i64 t] H fun r H' => H = H' ∧ r = .bool true :=
  (tickRight_spec t H).mono fun r H' h => ⟨h.1, by rw [h.2, decide_eq_true ⟨h0, h1⟩]⟩
theorem tickAdd_spec {t d : Int} (H : Heap) (h0 : 0 ≤ t) (h1 : 0 ≤ d) (h2 : t + d ≤ 1099511627776) : Spc Tryz.prog 20 #[.int .i64 t, .int .i64 d] H fun r H' => H = H' ∧ r = .tuple #[.int .i64 (t + d), .int .i64 0] := by
  refine spec_of Tryz.func20 rfl Tryz.ntmps20 rfl (fun W => ?_)
  repeat (first | refine codeA (k := ?_) | refine condA (k := ?_) | refine offA (k := ?_) | refine pureA (k := ?_) | refine readA (k := ?_))
  refine At_wp (W_call rfl rfl (tickRight_ok H h0 (by omega)) rfl rfl ?_) rfl
  rintro _ _ ⟨rfl, rfl⟩
  repeat (first | refine codeA (k := ?_) | refine condA (k := ?_) | refine offA (k := ?_) | refine pureA (k := ?_) | refine readA (k := ?_))
  refine At_wp (W_call rfl rfl (tickRight_ok H h1 (by omega)) rfl rfl ?_) rfl
  rintro _ _ ⟨rfl, rfl⟩
  repeat (first | refine codeA (k := ?_) | refine condA (k := ?_) | refine offA (k := ?_) | refine pureA (k := ?_) | refine readA (k := ?_))
  exact At_ret2 rfl rfl rfl ⟨rfl, rfl⟩
theorem finite_spec (H : Heap) : Spc Tryz.prog 68 #[.int .i64 64] H fun r H' => H = H' ∧ r = .bool true := by
  refine spec_of Tryz.func68 rfl Tryz.ntmps68 rfl (fun W => ?_)
  repeat (first | refine codeA (k := ?_) | refine condA (k := ?_) | refine offA (k := ?_) | refine pureA (k := ?_) | refine readA (k := ?_))
  refine At_wp (W_call rfl rfl (tickRight_ok H (by decide) (by decide)) rfl rfl ?_) rfl
  rintro _ _ ⟨rfl, rfl⟩
  repeat (first | refine codeA (k := ?_) | refine condA (k := ?_) | refine offA (k := ?_) | refine pureA (k := ?_) | refine readA (k := ?_))
  exact At_ret1 rfl rfl ⟨rfl, rfl⟩
theorem check_spec (H : Heap) : Spc Tryz.prog 30 #[.int .i64 64, .int .i64 16384] H fun r H' => H = H' ∧ r = .int .i64 0 := by
  refine spec_of Tryz.func30 rfl Tryz.ntmps30 rfl (fun W => ?_)
  repeat (first | refine codeA (k := ?_) | refine condA (k := ?_) | refine offA (k := ?_) | refine pureA (k := ?_) | refine readA (k := ?_))
  refine At_wp (W_call rfl rfl (finite_spec H) rfl rfl ?_) rfl
  rintro _ _ ⟨rfl, rfl⟩
  repeat (first | refine codeA (k := ?_) | refine condA (k := ?_) | refine offA (k := ?_) | refine pureA (k := ?_) | refine readA (k := ?_))
  exact At_ret1 rfl rfl ⟨rfl, rfl⟩
theorem guard_spec (H : Heap) : Spc Tryz.prog 10 #[.int .i64 64, .int .i64 16384] H fun r H' => H = H' ∧ r = .tuple #[.int .i64 69, .int .i64 0] := by
  refine spec_of Tryz.func10 rfl Tryz.ntmps10 rfl (fun W => ?_)
  repeat (first | refine codeA (k := ?_) | refine condA (k := ?_) | refine offA (k := ?_) | refine pureA (k := ?_) | refine readA (k := ?_))
  refine At_wp (W_call rfl rfl (check_spec H) rfl rfl ?_) rfl
  rintro _ _ ⟨rfl, rfl⟩
  repeat (first | refine codeA (k := ?_) | refine condA (k := ?_) | refine offA (k := ?_) | refine pureA (k := ?_) | refine readA (k := ?_))
  refine At_pure (p_mul rfl rfl (by decide)) rfl rfl rfl ?_
  repeat (first | refine codeA (k := ?_) | refine condA (k := ?_) | refine offA (k := ?_) | refine pureA (k := ?_) | refine readA (k := ?_))
  refine At_pure (p_quo rfl rfl (by decide) (by decide) (by decide)) rfl rfl rfl ?_
  repeat (first | refine codeA (k := ?_) | refine condA (k := ?_) | refine offA (k := ?_) | refine pureA (k := ?_) | refine readA (k := ?_))
  exact At_ret2 rfl rfl rfl ⟨rfl, rfl⟩
end Go.Proofs.YtlaobecajieaaaaGreat
/- A writer of bytes: what it has written. -/
namespace Go.Proofs.YtlaobecajieaaaaGreat
open Go Ev
set_option linter.unusedVariables false
set_option linter.unusedSimpArgs false

/-- a whole number's bytes -/
def uv (v : Nat) : List UInt8 := if h : v ≤ 127 then [UInt8.ofNat v] else UInt8.ofNat (v % 128 + 128) :: uv (v / 128)
termination_by v
decreasing_by omega
theorem uv_small {v : Nat} (h : v ≤ 127) : uv v = [UInt8.ofNat v] := by rw [uv, dif_pos h]
theorem uv_big {v : Nat} (h : ¬ v ≤ 127) : uv v = UInt8.ofNat (v % 128 + 128) :: uv (v / 128) := by rw [uv, dif_neg h]
theorem uv_len : ∀ (k v : Nat), v < 128 ^ k → 1 ≤ k → (uv v).length ≤ k
  | 0, v, _, h => by omega
  | k + 1, v, h, _ => by
    by_cases c : v ≤ 127
    · rw [uv_small c]; simp
    · rw [uv_big c]
      have hk : 1 ≤ k := by
        rcases Nat.eq_zero_or_pos k with e | e
        · subst e; simp at h; omega
        · exact e
      have := uv_len k (v / 128) (by rw [Nat.pow_succ] at h; omega) hk
      simp; omega
theorem or128 : ∀ m : Nat, m < 256 → m ||| 128 = m % 128 + 128 := by decide +kernel
/-- rows of bytes, one's own -/
def BR (x : UInt8) (row : List Value) : Prop := row = [.int .u8 x.toNat]
/-- a writer in block g that holds bs; D is what it lets alone -/
structure Wr (D : Nat → Prop) (H : Heap) (g : Nat) (bs : List UInt8) : Prop where
  lt : ∀ b, D b → b < H.size
  nD : ¬ D g
  blk : ∃ bv, H[g]? = some (.cells #[bv, .int .i64 0, .bool false] 142 (0, 0)) ∧ OwnL H 5 1 BR bv bs ∧ ∀ b, bv.ownBlock = some b → b ≠ g ∧ ¬ D b
abbrev KeptD (D : Nat → Prop) (H H' : Heap) : Prop := Kept (fun b => ¬ D b) H H'
theorem KeptD.trans {D : Nat → Prop} {a b c : Heap} (h : KeptD D a b) (k : KeptD D b c) : KeptD D a c := Kept.trans h k (fun _ s _ => s) (fun _ s _ => s)
theorem KeptD.keep {D : Nat → Prop} {a b : Heap} (h : KeptD D a b) {k : Nat} {o : Obj} (hk : a[k]? = some o) (hD : D k) : b[k]? = some o := Kept.keep h hk (fun f => f hD)
theorem KeptD.weak {D D' : Nat → Prop} {a b : Heap} (h : KeptD D' a b) (hs : ∀ k, D k → D' k) : KeptD D a b := Kept.mono h (fun i hi _ hD => hi (hs i hD))
theorem Wr.weak {D D' : Nat → Prop} {H : Heap} {g : Nat} {bs : List UInt8} (h : Wr D' H g bs) (hs : ∀ k, D k → D' k) : Wr D H g bs := by
  obtain ⟨bv, h1, h2, h3⟩ := h.blk
  exact ⟨fun b hb => h.lt b (hs b hb), fun hg => h.nD (hs g hg), bv, h1, h2, fun b e => ⟨(h3 b e).1, fun hD => (h3 b e).2 (hs b hD)⟩⟩
/-- one more block that it lets alone -/
theorem Wr.more {D : Nat → Prop} {H H' : Heap} {g p : Nat} {bs : List UInt8} {o : Obj} (h : Wr D H g bs) (hn : New H H' p o) : Wr (fun b => D b ∨ b = p) H' g bs := by
  obtain ⟨bv, h1, h2, h3⟩ := h.blk
  have hp := hn.blk
  have hs := hn.size
  have hg := lt_of_heap h1
  refine ⟨fun b hb => ?_, fun e => ?_, bv, hn.ext.keep h1 (fun f => f), h2.keep hn.ext (fun _ _ f => f) (fun _ _ _ r => r), fun b e => ⟨(h3 b e).1, fun e2 => ?_⟩⟩
  · rcases hb with hb | hb
    · have := h.lt b hb; omega
    · omega
  · rcases e with e | e
    · exact h.nD e
    · omega
  · rcases e2 with e2 | e2
    · exact (h3 b e).2 e2
    · rcases h2.form with ⟨rfl, _⟩ | ⟨gg, c, rfl, hl, _⟩
      · cases e
      · simp only [Value.ownBlock, Option.some.injEq] at e
        omega
section
variable {P : Program} {n : Nat} {W : World} {env : Env} {H : Heap} {Q : Exit → Act → World → Prop} {K : Act → World → Prop}
end
/-- one byte more -/
theorem Wr.step {D : Nat → Prop} {H H1 H2 H3 : Heap} {g g1 g2 c2 : Nat} {bs : List UInt8} {bv : Value} {x : UInt8} {o : Obj} (h : Wr D H g bs) (hb : H[g]? = some (.cells #[bv, .int .i64 0, .bool false] 142 (0, 0))) (hne : ∀ b, bv.ownBlock = some b → b ≠ g ∧ ¬ D b) (hlt : ∀ b, bv.ownBlock = some b → b < H.size)
    (n1 : New H H1 g1 o) (own : OwnL H2 5 1 BR (.slice (some ⟨g2, 0, none⟩) (bs.length + 1) c2) (bs ++ [x])) (hk : Kept (fun b => bv.ownBlock = some b) H1 H2) (hg : bv.ownBlock = some g2 ∨ H1.size ≤ g2)
    (p3 : Put H2 H3 g (.cells #[.slice (some ⟨g2, 0, none⟩) (bs.length + 1) c2, .int .i64 0, .bool false] 142 (0, 0))) : Wr D H3 g (bs ++ [x]) ∧ KeptD D H H3 := by
  have hgl := lt_of_heap hb
  have hs1 := n1.size
  have hs2 := hk.size
  have hs3 := p3.size
  have hg2 : g2 ≠ g := by
    rcases hg with e | e
    · exact (hne g2 e).1
    · omega
  refine ⟨⟨fun b hD => by have := h.lt b hD; omega, h.nD, _, p3.at_, own.keep p3.kept (fun b e e2 => ?_) (fun _ _ _ r => r), fun b e => ?_⟩, ?_⟩
  · simp only [Value.ownBlock, Option.some.injEq] at e
    omega
  · simp only [Value.ownBlock, Option.some.injEq] at e
    subst e
    refine ⟨hg2, fun hD => ?_⟩
    rcases hg with e | e
    · exact (hne g2 e).2 hD
    · have := h.lt g2 hD; omega
  · have a1 : KeptD D H H1 := n1.ext.mono (fun _ f _ => f.elim)
    have a2 : KeptD D H H2 := Kept.trans a1 hk (fun _ s _ => s) (fun i s _ hD => (hne i s).2 hD)
    exact Kept.trans a2 p3.kept (fun _ s _ => s) (fun i s _ hD => h.nD (s ▸ hD))
attribute [local irreducible] Go.wpList Go.bodyPost Go.Code.wp Go.Exit.then Go.Exit.inBlock Go.Exit.noGoto Ev.wpAnyG Go.Oper.wp Ev.Back Ev.Left Ev.Spc Ev.At Ev.Pure Ev.Reads Ev.Runs Ev.Does Ev.Cell

set_option maxHeartbeats 1000000 in
theorem uint_spec {D : Nat → Prop} {H : Heap} {g : Nat} {bs : List UInt8} (h : Wr D H g bs) (v : Nat) (hv : v < 18446744073709551616) (hl : bs.length ≤ 100000) :
    Spc Tryz.prog 119 #[.pointer (some ⟨g, 0, none⟩), .int .u64 v] H fun r H' => r = .tuple #[] ∧ KeptD D H H' ∧ Wr D H' g (bs ++ uv v) := by
  have hvl : (uv v).length ≤ 10 := uv_len 10 v (by omega) (by decide)
  refine spec_of Tryz.func119 rfl Tryz.ntmps119 rfl (fun W => ?_)
  refine At_seq ?_
  refine At_cut (fun (s : Nat) => [(0, .pointer (some ⟨g, 0, none⟩)), (1, .int .u64 s)]) (fun s H' => ∃ ws, Wr D H' g ws ∧ KeptD D H H' ∧ s ≤ 127 ∧ ws ++ uv s = bs ++ uv v) ?_ ?_
  · refine At_block ?_
    refine At_loop (fun (s : Nat × List UInt8) => [(0, .pointer (some ⟨g, 0, none⟩)), (1, .int .u64 s.1)]) (fun s H' => Wr D H' g s.2 ∧ KeptD D H H' ∧ s.2 ++ uv s.1 = bs ++ uv v ∧ s.1 < 18446744073709551616) (fun s => s.1) (v, bs) ?_ ⟨h, Kept.refl _ _, rfl, hv⟩ ?_
    · (repeat (first | exact Sub.nil | refine Sub.cons rfl ?_))
    rintro ⟨s, ws⟩ H1 ⟨hw, hk, he, hs⟩
    dsimp only at hw hk he hs
    show At _ W [(0, .pointer (some ⟨g, 0, none⟩)), (1, .int .u64 s)] H1 _
    by_cases h127 : s ≤ 127
    · repeat (first | refine codeA (k := ?_) | refine condA (k := ?_) | refine offA (k := ?_) | refine pureA (k := ?_) | refine readA (k := ?_))
      refine At_meet (E := fun (s : Nat) => [(0, .pointer (some ⟨g, 0, none⟩)), (1, .int .u64 s)]) (J := fun s H' => ∃ ws, Wr D H' g ws ∧ KeptD D H H' ∧ s ≤ 127 ∧ ws ++ uv s = bs ++ uv v) s ?_ ⟨ws, hw, hk, h127, he⟩
      (repeat (first | exact Sub.nil | refine Sub.cons rfl ?_))
    obtain ⟨bv, hb, own, hne⟩ := hw.blk
    have hwl : ws.length ≤ 200000 := by have := congrArg List.length he; simp at this; omega
    have hlt : ∀ b, bv.ownBlock = some b → b < H1.size := fun b e => by
      rcases own.form with ⟨rfl, _⟩ | ⟨gg, c, rfl, hl, _⟩
      · cases e
      · simp only [Value.ownBlock, Option.some.injEq] at e; omega
    have hbyte : ((UInt8.ofNat (s % 128 + 128)).toNat : Int) = ((s % 256 ||| 128 : Nat) : Int) := by
      rw [or128 _ (by omega)]
      simp
      omega
    repeat (first | refine codeA (k := ?_) | refine condA (k := ?_) | refine offA (k := ?_) | refine pureA (k := ?_) | refine readA (k := ?_) | refine At_block ?_)
    refine At_read (r_load rfl rfl (Cell.of hb rfl)) rfl rfl rfl ?_
    repeat (first | refine codeA (k := ?_) | refine condA (k := ?_) | refine offA (k := ?_) | refine pureA (k := ?_) | refine readA (k := ?_))
    refine At_pure (p_convInt rfl) rfl rfl rfl ?_
    refine At_tell 12 (.int .u8 ((s % 256 : Nat) : Int)) rfl (by rw [IntKind.wrap_u8]; congr 1) ?_
    refine At_pure (p_or8 (b := 128) rfl rfl (by omega) (by omega)) rfl rfl rfl ?_
    refine At_tell 13 (.int .u8 (UInt8.ofNat (s % 128 + 128)).toNat) rfl (by rw [hbyte]) ?_
    refine At_wp (W_buildSlice1 rfl rfl rfl (by decide) rfl ?_) rfl
    intro g1 H2 n1
    refine At_wp (W_append1 (R := BR) (row := [.int .u8 (UInt8.ofNat (s % 128 + 128)).toNat]) (a := UInt8.ofNat (s % 128 + 128)) (fun _ => BR) rfl rfl (own.keep n1.ext (fun _ _ f => f) (fun _ _ _ r => r)) n1.at_ rfl rfl rfl (fun u hu => by rw [List.mem_singleton.1 hu]; rfl) rfl (by decide) (by omega) (by decide) rfl (fun _ _ _ _ _ _ _ r => r) ?_) rfl
    intro g2 c2 H3 own2 hk2 hg2
    have hb3 := hk2.keep (n1.ext.keep hb (fun f => f)) (fun e => (hne g e).1 rfl)
    repeat (first | refine codeA (k := ?_) | refine condA (k := ?_) | refine offA (k := ?_) | refine pureA (k := ?_) | refine readA (k := ?_))
    refine At_wp (W_store rfl rfl hb3 rfl rfl rfl rfl ?_) rfl
    intro H4 p4
    obtain ⟨hw4, hk4⟩ := hw.step hb hne hlt n1 own2 hk2 hg2 p4
    repeat (first | refine codeA (k := ?_) | refine condA (k := ?_) | refine offA (k := ?_) | refine pureA (k := ?_) | refine readA (k := ?_))
    refine At_pure (p_shr64 (b := 7) rfl rfl (by decide)) rfl rfl rfl ?_
    repeat (first | refine codeA (k := ?_) | refine condA (k := ?_) | refine offA (k := ?_) | refine pureA (k := ?_) | refine readA (k := ?_))
    refine At_back (s / 128, ws ++ [UInt8.ofNat (s % 128 + 128)]) ?_ ⟨hw4, hk.trans hk4, ?_, by dsimp only; omega⟩ (by dsimp only; omega)
    · (repeat (first | exact Sub.nil | refine Sub.cons rfl ?_))
    · dsimp only
      rw [← he, uv_big h127]
      simp
  rintro s H1 ⟨ws, hw, hk, h127, he⟩
  obtain ⟨bv, hb, own, hne⟩ := hw.blk
  have hwl : ws.length ≤ 200000 := by have := congrArg List.length he; simp at this; omega
  have hlt : ∀ b, bv.ownBlock = some b → b < H1.size := fun b e => by
    rcases own.form with ⟨rfl, _⟩ | ⟨gg, c, rfl, hl, _⟩
    · cases e
    · simp only [Value.ownBlock, Option.some.injEq] at e; omega
  have hbyte : ((UInt8.ofNat s).toNat : Int) = ((s : Nat) : Int) := by
    simp
    omega
  repeat (first | refine codeA (k := ?_) | refine condA (k := ?_) | refine offA (k := ?_) | refine pureA (k := ?_) | refine readA (k := ?_))
  refine At_read (r_load rfl rfl (Cell.of hb rfl)) rfl rfl rfl ?_
  repeat (first | refine codeA (k := ?_) | refine condA (k := ?_) | refine offA (k := ?_) | refine pureA (k := ?_) | refine readA (k := ?_))
  refine At_pure (p_convInt rfl) rfl rfl rfl ?_
  refine At_tell 26 (.int .u8 (UInt8.ofNat s).toNat) rfl (by rw [hbyte, IntWalk.u8_in _ (by omega)]) ?_
  refine At_wp (W_buildSlice1 rfl rfl rfl (by decide) rfl ?_) rfl
  intro g1 H2 n1
  refine At_wp (W_append1 (R := BR) (row := [.int .u8 (UInt8.ofNat s).toNat]) (a := UInt8.ofNat s) (fun _ => BR) rfl rfl (own.keep n1.ext (fun _ _ f => f) (fun _ _ _ r => r)) n1.at_ rfl rfl rfl (fun u hu => by rw [List.mem_singleton.1 hu]; rfl) rfl (by decide) (by omega) (by decide) rfl (fun _ _ _ _ _ _ _ r => r) ?_) rfl
  intro g2 c2 H3 own2 hk2 hg2
  have hb3 := hk2.keep (n1.ext.keep hb (fun f => f)) (fun e => (hne g e).1 rfl)
  repeat (first | refine codeA (k := ?_) | refine condA (k := ?_) | refine offA (k := ?_) | refine pureA (k := ?_) | refine readA (k := ?_))
  refine At_wp (W_store rfl rfl hb3 rfl rfl rfl rfl ?_) rfl
  intro H4 p4
  obtain ⟨hw4, hk4⟩ := hw.step hb hne hlt n1 own2 hk2 hg2 p4
  repeat (first | refine codeA (k := ?_) | refine condA (k := ?_) | refine offA (k := ?_) | refine pureA (k := ?_) | refine readA (k := ?_))
  refine At_ret0 rfl ⟨rfl, hk.trans hk4, ?_⟩ (.inl rfl)
  rw [← he, uv_small h127]
  exact hw4
end Go.Proofs.YtlaobecajieaaaaGreat
