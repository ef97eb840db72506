/- A link in memory; Waiting, Peer, Send. -/
import Derived.Test.YtdbmhcchgbpccaaLinkA
namespace Go.Proofs.Ytdbmhcchgbpccaa
open Go Ev
set_option linter.unusedVariables false
set_option linter.unusedSimpArgs false
attribute [local irreducible] Go.wpList Go.bodyPost Go.Code.wp Go.Exit.then Go.Exit.inBlock Go.Exit.noGoto Ev.wpAnyG Go.Oper.wp Ev.Back Ev.Left Ev.Spc Ev.At Ev.Pure Ev.Reads Ev.Runs Ev.Does Ev.Cell

/-- what a link knows -/
structure Lk where
  me : Int
  peer : Int
  epoch : Int
  other : Int
  waits : List (Int × List UInt8)
  sent : Int
  came : Int
  owes : Bool
def lkCells (L : Lk) (vw : Value) : Array Value := #[.int .i64 L.me, .int .i64 L.peer, .int .i64 L.epoch, .int .i64 L.other, vw, .int .i64 L.sent, .int .i64 L.came, .bool L.owes]
def WRow (D : Nat → Prop) (H : Heap) (x : Int × List UInt8) (row : List Value) : Prop := ∃ bv, row = [.int .i64 x.1, bv] ∧ BytesAt D H bv x.2
/-- the blocks that a link may turn -/
def Ft (p : Nat) (vw : Value) (b : Nat) : Prop := b = p ∨ vw.ownBlock = some b
structure LinkAt (H : Heap) (p : Nat) (vw : Value) (L : Lk) : Prop where
  blk : H[p]? = some (.cells (lkCells L vw) 53 (0, 0))
  own : OwnL H 55 2 (WRow (fun b => ¬ Ft p vw b) H) vw L.waits
  ne : vw.ownBlock ≠ some p
theorem LinkAt.vw {H : Heap} {p : Nat} {vw : Value} {L : Lk} (h : LinkAt H p vw L) : ∃ q c, vw = .slice q L.waits.length c := by
  rcases h.own.form with ⟨h1, h2⟩ | ⟨g, c, h1, _⟩
  · exact ⟨none, 0, by rw [h1, h2]; rfl⟩
  · exact ⟨_, c, h1⟩
theorem LinkAt.keep {H H' : Heap} {p : Nat} {vw : Value} {L : Lk} (h : LinkAt H p vw L) {S : Nat → Prop} (hk : Kept S H H') (hS : ∀ b, b < H.size → S b → False) : LinkAt H' p vw L := by
  have hp := lt_of_heap h.blk
  refine ⟨hk.keep h.blk (fun s => hS p hp s), h.own.keep hk (fun g hg s => ?_) (fun x row _ hr => ?_), h.ne⟩
  · rcases h.own.form with ⟨h1, _⟩ | ⟨g', c, h1, h2, _⟩
    · rw [h1] at hg; cases hg
    · rw [h1] at hg
      simp only [Value.ownBlock, Option.some.injEq] at hg
      subst hg
      exact hS g' h2 s
  · obtain ⟨bv, h1, h2⟩ := hr
    exact ⟨bv, h1, h2.keep hk (fun b hb hl => ⟨fun s => hS b hl s, hb⟩)⟩

theorem waiting_spec {H : Heap} {p : Nat} {vw : Value} {L : Lk} (h : LinkAt H p vw L) :
    Spc Try.prog 10 #[.pointer (some ⟨p, 0, none⟩)] H fun v H' => H = H' ∧ v = .int .i64 L.waits.length := by
  obtain ⟨q, c, rfl⟩ := h.vw
  have hb := h.blk
  refine spec_of Try.func10 rfl Try.ntmps10 rfl (fun W => ?_)
  repeat (first | refine codeA (k := ?_) | refine condA (k := ?_) | refine offA (k := ?_) | refine pureA (k := ?_) | refine readA (k := ?_))
  refine At_read (r_load rfl rfl (Cell.of hb rfl)) rfl rfl rfl ?_
  repeat (first | refine codeA (k := ?_) | refine condA (k := ?_) | refine offA (k := ?_) | refine pureA (k := ?_) | refine readA (k := ?_))
  exact At_ret1 rfl rfl ⟨rfl, rfl⟩
theorem peer_spec {H : Heap} {p : Nat} {vw : Value} {L : Lk} (h : LinkAt H p vw L) :
    Spc Try.prog 14 #[.pointer (some ⟨p, 0, none⟩)] H fun v H' => H = H' ∧ v = .int .i64 L.other := by
  have hb := h.blk
  refine spec_of Try.func14 rfl Try.ntmps14 rfl (fun W => ?_)
  repeat (first | refine codeA (k := ?_) | refine condA (k := ?_) | refine offA (k := ?_) | refine pureA (k := ?_) | refine readA (k := ?_))
  refine At_read (r_load rfl rfl (Cell.of hb rfl)) rfl rfl rfl ?_
  repeat (first | refine codeA (k := ?_) | refine condA (k := ?_) | refine offA (k := ?_) | refine pureA (k := ?_) | refine readA (k := ?_))
  exact At_ret1 rfl rfl ⟨rfl, rfl⟩

theorem send_full {H : Heap} {p : Nat} {vw v : Value} {L : Lk} {l : List UInt8} (h : LinkAt H p vw L) {D : Nat → Prop} (hb : BytesAt D H v l) (hl : l.length ≤ 131072) (hw : 4 ≤ L.waits.length) :
    Spc Try.prog 8 #[.pointer (some ⟨p, 0, none⟩), v] H fun r H' => H = H' ∧ r = .int .i64 20 := by
  obtain ⟨q, c, rfl⟩ := h.vw
  obtain ⟨q2, c2, rfl⟩ := hb.form
  have hbk := h.blk
  refine spec_of Try.func8 rfl Try.ntmps8 rfl (fun W => ?_)
  repeat (first | refine codeA (k := ?_) | refine condA (k := ?_) | refine offA (k := ?_) | refine pureA (k := ?_) | refine readA (k := ?_))
  refine At_read (r_load rfl rfl (Cell.of hbk rfl)) rfl rfl rfl ?_
  repeat (first | refine codeA (k := ?_) | refine condA (k := ?_) | refine offA (k := ?_) | refine pureA (k := ?_) | refine readA (k := ?_))
  exact At_ret1 rfl rfl ⟨rfl, rfl⟩

def sentL (L : Lk) (l : List UInt8) : Lk := { L with sent := L.sent + 1, waits := L.waits ++ [(L.sent + 1, l)] }
theorem send_ok {H : Heap} {p : Nat} {vw v : Value} {L : Lk} {l : List UInt8} (h : LinkAt H p vw L) (hb : BytesAt (fun b => b ≠ p) H v l) (hl : l.length ≤ 131072) (hw : L.waits.length < 4) (hs : -1000000000000 ≤ L.sent ∧ L.sent ≤ 1000000000000) :
    Spc Try.prog 8 #[.pointer (some ⟨p, 0, none⟩), v] H fun r H' => r = .int .i64 0 ∧ Kept (Ft p vw) H H' ∧
      ∃ vw', LinkAt H' p vw' (sentL L l) ∧ ∀ g, vw'.ownBlock = some g → vw.ownBlock = some g ∨ H.size ≤ g := by
  obtain ⟨rows, ho1, ho2, ho3⟩ := h.own.rows
  obtain ⟨q, c, rfl⟩ := h.vw
  obtain ⟨q2, c2, rfl⟩ := hb.form
  have hbk := h.blk
  have hps := lt_of_heap hbk
  have hne := h.ne
  refine spec_of Try.func8 rfl Try.ntmps8 rfl (fun W => ?_)
  repeat (first | refine codeA (k := ?_) | refine condA (k := ?_) | refine offA (k := ?_) | refine pureA (k := ?_) | refine readA (k := ?_))
  refine At_read (r_load rfl rfl (Cell.of hbk rfl)) rfl rfl rfl ?_
  repeat (first | refine codeA (k := ?_) | refine condA (k := ?_) | refine offA (k := ?_) | refine pureA (k := ?_) | refine readA (k := ?_))
  refine At_read (r_load rfl rfl (Cell.of hbk rfl)) rfl rfl rfl ?_
  repeat (first | refine codeA (k := ?_) | refine condA (k := ?_) | refine offA (k := ?_) | refine pureA (k := ?_) | refine readA (k := ?_))
  refine At_wp (W_store rfl rfl hbk rfl rfl rfl rfl ?_) rfl
  intro H1 h1
  have hk1 := h1.kept
  have hp1 := h1.at_
  have hsz1 := h1.size
  have hb1 : BytesAt (fun b => b ≠ p) H1 (.slice q2 l.length c2) l := hb.keep hk1 (fun b hb _ => ⟨hb, hb⟩)
  have ho1' : Own H1 0 55 2 (.slice q L.waits.length c) L.waits.length rows.flatten := ho1.keep hk1 (fun g hg e => hne (by rw [hg, e]))
  repeat (first | refine codeA (k := ?_) | refine condA (k := ?_) | refine offA (k := ?_) | refine pureA (k := ?_) | refine readA (k := ?_))
  refine At_draw [4, 8] (fun H' => H'[p]? = some (.cells (lkCells { L with sent := L.sent + 1 } (.slice q L.waits.length c)) 53 (0, 0))) Try.mixed ?_
  first | refine gA 0 (k := ?_) | refine goffA 0 (k := ?_)
  first | refine gA 1 (k := ?_) | refine goffA 1 (k := ?_)
  first | refine gA 2 (k := ?_) | refine goffA 2 (k := ?_)
  first | refine gA 3 (k := ?_) | refine goffA 3 (k := ?_)
  refine grA 4 hp1 (fun H' hS' => r_load rfl rfl (show Cell H' p (0 + 4) (.slice q L.waits.length c) from Cell.of hS' rfl)) (k := ?_)
  first | refine gA 5 (k := ?_) | refine goffA 5 (k := ?_)
  first | refine gA 6 (k := ?_) | refine goffA 6 (k := ?_)
  first | refine gA 7 (k := ?_) | refine goffA 7 (k := ?_)
  refine grA 8 hp1 (fun H' hS' => r_load rfl rfl (show Cell H' p (0 + 5) (.int .i64 (L.sent + 1)) from Cell.of hS' rfl)) (k := ?_)
  first | refine gA 9 (k := ?_) | refine goffA 9 (k := ?_)
  refine G_op 10 rfl (by kernel_rfl) rfl (W_call rfl rfl (clone_spec hb1 (by omega)) rfl rfl ?_) 
  rintro vb H2 ⟨hk2, hb2⟩
  have hp2 := hk2.keep hp1 (fun f => f)
  have ho2' := ho1'.keep hk2 (fun g hg f => f)
  have hsz2 := hk2.size
  obtain ⟨q3, c3, rfl⟩ := hb2.form
  refine G_next (fun _ _ => hp2) ?_
  refine gpA 11 (p_build [.int .i64 (L.sent + 1), .slice q3 l.length c3] rfl rfl) (k := ?_)
  refine G_op 12 rfl (by kernel_rfl) rfl (W_buildSlice1 rfl rfl rfl (by decide) rfl ?_) 
  intro g3 H3 hn3
  have hk3 := hn3.ext
  have hp3 := hk3.keep hp2 (fun f => f)
  have ho3' := ho2'.keep hk3 (fun g hg f => f)
  have hb3 := hb2.keep hk3 (fun b hb hlt => ⟨fun f => f, (⟨hb, hlt⟩ : H1.size ≤ b ∧ b < H2.size)⟩)
  have hsz3 := hn3.size
  have hg3 := hn3.blk
  refine G_next (fun _ _ => hp3) ?_
  refine G_op 13 rfl (by kernel_rfl) rfl (W_append (news := [.int .i64 (L.sent + 1), .slice q3 l.length c3]) rfl rfl ho3' rfl ?_ ?_ (Nat.zero_le _) rfl (by decide) (by decide) ?_ ?_ rfl ?_)
  · intro j u hj
    rw [Nat.zero_add]
    exact Cell.of hn3.at_ (by simpa [Value.cells] using hj)
  · intro u hu
    simp only [List.mem_cons, List.not_mem_nil, or_false] at hu
    rcases hu with rfl | rfl <;> rfl
  · simp only [maxLen]; omega
  · omega
  intro g4 c4 H4 hown4 hk4 hg4
  have hp4 := hk4.keep hp3 hne
  have hsz4 := hk4.size
  refine G_next (fun _ _ => hp4) ?_
  first | refine gA 14 (k := ?_) | refine goffA 14 (k := ?_)
  first | refine gA 15 (k := ?_) | refine goffA 15 (k := ?_)
  refine G_op 16 rfl (by kernel_rfl) rfl (W_store rfl rfl hp4 rfl rfl rfl rfl ?_) 
  intro H5 h5
  refine G_free (by kernel_rfl) ?_
  refine G_done (by kernel_rfl) ?_
  repeat (first | refine codeA (k := ?_) | refine condA (k := ?_) | refine offA (k := ?_) | refine pureA (k := ?_) | refine readA (k := ?_))
  have hk5 := h5.kept
  have hg4p : g4 ≠ p := by
    rcases hg4 with e | e
    · intro e2; subst e2; exact hne e
    · omega
  refine At_ret1 rfl rfl ⟨rfl, ?_, .slice (some ⟨g4, 0, none⟩) (L.waits.length + 1) c4, ⟨?_, ?_, ?_⟩, ?_⟩
  · have a1 : Kept (Ft p (.slice q L.waits.length c)) H H1 := hk1.mono (fun i e _ => .inl e)
    have a2 : Kept (Ft p (.slice q L.waits.length c)) H H3 := a1.then_ext (hk2.trans hk3)
    have a3 : Kept (Ft p (.slice q L.waits.length c)) H H4 := Kept.trans a2 hk4 (fun i s _ => s) (fun i s _ => .inr s)
    exact Kept.trans a3 hk5 (fun i s _ => s) (fun i s _ => .inl s)
  · exact h5.at_
  · refine OwnL.snoc (rows := rows) (hown4.keep hk5 (fun g hg e => ?_)) ho2 ?_ ⟨_, rfl, ?_⟩ rfl
    · simp only [Value.ownBlock, Option.some.injEq] at hg
      omega
    · intro i x row hx hrow
      obtain ⟨⟨bv, e1, e2⟩, e3⟩ := ho3 i x row hx hrow
      refine ⟨⟨bv, e1, ?_⟩, e3⟩
      have a1 := e2.keep hk1 (fun b hb hlt => ⟨fun e => hb (.inl e), (⟨hb, hlt⟩ : ¬ Ft p (.slice q L.waits.length c) b ∧ b < H.size)⟩)
      have a2 := a1.keep (hk2.trans hk3) (fun b hb _ => ⟨fun f => f, hb⟩)
      have a3 := a2.keep hk4 (fun b hb _ => ⟨fun e => hb.1 (.inr e), hb⟩)
      refine a3.keep hk5 (fun b hb _ => ⟨fun e => hb.1 (.inl e), ?_⟩)
      rintro (e | e)
      · exact hb.1 (.inl e)
      · simp only [Value.ownBlock, Option.some.injEq] at e
        rcases hg4 with e5 | e5
        · exact hb.1 (.inr (by rw [e5, e]))
        · omega
    · have a3 := hb3.keep hk4 (fun b hb _ => ⟨fun e => ?_, hb⟩)
      · refine a3.keep hk5 (fun b hb _ => ⟨fun e => by omega, ?_⟩)
        rintro (e | e)
        · omega
        · simp only [Value.ownBlock, Option.some.injEq] at e
          rcases hg4 with e5 | e5
          · have := (ho1.lt e5).2
            omega
          · omega
      · have := (ho1.lt e).2
        omega
  · intro e
    simp only [Value.ownBlock, Option.some.injEq] at e
    exact hg4p e
  · intro g hg
    simp only [Value.ownBlock, Option.some.injEq] at hg
    subst hg
    rcases hg4 with e | e
    · exact .inl e
    · exact .inr (by omega)
end Go.Proofs.Ytdbmhcchgbpccaa
