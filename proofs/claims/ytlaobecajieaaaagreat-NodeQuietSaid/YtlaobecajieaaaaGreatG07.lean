/- Copies and comparisons of byte slices; a link's making and asking; Send. -/
import Derived.Test.YtlaobecajieaaaaGreatG03
import Derived.Test.YtlaobecajieaaaaGreatG04
namespace Go.Proofs.YtlaobecajieaaaaGreat
open Go Ev
set_option linter.unusedVariables false
set_option linter.unusedSimpArgs false
attribute [local irreducible] Go.wpList Go.bodyPost Go.Code.wp Go.Exit.then Go.Exit.inBlock Go.Exit.noGoto Ev.wpAnyG Go.Oper.wp Ev.Back Ev.Left Ev.Spc Ev.At Ev.Pure Ev.Reads Ev.Runs Ev.Does Ev.Cell

theorem clone_spec {D : Nat → Prop} {H : Heap} {v : Value} {l : List UInt8} (hb : BytesAt D H v l) (hl : l.length ≤ 70368744177664) :
    Spc Tryz.prog 59 #[v] H fun v' H' => Ext H H' ∧ BytesAt (fun b => H.size ≤ b) H' v' l := by
  refine spec_of Tryz.func59 rfl Tryz.ntmps59 rfl (fun W => ?_)
  obtain ⟨p, c, rfl⟩ := hb.form
  obtain ⟨_, hc0, hcm, hpn⟩ : ∃ u : Unit, l.length ≤ c ∧ c ≤ maxLen ∧ (p = none → c = 0) := by
    obtain ⟨p', c', e, h1, h2, h3, _⟩ := hb
    cases e
    exact ⟨(), h1, h2, h3⟩
  cases p with
  | none =>
    have hl0 : l = [] := List.eq_nil_of_length_eq_zero (by have := hpn rfl; omega)
    subst hl0
    repeat (first | refine codeA (k := ?_) | refine condA (k := ?_) | refine offA (k := ?_) | refine pureA (k := ?_) | refine readA (k := ?_))
    exact At_ret1 rfl rfl ⟨Kept.refl _ _, BytesAt.nil _ _⟩
  | some ad =>
    repeat (first | refine codeA (k := ?_) | refine condA (k := ?_) | refine offA (k := ?_) | refine pureA (k := ?_) | refine readA (k := ?_))
    refine At_wp (W_buildSlice0 rfl ?_) rfl
    intro g H1 hn
    repeat (first | refine codeA (k := ?_) | refine condA (k := ?_) | refine offA (k := ?_) | refine pureA (k := ?_) | refine readA (k := ?_))
    rcases Nat.eq_zero_or_pos l.length with h0 | hp
    · have hl0 : l = [] := List.eq_nil_of_length_eq_zero h0
      subst hl0
      refine At_read (r_append0 rfl rfl (Nat.le_refl _)) rfl rfl rfl ?_
      repeat (first | refine codeA (k := ?_) | refine condA (k := ?_) | refine offA (k := ?_) | refine pureA (k := ?_) | refine readA (k := ?_))
      refine At_ret1 rfl rfl ⟨hn.ext, BytesAt.mk (l := []) (Nat.le_refl _) (by simp [maxLen]) (by have := hn.blk; omega) (fun i x h => by simp at h)⟩
    · obtain ⟨b, o, e, _, h3, h5⟩ := hb.some hp
      simp only [Option.some.injEq] at e
      subst e
      have hgb : g ≠ b := by have := hn.blk; omega
      have hown : Own H1 0 5 1 (.slice (some ⟨g, 0, none⟩) 0 0) 0 [] := ⟨by simp, .inr ⟨g, 0, #[], rfl, Nat.zero_le _, hn.at_, Nat.le_refl _, by simp [maxLen], by simp, by simp⟩⟩
      refine At_wp (W_append (news := l.map fun x => .int .u8 x.toNat) rfl rfl hown ?_ ?_ ?_ (Nat.zero_le _) rfl (by decide) hp ?_ ?_ rfl ?_) rfl
      · simp
      · intro j u hj
        simp only [List.getElem?_map, Option.map_eq_some_iff] at hj
        obtain ⟨x, hx, rfl⟩ := hj
        exact (h5 j x hx).keep hn.ext (fun f => f)
      · intro u hu
        simp only [List.mem_map] at hu
        obtain ⟨x, _, rfl⟩ := hu
        rfl
      · simp only [maxLen]; omega
      · omega
      intro g2 c2 H2 hown2 hk2 hg2
      rw [List.nil_append, Nat.zero_add] at hown2
      repeat (first | refine codeA (k := ?_) | refine condA (k := ?_) | refine offA (k := ?_) | refine pureA (k := ?_) | refine readA (k := ?_))
      have hb2 := hn.blk
      have hs2 := hn.size
      have hk2s := hk2.size
      have hb3 : BytesAt (fun b => H.size ≤ b) H2 (.slice (some ⟨g2, 0, none⟩) l.length c2) l := by
        rcases hown2.form with ⟨h, _⟩ | ⟨g3, c3, h, _, _, h6, h7⟩
        · cases h
        · simp only [Value.slice.injEq, true_and] at h
          refine BytesAt.mk (by omega) (by omega) ?_ (fun i x hx => ?_)
          · simp only [Value.ownBlock, Option.some.injEq] at hg2
            omega
          · rw [Nat.zero_add]
            exact hown2.cell (by simp [hx])
      refine At_ret1 rfl rfl ⟨Kept.trans hn.ext hk2 (fun _ f _ => f) (fun i hi hlt => ?_), ?_⟩
      · simp only [Value.ownBlock, Option.some.injEq] at hi
        omega
      · rw [Nat.zero_add]
        exact hb3

theorem cluster_spec (i : Int) (H : Heap) : Spc Tryz.prog 44 #[.int .i64 i] H fun v H' => H = H' ∧ v = .bool (decide (0 ≤ i ∧ i < 64)) := by
  refine spec_of Tryz.func44 rfl Tryz.ntmps44 rfl (fun W => ?_)
  by_cases h1 : 0 ≤ i
  · by_cases h2 : i < 64
    · repeat (first | refine codeA (k := ?_) | refine condA (k := ?_) | refine offA (k := ?_) | refine pureA (k := ?_) | refine readA (k := ?_))
      exact At_ret1 rfl rfl ⟨rfl, by simp [h1, h2]⟩
    · repeat (first | refine codeA (k := ?_) | refine condA (k := ?_) | refine offA (k := ?_) | refine pureA (k := ?_) | refine readA (k := ?_))
      exact At_ret1 rfl rfl ⟨rfl, by simp [h2]⟩
  · repeat (first | refine codeA (k := ?_) | refine condA (k := ?_) | refine offA (k := ?_) | refine pureA (k := ?_) | refine readA (k := ?_))
    exact At_ret1 rfl rfl ⟨rfl, by simp [h1]⟩
theorem cluster_yes (i : Int) (H : Heap) (h : 0 ≤ i ∧ i < 64) : Spc Tryz.prog 44 #[.int .i64 i] H fun v H' => H = H' ∧ v = .bool true :=
  (cluster_spec i H).mono fun v H' ⟨h1, h2⟩ => ⟨h1, by rw [h2, decide_eq_true h]⟩

theorem new_ok (me peer ep : Int) (H : Heap) (h1 : 0 ≤ me ∧ me < 64) (h2 : 0 ≤ peer ∧ peer < 64) (h3 : 1 ≤ ep) :
    Spc Tryz.prog 18 #[.int .i64 me, .int .i64 peer, .int .i64 ep] H fun v H' => ∃ b, v = .tuple #[.pointer (some ⟨b, 0, none⟩), .int .i64 0] ∧
      New H H' b (.cells #[.int .i64 me, .int .i64 peer, .int .i64 ep, .int .i64 0, .slice none 0 0, .int .i64 0, .int .i64 0, .bool false] 115) := by
  refine spec_of Tryz.func18 rfl Tryz.ntmps18 rfl (fun W => ?_)
  repeat (first | refine codeA (k := ?_) | refine condA (k := ?_) | refine offA (k := ?_) | refine pureA (k := ?_) | refine readA (k := ?_))
  refine At_wp (W_call rfl rfl (cluster_yes me H h1) rfl rfl ?_) rfl
  rintro _ _ ⟨rfl, rfl⟩
  repeat (first | refine codeA (k := ?_) | refine condA (k := ?_) | refine offA (k := ?_) | refine pureA (k := ?_) | refine readA (k := ?_))
  refine At_wp (W_call rfl rfl (cluster_yes peer H h2) rfl rfl ?_) rfl
  rintro _ _ ⟨rfl, rfl⟩
  repeat (first | refine codeA (k := ?_) | refine condA (k := ?_) | refine offA (k := ?_) | refine pureA (k := ?_) | refine readA (k := ?_))
  refine At_pure (p_build [.int .i64 me, .int .i64 peer, .int .i64 ep, .int .i64 0, .slice none 0 0, .int .i64 0, .int .i64 0, .bool false] rfl rfl) rfl rfl rfl ?_
  refine At_wp (W_box rfl rfl rfl ?_) rfl
  intro b H1 hn
  repeat (first | refine codeA (k := ?_) | refine condA (k := ?_) | refine offA (k := ?_) | refine pureA (k := ?_) | refine readA (k := ?_))
  exact At_ret2 rfl rfl rfl ⟨b, rfl, hn⟩
end Go.Proofs.YtlaobecajieaaaaGreat
/- A link in memory; Waiting, Peer, Send. -/
namespace Go.Proofs.YtlaobecajieaaaaGreat
open Go Ev
set_option linter.unusedVariables false
set_option linter.unusedSimpArgs false
attribute [local irreducible] Go.wpList Go.bodyPost Go.Code.wp Go.Exit.then Go.Exit.inBlock Go.Exit.noGoto Ev.wpAnyG Go.Oper.wp Ev.Back Ev.Left Ev.Spc Ev.At Ev.Pure Ev.Reads Ev.Runs Ev.Does Ev.Cell

/-- what a link knows -/
structure Lk where
  me : Int
  peer : Int
  epoch : Int
  other : Int
  waits : List (Int × List UInt8)
  sent : Int
  came : Int
  owes : Bool
def lkCells (L : Lk) (vw : Value) : Array Value := #[.int .i64 L.me, .int .i64 L.peer, .int .i64 L.epoch, .int .i64 L.other, vw, .int .i64 L.sent, .int .i64 L.came, .bool L.owes]
def WRow (D : Nat → Prop) (H : Heap) (x : Int × List UInt8) (row : List Value) : Prop := ∃ bv, row = [.int .i64 x.1, bv] ∧ BytesAt D H bv x.2
/-- the blocks that a link may turn -/
def Ft (p : Nat) (vw : Value) (b : Nat) : Prop := b = p ∨ vw.ownBlock = some b
structure LinkAt (H : Heap) (p : Nat) (vw : Value) (L : Lk) : Prop where
  blk : H[p]? = some (.cells (lkCells L vw) 115 (0, 0))
  own : OwnL H 133 2 (WRow (fun b => ¬ Ft p vw b) H) vw L.waits
  ne : vw.ownBlock ≠ some p
theorem LinkAt.vw {H : Heap} {p : Nat} {vw : Value} {L : Lk} (h : LinkAt H p vw L) : ∃ q c, vw = .slice q L.waits.length c := by
  rcases h.own.form with ⟨h1, h2⟩ | ⟨g, c, h1, _⟩
  · exact ⟨none, 0, by rw [h1, h2]; rfl⟩
  · exact ⟨_, c, h1⟩
theorem LinkAt.keep {H H' : Heap} {p : Nat} {vw : Value} {L : Lk} (h : LinkAt H p vw L) {S : Nat → Prop} (hk : Kept S H H') (hS : ∀ b, b < H.size → S b → False) : LinkAt H' p vw L := by
  have hp := lt_of_heap h.blk
  refine ⟨hk.keep h.blk (fun s => hS p hp s), h.own.keep hk (fun g hg s => ?_) (fun x row _ hr => ?_), h.ne⟩
  · rcases h.own.form with ⟨h1, _⟩ | ⟨g', c, h1, h2, _⟩
    · rw [h1] at hg; cases hg
    · rw [h1] at hg
      simp only [Value.ownBlock, Option.some.injEq] at hg
      subst hg
      exact hS g' h2 s
  · obtain ⟨bv, h1, h2⟩ := hr
    exact ⟨bv, h1, h2.keep hk (fun b hb hl => ⟨fun s => hS b hl s, hb⟩)⟩

theorem waiting_spec {H : Heap} {p : Nat} {vw : Value} {L : Lk} (h : LinkAt H p vw L) :
    Spc Tryz.prog 23 #[.pointer (some ⟨p, 0, none⟩)] H fun v H' => H = H' ∧ v = .int .i64 L.waits.length := by
  obtain ⟨q, c, rfl⟩ := h.vw
  have hb := h.blk
  refine spec_of Tryz.func23 rfl Tryz.ntmps23 rfl (fun W => ?_)
  repeat (first | refine codeA (k := ?_) | refine condA (k := ?_) | refine offA (k := ?_) | refine pureA (k := ?_) | refine readA (k := ?_))
  refine At_read (r_load rfl rfl (Cell.of hb rfl)) rfl rfl rfl ?_
  repeat (first | refine codeA (k := ?_) | refine condA (k := ?_) | refine offA (k := ?_) | refine pureA (k := ?_) | refine readA (k := ?_))
  exact At_ret1 rfl rfl ⟨rfl, rfl⟩
theorem send_full {H : Heap} {p : Nat} {vw v : Value} {L : Lk} {l : List UInt8} (h : LinkAt H p vw L) {D : Nat → Prop} (hb : BytesAt D H v l) (hl : l.length ≤ 131072) (hw : 4 ≤ L.waits.length) :
    Spc Tryz.prog 53 #[.pointer (some ⟨p, 0, none⟩), v] H fun r H' => H = H' ∧ r = .int .i64 20 := by
  obtain ⟨q, c, rfl⟩ := h.vw
  obtain ⟨q2, c2, rfl⟩ := hb.form
  have hbk := h.blk
  refine spec_of Tryz.func53 rfl Tryz.ntmps53 rfl (fun W => ?_)
  repeat (first | refine codeA (k := ?_) | refine condA (k := ?_) | refine offA (k := ?_) | refine pureA (k := ?_) | refine readA (k := ?_))
  refine At_read (r_load rfl rfl (Cell.of hbk rfl)) rfl rfl rfl ?_
  repeat (first | refine codeA (k := ?_) | refine condA (k := ?_) | refine offA (k := ?_) | refine pureA (k := ?_) | refine readA (k := ?_))
  exact At_ret1 rfl rfl ⟨rfl, rfl⟩

def sentL (L : Lk) (l : List UInt8) : Lk := { L with sent := L.sent + 1, waits := L.waits ++ [(L.sent + 1, l)] }
theorem send_ok {H : Heap} {p : Nat} {vw v : Value} {L : Lk} {l : List UInt8} (h : LinkAt H p vw L) (hb : BytesAt (fun b => b ≠ p) H v l) (hl : l.length ≤ 131072) (hw : L.waits.length < 4) (hs : -1000000000000 ≤ L.sent ∧ L.sent ≤ 1000000000000) :
    Spc Tryz.prog 53 #[.pointer (some ⟨p, 0, none⟩), v] H fun r H' => r = .int .i64 0 ∧ Kept (Ft p vw) H H' ∧
      ∃ vw', LinkAt H' p vw' (sentL L l) ∧ ∀ g, vw'.ownBlock = some g → vw.ownBlock = some g ∨ H.size ≤ g := by
  obtain ⟨rows, ho1, ho2, ho3⟩ := h.own.rows
  obtain ⟨q, c, rfl⟩ := h.vw
  obtain ⟨q2, c2, rfl⟩ := hb.form
  have hbk := h.blk
  have hps := lt_of_heap hbk
  have hne := h.ne
  refine spec_of Tryz.func53 rfl Tryz.ntmps53 rfl (fun W => ?_)
  repeat (first | refine codeA (k := ?_) | refine condA (k := ?_) | refine offA (k := ?_) | refine pureA (k := ?_) | refine readA (k := ?_))
  refine At_read (r_load rfl rfl (Cell.of hbk rfl)) rfl rfl rfl ?_
  repeat (first | refine codeA (k := ?_) | refine condA (k := ?_) | refine offA (k := ?_) | refine pureA (k := ?_) | refine readA (k := ?_))
  refine At_read (r_load rfl rfl (Cell.of hbk rfl)) rfl rfl rfl ?_
  repeat (first | refine codeA (k := ?_) | refine condA (k := ?_) | refine offA (k := ?_) | refine pureA (k := ?_) | refine readA (k := ?_))
  refine At_wp (W_store rfl rfl hbk rfl rfl rfl rfl ?_) rfl
  intro H1 h1
  have hk1 := h1.kept
  have hp1 := h1.at_
  have hsz1 := h1.size
  have hb1 : BytesAt (fun b => b ≠ p) H1 (.slice q2 l.length c2) l := hb.keep hk1 (fun b hb _ => ⟨hb, hb⟩)
  have ho1' : Own H1 0 133 2 (.slice q L.waits.length c) L.waits.length rows.flatten := ho1.keep hk1 (fun g hg e => hne (by rw [hg, e]))
  repeat (first | refine codeA (k := ?_) | refine condA (k := ?_) | refine offA (k := ?_) | refine pureA (k := ?_) | refine readA (k := ?_))
  refine At_draw [4, 8] (fun H' => H'[p]? = some (.cells (lkCells { L with sent := L.sent + 1 } (.slice q L.waits.length c)) 115 (0, 0))) Tryz.mixed ?_
  first | refine gA 0 (k := ?_) | refine goffA 0 (k := ?_)
  first | refine gA 1 (k := ?_) | refine goffA 1 (k := ?_)
  first | refine gA 2 (k := ?_) | refine goffA 2 (k := ?_)
  first | refine gA 3 (k := ?_) | refine goffA 3 (k := ?_)
  refine grA 4 hp1 (fun H' hS' => r_load rfl rfl (show Cell H' p (0 + 4) (.slice q L.waits.length c) from Cell.of hS' rfl)) (k := ?_)
  first | refine gA 5 (k := ?_) | refine goffA 5 (k := ?_)
  first | refine gA 6 (k := ?_) | refine goffA 6 (k := ?_)
  first | refine gA 7 (k := ?_) | refine goffA 7 (k := ?_)
  refine grA 8 hp1 (fun H' hS' => r_load rfl rfl (show Cell H' p (0 + 5) (.int .i64 (L.sent + 1)) from Cell.of hS' rfl)) (k := ?_)
  first | refine gA 9 (k := ?_) | refine goffA 9 (k := ?_)
  refine G_op 10 rfl (by kernel_rfl) rfl (W_call rfl rfl (clone_spec hb1 (by omega)) rfl rfl ?_) 
  rintro vb H2 ⟨hk2, hb2⟩
  have hp2 := hk2.keep hp1 (fun f => f)
  have ho2' := ho1'.keep hk2 (fun g hg f => f)
  have hsz2 := hk2.size
  obtain ⟨q3, c3, rfl⟩ := hb2.form
  refine G_next (fun _ _ => hp2) ?_
  refine gpA 11 (p_build [.int .i64 (L.sent + 1), .slice q3 l.length c3] rfl rfl) (k := ?_)
  refine G_op 12 rfl (by kernel_rfl) rfl (W_buildSlice1 rfl rfl rfl (by decide) rfl ?_) 
  intro g3 H3 hn3
  have hk3 := hn3.ext
  have hp3 := hk3.keep hp2 (fun f => f)
  have ho3' := ho2'.keep hk3 (fun g hg f => f)
  have hb3 := hb2.keep hk3 (fun b hb hlt => ⟨fun f => f, (⟨hb, hlt⟩ : H1.size ≤ b ∧ b < H2.size)⟩)
  have hsz3 := hn3.size
  have hg3 := hn3.blk
  refine G_next (fun _ _ => hp3) ?_
  refine G_op 13 rfl (by kernel_rfl) rfl (W_append (news := [.int .i64 (L.sent + 1), .slice q3 l.length c3]) rfl rfl ho3' rfl ?_ ?_ (Nat.zero_le _) rfl (by decide) (by decide) ?_ ?_ rfl ?_)
  · intro j u hj
    rw [Nat.zero_add]
    exact Cell.of hn3.at_ (by simpa [Value.cells] using hj)
  · intro u hu
    simp only [List.mem_cons, List.not_mem_nil, or_false] at hu
    rcases hu with rfl | rfl <;> rfl
  · simp only [maxLen]; omega
  · omega
  intro g4 c4 H4 hown4 hk4 hg4
  have hp4 := hk4.keep hp3 hne
  have hsz4 := hk4.size
  refine G_next (fun _ _ => hp4) ?_
  first | refine gA 14 (k := ?_) | refine goffA 14 (k := ?_)
  first | refine gA 15 (k := ?_) | refine goffA 15 (k := ?_)
  refine G_op 16 rfl (by kernel_rfl) rfl (W_store rfl rfl hp4 rfl rfl rfl rfl ?_) 
  intro H5 h5
  refine G_free (by kernel_rfl) ?_
  refine G_done (by kernel_rfl) ?_
  repeat (first | refine codeA (k := ?_) | refine condA (k := ?_) | refine offA (k := ?_) | refine pureA (k := ?_) | refine readA (k := ?_))
  have hk5 := h5.kept
  have hg4p : g4 ≠ p := by
    rcases hg4 with e | e
    · intro e2; subst e2; exact hne e
    · omega
  refine At_ret1 rfl rfl ⟨rfl, ?_, .slice (some ⟨g4, 0, none⟩) (L.waits.length + 1) c4, ⟨?_, ?_, ?_⟩, ?_⟩
  · have a1 : Kept (Ft p (.slice q L.waits.length c)) H H1 := hk1.mono (fun i e _ => .inl e)
    have a2 : Kept (Ft p (.slice q L.waits.length c)) H H3 := a1.then_ext (hk2.trans hk3)
    have a3 : Kept (Ft p (.slice q L.waits.length c)) H H4 := Kept.trans a2 hk4 (fun i s _ => s) (fun i s _ => .inr s)
    exact Kept.trans a3 hk5 (fun i s _ => s) (fun i s _ => .inl s)
  · exact h5.at_
  · refine OwnL.snoc (rows := rows) (hown4.keep hk5 (fun g hg e => ?_)) ho2 ?_ ⟨_, rfl, ?_⟩ rfl
    · simp only [Value.ownBlock, Option.some.injEq] at hg
      omega
    · intro i x row hx hrow
      obtain ⟨⟨bv, e1, e2⟩, e3⟩ := ho3 i x row hx hrow
      refine ⟨⟨bv, e1, ?_⟩, e3⟩
      have a1 := e2.keep hk1 (fun b hb hlt => ⟨fun e => hb (.inl e), (⟨hb, hlt⟩ : ¬ Ft p (.slice q L.waits.length c) b ∧ b < H.size)⟩)
      have a2 := a1.keep (hk2.trans hk3) (fun b hb _ => ⟨fun f => f, hb⟩)
      have a3 := a2.keep hk4 (fun b hb _ => ⟨fun e => hb.1 (.inr e), hb⟩)
      refine a3.keep hk5 (fun b hb _ => ⟨fun e => hb.1 (.inl e), ?_⟩)
      rintro (e | e)
      · exact hb.1 (.inl e)
      · simp only [Value.ownBlock, Option.some.injEq] at e
        rcases hg4 with e5 | e5
        · exact hb.1 (.inr (by rw [e5, e]))
        · omega
    · have a3 := hb3.keep hk4 (fun b hb _ => ⟨fun e => ?_, hb⟩)
      · refine a3.keep hk5 (fun b hb _ => ⟨fun e => by omega, ?_⟩)
        rintro (e | e)
        · omega
        · simp only [Value.ownBlock, Option.some.injEq] at e
          rcases hg4 with e5 | e5
          · have := (ho1.lt e5).2
            omega
          · omega
      · have := (ho1.lt e).2
        omega
  · intro e
    simp only [Value.ownBlock, Option.some.injEq] at e
    exact hg4p e
  · intro g hg
    simp only [Value.ownBlock, Option.some.injEq] at hg
    subst hg
    rcases hg4 with e | e
    · exact .inl e
    · exact .inr (by omega)
end Go.Proofs.YtlaobecajieaaaaGreat
/- Frames. -/
namespace Go.Proofs.YtlaobecajieaaaaGreat
open Go Ev
set_option linter.unusedVariables false
set_option linter.unusedSimpArgs false
attribute [local irreducible] Go.wpList Go.bodyPost Go.Code.wp Go.Exit.then Go.Exit.inBlock Go.Exit.noGoto Ev.wpAnyG Go.Oper.wp Ev.Back Ev.Left Ev.Spc Ev.At Ev.Pure Ev.Reads Ev.Runs Ev.Does Ev.Cell

/-- a frame -/
structure Fr where
  frm : Int
  to : Int
  epoch : Int
  peer : Int
  seq : Int
  ack : Int
  body : List UInt8
def frCells (f : Fr) (bv : Value) : List Value := [.int .i64 f.frm, .int .i64 f.to, .int .i64 f.epoch, .int .i64 f.peer, .int .i64 f.seq, .int .i64 f.ack, bv]
def FRow (D : Nat → Prop) (H : Heap) (f : Fr) (row : List Value) : Prop := ∃ bv, row = frCells f bv ∧ BytesAt D H bv f.body
def frOf (L : Lk) (x : Int × List UInt8) : Fr := ⟨L.me, L.peer, L.epoch, L.other, x.1, L.came, x.2⟩
def framesOf (L : Lk) : List Fr := if L.waits = [] ∧ L.owes = true then [frOf L (0, [])] else L.waits.map (frOf L)

/-- one's own row and its elements' bodies, all of them new since H -/
def OutAt (H H' : Heap) (bf : Nat) (v : Value) (fs : List Fr) : Prop :=
  OwnL H' 92 7 (FRow (fun b => H.size ≤ b ∧ b ≠ bf ∧ v.ownBlock ≠ some b) H') v fs ∧ ∀ g, v.ownBlock = some g → H.size ≤ g ∧ g ≠ bf
theorem OutAt.keep {H H1 H2 : Heap} {bf : Nat} {v : Value} {fs : List Fr} (h : OutAt H H1 bf v fs) {S : Nat → Prop} (hk : Kept S H1 H2) (hS : ∀ b, S b → b < H1.size → b < H.size ∨ b = bf) : OutAt H H2 bf v fs := by
  refine ⟨h.1.keep hk (fun g hg s => ?_) (fun x row _ hr => ?_), h.2⟩
  · obtain ⟨a1, a2⟩ := h.2 g hg
    rcases h.1.form with ⟨e, _⟩ | ⟨g', c, e, hl, _⟩
    · rw [e] at hg; cases hg
    · rw [e] at hg
      simp only [Value.ownBlock, Option.some.injEq] at hg
      subst hg
      rcases hS g' s hl with a3 | a3 <;> omega
  · obtain ⟨bv, e1, e2⟩ := hr
    refine ⟨bv, e1, e2.keep hk (fun b hb hl => ⟨fun s => ?_, hb⟩)⟩
    rcases hS b s hl with a3 | a3 <;> omega

set_option maxHeartbeats 1000000 in
theorem out_append {n : Nat} {W : World} {env : Env} {H H1 : Heap} {Q : Exit → Act → World → Prop} {K : Act → World → Prop} {dd bf b c : Nat} {v bv : Value} {fs : List Fr} {f : Fr} {x y : Operand} {ty : TypeId} {pos : String} {af : Array Edge} {gd : Option (Nat × Bool)}
    (hx : ev env x = some v) (hy : ev env y = some (.slice (some ⟨b, 0, none⟩) 1 c)) (ho : OutAt H H1 bf v fs) (hb : H1[b]? = some (.cells (frCells f bv).toArray 92 (0, 0))) (hbv : BytesAt (fun b => H.size ≤ b ∧ b ≠ bf ∧ v.ownBlock ≠ some b) H1 bv f.body) (hH : H.size ≤ H1.size) (hbf : bf < H1.size) (hl : fs.length ≤ 1000000)
    (hn : Nat.blt dd n = true)
    (k : ∀ g c' H', OutAt H H' bf (.slice (some ⟨g, 0, none⟩) (fs.length + 1) c') (fs ++ [f]) → Kept (fun k => H.size ≤ k ∧ k ≠ bf) H1 H' →
      At n W ((dd, .slice (some ⟨g, 0, none⟩) (fs.length + 1) c') :: env) H' K) :
    At n W env H1 (fun a w => Oper.wp Tryz.prog ⟨some dd, .call ⟨.builtin .append, #[x, y], #[35, 35]⟩, ty, pos, af, gd⟩ a w K Q) := by
  obtain ⟨rows, ho1, ho2, ho3⟩ := ho.1.rows
  refine W_append (news := frCells f bv) hx hy ho1 rfl ?_ ?_ (Nat.zero_le _) rfl (by decide) (by decide) ?_ ?_ hn ?_
  · intro j u hj
    rw [Nat.zero_add]
    exact Cell.of hb (by simpa using hj)
  · intro u hu
    simp only [frCells, List.mem_cons, List.not_mem_nil, or_false] at hu
    rcases hu with rfl | rfl | rfl | rfl | rfl | rfl | rfl
    any_goals rfl
    exact hbv.one.2
  · simp only [maxLen]; omega
  · omega
  intro g c' H' hown hk hg
  have hgn : H.size ≤ g ∧ g ≠ bf := by
    rcases hg with e | e
    · exact ho.2 g e
    · omega
  have hnew : ∀ {bw : Value} {l : List UInt8}, BytesAt (fun b => H.size ≤ b ∧ b ≠ bf ∧ v.ownBlock ≠ some b) H1 bw l → BytesAt (fun b => H.size ≤ b ∧ b ≠ bf ∧ (Value.slice (some ⟨g, 0, none⟩) (fs.length + 1) c').ownBlock ≠ some b) H' bw l := fun hw =>
    hw.keep hk (fun b hb hlt => ⟨fun e => hb.2.2 e, hb.1, hb.2.1, fun e => by
      simp only [Value.ownBlock, Option.some.injEq] at e
      subst e
      rcases hg with e | e
      · exact hb.2.2 e
      · omega⟩)
  refine k g c' H' ⟨OwnL.snoc hown ho2 (fun i x row hx hr => ?_) ⟨bv, rfl, hnew hbv⟩ rfl, fun g' hg' => ?_⟩ (hk.mono fun i e _ => ho.2 i e)
  · obtain ⟨⟨bw, e1, e2⟩, e3⟩ := ho3 i x row hx hr
    exact ⟨⟨bw, e1, hnew e2⟩, e3⟩
  · simp only [Value.ownBlock, Option.some.injEq] at hg'
    subst hg'
    exact hgn

/-- the loop over the waiting frames: after k rounds -/
structure FJ (H : Heap) (p : Nat) (vw : Value) (L : Lk) (bf k : Nat) (vo : Value) (Hk : Heap) : Prop where
  le : k ≤ L.waits.length
  out : OutAt H Hk bf vo ((L.waits.take k).map (frOf L))
  f : ∃ sq bv, Hk[bf]? = some (.cells #[.int .i64 L.me, .int .i64 L.peer, .int .i64 L.epoch, .int .i64 L.other, .int .i64 sq, .int .i64 L.came, bv] 92 (0, 0)) ∧ (k = 0 → sq = 0 ∧ bv = .slice none 0 0)
  ext : Ext H Hk
  bf : H.size ≤ bf

theorem frames_end {H H3 H4 : Heap} {p bf : Nat} {vw v : Value} {L : Lk} {fs : List Fr} (h : LinkAt H p vw L) (hx : Ext H H3) (hp : Put H3 H4 p (.cells (lkCells { L with owes := false } vw) 115 (0, 0))) (ho : OutAt H H3 bf v fs) :
    LinkAt H4 p vw { L with owes := false } ∧ Kept (· = p) H H4 ∧ OwnL H4 92 7 (FRow (fun b => H.size ≤ b ∧ v.ownBlock ≠ some b) H4) v fs ∧ ∀ g, v.ownBlock = some g → H.size ≤ g := by
  have hps := lt_of_heap h.blk
  have hk : Kept (· = p) H H4 := Kept.trans hx hp.kept (fun _ f _ => f.elim) (fun _ e _ => e)
  have ho4 := ho.keep hp.kept (fun b e _ => .inl (by omega))
  refine ⟨⟨hp.at_, h.own.keep hk (fun g hg e => h.ne (by rw [hg, e])) (fun x row _ hr => ?_), h.ne⟩, hk, ho4.1.imp (fun x row _ hr => ?_), fun g hg => (ho4.2 g hg).1⟩
  · obtain ⟨bv, e1, e2⟩ := hr
    exact ⟨bv, e1, e2.keep hk (fun b hb _ => ⟨fun e => hb (.inl e), hb⟩)⟩
  · obtain ⟨bv, e1, e2⟩ := hr
    exact ⟨bv, e1, e2.mono (fun b hb _ => ⟨hb.1, hb.2.2⟩)⟩

set_option maxHeartbeats 2000000 in
theorem frames_spec {H : Heap} {p : Nat} {vw : Value} {L : Lk} (h : LinkAt H p vw L) (hw : L.waits.length ≤ 1000) (hb : ∀ x ∈ L.waits, x.2.length ≤ 131072) :
    Spc Tryz.prog 26 #[.pointer (some ⟨p, 0, none⟩)] H fun v H' => LinkAt H' p vw { L with owes := false } ∧ Kept (· = p) H H' ∧ OwnL H' 92 7 (FRow (fun b => H.size ≤ b ∧ v.ownBlock ≠ some b) H') v (framesOf L) ∧ ∀ g, v.ownBlock = some g → H.size ≤ g := by
  have hbk := h.blk
  have hps := lt_of_heap hbk
  obtain ⟨q0, c0, hvw⟩ := h.vw
  refine spec_of Tryz.func26 rfl Tryz.ntmps26 rfl (fun W => ?_)
  repeat (first | refine codeA (k := ?_) | refine condA (k := ?_) | refine offA (k := ?_) | refine pureA (k := ?_) | refine readA (k := ?_))
  refine At_draw [3, 7, 11, 15, 19] (fun H' => H'[p]? = some (.cells (lkCells L vw) 115 (0, 0))) Tryz.mixed ?_
  first | refine gA 0 (k := ?_) | refine goffA 0 (k := ?_)
  first | refine gA 1 (k := ?_) | refine goffA 1 (k := ?_)
  first | refine gA 2 (k := ?_) | refine goffA 2 (k := ?_)
  refine grA 3 hbk (fun H' hS' => r_load rfl rfl (show Cell H' p (0 + 0) (.int .i64 L.me) from Cell.of hS' rfl)) (k := ?_)
  first | refine gA 4 (k := ?_) | refine goffA 4 (k := ?_)
  first | refine gA 5 (k := ?_) | refine goffA 5 (k := ?_)
  first | refine gA 6 (k := ?_) | refine goffA 6 (k := ?_)
  refine grA 7 hbk (fun H' hS' => r_load rfl rfl (show Cell H' p (0 + 1) (.int .i64 L.peer) from Cell.of hS' rfl)) (k := ?_)
  first | refine gA 8 (k := ?_) | refine goffA 8 (k := ?_)
  first | refine gA 9 (k := ?_) | refine goffA 9 (k := ?_)
  first | refine gA 10 (k := ?_) | refine goffA 10 (k := ?_)
  refine grA 11 hbk (fun H' hS' => r_load rfl rfl (show Cell H' p (0 + 2) (.int .i64 L.epoch) from Cell.of hS' rfl)) (k := ?_)
  first | refine gA 12 (k := ?_) | refine goffA 12 (k := ?_)
  first | refine gA 13 (k := ?_) | refine goffA 13 (k := ?_)
  first | refine gA 14 (k := ?_) | refine goffA 14 (k := ?_)
  refine grA 15 hbk (fun H' hS' => r_load rfl rfl (show Cell H' p (0 + 3) (.int .i64 L.other) from Cell.of hS' rfl)) (k := ?_)
  first | refine gA 16 (k := ?_) | refine goffA 16 (k := ?_)
  first | refine gA 17 (k := ?_) | refine goffA 17 (k := ?_)
  first | refine gA 18 (k := ?_) | refine goffA 18 (k := ?_)
  refine grA 19 hbk (fun H' hS' => r_load rfl rfl (show Cell H' p (0 + 6) (.int .i64 L.came) from Cell.of hS' rfl)) (k := ?_)
  refine gpA 20 (p_build [.int .i64 L.me, .int .i64 L.peer, .int .i64 L.epoch, .int .i64 L.other, .int .i64 0, .int .i64 L.came, .slice none 0 0] rfl rfl) (k := ?_)
  refine G_op 21 rfl (by kernel_rfl) rfl (W_alloc rfl rfl ?_) 
  intro bf H1 hn1
  refine G_next (fun _ _ => hn1.ext.keep hbk (fun f => f)) ?_
  refine G_op 22 rfl (by kernel_rfl) rfl (W_storeB rfl rfl hn1.at_ rfl rfl rfl rfl ?_) 
  intro H2 h2
  refine G_next (fun _ s => h2.kept.keep s (fun e => ?_)) ?_
  · have := hn1.blk
    omega
  refine G_done (by kernel_rfl) ?_
  have hbf := hn1.blk
  have hx2 : Ext H H2 := Kept.trans hn1.ext h2.kept (fun _ f _ => f) (fun i e hl => by omega)
  have hbk2 := hx2.keep hbk (fun f => f)
  have hs2 := hx2.size
  repeat (first | refine codeA (k := ?_) | refine condA (k := ?_) | refine offA (k := ?_) | refine pureA (k := ?_) | refine readA (k := ?_))
  refine At_read (r_load rfl rfl (show Cell H2 p (0 + 4) vw from Cell.of hbk2 rfl)) rfl rfl rfl ?_
  rw [hvw]
  repeat (first | refine codeA (k := ?_) | refine condA (k := ?_) | refine offA (k := ?_) | refine pureA (k := ?_) | refine readA (k := ?_))
  refine At_cut (fun (s : Value) => [(0, .pointer (some ⟨p, 0, none⟩)), (3, .pointer (some ⟨bf, 0, none⟩)), (4, s)]) (fun s H' => FJ H p vw L bf L.waits.length s H') ?_ ?_
  · refine At_block ?_
    refine At_loop (fun (s : Nat × Value) => [(0, .pointer (some ⟨p, 0, none⟩)), (3, .pointer (some ⟨bf, 0, none⟩)), (4, s.2), (31, .slice q0 L.waits.length c0), (32, .int .i64 L.waits.length), (33, .int .i64 s.1)])
      (fun s H' => FJ H p vw L bf s.1 s.2 H') (fun s => L.waits.length - s.1) (0, .slice none 0 0) ?_ ?_ ?_
    · (repeat (first | exact Sub.nil | refine Sub.cons rfl ?_))
    · refine ⟨Nat.zero_le _, ⟨OwnL.nil _ _ _ _, fun g e => by cases e⟩, ⟨0, .slice none 0 0, h2.at_, fun _ => ⟨rfl, rfl⟩⟩, hx2, by omega⟩
    rintro ⟨k, vo⟩ H3 ⟨hle, hout, ⟨sq, bv, hf, hz⟩, hx3, hbf3⟩
    dsimp only at hle hout hz
    by_cases hk : k < L.waits.length
    · have hx : L.waits[k]? = some L.waits[k] := by simp [hk]
      generalize hwk : L.waits[k] = x at hx
      obtain ⟨sk, lk⟩ := x
      have hlen : lk.length ≤ 131072 := hb (sk, lk) (List.mem_of_getElem? hx)
      obtain ⟨g, cg, hg1, hg2, hg3⟩ : ∃ g cg, vw = .slice (some ⟨g, 0, none⟩) L.waits.length cg ∧ g < H.size ∧ g ≠ p := by
        rcases h.own.form with ⟨e1, e2⟩ | ⟨g, cg, e1, e2, _⟩
        · rw [e2] at hk; simp at hk
        · refine ⟨g, cg, e1, e2, fun e => h.ne ?_⟩
          rw [e1, e]; rfl
      have hown := h.own
      rw [hg1] at hown
      obtain ⟨row, ⟨bw, e1, e2⟩, e3, e4⟩ := hown.cells hx
      subst e1
      obtain ⟨qb, cb, rfl⟩ := e2.form
      have hq : q0 = some ⟨g, 0, none⟩ ∧ c0 = cg := by
        rw [hvw] at hg1
        simp only [Value.slice.injEq, true_and] at hg1
        exact hg1
      obtain ⟨rfl, rfl⟩ := hq
      repeat (first | refine codeA (k := ?_) | refine condA (k := ?_) | refine offA (k := ?_) | refine pureA (k := ?_) | refine readA (k := ?_) | refine At_block ?_)
      refine At_read (r_loadN (cs := [.int .i64 sk, .slice qb lk.length cb]) rfl rfl rfl (fun j u hj => ?_)) rfl rfl rfl ?_
      · rw [Nat.zero_add]
        exact (e4 j u hj).keep hx3 (fun f => f)
      refine At_wp (W_alloc rfl rfl ?_) rfl
      intro bw H4 hn4
      refine At_wp (W_storeB rfl rfl hn4.at_ rfl rfl rfl rfl ?_) rfl
      intro H5 h5
      have hb4 := hn4.blk
      have hs4 := hn4.size
      have hs5 := h5.size
      have hs3 := hx3.size
      have hbw := lt_of_heap hf
      have hx5 : Ext H3 H5 := Kept.trans hn4.ext h5.kept (fun _ f _ => f) (fun i e hl => by omega)
      have e5 : BytesAt (fun b => b < H.size) H5 (.slice qb lk.length cb) lk := e2.keep (hx3.trans hx5) (fun b _ hl => ⟨fun f => f, hl⟩)
      repeat (first | refine codeA (k := ?_) | refine condA (k := ?_) | refine offA (k := ?_) | refine pureA (k := ?_) | refine readA (k := ?_))
      refine At_draw [1, 3] (fun H' => H'[bw]? = some (.cells #[.int .i64 sk, .slice qb lk.length cb] 133 (0, 0))) Tryz.mixed ?_
      first | refine gA 0 (k := ?_) | refine goffA 0 (k := ?_)
      refine grA 1 h5.at_ (fun H' hS' => r_load rfl rfl (show Cell H' bw (0 + 0) (.int .i64 sk) from Cell.of hS' rfl)) (k := ?_)
      first | refine gA 2 (k := ?_) | refine goffA 2 (k := ?_)
      refine grA 3 h5.at_ (fun H' hS' => r_load rfl rfl (show Cell H' bw (0 + 1) (.slice qb lk.length cb) from Cell.of hS' rfl)) (k := ?_)
      first | refine gA 5 (k := ?_) | refine goffA 5 (k := ?_)
      refine G_op 4 rfl (by kernel_rfl) rfl (W_call rfl rfl (clone_spec e5 (by omega)) rfl rfl ?_) 
      rintro vb H6 ⟨hx6, hb6⟩
      refine G_next (fun _ s => hx6.keep s (fun f => f)) ?_
      have hf6 := (hx5.trans hx6).keep hf (fun f => f)
      have hs6 := hx6.size
      obtain ⟨qv, cv, rfl⟩ := hb6.form
      refine G_op 6 rfl (by kernel_rfl) rfl (W_store rfl rfl hf6 rfl rfl rfl rfl ?_) 
      intro H7 h7
      refine G_next (fun _ s => h7.kept.keep s (fun e => by omega)) ?_
      first | refine gA 7 (k := ?_) | refine goffA 7 (k := ?_)
      refine G_op 8 rfl (by kernel_rfl) rfl (W_store rfl rfl h7.at_ rfl rfl rfl rfl ?_) 
      intro H8 h8
      refine G_next (fun _ s => h8.kept.keep s (fun e => by omega)) ?_
      refine G_done (by kernel_rfl) ?_
      have hs7 := h7.size
      have hs8 := h8.size
      have hk8 : Kept (· = bf) H3 H8 := by
        have a1 : Kept (· = bf) H3 H7 := Kept.trans (hx5.trans hx6) h7.kept (fun _ f _ => f.elim) (fun i e _ => e)
        exact Kept.trans a1 h8.kept (fun _ e _ => e) (fun _ e _ => e)
      have ho8 : OutAt H H8 bf vo ((L.waits.take k).map (frOf L)) := hout.keep hk8 (fun b e _ => .inr e)
      have hb8 : BytesAt (fun b => H5.size ≤ b ∧ b < H6.size) H8 (.slice qv lk.length cv) lk := by
        have a1 := hb6.keep h7.kept (fun b hb hl => ⟨fun e => by omega, (⟨hb, hl⟩ : H5.size ≤ b ∧ b < H6.size)⟩)
        exact a1.keep h8.kept (fun b hb hl => ⟨fun e => by omega, hb⟩)
      have hf8 := h8.at_
      repeat (first | refine codeA (k := ?_) | refine condA (k := ?_) | refine offA (k := ?_) | refine pureA (k := ?_) | refine readA (k := ?_))
      refine At_read (r_loadB rfl hf8 rfl rfl) rfl rfl rfl ?_
      refine At_wp (W_buildSlice1 rfl rfl rfl (by decide) rfl ?_) rfl
      intro bs H9 hn9
      have hs9 := hn9.size
      have hb9 := hn9.blk
      have hf9 := hn9.ext.keep hf8 (fun f => f)
      have hlt : ((L.waits.take k).map (frOf L)).length = k := by simp; omega
      have hob : ∀ b, vo.ownBlock = some b → b < H3.size := fun b e => by
        rcases hout.1.form with ⟨e1, _⟩ | ⟨g', c', e1, e2, _⟩
        · rw [e1] at e; cases e
        · rw [e1] at e
          simp only [Value.ownBlock, Option.some.injEq] at e
          omega
      refine At_wp (out_append (H := H) (fs := (L.waits.take k).map (frOf L)) (f := frOf L (sk, lk)) rfl rfl (ho8.keep hn9.ext (fun _ f _ => f.elim)) hn9.at_ (hb8.keep hn9.ext (fun b hb _ => ⟨fun f => f, ?_⟩)) ?_ ?_ ?_ rfl ?_) rfl
      · refine ⟨by omega, by omega, fun e => ?_⟩
        have := hob b e
        omega
      · omega
      · omega
      · omega
      intro go co H10 hout10 hk10
      rw [hlt] at hout10 ⊢
      repeat (first | refine codeA (k := ?_) | refine condA (k := ?_) | refine offA (k := ?_) | refine pureA (k := ?_) | refine readA (k := ?_))
      have hs10 := hk10.size
      refine At_back (k + 1, .slice (some ⟨go, 0, none⟩) (k + 1) co) ?_ ⟨by omega, ?_, ?_, ?_, hbf3⟩ (by show L.waits.length - (k + 1) < L.waits.length - k; omega)
      · (repeat (first | exact Sub.nil | refine Sub.cons rfl ?_))
      · have e : (L.waits.take (k + 1)).map (frOf L) = (L.waits.take k).map (frOf L) ++ [frOf L (sk, lk)] := by
          rw [List.take_add_one, hx]; simp
        show OutAt H H10 bf (.slice (some ⟨go, 0, none⟩) (k + 1) co) ((L.waits.take (k + 1)).map (frOf L))
        rw [e]
        exact hout10
      · refine ⟨sk, .slice qv lk.length cv, hk10.keep hf9 (fun e => e.2 rfl), fun e => ?_⟩
        exact absurd e (Nat.succ_ne_zero k)
      · have a1 : Ext H H8 := Kept.trans hx3 hk8 (fun _ f _ => f) (fun i e hl => by omega)
        exact Kept.trans (a1.trans hn9.ext) hk10 (fun _ f _ => f) (fun i e hl => by omega)
    · obtain rfl : k = L.waits.length := by omega
      repeat (first | refine codeA (k := ?_) | refine condA (k := ?_) | refine offA (k := ?_) | refine pureA (k := ?_) | refine readA (k := ?_))
      refine At_meet vo ?_ ⟨hle, hout, ⟨sq, bv, hf, hz⟩, hx3, hbf3⟩
      (repeat (first | exact Sub.nil | refine Sub.cons rfl ?_))
  · rintro vo H3 ⟨hle, hout, ⟨sq, bv, hf, hz⟩, hx3, hbf3⟩
    have hbk3 := hx3.keep hbk (fun f => f)
    rw [List.take_length] at hout
    have hfr : ¬ (L.waits = [] ∧ L.owes = true) → framesOf L = L.waits.map (frOf L) := fun c => by unfold framesOf; rw [if_neg c]
    repeat (first | refine codeA (k := ?_) | refine condA (k := ?_) | refine offA (k := ?_) | refine pureA (k := ?_) | refine readA (k := ?_))
    refine At_read (r_load rfl rfl (show Cell H3 p (0 + 4) vw from Cell.of hbk3 rfl)) rfl rfl rfl ?_
    rw [hvw]
    by_cases hl0 : L.waits.length = 0
    · have hwn : L.waits = [] := List.eq_nil_of_length_eq_zero hl0
      repeat (first | refine codeA (k := ?_) | refine condA (k := ?_) | refine offA (k := ?_) | refine pureA (k := ?_) | refine readA (k := ?_))
      refine At_read (r_load rfl rfl (show Cell H3 p (0 + 7) (.bool L.owes) from Cell.of hbk3 rfl)) rfl rfl rfl ?_
      cases ho : L.owes
      · repeat (first | refine codeA (k := ?_) | refine condA (k := ?_) | refine offA (k := ?_) | refine pureA (k := ?_) | refine readA (k := ?_))
        rw [← hvw] at *
        refine At_wp (W_store rfl rfl hbk3 rfl rfl rfl rfl ?_) rfl
        intro H4 h4
        repeat (first | refine codeA (k := ?_) | refine condA (k := ?_) | refine offA (k := ?_) | refine pureA (k := ?_) | refine readA (k := ?_))
        refine At_ret1 rfl rfl ?_
        rw [hfr (by simp [ho])]
        exact frames_end h hx3 h4 hout
      · obtain ⟨rfl, rfl⟩ := hz hl0
        rw [hwn] at hout
        have hf3 : H3[bf]? = some (.cells (frCells (frOf L (0, [])) (.slice none 0 0)).toArray 92 (0, 0)) := hf
        repeat (first | refine codeA (k := ?_) | refine condA (k := ?_) | refine offA (k := ?_) | refine pureA (k := ?_) | refine readA (k := ?_))
        refine At_read (r_loadB rfl hf rfl rfl) rfl rfl rfl ?_
        refine At_wp (W_buildSlice1 rfl rfl rfl (by decide) rfl ?_) rfl
        intro bs H4 hn4
        have hs4 := hn4.size
        have hs3 := hx3.size
        have hb3 := lt_of_heap hf
        refine At_wp (out_append (H := H) (fs := []) (f := frOf L (0, [])) rfl rfl (hout.keep hn4.ext (fun _ f _ => f.elim)) hn4.at_ (BytesAt.nil _ _) (by omega) (by omega) (by simp) rfl ?_) rfl
        intro go co H5 hout5 hk5
        have hx5 : Ext H H5 := Kept.trans (hx3.trans hn4.ext) hk5 (fun _ f _ => f) (fun i e hl => by omega)
        have hbk5 := hx5.keep hbk (fun f => f)
        rw [← hvw] at *
        repeat (first | refine codeA (k := ?_) | refine condA (k := ?_) | refine offA (k := ?_) | refine pureA (k := ?_) | refine readA (k := ?_))
        refine At_wp (W_store rfl rfl hbk5 rfl rfl rfl rfl ?_) rfl
        intro H6 h6
        repeat (first | refine codeA (k := ?_) | refine condA (k := ?_) | refine offA (k := ?_) | refine pureA (k := ?_) | refine readA (k := ?_))
        refine At_ret1 rfl rfl ?_
        have e : framesOf L = [] ++ [frOf L (0, [])] := by unfold framesOf; rw [if_pos ⟨hwn, ho⟩]; rfl
        rw [e]
        exact frames_end h hx5 h6 hout5
    · have hl1 : ¬ ((L.waits.length : Int) = 0) := by omega
      repeat (first | refine codeA (k := ?_) | refine condA (k := ?_) | refine offA (k := ?_) | refine pureA (k := ?_) | refine readA (k := ?_))
      rw [← hvw] at *
      refine At_wp (W_store rfl rfl hbk3 rfl rfl rfl rfl ?_) rfl
      intro H4 h4
      repeat (first | refine codeA (k := ?_) | refine condA (k := ?_) | refine offA (k := ?_) | refine pureA (k := ?_) | refine readA (k := ?_))
      refine At_ret1 rfl rfl ?_
      rw [hfr (fun c => hl0 (by rw [c.1]; rfl))]
      exact frames_end h hx3 h4 hout
end Go.Proofs.YtlaobecajieaaaaGreat
/- Frames compared; 'wakes'. -/
namespace Go.Proofs.YtlaobecajieaaaaGreat
open Go Ev
set_option linter.unusedVariables false
set_option linter.unusedSimpArgs false
attribute [local irreducible] Go.wpList Go.bodyPost Go.Code.wp Go.Exit.then Go.Exit.inBlock Go.Exit.noGoto Ev.wpAnyG Go.Oper.wp Ev.Back Ev.Left Ev.Spc Ev.At Ev.Pure Ev.Reads Ev.Runs Ev.Does Ev.Cell

theorem new_link {H H' : Heap} {b : Nat} {me peer ep : Int} (hn : New H H' b (.cells #[.int .i64 me, .int .i64 peer, .int .i64 ep, .int .i64 0, .slice none 0 0, .int .i64 0, .int .i64 0, .bool false] 115)) :
    LinkAt H' b (.slice none 0 0) ⟨me, peer, ep, 0, [], 0, 0, false⟩ := ⟨hn.at_, OwnL.nil _ _ _ _, fun e => by cases e⟩

end Go.Proofs.YtlaobecajieaaaaGreat
/- The law LinkWindow, walked. -/
namespace Go.Proofs.YtlaobecajieaaaaGreat
open Go Ev
set_option linter.unusedVariables false
set_option linter.unusedSimpArgs false
attribute [local irreducible] Go.wpList Go.bodyPost Go.Code.wp Go.Exit.then Go.Exit.inBlock Go.Exit.noGoto Ev.wpAnyG Go.Oper.wp Ev.Back Ev.Left Ev.Spc Ev.At Ev.Pure Ev.Reads Ev.Runs Ev.Does Ev.Cell

/-- a link behind k sends of the bodies' first k, four at the most -/
def winL (bs : List (List UInt8)) (k : Nat) : Lk := ⟨5, 6, 1, 0, ((bs.take (min k 4)).zipIdx 1).map (fun x => ((x.2 : Nat), x.1)), (min k 4 : Nat), 0, false⟩
theorem winL_length (bs : List (List UInt8)) (k : Nat) (hk : k ≤ bs.length) : (winL bs k).waits.length = min k 4 := by
  simp [winL]; omega
theorem winL_step (bs : List (List UInt8)) (k : Nat) (l : List UInt8) (hk : bs[k]? = some l) (h4 : k < 4) : sentL (winL bs k) l = winL bs (k + 1) := by
  have h1 : min k 4 = k := by omega
  have h2 : min (k + 1) 4 = k + 1 := by omega
  have hlt := (List.getElem?_eq_some_iff.1 hk).1
  simp only [sentL, winL, h1, h2, Lk.mk.injEq, true_and, and_true]
  refine ⟨?_, by omega⟩
  rw [List.take_add_one, hk]
  simp [List.zipIdx_append]
  omega
theorem winL_full (bs : List (List UInt8)) (k : Nat) (h4 : 4 ≤ k) : winL bs (k + 1) = winL bs k := by
  have h1 : min k 4 = 4 := by omega
  have h2 : min (k + 1) 4 = 4 := by omega
  simp [winL, h1, h2]

structure WJ (H : Heap) (bs : List (List UInt8)) (p k : Nat) (vw : Value) (Hk : Heap) : Prop where
  le : k ≤ bs.length
  link : LinkAt Hk p vw (winL bs k)
  ext : Ext H Hk
  p : H.size ≤ p
  vw : ∀ g, vw.ownBlock = some g → H.size ≤ g
  small : ∀ l ∈ bs.take k, l.length ≤ 1000

end Go.Proofs.YtlaobecajieaaaaGreat
