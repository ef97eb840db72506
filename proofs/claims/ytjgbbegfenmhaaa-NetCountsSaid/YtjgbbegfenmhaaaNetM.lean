/- The page's network: its acts. -/
import Derived.Test.YtjgbbegfenmhaaaNetL
namespace Go.Proofs.Ytjgbbegfenmhaaa
open Go Ev
set_option linter.unusedVariables false
set_option linter.unusedSimpArgs false
attribute [local irreducible] Go.wpList Go.bodyPost Go.Code.wp Go.Exit.then Go.Exit.inBlock Go.Exit.noGoto Ev.wpAnyG Go.Oper.wp Ev.Back Ev.Left Ev.Spc Ev.At Ev.Pure Ev.Reads Ev.Runs Ev.Does Ev.Cell

theorem rlose_miss {D : Nat → Prop} {H : Heap} {q : Nat} {lv cv : Value} {R : Rt} (h : RNet D H q lv cv R) {i : Int} (hi : ¬ (0 ≤ i ∧ i < R.row.length)) :
    Spc Try.prog 26 #[.pointer (some ⟨q, 0, none⟩), .int .i64 i] H fun r H' => H' = H ∧ r = .int .i64 12 := by
  refine spec_of Try.func26 rfl Try.ntmps26 rfl (fun W => ?_)
  repeat (first | refine codeA (k := ?_) | refine condA (k := ?_) | refine offA (k := ?_) | refine pureA (k := ?_) | refine readA (k := ?_))
  refine At_wp (W_call rfl rfl (rplace_spec h i) rfl rfl ?_) rfl
  rintro _ _ ⟨rfl, rfl⟩
  rw [decide_eq_false hi]
  repeat (first | refine codeA (k := ?_) | refine condA (k := ?_) | refine offA (k := ?_) | refine pureA (k := ?_) | refine readA (k := ?_))
  exact At_ret1 rfl rfl ⟨rfl, rfl⟩
theorem rtwice_miss {D : Nat → Prop} {H : Heap} {q : Nat} {lv cv : Value} {R : Rt} (h : RNet D H q lv cv R) {i : Int} (hi : ¬ (0 ≤ i ∧ i < R.row.length)) :
    Spc Try.prog 27 #[.pointer (some ⟨q, 0, none⟩), .int .i64 i] H fun r H' => H' = H ∧ r = .int .i64 12 := by
  refine spec_of Try.func27 rfl Try.ntmps27 rfl (fun W => ?_)
  repeat (first | refine codeA (k := ?_) | refine condA (k := ?_) | refine offA (k := ?_) | refine pureA (k := ?_) | refine readA (k := ?_))
  refine At_wp (W_call rfl rfl (rplace_spec h i) rfl rfl ?_) rfl
  rintro _ _ ⟨rfl, rfl⟩
  rw [decide_eq_false hi]
  repeat (first | refine codeA (k := ?_) | refine condA (k := ?_) | refine offA (k := ?_) | refine pureA (k := ?_) | refine readA (k := ?_))
  exact At_ret1 rfl rfl ⟨rfl, rfl⟩
theorem rcarry_miss {D : Nat → Prop} {H : Heap} {q : Nat} {lv cv : Value} {R : Rt} (h : RNet D H q lv cv R) {i : Int} (hi : ¬ (0 ≤ i ∧ i < R.row.length)) :
    Spc Try.prog 25 #[.pointer (some ⟨q, 0, none⟩), .int .i64 i] H fun r H' => Ext H H' ∧ r = .tuple #[.agg (frCells fr0 (.slice none 0 0)).toArray, .bool false, .int .i64 12] := by
  refine spec_of Try.func25 rfl Try.ntmps25 rfl (fun W => ?_)
  repeat (first | refine codeA (k := ?_) | refine condA (k := ?_) | refine offA (k := ?_) | refine pureA (k := ?_) | refine readA (k := ?_))
  refine At_wp (W_alloc rfl rfl ?_) rfl
  intro b1 H1 hn1
  repeat (first | refine codeA (k := ?_) | refine condA (k := ?_) | refine offA (k := ?_) | refine pureA (k := ?_) | refine readA (k := ?_))
  refine At_wp (W_call rfl rfl (rplace_spec (h.ext hn1.ext) i) rfl rfl ?_) rfl
  rintro _ _ ⟨rfl, rfl⟩
  rw [decide_eq_false hi]
  repeat (first | refine codeA (k := ?_) | refine condA (k := ?_) | refine offA (k := ?_) | refine pureA (k := ?_) | refine readA (k := ?_))
  refine At_pure (p_build (frCells fr0 (.slice none 0 0)) rfl rfl) rfl rfl rfl ?_
  refine At_wp (W_storeB rfl rfl hn1.at_ rfl rfl rfl rfl ?_) rfl
  intro H2 p2
  repeat (first | refine codeA (k := ?_) | refine condA (k := ?_) | refine offA (k := ?_) | refine pureA (k := ?_) | refine readA (k := ?_))
  have b1' := hn1.blk
  exact At_retC3 rfl rfl p2.at_ rfl rfl rfl rfl ⟨Kept.trans hn1.ext p2.kept (fun _ f _ => f) (fun j e hl => by omega), rfl⟩
theorem rlose_hit {D : Nat → Prop} {H : Heap} {q : Nat} {lv cv : Value} {R : Rt} (h : RNet D H q lv cv R) (hlen : R.row.length ≤ 4096) {i : Nat} (hil : i < R.row.length) :
    Spc Try.prog 26 #[.pointer (some ⟨q, 0, none⟩), .int .i64 i] H fun r H' => r = .int .i64 0 ∧ Kept (· = q) H H' ∧
      ∃ lv', RNet (fun b => D b ∧ b < H.size) H' q lv' cv { R with row := R.row.eraseIdx i } ∧ ∀ g, lv'.ownBlock = some g → H.size ≤ g := by
  refine spec_of Try.func26 rfl Try.ntmps26 rfl (fun W => ?_)
  repeat (first | refine codeA (k := ?_) | refine condA (k := ?_) | refine offA (k := ?_) | refine pureA (k := ?_) | refine readA (k := ?_))
  refine At_wp (W_call rfl rfl (rplace_spec h i) rfl rfl ?_) rfl
  rintro _ _ ⟨rfl, rfl⟩
  rw [decide_eq_true ⟨by omega, by omega⟩]
  repeat (first | refine codeA (k := ?_) | refine condA (k := ?_) | refine offA (k := ?_) | refine pureA (k := ?_) | refine readA (k := ?_))
  have hx : R.row[i]? = some R.row[i] := by simp [hil]
  refine At_wp (W_call rfl rfl (out_spec h hlen hx) rfl rfl ?_) rfl
  rintro _ H1 ⟨hk1, ⟨bv, rfl, hb1⟩, lv', h1, hl1⟩
  repeat (first | refine codeA (k := ?_) | refine condA (k := ?_) | refine offA (k := ?_) | refine pureA (k := ?_) | refine readA (k := ?_))
  exact At_ret1 rfl rfl ⟨rfl, hk1, lv', h1, hl1⟩
def rcF (R : Rt) (f : Fr) : Fr := if cutAt R.cuts f.frm f.to = true then fr0 else f
set_option maxHeartbeats 1000000 in
theorem rcarry_hit {D : Nat → Prop} {H : Heap} {q : Nat} {lv cv : Value} {R : Rt} (h : RNet D H q lv cv R) (hlen : R.row.length ≤ 4096) (hc : R.cuts.length ≤ 100000) {i : Nat} {f : Fr} (hi : R.row[i]? = some f) :
    Spc Try.prog 25 #[.pointer (some ⟨q, 0, none⟩), .int .i64 i] H fun r H' => Kept (· = q) H H' ∧ (∃ bv, r = .tuple #[.agg (frCells (rcF R f) bv).toArray, .bool (!cutAt R.cuts f.frm f.to), .int .i64 0] ∧ BytesAt (fun b => D b ∧ b < H.size) H' bv (rcF R f).body) ∧
      ∃ lv', RNet (fun b => D b ∧ b < H.size) H' q lv' cv { R with row := R.row.eraseIdx i } ∧ ∀ g, lv'.ownBlock = some g → H.size ≤ g := by
  have hil : i < R.row.length := (List.getElem?_eq_some_iff.1 hi).1
  have hql := h.lt
  refine spec_of Try.func25 rfl Try.ntmps25 rfl (fun W => ?_)
  repeat (first | refine codeA (k := ?_) | refine condA (k := ?_) | refine offA (k := ?_) | refine pureA (k := ?_) | refine readA (k := ?_))
  refine At_wp (W_alloc rfl rfl ?_) rfl
  intro b1 H1 hn1
  have b1' := hn1.blk
  have s1 := hn1.size
  repeat (first | refine codeA (k := ?_) | refine condA (k := ?_) | refine offA (k := ?_) | refine pureA (k := ?_) | refine readA (k := ?_))
  refine At_wp (W_call rfl rfl (rplace_spec (h.ext hn1.ext) i) rfl rfl ?_) rfl
  rintro _ _ ⟨rfl, rfl⟩
  rw [decide_eq_true ⟨by omega, by omega⟩]
  repeat (first | refine codeA (k := ?_) | refine condA (k := ?_) | refine offA (k := ?_) | refine pureA (k := ?_) | refine readA (k := ?_))
  refine At_wp (W_call rfl rfl (out_spec (h.lim.ext hn1.ext) hlen hi) rfl rfl ?_) rfl
  rintro _ H2 ⟨hk2, ⟨bv, rfl, hb2⟩, lv', h2, hl2⟩
  obtain ⟨pb, pc, rfl⟩ := hb2.form
  have s2 := hk2.size
  have r2 := hk2.keep hn1.at_ (fun e => by omega)
  refine At_wp (W_alloc rfl rfl ?_) rfl
  intro b3 H3 hn3
  refine At_wp (W_storeB (cs' := (frCells f (.slice pb f.body.length pc)).toArray) rfl rfl hn3.at_ rfl rfl rfl rfl ?_) rfl
  intro H4 p4
  have b3' := hn3.blk
  have s3 := hn3.size
  have s4 := p4.size
  have hx4 : Ext H2 H4 := Kept.trans hn3.ext p4.kept (fun _ f _ => f) (fun i e hl => by omega)
  have h4 := h2.ext hx4
  have q4 := p4.at_
  have r4 := hx4.keep r2 (fun f => f)
  have m0 : Cell H4 b3 (0 + 0) (.int .i64 f.frm) := Cell.of q4 rfl
  have m1 : Cell H4 b3 (0 + 1) (.int .i64 f.to) := Cell.of q4 rfl
  repeat (first | refine codeA (k := ?_) | refine condA (k := ?_) | refine offA (k := ?_) | refine pureA (k := ?_) | refine readA (k := ?_))
  refine At_wp (W_call rfl rfl (whole_spec h4 hc f.frm f.to) rfl rfl ?_) rfl
  rintro _ H5 ⟨hx5, rfl⟩
  have s5 := hx5.size
  have h5 := h4.ext hx5
  have q5 := hx5.keep q4 (fun f => f)
  have r5 := hx5.keep r4 (fun f => f)
  have hk5 : Kept (· = q) H H5 := Kept.then_ext (Kept.trans hn1.ext hk2 (fun _ f _ => f.elim) (fun _ e _ => e)) (hx4.trans hx5)
  have hb5 := hb2.keep (D' := fun b => (D b ∧ b < H.size) ∧ b < H1.size) (hx4.trans hx5) (fun b hb _ => ⟨fun f => f, hb⟩)
  have fin : ∀ H6, Put H5 H6 b1 (.cells (frCells f (.slice pb f.body.length pc)).toArray 30 (0, 0)) ∨ Kept (· = b1) H5 H6 → Kept (· = q) H H6 ∧ BytesAt (fun b => D b ∧ b < H.size) H6 (.slice pb f.body.length pc) f.body ∧ RNet (fun b => D b ∧ b < H.size) H6 q lv' cv { R with row := R.row.eraseIdx i } := by
    intro H6 hp
    have hk : Kept (· = b1) H5 H6 := hp.elim (fun h => h.kept) id
    have hq2 := fun b hb => h5.dis b hb
    refine ⟨Kept.trans hk5 hk (fun _ e _ => e) (fun j e hl => by omega), hb5.keep hk (fun b hb _ => ⟨fun e => by have := hb.1.2; omega, hb.1⟩), h5.keep hk (fun b hb e => ?_) (fun b hb _ => ⟨fun e => by have := hb.1.2; omega, hb.1⟩) (fun b hb => h5.dis b ⟨hb, by have := hb.2; omega⟩)⟩
    rcases hb with e2 | e2 | e2
    · omega
    · have := hl2 b e2; omega
    · have := h.clt e2; omega
  cases hw : cutAt R.cuts f.frm f.to
  · have e : rcF R f = f := by unfold rcF; rw [hw]; rfl
    rw [e]
    repeat (first | refine codeA (k := ?_) | refine condA (k := ?_) | refine offA (k := ?_) | refine pureA (k := ?_) | refine readA (k := ?_))
    refine At_read (r_loadB rfl q5 rfl rfl) rfl rfl rfl ?_
    refine At_wp (W_storeB (cs' := (frCells f (.slice pb f.body.length pc)).toArray) rfl rfl r5 rfl rfl rfl rfl ?_) rfl
    intro H6 p6
    obtain ⟨f1, f2, f3⟩ := fin H6 (.inl p6)
    repeat (first | refine codeA (k := ?_) | refine condA (k := ?_) | refine offA (k := ?_) | refine pureA (k := ?_) | refine readA (k := ?_))
    exact At_retC3 rfl rfl p6.at_ rfl rfl rfl rfl ⟨f1, ⟨_, rfl, f2⟩, lv', f3, fun g hg => by have := hl2 g hg; omega⟩
  · have e : rcF R f = fr0 := by unfold rcF; rw [hw]; rfl
    rw [e]
    repeat (first | refine codeA (k := ?_) | refine condA (k := ?_) | refine offA (k := ?_) | refine pureA (k := ?_) | refine readA (k := ?_))
    refine At_pure (p_build (frCells fr0 (.slice none 0 0)) rfl rfl) rfl rfl rfl ?_
    refine At_wp (W_storeB (cs' := (frCells fr0 (.slice none 0 0)).toArray) rfl rfl r5 rfl rfl rfl rfl ?_) rfl
    intro H6 p6
    obtain ⟨f1, f2, f3⟩ := fin H6 (.inr p6.kept)
    repeat (first | refine codeA (k := ?_) | refine condA (k := ?_) | refine offA (k := ?_) | refine pureA (k := ?_) | refine readA (k := ?_))
    exact At_retC3 rfl rfl p6.at_ rfl rfl rfl rfl ⟨f1, ⟨_, rfl, BytesAt.nil _ _⟩, lv', f3, fun g hg => by have := hl2 g hg; omega⟩

/-- a row of one's own with one frame more, laid back into the net -/
theorem RNet.more {D : Nat → Prop} {H H4 H5 : Heap} {q g c : Nat} {lv cv : Value} {R : Rt} {f : Fr} (h : RNet D H q lv cv R) (own4 : OwnL H4 30 7 (FRow (fun b => D b ∧ b < H.size) H4) (.slice (some ⟨g, 0, none⟩) (R.row.length + 1) c) (R.row ++ [f]))
    (hk4 : Kept (fun b => lv.ownBlock = some b) H H4) (hg : lv.ownBlock = some g ∨ H.size ≤ g) (p5 : Put H4 H5 q (.cells #[.int .i64 R.n, .slice (some ⟨g, 0, none⟩) (R.row.length + 1) c, cv] 46 (0, 0))) :
    Kept (Gn q lv cv) H H5 ∧ RNet (fun b => D b ∧ b < H.size) H5 q (.slice (some ⟨g, 0, none⟩) (R.row.length + 1) c) cv { R with row := R.row ++ [f] } := by
  have hq := h.lt
  have gq : g ≠ q := by
    rcases hg with e | e
    · intro e2; subst e2; exact h.nl e
    · omega
  have gc : cv.ownBlock ≠ some g := by
    rcases hg with e | e
    · exact h.lc g e
    · intro e2; have := h.clt e2; omega
  refine ⟨Kept.trans hk4 p5.kept (fun _ e _ => .inr (.inl e)) (fun _ e _ => .inl e), p5.at_, own4.keep p5.kept (fun g' hg' e => ?_) (fun x row _ hr => hr.keep p5.kept (fun b hb _ => ⟨(h.dis b hb.1).1, hb⟩)), (h.cut.keep hk4 (fun g' hg' e => h.lc g' e hg') (fun _ _ _ hr => hr)).keep p5.kept (fun g' hg' e => h.nc (by rw [hg', e])) (fun _ _ _ hr => hr), ?_, h.nc, ?_, ?_⟩
  · simp only [Value.ownBlock, Option.some.injEq] at hg'
    omega
  · intro e
    simp only [Value.ownBlock, Option.some.injEq] at e
    exact gq e
  · intro g' hg' e
    simp only [Value.ownBlock, Option.some.injEq] at hg'
    subst hg'
    exact gc e
  · intro b hb
    refine ⟨(h.dis b hb.1).1, fun e => ?_, (h.dis b hb.1).2.2⟩
    simp only [Value.ownBlock, Option.some.injEq] at e
    subst e
    rcases hg with e | e
    · exact (h.dis g hb.1).2.1 e
    · have := hb.2; omega
set_option maxHeartbeats 2000000 in
theorem rtwice_hit {D : Nat → Prop} {H : Heap} {q : Nat} {lv cv : Value} {R : Rt} (h0 : RNet D H q lv cv R) (hlen : R.row.length < 4096) {i : Nat} {f : Fr} (hi : R.row[i]? = some f) :
    Spc Try.prog 27 #[.pointer (some ⟨q, 0, none⟩), .int .i64 i] H fun r H' => r = .int .i64 0 ∧ Kept (Gn q lv cv) H H' ∧
      ∃ lv', RNet (fun b => D b ∧ b < H.size) H' q lv' cv { R with row := R.row ++ [f] } ∧ ∀ g, lv'.ownBlock = some g → lv.ownBlock = some g ∨ H.size ≤ g := by
  have h := h0.lim
  have hil : i < R.row.length := (List.getElem?_eq_some_iff.1 hi).1
  have hql := h.lt
  obtain ⟨g0, c0, hlv⟩ : ∃ g c, lv = .slice (some ⟨g, 0, none⟩) R.row.length c := by
    rcases h.own.form with ⟨e1, e2⟩ | ⟨g, c, e1, e2, _⟩
    · rw [e2] at hil; simp at hil
    · exact ⟨g, c, e1⟩
  have hown := h.own
  have c1 := h.c1
  rw [hlv] at hown c1
  obtain ⟨row, ⟨bv, e1, e2⟩, e3, e4⟩ := hown.cells hi
  subst e1
  obtain ⟨pb, pc, rfl⟩ := e2.form
  refine spec_of Try.func27 rfl Try.ntmps27 rfl (fun W => ?_)
  repeat (first | refine codeA (k := ?_) | refine condA (k := ?_) | refine offA (k := ?_) | refine pureA (k := ?_) | refine readA (k := ?_))
  refine At_wp (W_call rfl rfl (rplace_spec h i) rfl rfl ?_) rfl
  rintro _ _ ⟨rfl, rfl⟩
  rw [decide_eq_true ⟨by omega, by omega⟩]
  repeat (first | refine codeA (k := ?_) | refine condA (k := ?_) | refine offA (k := ?_) | refine pureA (k := ?_) | refine readA (k := ?_))
  have hxr : Kept (fun b => lv.ownBlock = some b) H H := Kept.refl _ _
  refine At_draw [4, 8] (fun H' => Kept (fun b => lv.ownBlock = some b) H H') Try.mixed ?_
  first | refine gA 0 (k := ?_) | refine goffA 0 (k := ?_)
  first | refine gA 1 (k := ?_) | refine goffA 1 (k := ?_)
  first | refine gA 2 (k := ?_) | refine goffA 2 (k := ?_)
  first | refine gA 3 (k := ?_) | refine goffA 3 (k := ?_)
  refine grA 4 hxr (fun H' hS' => r_load rfl rfl (c1.keep hS' h.nl)) (k := ?_)
  first | refine gA 5 (k := ?_) | refine goffA 5 (k := ?_)
  first | refine gA 6 (k := ?_) | refine goffA 6 (k := ?_)
  first | refine gA 7 (k := ?_) | refine goffA 7 (k := ?_)
  refine grA 8 hxr (fun H' hS' => r_load rfl rfl (c1.keep hS' h.nl)) (k := ?_)
  first | refine gA 9 (k := ?_) | refine goffA 9 (k := ?_)
  first | refine gA 10 (k := ?_) | refine goffA 10 (k := ?_)
  refine G_op 11 rfl (by kernel_rfl) rfl (W_run (Reads.runs (r_loadN (b := g0) (o := 0 + i * 7) (cs := frCells f (.slice pb f.body.length pc)) rfl rfl rfl (fun j u hj => by rw [Nat.zero_add]; exact e4 j u hj))) rfl rfl ?_) 
  refine G_next (fun _ s => s) ?_
  refine G_op 12 rfl (by kernel_rfl) rfl (W_buildSlice1 (cs := (frCells f (.slice pb f.body.length pc)).toArray) rfl rfl rfl (by decide) rfl ?_) 
  intro b3 H3 hn3
  refine G_next (fun _ s => s.then_ext hn3.ext) ?_
  have h3 := h.ext hn3.ext
  have own3 := h3.own
  rw [hlv] at own3
  have hrow : FRow (fun b => D b ∧ b < H.size) H3 f (frCells f (.slice pb f.body.length pc)) := ⟨_, rfl, e2.keep hn3.ext (fun b hb _ => ⟨fun f => f, hb⟩)⟩
  refine G_op 13 rfl (by kernel_rfl) rfl (W_append1 (R := FRow (fun b => D b ∧ b < H.size) H3) (a := f) (row := frCells f (.slice pb f.body.length pc)) (fun H' => FRow (fun b => D b ∧ b < H.size) H') rfl rfl own3 hn3.at_ rfl hrow rfl hrow.one rfl (by decide) (by omega) (by decide) rfl ?_ ?_)
  · intro H' g hk hg hgl x row hr
    rw [← hlv] at hk
    exact hr.keep hk (fun b hb hl => ⟨fun e => (h.dis b hb).2.1 e, hb⟩)
  intro g4 c4 H4 own4 hk4 hg4
  rw [← hlv] at hk4 hg4
  have k4 := hk4.keep h3.blk h3.nl
  refine G_next (fun _ s => Kept.trans s hk4 (fun _ e _ => e) (fun _ e _ => e)) ?_
  first | refine gA 14 (k := ?_) | refine goffA 14 (k := ?_)
  first | refine gA 15 (k := ?_) | refine goffA 15 (k := ?_)
  refine G_op 16 rfl (by kernel_rfl) rfl (W_store rfl rfl k4 rfl rfl rfl rfl ?_) 
  intro H5 p5
  refine G_free (by kernel_rfl) ?_
  refine G_done (by kernel_rfl) ?_
  repeat (first | refine codeA (k := ?_) | refine condA (k := ?_) | refine offA (k := ?_) | refine pureA (k := ?_) | refine readA (k := ?_))
  obtain ⟨f1, f2⟩ := h3.more (own4.imp (fun x row _ hr => hr.keep (Kept.refl (fun _ => False) _) (fun b hb _ => ⟨fun f => f, hb, by have := hn3.size; omega⟩))) hk4 hg4 p5
  have s3 := hn3.size
  refine At_ret1 rfl rfl ⟨rfl, Kept.trans hn3.ext f1 (fun _ f _ => f.elim) (fun _ e _ => e), _, f2.to (fun b hb _ => hb.1) (fun b hb => f2.dis b ⟨⟨hb.1, hb.2⟩, by omega⟩), fun g hg => ?_⟩
  simp only [Value.ownBlock, Option.some.injEq] at hg
  subst hg
  rcases hg4 with e | e
  · exact .inl e
  · exact .inr (by omega)

def rputE (R : Rt) (f : Fr) : Int := if 0 ≤ f.frm ∧ f.frm < R.n ∧ 0 ≤ f.to ∧ f.to < R.n then (if R.row.length ≥ 4096 then 20 else 0) else 26
def rputR (R : Rt) (f : Fr) : Rt := if rputE R f = 0 then { R with row := R.row ++ [f] } else R
set_option maxHeartbeats 2000000 in
theorem rput_spec {D : Nat → Prop} {H : Heap} {q : Nat} {lv cv bv : Value} {R : Rt} {f : Fr} (h0 : RNet D H q lv cv R) (hb0 : BytesAt D H bv f.body) (hlen : R.row.length < 4096) :
    Spc Try.prog 30 #[.pointer (some ⟨q, 0, none⟩), .agg (frCells f bv).toArray] H fun r H' => r = .int .i64 (rputE R f) ∧ Kept (Gn q lv cv) H H' ∧
      ∃ lv', RNet (fun b => D b ∧ b < H.size) H' q lv' cv (rputR R f) ∧ ∀ g, lv'.ownBlock = some g → lv.ownBlock = some g ∨ H.size ≤ g := by
  have h := h0.lim
  obtain ⟨pb, pc, rfl⟩ := hb0.form
  obtain ⟨p0, c0, hlv, _⟩ := h.lform
  refine spec_of Try.func30 rfl Try.ntmps30 rfl (fun W => ?_)
  repeat (first | refine codeA (k := ?_) | refine condA (k := ?_) | refine offA (k := ?_) | refine pureA (k := ?_) | refine readA (k := ?_))
  refine At_wp (W_box (cs := #[.int .i64 f.frm, .int .i64 f.to, .int .i64 f.epoch, .int .i64 f.peer, .int .i64 f.seq, .int .i64 f.ack, .slice pb f.body.length pc]) rfl rfl rfl ?_) rfl
  intro bt H1 hn1
  have hx1 := hn1.ext
  have s1 := hn1.size
  have h1 := h.ext hx1
  have e1 := hn1.at_
  have d0 : Cell H1 bt (0 + 0) (.int .i64 f.frm) := Cell.of e1 rfl
  have d1 : Cell H1 bt (0 + 1) (.int .i64 f.to) := Cell.of e1 rfl
  have hb1 : BytesAt (fun b => D b ∧ b < H.size) H1 (.slice pb f.body.length pc) f.body := hb0.keep hx1 (fun b hb hl => ⟨fun f => f, hb, hl⟩)
  repeat (first | refine codeA (k := ?_) | refine condA (k := ?_) | refine offA (k := ?_) | refine pureA (k := ?_) | refine readA (k := ?_))
  refine At_wp (W_call rfl rfl (end_spec h1 f.frm) rfl rfl ?_) rfl
  rintro _ _ ⟨rfl, rfl⟩
  by_cases hA : 0 ≤ f.frm ∧ f.frm < R.n
  rotate_left
  · have eE : rputE R f = 26 := by unfold rputE; rw [if_neg (fun e => hA ⟨e.1, e.2.1⟩)]
    have eN : rputR R f = R := by unfold rputR; rw [eE]; rfl
    rw [decide_eq_false hA]
    repeat (first | refine codeA (k := ?_) | refine condA (k := ?_) | refine offA (k := ?_) | refine pureA (k := ?_) | refine readA (k := ?_))
    refine At_ret1 rfl rfl ⟨by rw [eE], Kept.of_ext hx1, lv, ?_, fun g hg => .inl hg⟩
    rw [eN]
    exact h1
  rw [decide_eq_true hA]
  repeat (first | refine codeA (k := ?_) | refine condA (k := ?_) | refine offA (k := ?_) | refine pureA (k := ?_) | refine readA (k := ?_))
  refine At_wp (W_call rfl rfl (end_spec h1 f.to) rfl rfl ?_) rfl
  rintro _ _ ⟨rfl, rfl⟩
  by_cases hB : 0 ≤ f.to ∧ f.to < R.n
  rotate_left
  · have eE : rputE R f = 26 := by unfold rputE; rw [if_neg (fun e => hB e.2.2)]
    have eN : rputR R f = R := by unfold rputR; rw [eE]; rfl
    rw [decide_eq_false hB]
    repeat (first | refine codeA (k := ?_) | refine condA (k := ?_) | refine offA (k := ?_) | refine pureA (k := ?_) | refine readA (k := ?_))
    refine At_ret1 rfl rfl ⟨by rw [eE], Kept.of_ext hx1, lv, ?_, fun g hg => .inl hg⟩
    rw [eN]
    exact h1
  rw [decide_eq_true hB]
  have c1 := h1.c1
  rw [hlv] at c1
  have eE : rputE R f = 0 := by unfold rputE; rw [if_pos ⟨hA.1, hA.2, hB.1, hB.2⟩, if_neg (by omega)]
  have eN : rputR R f = { R with row := R.row ++ [f] } := by unfold rputR; rw [if_pos eE]
  repeat (first | refine codeA (k := ?_) | refine condA (k := ?_) | refine offA (k := ?_) | refine pureA (k := ?_) | refine readA (k := ?_))
  have hxr : Kept (fun b => lv.ownBlock = some b) H1 H1 := Kept.refl _ _
  have hbt := hn1.blk
  have hxb : ¬ lv.ownBlock = some bt := fun e => by have := h.llt e; omega
  refine At_draw [4, 5] (fun H' => Kept (fun b => lv.ownBlock = some b) H1 H') Try.mixed ?_
  first | refine gA 0 (k := ?_) | refine goffA 0 (k := ?_)
  first | refine gA 1 (k := ?_) | refine goffA 1 (k := ?_)
  first | refine gA 2 (k := ?_) | refine goffA 2 (k := ?_)
  first | refine gA 3 (k := ?_) | refine goffA 3 (k := ?_)
  refine grA 4 hxr (fun H' hS' => r_load rfl rfl (c1.keep hS' h.nl)) (k := ?_)
  refine grA 5 hxr (fun H' hS' => r_loadB rfl (hS'.keep e1 hxb) rfl rfl) (k := ?_)
  refine G_op 6 rfl (by kernel_rfl) rfl (W_buildSlice1 (cs := (frCells f (.slice pb f.body.length pc)).toArray) rfl rfl rfl (by decide) rfl ?_) 
  intro b3 H3 hn3
  refine G_next (fun _ s => s.then_ext hn3.ext) ?_
  have h3 := h1.ext hn3.ext
  have own3 := h3.own
  rw [hlv] at own3
  have hrow : FRow (fun b => D b ∧ b < H.size) H3 f (frCells f (.slice pb f.body.length pc)) := ⟨_, rfl, hb1.keep hn3.ext (fun b hb _ => ⟨fun f => f, hb⟩)⟩
  refine G_op 7 rfl (by kernel_rfl) rfl (W_append1 (R := FRow (fun b => D b ∧ b < H.size) H3) (a := f) (row := frCells f (.slice pb f.body.length pc)) (fun H' => FRow (fun b => D b ∧ b < H.size) H') rfl rfl own3 hn3.at_ rfl hrow rfl hrow.one rfl (by decide) (by omega) (by decide) rfl ?_ ?_)
  · intro H' g hk hg hgl x row hr
    rw [← hlv] at hk
    exact hr.keep hk (fun b hb hl => ⟨fun e => (h.dis b hb).2.1 e, hb⟩)
  intro g4 c4 H4 own4 hk4 hg4
  rw [← hlv] at hk4 hg4
  have k4 := hk4.keep h3.blk h3.nl
  refine G_next (fun _ s => Kept.trans s hk4 (fun _ e _ => e) (fun _ e _ => e)) ?_
  first | refine gA 8 (k := ?_) | refine goffA 8 (k := ?_)
  first | refine gA 9 (k := ?_) | refine goffA 9 (k := ?_)
  refine G_op 10 rfl (by kernel_rfl) rfl (W_store rfl rfl k4 rfl rfl rfl rfl ?_) 
  intro H5 p5
  refine G_free (by kernel_rfl) ?_
  refine G_done (by kernel_rfl) ?_
  repeat (first | refine codeA (k := ?_) | refine condA (k := ?_) | refine offA (k := ?_) | refine pureA (k := ?_) | refine readA (k := ?_))
  have s3 := hn3.size
  obtain ⟨f1, f2⟩ := h3.more (own4.imp (fun x row _ hr => hr.keep (Kept.refl (fun _ => False) _) (fun b hb _ => ⟨fun f => f, hb, by have := hb.2; omega⟩))) hk4 hg4 p5
  rw [eE, eN]
  refine At_ret1 rfl rfl ⟨rfl, Kept.trans (hx1.trans hn3.ext) f1 (fun _ f _ => f.elim) (fun _ e _ => e), _, f2.to (fun b hb _ => hb.1) (fun b hb => f2.dis b ⟨⟨hb.1, hb.2⟩, by have := hb.2; omega⟩), fun g hg => ?_⟩
  simp only [Value.ownBlock, Option.some.injEq] at hg
  subst hg
  rcases hg4 with e | e
  · exact .inl e
  · exact .inr (by omega)
theorem rcut_miss {D : Nat → Prop} {H : Heap} {q : Nat} {lv cv : Value} {R : Rt} (h : RNet D H q lv cv R) {a b : Int} {on : Bool} (hi : ¬ (0 ≤ a ∧ a < R.n ∧ 0 ≤ b ∧ b < R.n)) :
    Spc Try.prog 28 #[.pointer (some ⟨q, 0, none⟩), .int .i64 a, .int .i64 b, .bool on] H fun r H' => H' = H ∧ r = .int .i64 26 := by
  refine spec_of Try.func28 rfl Try.ntmps28 rfl (fun W => ?_)
  repeat (first | refine codeA (k := ?_) | refine condA (k := ?_) | refine offA (k := ?_) | refine pureA (k := ?_) | refine readA (k := ?_))
  refine At_wp (W_call rfl rfl (end_spec h a) rfl rfl ?_) rfl
  rintro _ _ ⟨rfl, rfl⟩
  by_cases ha : 0 ≤ a ∧ a < R.n
  · rw [decide_eq_true ha]
    repeat (first | refine codeA (k := ?_) | refine condA (k := ?_) | refine offA (k := ?_) | refine pureA (k := ?_) | refine readA (k := ?_))
    refine At_wp (W_call rfl rfl (end_spec h b) rfl rfl ?_) rfl
    rintro _ _ ⟨rfl, rfl⟩
    rw [decide_eq_false (fun e => hi ⟨ha.1, ha.2, e.1, e.2⟩)]
    repeat (first | refine codeA (k := ?_) | refine condA (k := ?_) | refine offA (k := ?_) | refine pureA (k := ?_) | refine readA (k := ?_))
    exact At_ret1 rfl rfl ⟨rfl, rfl⟩
  · rw [decide_eq_false ha]
    repeat (first | refine codeA (k := ?_) | refine condA (k := ?_) | refine offA (k := ?_) | refine pureA (k := ?_) | refine readA (k := ?_))
    exact At_ret1 rfl rfl ⟨rfl, rfl⟩
end Go.Proofs.Ytjgbbegfenmhaaa
