/- A network: slices.Delete, List, Carry, Lose. -/
import Derived.Test.YtjgbbegfenmhaaaNetB
namespace Go.Proofs.Ytjgbbegfenmhaaa
open Go Ev
set_option linter.unusedVariables false
set_option linter.unusedSimpArgs false
attribute [local irreducible] Go.wpList Go.bodyPost Go.Code.wp Go.Exit.then Go.Exit.inBlock Go.Exit.noGoto Ev.wpAnyG Go.Oper.wp Ev.Back Ev.Left Ev.Spc Ev.At Ev.Pure Ev.Reads Ev.Runs Ev.Does Ev.Cell

section
variable {P : Program} {n : Nat} {env : Env} {ds : Option Tmp} {ty : TypeId} {pos : String} {af : Array Edge} {gd : Option (Nat × Bool)}
theorem p_slice_any {x lo : Operand} {t e : TypeId} {d : TypeDesc} {sz sb es eb : Nat} {z ez : Value} {b o l c : Nat} {kl : IntKind} {i k : Nat} [h : Ty P t (.slice e) sz sb z] [he : Ty P e d es eb ez]
    (hx : ev env x = some (.slice (some ⟨b, o, none⟩) l c)) (hlo : ev env lo = some (.int kl i)) (h1 : i ≤ l) (h2 : i ≤ c) (hk : l - i = k) :
    Pure P n env ⟨ds, .slice t x (some lo) none none, ty, pos, af, gd⟩ (.slice (if c = i then some ⟨b, o, none⟩ else some ⟨b, o + i * es, none⟩) k (c - i)) := by
  subst hk
  by_cases e : c = i
  · rw [if_pos e]
    exact p_slice_lo_end hx hlo h1 e
  · rw [if_neg e]
    exact p_slice_lo hx hlo h1 (by omega)
end
set_option maxHeartbeats 1000000 in
theorem delete_rows {H : Heap} {g c i : Nat} {rows : List (List Value)} (h : OwnR H 30 7 (.slice (some ⟨g, 0, none⟩) rows.length c) rows) (hi : i < rows.length) (h1 : ∀ r ∈ rows, ∀ u ∈ r, u.oneCell' = true) :
    Spc Try.prog 23 #[.slice (some ⟨g, 0, none⟩) rows.length c, .int .i64 i, .int .i64 ((i : Int) + 1)] H fun r H' => Kept (· = g) H H' ∧ r = .slice (some ⟨g, 0, none⟩) (rows.length - 1) c ∧ OwnR H' 30 7 (.slice (some ⟨g, 0, none⟩) (rows.length - 1) c) (rows.eraseIdx i) := by
  obtain ⟨_, _, _, hrc, hcm, _, _⟩ := h.block
  have hlen : rows.length ≤ maxLen := by omega
  simp only [maxLen] at hlen
  refine spec_of Try.func23 rfl Try.ntmps23 rfl (fun W => ?_)
  repeat (first | refine codeA (k := ?_) | refine condA (k := ?_) | refine offA (k := ?_) | refine pureA (k := ?_) | refine readA (k := ?_))
  refine At_pure (p_slice3 (i := i) (j := i + 1) (m := rows.length) rfl rfl rfl rfl (by omega) (by omega) hrc hi) rfl rfl rfl ?_
  repeat (first | refine codeA (k := ?_) | refine condA (k := ?_) | refine offA (k := ?_) | refine pureA (k := ?_) | refine readA (k := ?_))
  refine At_cut (fun (s : List (List Value)) => [(0, .slice (some ⟨g, 0, none⟩) (rows.length - 1) c), (7, .int .i64 rows.length)]) (fun rows' H' => OwnR H' 30 7 (.slice (some ⟨g, 0, none⟩) rows.length c) rows' ∧ rows'.length = rows.length ∧ rows'.take (rows.length - 1) = rows.eraseIdx i ∧ Kept (· = g) H H') ?_ ?_
  · by_cases hl : i + 1 = rows.length
    · refine At_draw [] (fun _ => True) Try.mixed ?_
      first | refine gA 0 (k := ?_) | refine goffA 0 (k := ?_)
      first | refine gA 1 (k := ?_) | refine goffA 1 (k := ?_)
      refine gpA 2 (p_slice_hi (c := c) (j := i) rfl rfl (by omega)) (k := ?_)
      first | refine gA 3 (k := ?_) | refine goffA 3 (k := ?_)
      first | refine gA 4 (k := ?_) | refine goffA 4 (k := ?_)
      refine gpA 5 (p_slice_any (l := rows.length) (c := c) (i := i + 1) (k := 0) rfl rfl (by omega) (by omega) (by omega)) (k := ?_)
      refine G_op 6 rfl (by kernel_rfl) rfl (W_run (Reads.runs (r_append0 (c2 := c - (i + 1)) (q := if c = i + 1 then some ⟨g, 0, none⟩ else some ⟨g, 0 + (i + 1) * 7, none⟩) rfl rfl (by omega))) rfl rfl ?_)
      refine G_next (fun _ _ => trivial) ?_
      first | refine gA 7 (k := ?_) | refine goffA 7 (k := ?_)
      refine G_done (by kernel_rfl) ?_
      have e : rows.length - 1 = i := by omega
      rw [e]
      refine At_then_normal ?_
      refine At_meet (J := fun rows' H' => OwnR H' 30 7 (.slice (some ⟨g, 0, none⟩) rows.length c) rows' ∧ rows'.length = rows.length ∧ rows'.take i = rows.eraseIdx i ∧ Kept (· = g) H H') rows ?_ ⟨h, rfl, ?_, Kept.refl _ _⟩
      · (repeat (first | exact Sub.nil | refine Sub.cons rfl ?_))
      · rw [List.eraseIdx_eq_take_drop_succ, List.drop_eq_nil_of_le (by omega), List.append_nil]
    · refine At_draw [] (fun _ => True) Try.mixed ?_
      first | refine gA 0 (k := ?_) | refine goffA 0 (k := ?_)
      first | refine gA 1 (k := ?_) | refine goffA 1 (k := ?_)
      refine gpA 2 (p_slice_hi (c := c) (j := i) rfl rfl (by omega)) (k := ?_)
      first | refine gA 3 (k := ?_) | refine goffA 3 (k := ?_)
      first | refine gA 4 (k := ?_) | refine goffA 4 (k := ?_)
      refine gpA 5 (p_slice_lo (l := rows.length) (c := c) (i := i + 1) rfl rfl (by omega) (by omega)) (k := ?_)
      refine G_op 6 rfl (by kernel_rfl) rfl (W_appendIn (m := rows.length - (i + 1)) (j := i + 1) rfl rfl h (by omega) (by omega) h1 rfl ?_) 
      intro H1 rows1 ho1 er hk1 hs1
      refine G_next (fun _ _ => trivial) ?_
      first | refine gA 7 (k := ?_) | refine goffA 7 (k := ?_)
      refine G_done (by kernel_rfl) ?_
      have e : i + (rows.length - (i + 1)) = rows.length - 1 := by omega
      rw [e]
      refine At_then_normal ?_
      refine At_meet (J := fun rows' H' => OwnR H' 30 7 (.slice (some ⟨g, 0, none⟩) rows.length c) rows' ∧ rows'.length = rows.length ∧ rows'.take (rows.length - 1) = rows.eraseIdx i ∧ Kept (· = g) H H') rows1 ?_ ⟨ho1, ?_, ?_, hk1⟩
      · (repeat (first | exact Sub.nil | refine Sub.cons rfl ?_))
      · rw [er]; simp; omega
      · rw [er, List.take_left' (by simp; omega), List.eraseIdx_eq_take_drop_succ]
  · rintro rows1 H1 ⟨ho1, hl1, ht1, hk1⟩
    repeat (first | refine codeA (k := ?_) | refine condA (k := ?_) | refine offA (k := ?_) | refine pureA (k := ?_) | refine readA (k := ?_))
    refine At_pure (p_slice (c := c) (i := rows.length - 1) (j := rows.length) rfl rfl rfl (by omega) (by omega) (by omega)) rfl rfl rfl ?_
    have ho1' : OwnR H1 30 7 (.slice (some ⟨g, 0, none⟩) rows1.length c) rows1 := by rw [hl1]; exact ho1
    refine At_wp (W_clearRows (rows := rows1) (i := rows.length - 1) rfl (by omega) (by decide) rfl ho1' ?_) rfl
    intro H2 rows2 ho2 hl2 ht2 hk2 hs2
    repeat (first | refine codeA (k := ?_) | refine condA (k := ?_) | refine offA (k := ?_) | refine pureA (k := ?_) | refine readA (k := ?_))
    refine At_ret1 rfl rfl ⟨Kept.trans hk1 hk2 (fun _ e _ => e) (fun _ e _ => e), rfl, ?_⟩
    have := ho2.short (i := rows.length - 1) (by omega)
    rw [ht2, ht1] at this
    exact this
theorem delete_spec {D : Nat → Prop} {H : Heap} {v : Value} {fs : List Fr} {i : Nat} (h : OwnL H 30 7 (FRow D H) v fs) (hi : i < fs.length) (hD : ∀ b, D b → v.ownBlock ≠ some b) :
    Spc Try.prog 23 #[v, .int .i64 i, .int .i64 ((i : Int) + 1)] H fun r H' => Kept (fun b => v.ownBlock = some b) H H' ∧ r.ownBlock = v.ownBlock ∧ OwnL H' 30 7 (FRow D H') r (fs.eraseIdx i) := by
  obtain ⟨g, c, rfl, hg, hcl, hcm⟩ : ∃ g c, v = .slice (some ⟨g, 0, none⟩) fs.length c ∧ g < H.size ∧ fs.length ≤ c ∧ c ≤ maxLen := by
    rcases h.form with ⟨e1, e2⟩ | e
    · rw [e2] at hi; simp at hi
    · exact e
  obtain ⟨rows, ho, hrl, hrr⟩ := h.rowsR
  have ho' : OwnR H 30 7 (.slice (some ⟨g, 0, none⟩) rows.length c) rows := by rw [hrl]; exact ho
  have hone : ∀ r ∈ rows, ∀ u ∈ r, u.oneCell' = true := fun r hr => by
    obtain ⟨k, hk⟩ := List.mem_iff_getElem?.1 hr
    have hlt : k < fs.length := by rw [← hrl]; exact (List.getElem?_eq_some_iff.1 hk).1
    exact (hrr k fs[k] r (by simp [hlt]) hk).one
  have := delete_rows (i := i) ho' (by omega) hone
  rw [hrl] at this
  refine this.mono fun r H' ⟨k1, k2, k3⟩ => ?_
  subst k2
  simp only [Value.ownBlock, Option.some.injEq, ne_eq] at hD ⊢
  refine ⟨k1.mono (fun _ e _ => e.symm), trivial, OwnR.toL k3 (by rw [List.length_eraseIdx, List.length_eraseIdx, hrl]) (fun j x row hx hr => ?_)⟩
  rw [List.getElem?_eraseIdx] at hx hr
  split at hx
  · rename_i e
    rw [if_pos e] at hr
    exact (hrr j x row hx hr).keep k1 (fun b hb _ => ⟨fun e => hD b hb e.symm, hb⟩)
  · rename_i e
    rw [if_neg e] at hr
    exact (hrr _ x row hx hr).keep k1 (fun b hb _ => ⟨fun e => hD b hb e.symm, hb⟩)

set_option maxHeartbeats 1000000 in
theorem list_soft {D : Nat → Prop} {H : Heap} {p : Nat} {vr : Value} {N : Nt} (h : NetD D H p vr N) (hl : N.row.length ≤ 10000) (hb : ∀ f ∈ N.row, f.body.length ≤ 70368744177664) :
    Spc Try.prog 12 #[.pointer (some ⟨p, 0, none⟩)] H fun v H' => Ext H H' ∧ OwnL H' 30 7 (FRow (fun b => H.size ≤ b ∧ v.ownBlock ≠ some b ∧ Soft H' b) H') v N.row ∧ ∀ g, v.ownBlock = some g → H.size ≤ g := by
  obtain ⟨q0, c0, hvr⟩ := h.vr
  have c1 := h.c1
  rw [hvr] at c1
  have hown := h.own
  rw [hvr] at hown
  refine spec_of Try.func12 rfl Try.ntmps12 rfl (fun W => ?_)
  repeat (first | refine codeA (k := ?_) | refine condA (k := ?_) | refine offA (k := ?_) | refine pureA (k := ?_) | refine readA (k := ?_))
  refine At_cut (fun (s : Value) => [(3, s)]) (fun v H' => Ext H H' ∧ OwnL H' 30 7 (FRow (fun b => H.size ≤ b ∧ v.ownBlock ≠ some b ∧ Soft H' b) H') v N.row ∧ ∀ g, v.ownBlock = some g → H.size ≤ g) ?_ ?_
  · refine At_block ?_
    refine At_loop (fun (s : Nat × Value) => [(3, s.2), (9, .slice q0 N.row.length c0), (10, .int .i64 N.row.length), (11, .int .i64 s.1)])
      (fun s H' => s.1 ≤ N.row.length ∧ Ext H H' ∧ OwnL H' 30 7 (FRow (fun b => H.size ≤ b ∧ s.2.ownBlock ≠ some b ∧ Soft H' b) H') s.2 (N.row.take s.1) ∧ ∀ g, s.2.ownBlock = some g → H.size ≤ g) (fun s => N.row.length - s.1) (0, .slice none 0 0) ?_ ⟨Nat.zero_le _, Kept.refl _ _, OwnL.nil _ _ _ _, fun g e => by cases e⟩ ?_
    · (repeat (first | exact Sub.nil | refine Sub.cons rfl ?_))
    rintro ⟨k, vo⟩ H1 ⟨hle, hx1, ho1, hg1⟩
    dsimp only at hle ho1 hg1
    by_cases hk : k < N.row.length
    · have hx : N.row[k]? = some N.row[k] := by simp [hk]
      generalize N.row[k] = f at hx
      obtain ⟨g, rfl⟩ : ∃ g, q0 = some ⟨g, 0, none⟩ := by
        rcases hown.form with ⟨e1, e2⟩ | ⟨g, c, e1, _⟩
        · rw [e2] at hk; simp at hk
        · simp only [Value.slice.injEq] at e1
          exact ⟨g, e1.1⟩
      obtain ⟨row, ⟨bv, e1, e2⟩, e3, e4⟩ := hown.cells hx
      subst e1
      obtain ⟨pb, pc, rfl⟩ := e2.form
      repeat (first | refine codeA (k := ?_) | refine condA (k := ?_) | refine offA (k := ?_) | refine pureA (k := ?_) | refine readA (k := ?_) | refine At_block ?_)
      refine At_read (r_loadN (b := g) (o := 0 + k * 7) (cs := frCells f (.slice pb f.body.length pc)) rfl rfl rfl (fun j u hj => by rw [Nat.zero_add]; exact (e4 j u hj).keep hx1 (fun f => f))) rfl rfl rfl ?_
      refine At_wp (W_alloc rfl rfl ?_) rfl
      intro b2 H2 hn2
      refine At_wp (W_storeB (cs' := (frCells f (.slice pb f.body.length pc)).toArray) rfl rfl hn2.at_ rfl rfl rfl rfl ?_) rfl
      intro H3 p3
      have bb2 := hn2.blk
      have ss2 := hn2.size
      have ss3 := p3.size
      have ss1 := hx1.size
      have hx3 : Ext H1 H3 := Kept.trans hn2.ext p3.kept (fun _ f _ => f) (fun i e hl => by omega)
      have hb3 := e2.keep (D' := fun _ => True) (hx1.trans hx3) (fun b _ _ => ⟨fun f => f, trivial⟩)
      have q3 := p3.at_
      repeat (first | refine codeA (k := ?_) | refine condA (k := ?_) | refine offA (k := ?_) | refine pureA (k := ?_) | refine readA (k := ?_))
      refine At_read (r_loadB rfl q3 rfl rfl) rfl rfl rfl ?_
      refine At_wp (W_call rfl rfl (twin_soft (f := f) hb3 (hb f (List.mem_of_getElem? hx))) rfl rfl ?_) rfl
      rintro _ H4 ⟨bw, rfl, hx4, hb4⟩
      obtain ⟨qw, cw, rfl⟩ := hb4.form
      refine At_wp (W_buildSlice1 rfl rfl rfl (by decide) rfl ?_) rfl
      intro b5 H5 hn5
      have ss4 := hx4.size
      have ss5 := hn5.size
      have bb5 := hn5.blk
      have hx5 : Ext H1 H5 := (hx3.trans hx4).trans hn5.ext
      have hb5 := hb4.keep (D' := fun b => H3.size ≤ b ∧ b < H5.size ∧ Soft H5 b) hn5.ext (fun b hb hl => ⟨fun f => f, hb.1, by omega, hb.2.keep hn5.ext (fun f => f)⟩)
      have volt : ∀ g, vo.ownBlock = some g → g < H1.size := fun g hg => by
        rcases ho1.form with ⟨e, _⟩ | ⟨g', cg, e, hl, _⟩
        · rw [e] at hg; cases hg
        · rw [e] at hg
          simp only [Value.ownBlock, Option.some.injEq] at hg
          omega
      have htl : (N.row.take k).length = k := by simp; omega
      refine At_wp (W_append1 (R := fun x row => FRow (fun b => H.size ≤ b ∧ b < H5.size ∧ vo.ownBlock ≠ some b ∧ Soft H5 b) H5 x row) (a := f) (row := frCells f (.slice qw f.body.length cw)) (fun H' => FRow (fun b => H.size ≤ b ∧ b < H5.size ∧ vo.ownBlock ≠ some b ∧ Soft H' b) H') rfl rfl (ho1.keep hx5 (fun _ _ f => f) (fun x row hx hr => hr.keep hx5 (fun b hb hl => ⟨fun f => f, hb.1, by omega, hb.2.1, hb.2.2.keep hx5 (fun f => f)⟩))) hn5.at_ rfl ⟨_, rfl, hb5.mono (fun b hb _ => ⟨by omega, hb.2.1, fun e => by have := volt b e; omega, hb.2.2⟩)⟩ rfl ?_ rfl (by decide) (by omega) (by decide) rfl ?_ ?_) rfl
      · exact FRow.one (D := fun b => H3.size ≤ b ∧ b < H5.size ∧ Soft H5 b) (f := f) (H := H5) ⟨_, rfl, hb5⟩
      · intro H' g hk hg hgl x row hr
        exact hr.keep hk (fun b hb hl => ⟨fun e => hb.2.2.1 e, hb.1, hb.2.1, hb.2.2.1, hb.2.2.2.keep hk (fun e => hb.2.2.1 e)⟩)
      intro g6 c6 H6 ho6 hk6 hg6
      rw [htl] at ho6 ⊢
      have ss6 := hk6.size
      repeat (first | refine codeA (k := ?_) | refine condA (k := ?_) | refine offA (k := ?_) | refine pureA (k := ?_) | refine readA (k := ?_))
      have hgH : H.size ≤ g6 := by
        rcases hg6 with e | e
        · exact hg1 g6 e
        · omega
      refine At_back (k + 1, .slice (some ⟨g6, 0, none⟩) (k + 1) c6) ?_ ⟨by dsimp only; omega, ?_, ?_, ?_⟩ (by dsimp only; omega)
      · (repeat (first | exact Sub.nil | refine Sub.cons rfl ?_))
      · exact Kept.trans (hx1.trans hx5) hk6 (fun _ f _ => f) (fun i e hl => by have := hg1 i e; omega)
      · have e : N.row.take (k + 1) = N.row.take k ++ [f] := by rw [List.take_add_one, hx]; rfl
        dsimp only
        rw [e]
        refine ho6.imp (fun x row _ hr => hr.keep (Kept.refl (fun _ => False) H6) (fun b hb _ => ⟨fun f => f, hb.1, fun e => ?_, hb.2.2.2⟩))
        simp only [Value.ownBlock, Option.some.injEq] at e
        subst e
        rcases hg6 with e | e
        · exact hb.2.2.1 e
        · omega
      · intro g' hg'
        simp only [Value.ownBlock, Option.some.injEq] at hg'
        omega
    · obtain rfl : k = N.row.length := by omega
      rw [List.take_length] at ho1
      repeat (first | refine codeA (k := ?_) | refine condA (k := ?_) | refine offA (k := ?_) | refine pureA (k := ?_) | refine readA (k := ?_))
      refine At_meet (J := fun v H' => Ext H H' ∧ OwnL H' 30 7 (FRow (fun b => H.size ≤ b ∧ v.ownBlock ≠ some b ∧ Soft H' b) H') v N.row ∧ ∀ g, v.ownBlock = some g → H.size ≤ g) vo ?_ ⟨hx1, ho1, hg1⟩
      (repeat (first | exact Sub.nil | refine Sub.cons rfl ?_))
  · rintro v H1 ⟨hx1, ho1, hg1⟩
    repeat (first | refine codeA (k := ?_) | refine condA (k := ?_) | refine offA (k := ?_) | refine pureA (k := ?_) | refine readA (k := ?_))
    exact At_ret1 rfl rfl ⟨hx1, ho1, hg1⟩
theorem list_spec {D : Nat → Prop} {H : Heap} {p : Nat} {vr : Value} {N : Nt} (h : NetD D H p vr N) (hl : N.row.length ≤ 10000) (hb : ∀ f ∈ N.row, f.body.length ≤ 70368744177664) :
    Spc Try.prog 12 #[.pointer (some ⟨p, 0, none⟩)] H fun v H' => Ext H H' ∧ OwnL H' 30 7 (FRow (fun b => H.size ≤ b ∧ v.ownBlock ≠ some b) H') v N.row ∧ ∀ g, v.ownBlock = some g → H.size ≤ g :=
  (list_soft h hl hb).mono fun _ _ ⟨h1, h2, h3⟩ => ⟨h1, h2.imp fun _ _ _ hr => hr.keep (Kept.refl (fun _ => False) _) fun b hb _ => ⟨fun f => f, hb.1, hb.2.1⟩, h3⟩
end Go.Proofs.Ytjgbbegfenmhaaa
