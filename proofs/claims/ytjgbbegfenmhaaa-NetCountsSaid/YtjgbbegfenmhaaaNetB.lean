/- A network: New, Cut, Put, and rows with one element taken out. -/
import Derived.Test.YtjgbbegfenmhaaaNetA
namespace Go.Proofs.Ytjgbbegfenmhaaa
open Go Ev
set_option linter.unusedVariables false
set_option linter.unusedSimpArgs false
attribute [local irreducible] Go.wpList Go.bodyPost Go.Code.wp Go.Exit.then Go.Exit.inBlock Go.Exit.noGoto Ev.wpAnyG Go.Oper.wp Ev.Back Ev.Left Ev.Spc Ev.At Ev.Pure Ev.Reads Ev.Runs Ev.Does Ev.Cell

def isF : Value → Bool
  | .bool b => !b
  | _ => false
theorem isF_eq {v : Value} (h : isF v = true) : v = .bool false := by
  cases v <;> simp_all [isF]
theorem zlen : zero57.cells.toList.length = 4098 := by kernel_rfl
theorem zall : (zero57.cells.toList.drop 2).all isF = true := by kernel_rfl
theorem zone : zero57.cells.toList[1]? = some (.slice none 0 0) := by kernel_rfl
theorem zdrop : zero57.cells.toList.drop 1 = .slice none 0 0 :: zero57.cells.toList.drop 2 := by
  have h := zlen
  have h1 := zone
  generalize zero57.cells.toList = zl at *
  match zl, h, h1 with
  | x :: y :: r, _, h1 =>
    simp only [List.getElem?_cons_succ, List.getElem?_cons_zero, Option.some.injEq] at h1
    rw [h1]
    rfl
theorem fill0 {pl : List (Nat × Nat)} {zl : List Value} {v : Value} (h : Nat.beq v.cells.size 1 = true) (hv : v.cells.toList = [v]) (hz : 1 ≤ zl.length) : fillL ((0, 1) :: pl) zl [(0, v)] = some (v :: zl.drop 1) := by
  have h2 : Nat.ble (0 + 1) zl.length = true := Nat.ble_eq_true_of_le (by omega)
  simp only [fillL, List.getElem?_cons_zero, h, h2, Bool.and_self, hv]
  simp
theorem new_spec (n : Int) (H : Heap) (h1 : 1 ≤ n) (h2 : n ≤ 64) :
    Spc Try.prog 7 #[.int .i64 n] H fun v H' => ∃ b, v = .tuple #[.pointer (some ⟨b, 0, none⟩), .int .i64 0] ∧ b = H.size ∧ Ext H H' ∧ ∀ D : Nat → Prop, (∀ i, D i → i ≠ b) → NetD D H' b (.slice none 0 0) ⟨n, [], fun _ _ => false⟩ := by
  refine spec_of Try.func7 rfl Try.ntmps7 rfl (fun W => ?_)
  repeat (first | refine codeA (k := ?_) | refine condA (k := ?_) | refine offA (k := ?_) | refine pureA (k := ?_) | refine readA (k := ?_))
  refine At_pure (p_build (.int .i64 n :: .slice none 0 0 :: zero57.cells.toList.drop 2) rfl (by rw [← zdrop]; exact fill0 rfl rfl (by rw [zlen]; omega))) rfl rfl rfl ?_
  refine At_wp (W_box (cs := (.int .i64 n :: .slice none 0 0 :: zero57.cells.toList.drop 2).toArray) rfl rfl rfl ?_) rfl
  intro b H1 hn
  repeat (first | refine codeA (k := ?_) | refine condA (k := ?_) | refine offA (k := ?_) | refine pureA (k := ?_) | refine readA (k := ?_))
  refine At_ret2 rfl rfl rfl ⟨b, rfl, hn.blk, hn.ext, fun D hD => ⟨⟨_, hn.at_, by rw [List.length_drop, zlen], fun a c ha hc => ?_⟩, OwnL.nil _ _ _ _, (fun e => by cases e), fun i hi => ⟨hD i hi, fun e => by cases e⟩⟩⟩
  have hlt : a * 64 + c < (zero57.cells.toList.drop 2).length := by rw [List.length_drop, zlen]; omega
  rw [List.getElem?_eq_getElem hlt]
  congr 1
  exact isF_eq (List.all_eq_true.1 zall _ (List.getElem_mem hlt))

def cutF (c : Nat → Nat → Bool) (a b : Nat) (on : Bool) : Nat → Nat → Bool := fun i j => if (i = a ∧ j = b) ∨ (i = b ∧ j = a) then on else c i j
set_option maxHeartbeats 1000000 in
theorem cut_spec {D : Nat → Prop} {H : Heap} {p : Nat} {vr : Value} {N : Nt} (h : NetD D H p vr N) (a b : Nat) (on : Bool) (ha : (a : Int) < N.n) (hb : (b : Int) < N.n) (hn : N.n ≤ 64) :
    Spc Try.prog 8 #[.pointer (some ⟨p, 0, none⟩), .int .i64 a, .int .i64 b, .bool on] H fun r H' => r = .int .i64 0 ∧ Kept (· = p) H H' ∧ H'.size = H.size ∧ NetD D H' p vr { N with cut := cutF N.cut a b on } := by
  refine spec_of Try.func8 rfl Try.ntmps8 rfl (fun W => ?_)
  repeat (first | refine codeA (k := ?_) | refine condA (k := ?_) | refine offA (k := ?_) | refine pureA (k := ?_) | refine readA (k := ?_))
  refine At_wp (W_call rfl rfl (is_spec h a) rfl rfl ?_) rfl
  rintro _ _ ⟨rfl, rfl⟩
  rw [decide_eq_true ⟨by omega, ha⟩]
  repeat (first | refine codeA (k := ?_) | refine condA (k := ?_) | refine offA (k := ?_) | refine pureA (k := ?_) | refine readA (k := ?_))
  refine At_wp (W_call rfl rfl (is_spec h b) rfl rfl ?_) rfl
  rintro _ _ ⟨rfl, rfl⟩
  rw [decide_eq_true ⟨by omega, hb⟩]
  repeat (first | refine codeA (k := ?_) | refine condA (k := ?_) | refine offA (k := ?_) | refine pureA (k := ?_) | refine readA (k := ?_))
  obtain ⟨cs, c1, c2, c3⟩ := h.blk
  refine At_draw [] (fun H' => True) Try.mixed ?_
  first | refine gA 0 (k := ?_) | refine goffA 0 (k := ?_)
  first | refine gA 1 (k := ?_) | refine goffA 1 (k := ?_)
  first | refine gA 2 (k := ?_) | refine goffA 2 (k := ?_)
  first | refine gA 3 (k := ?_) | refine goffA 3 (k := ?_)
  first | refine gA 4 (k := ?_) | refine goffA 4 (k := ?_)
  first | refine gA 5 (k := ?_) | refine goffA 5 (k := ?_)
  first | refine gA 6 (k := ?_) | refine goffA 6 (k := ?_)
  first | refine gA 7 (k := ?_) | refine goffA 7 (k := ?_)
  first | refine gA 8 (k := ?_) | refine goffA 8 (k := ?_)
  first | refine gA 9 (k := ?_) | refine goffA 9 (k := ?_)
  refine gpA 10 (p_indexArr (N := 64) (i := a) rfl rfl (by omega)) (k := ?_)
  refine gpA 11 (p_indexArr (N := 64) (i := b) rfl rfl (by omega)) (k := ?_)
  first | refine gA 13 (k := ?_) | refine goffA 13 (k := ?_)
  first | refine gA 14 (k := ?_) | refine goffA 14 (k := ?_)
  refine gpA 15 (p_indexArr (N := 64) (i := b) rfl rfl (by omega)) (k := ?_)
  refine G_op 12 rfl (by kernel_rfl) rfl (W_store rfl rfl c1 rfl rfl rfl (Nat.ble_eq_true_of_le (by simp; omega)) ?_) 
  intro H1 p1
  refine G_next (fun _ _ => trivial) ?_
  refine gpA 16 (p_indexArr (N := 64) (i := a) rfl rfl (by omega)) (k := ?_)
  have q1 := p1.at_
  refine G_op 17 rfl (by kernel_rfl) rfl (W_store rfl rfl q1 rfl rfl rfl (Nat.ble_eq_true_of_le (by simp; omega)) ?_) 
  intro H2 p2
  refine G_next (fun _ _ => trivial) ?_
  refine G_done (by kernel_rfl) ?_
  repeat (first | refine codeA (k := ?_) | refine condA (k := ?_) | refine offA (k := ?_) | refine pureA (k := ?_) | refine readA (k := ?_))
  have hk : Kept (· = p) H H2 := Kept.trans p1.kept p2.kept (fun _ e _ => e) (fun _ e _ => e)
  refine At_ret1 rfl rfl ⟨rfl, hk, by rw [p2.size, p1.size], ⟨⟨(cs.set (a * 64 + b) (.bool on)).set (b * 64 + a) (.bool on), ?_, by simpa using c2, fun i j hi hj => ?_⟩, ?_, h.ne, h.dis⟩⟩
  · rw [p2.at_]
    congr 2
    have e1 : 0 + 2 + a * 64 + b * 1 = a * 64 + b + 1 + 1 := by omega
    have e2 : 0 + 2 + b * 64 + a * 1 = b * 64 + a + 1 + 1 := by omega
    apply Array.toList_inj.1
    simp only [e1, e2, Array.toList_setIfInBounds, List.set_cons_succ]
  · rw [List.getElem?_set, List.getElem?_set]
    have g := c3 i j hi hj
    show _ = some (Value.bool (cutF N.cut a b on i j))
    unfold cutF
    simp only [List.length_set, c2]
    by_cases e2 : b * 64 + a = i * 64 + j
    · have e3 : i = b ∧ j = a := by omega
      rw [if_pos e2, if_pos (by omega), if_pos (Or.inr e3)]
    · rw [if_neg e2]
      by_cases e1 : a * 64 + b = i * 64 + j
      · have e3 : i = a ∧ j = b := by omega
        rw [if_pos e1, if_pos (by omega), if_pos (Or.inl e3)]
      · rw [if_neg e1, if_neg (fun e => by omega)]
        exact g
  · exact h.own.keep hk (fun g hg e => h.ne (by rw [hg, e])) (fun x row _ hr => hr.keep hk (fun b hb _ => ⟨(h.dis b hb).1, hb⟩))

/-- blocks that are let: those of before, and all new ones but v's -/
def Nu (D : Nat → Prop) (H : Heap) (v : Value) (b : Nat) : Prop := (b < H.size ∧ D b) ∨ (H.size ≤ b ∧ v.ownBlock ≠ some b)
def Fn (p : Nat) (vr : Value) (b : Nat) : Prop := b = p ∨ vr.ownBlock = some b
theorem NetD.nu {D : Nat → Prop} {H H' H0 : Heap} {p : Nat} {vr : Value} {N : Nt} (h : NetD D H p vr N) (hk : Ext H H') : NetD (Nu D H vr) H' p vr N := by
  refine h.keep hk (fun f => f) (fun _ _ f => f) (fun b hb hl => ⟨fun f => f, .inl ⟨hl, hb⟩⟩) (fun b hb => ?_)
  rcases hb with ⟨_, hb⟩ | ⟨hl, hb⟩
  · exact h.dis b hb
  · exact ⟨fun e => by have := h.lt; omega, hb⟩
def putE (N : Nt) (f : Fr) : Int := if 0 ≤ f.frm ∧ f.frm < N.n ∧ 0 ≤ f.to ∧ f.to < N.n then (if N.row.length ≥ 4096 then 20 else 0) else 26
def putN (N : Nt) (f : Fr) : Nt := if putE N f = 0 then { N with row := N.row ++ [f] } else N
set_option maxHeartbeats 2000000 in
theorem put_spec {D Db : Nat → Prop} {H : Heap} {p : Nat} {vr bv : Value} {N : Nt} {f : Fr} (h : NetD D H p vr N) (hb : BytesAt Db H bv f.body) (hl : f.body.length ≤ 70368744177664) (hr : N.row.length ≤ 4096) :
    Spc Try.prog 9 #[.pointer (some ⟨p, 0, none⟩), .agg (frCells f bv).toArray] H fun r H' => r = .int .i64 (putE N f) ∧ Kept (Fn p vr) H H' ∧ ∃ vr', NetD (Nu D H vr') H' p vr' (putN N f) ∧ ∀ g, vr'.ownBlock = some g → vr.ownBlock = some g ∨ H.size ≤ g := by
  obtain ⟨q, c, rfl⟩ := hb.form
  obtain ⟨q0, c0, hvr⟩ := h.vr
  refine spec_of Try.func9 rfl Try.ntmps9 rfl (fun W => ?_)
  repeat (first | refine codeA (k := ?_) | refine condA (k := ?_) | refine offA (k := ?_) | refine pureA (k := ?_) | refine readA (k := ?_))
  refine At_wp (W_box (cs := #[.int .i64 f.frm, .int .i64 f.to, .int .i64 f.epoch, .int .i64 f.peer, .int .i64 f.seq, .int .i64 f.ack, .slice q f.body.length c]) rfl rfl rfl ?_) rfl
  intro bt H1 hn1
  have hx1 := hn1.ext
  have h1 := h.ext hx1
  have e1 := hn1.at_
  have d0 : Cell H1 bt (0 + 0) (.int .i64 f.frm) := Cell.of e1 rfl
  have d1 : Cell H1 bt (0 + 1) (.int .i64 f.to) := Cell.of e1 rfl
  have hb1 : BytesAt Db H1 (.slice q f.body.length c) f.body := hb.keep hx1 (fun b hb _ => ⟨fun f => f, hb⟩)
  repeat (first | refine codeA (k := ?_) | refine condA (k := ?_) | refine offA (k := ?_) | refine pureA (k := ?_) | refine readA (k := ?_))
  refine At_wp (W_call rfl rfl (is_spec h1 f.frm) rfl rfl ?_) rfl
  rintro _ _ ⟨rfl, rfl⟩
  by_cases hA : 0 ≤ f.frm ∧ f.frm < N.n
  rotate_left
  · have eE : putE N f = 26 := by unfold putE; rw [if_neg (fun e => hA ⟨e.1, e.2.1⟩)]
    have eN : putN N f = N := by unfold putN; rw [eE]; rfl
    rw [decide_eq_false hA]
    repeat (first | refine codeA (k := ?_) | refine condA (k := ?_) | refine offA (k := ?_) | refine pureA (k := ?_) | refine readA (k := ?_))
    refine At_ret1 rfl rfl ⟨by rw [eE], Kept.of_ext hx1, vr, ?_, fun g hg => .inl hg⟩
    rw [eN]
    exact h.nu (H0 := H) hx1
  rw [decide_eq_true hA]
  repeat (first | refine codeA (k := ?_) | refine condA (k := ?_) | refine offA (k := ?_) | refine pureA (k := ?_) | refine readA (k := ?_))
  refine At_wp (W_call rfl rfl (is_spec h1 f.to) rfl rfl ?_) rfl
  rintro _ _ ⟨rfl, rfl⟩
  by_cases hB : 0 ≤ f.to ∧ f.to < N.n
  rotate_left
  · have eE : putE N f = 26 := by unfold putE; rw [if_neg (fun e => hB e.2.2)]
    have eN : putN N f = N := by unfold putN; rw [eE]; rfl
    rw [decide_eq_false hB]
    repeat (first | refine codeA (k := ?_) | refine condA (k := ?_) | refine offA (k := ?_) | refine pureA (k := ?_) | refine readA (k := ?_))
    refine At_ret1 rfl rfl ⟨by rw [eE], Kept.of_ext hx1, vr, ?_, fun g hg => .inl hg⟩
    rw [eN]
    exact h.nu (H0 := H) hx1
  rw [decide_eq_true hB]
  have c1 := h1.c1
  rw [hvr] at c1
  repeat (first | refine codeA (k := ?_) | refine condA (k := ?_) | refine offA (k := ?_) | refine pureA (k := ?_) | refine readA (k := ?_))
  by_cases hC : N.row.length ≥ 4096
  · have eE : putE N f = 20 := by unfold putE; rw [if_pos ⟨hA.1, hA.2, hB.1, hB.2⟩, if_pos hC]
    have eN : putN N f = N := by unfold putN; rw [eE]; rfl
    repeat (first | refine codeA (k := ?_) | refine condA (k := ?_) | refine offA (k := ?_) | refine pureA (k := ?_) | refine readA (k := ?_))
    refine At_ret1 rfl rfl ⟨by rw [eE], Kept.of_ext hx1, vr, ?_, fun g hg => .inl hg⟩
    rw [eN]
    exact h.nu (H0 := H) hx1
  have eE : putE N f = 0 := by unfold putE; rw [if_pos ⟨hA.1, hA.2, hB.1, hB.2⟩, if_neg hC]
  have eN : putN N f = { N with row := N.row ++ [f] } := by unfold putN; rw [if_pos eE]
  repeat (first | refine codeA (k := ?_) | refine condA (k := ?_) | refine offA (k := ?_) | refine pureA (k := ?_) | refine readA (k := ?_))
  have hplt := h.lt
  have ownlt : ∀ g, vr.ownBlock = some g → g < H.size := fun g hg => by
    rcases h.own.form with ⟨e, _⟩ | ⟨g', cg, e, hl, _⟩
    · rw [e] at hg; cases hg
    · rw [e] at hg
      simp only [Value.ownBlock, Option.some.injEq] at hg
      omega
  have hbt := hn1.blk
  have hxr : Kept (fun b => vr.ownBlock = some b) H1 H1 := Kept.refl _ _
  have hxp : ¬ vr.ownBlock = some p := h.ne
  have hxb : ¬ vr.ownBlock = some bt := fun e => by have := ownlt bt e; omega
  refine At_draw [4, 5] (fun H' => Kept (fun b => vr.ownBlock = some b) H1 H') Try.mixed ?_
  first | refine gA 0 (k := ?_) | refine goffA 0 (k := ?_)
  first | refine gA 1 (k := ?_) | refine goffA 1 (k := ?_)
  first | refine gA 2 (k := ?_) | refine goffA 2 (k := ?_)
  first | refine gA 3 (k := ?_) | refine goffA 3 (k := ?_)
  refine grA 4 hxr (fun H' hS' => r_load rfl rfl (c1.keep hS' hxp)) (k := ?_)
  refine grA 5 hxr (fun H' hS' => r_loadB rfl (hS'.keep e1 hxb) rfl rfl) (k := ?_)
  refine G_op 6 rfl (by kernel_rfl) rfl (W_call rfl rfl (twin_spec (f := f) hb1 hl) rfl rfl ?_) 
  rintro _ H2 ⟨bw, rfl, hx2, hb2⟩
  obtain ⟨qw, cw, rfl⟩ := hb2.form
  refine G_next (fun _ s => s.then_ext hx2) ?_
  refine G_op 7 rfl (by kernel_rfl) rfl (W_buildSlice1 rfl rfl rfl (by decide) rfl ?_) 
  intro g3 H3 hn3
  refine G_next (fun _ s => s.then_ext hn3.ext) ?_
  have hx3 := hx2.trans hn3.ext
  have hxa := hx1.trans hx3
  have h3 := h.ext hxa
  have s1 := hx1.size
  have s2 := hx2.size
  have s3 := hn3.size
  have b3 := hn3.blk
  have own3 := h3.own
  rw [hvr] at own3
  have hb3 : BytesAt (fun b => H.size ≤ b ∧ b < H3.size) H3 (.slice qw f.body.length cw) f.body := hb2.keep hn3.ext (fun b hb hl => ⟨fun f => f, by omega, by omega⟩)
  refine G_op 8 rfl (by kernel_rfl) rfl (W_append1 (R := fun x row => FRow (fun b => (b < H.size ∧ D b) ∨ (H.size ≤ b ∧ b < H3.size)) H3 x row) (a := f) (row := frCells f (.slice qw f.body.length cw)) (fun H' => FRow (fun b => (b < H.size ∧ D b) ∨ (H.size ≤ b ∧ b < H3.size)) H') rfl rfl (own3.imp (fun x row hx hr => ?_)) hn3.at_ rfl ⟨_, rfl, hb3.mono (fun b hb _ => .inr hb)⟩ rfl ?_ rfl (by decide) (by omega) (by decide) rfl ?_ ?_)
  · exact hr.keep (Kept.refl (fun _ => False) H3) (fun b hb hl => ⟨fun f => f, by rcases Nat.lt_or_ge b H.size with e | e; exact .inl ⟨e, hb⟩; exact .inr ⟨e, hl⟩⟩)
  · exact FRow.one (D := fun b => H.size ≤ b ∧ b < H3.size) (f := f) (H := H3) ⟨_, rfl, hb3⟩
  · intro H' g hk hg hgl x row hr
    refine hr.keep hk (fun b hb hl => ⟨fun e => ?_, hb⟩)
    rw [← hvr] at e
    have := ownlt b e
    rcases hb with ⟨_, hb⟩ | ⟨hb, _⟩
    · exact (h.dis b hb).2 e
    · omega
  intro g4 c4 H4 own4 hk4 hg4
  rw [← hvr] at hk4 hg4
  have hne := h.ne
  have g4p : g4 ≠ p := by
    rcases hg4 with e | e
    · intro e2; subst e2; exact hne e
    · omega
  obtain ⟨cs, k1, k2, k3⟩ := h3.blk
  have k4 := hk4.keep k1 hne
  refine G_next (fun _ s => Kept.trans s hk4 (fun _ e _ => e) (fun _ e _ => e)) ?_
  first | refine gA 9 (k := ?_) | refine goffA 9 (k := ?_)
  first | refine gA 10 (k := ?_) | refine goffA 10 (k := ?_)
  refine G_op 11 rfl (by kernel_rfl) rfl (W_store rfl rfl k4 rfl rfl rfl (Nat.ble_eq_true_of_le (by simp)) ?_) 
  intro H5 p5
  refine G_free (by kernel_rfl) ?_
  refine G_done (by kernel_rfl) ?_
  repeat (first | refine codeA (k := ?_) | refine condA (k := ?_) | refine offA (k := ?_) | refine pureA (k := ?_) | refine readA (k := ?_))
  have s4 := hk4.size
  have s5 := p5.size
  have hkp : Kept (Fn p vr) H H5 := by
    have a1 : Kept (Fn p vr) H H4 := Kept.trans (Kept.of_ext hxa : Kept (Fn p vr) H H3) hk4 (fun _ e _ => e) (fun _ e _ => .inr e)
    exact Kept.trans a1 p5.kept (fun _ e _ => e) (fun _ e _ => .inl e)
  refine At_ret1 rfl rfl ⟨by rw [eE], hkp, .slice (some ⟨g4, 0, none⟩) (N.row.length + 1) c4, ?_, fun g hg => ?_⟩
  · rw [eN]
    refine ⟨⟨cs, ?_, k2, k3⟩, own4.keep p5.kept (fun g hg e => ?_) (fun x row _ hr => hr.keep p5.kept (fun b hb hl => ?_)), ?_, fun b hb => ?_⟩
    · rw [p5.at_]
      congr 2
    · simp only [Value.ownBlock, Option.some.injEq] at hg
      omega
    · rcases hb with ⟨hb, hd⟩ | ⟨hb, hd⟩
      · exact ⟨(h.dis b hd).1, .inl ⟨hb, hd⟩⟩
      · refine ⟨fun e => by omega, .inr ⟨hb, fun e => ?_⟩⟩
        simp only [Value.ownBlock, Option.some.injEq] at e
        rcases hg4 with e5 | e5
        · have := ownlt g4 e5
          omega
        · omega
    · intro e
      simp only [Value.ownBlock, Option.some.injEq] at e
      exact g4p e
    · rcases hb with ⟨hb, hd⟩ | ⟨hb, hd⟩
      · refine ⟨(h.dis b hd).1, fun e => ?_⟩
        simp only [Value.ownBlock, Option.some.injEq] at e
        rcases hg4 with e5 | e5
        · exact (h.dis b hd).2 (by rw [e5, e])
        · omega
      · exact ⟨fun e => by omega, hd⟩
  · simp only [Value.ownBlock, Option.some.injEq] at hg
    subst hg
    rcases hg4 with e5 | e5
    · exact .inl e5
    · exact .inr (by omega)
end Go.Proofs.Ytjgbbegfenmhaaa
