/- A network: Carry; 'wakes'. -/
import Derived.Test.YtjgbbegfenmhaaaNetC
namespace Go.Proofs.Ytjgbbegfenmhaaa
open Go Ev
set_option linter.unusedVariables false
set_option linter.unusedSimpArgs false
attribute [local irreducible] Go.wpList Go.bodyPost Go.Code.wp Go.Exit.then Go.Exit.inBlock Go.Exit.noGoto Ev.wpAnyG Go.Oper.wp Ev.Back Ev.Left Ev.Spc Ev.At Ev.Pure Ev.Reads Ev.Runs Ev.Does Ev.Cell

def fr0 : Fr := ⟨0, 0, 0, 0, 0, 0, []⟩
structure Good (N : Nt) : Prop where
  n : N.n ≤ 64
  len : N.row.length ≤ 4096
  row : ∀ f ∈ N.row, 0 ≤ f.frm ∧ f.frm < N.n ∧ 0 ≤ f.to ∧ f.to < N.n ∧ f.body.length ≤ 70368744177664
def carC (N : Nt) (f : Fr) : Bool := N.cut f.frm.toNat f.to.toNat
def carF (N : Nt) (f : Fr) : Fr := if carC N f = true then fr0 else f
theorem carry_miss {D : Nat → Prop} {H : Heap} {p : Nat} {vr : Value} {N : Nt} (h : NetD D H p vr N) {i : Int} (hi : ¬ (0 ≤ i ∧ i < N.row.length)) :
    Spc Try.prog 10 #[.pointer (some ⟨p, 0, none⟩), .int .i64 i] H fun r H' => Ext H H' ∧ r = .tuple #[.agg (frCells fr0 (.slice none 0 0)).toArray, .bool false, .int .i64 12] := by
  refine spec_of Try.func10 rfl Try.ntmps10 rfl (fun W => ?_)
  repeat (first | refine codeA (k := ?_) | refine condA (k := ?_) | refine offA (k := ?_) | refine pureA (k := ?_) | refine readA (k := ?_))
  refine At_wp (W_alloc rfl rfl ?_) rfl
  intro b1 H1 hn1
  repeat (first | refine codeA (k := ?_) | refine condA (k := ?_) | refine offA (k := ?_) | refine pureA (k := ?_) | refine readA (k := ?_))
  refine At_wp (W_call rfl rfl (place_spec (h.ext hn1.ext) i) rfl rfl ?_) rfl
  rintro _ _ ⟨rfl, rfl⟩
  rw [decide_eq_false hi]
  repeat (first | refine codeA (k := ?_) | refine condA (k := ?_) | refine offA (k := ?_) | refine pureA (k := ?_) | refine readA (k := ?_))
  refine At_pure (p_build (frCells fr0 (.slice none 0 0)) rfl rfl) rfl rfl rfl ?_
  refine At_wp (W_storeB rfl rfl hn1.at_ rfl rfl rfl rfl ?_) rfl
  intro H2 p2
  repeat (first | refine codeA (k := ?_) | refine condA (k := ?_) | refine offA (k := ?_) | refine pureA (k := ?_) | refine readA (k := ?_))
  have b1' := hn1.blk
  exact At_retC3 rfl rfl p2.at_ rfl rfl rfl rfl ⟨Kept.trans hn1.ext p2.kept (fun _ f _ => f) (fun j e hl => by omega), rfl⟩

theorem NetD.to {D D' : Nat → Prop} {H : Heap} {p : Nat} {vr : Value} {N : Nt} (h : NetD D H p vr N) (h1 : ∀ b, D b → b < H.size → D' b) (hd : ∀ b, D' b → b ≠ p ∧ vr.ownBlock ≠ some b) : NetD D' H p vr N :=
  h.keep (Kept.refl (fun _ => False) H) (fun f => f) (fun _ _ f => f) (fun b hb hl => ⟨fun f => f, h1 b hb hl⟩) hd
theorem NetD.lim {D : Nat → Prop} {H : Heap} {p : Nat} {vr : Value} {N : Nt} (h : NetD D H p vr N) : NetD (fun b => D b ∧ b < H.size) H p vr N := h.to (fun b hb hl => ⟨hb, hl⟩) (fun b hb => h.dis b hb.1)
set_option maxHeartbeats 2000000 in
theorem carry_soft {D : Nat → Prop} {H : Heap} {p : Nat} {vr : Value} {N : Nt} (h0 : NetD D H p vr N) (hg : Good N) {i : Nat} {f : Fr} (hi : N.row[i]? = some f) :
    Spc Try.prog 10 #[.pointer (some ⟨p, 0, none⟩), .int .i64 i] H fun r H' => Kept (Fn p vr) H H' ∧ (∃ bv', r = .tuple #[.agg (frCells (carF N f) bv').toArray, .bool (!carC N f), .int .i64 0] ∧ BytesAt (fun b => H.size ≤ b ∧ Soft H' b) H' bv' (carF N f).body) ∧
      ∃ vr', NetD D H' p vr' { N with row := N.row.eraseIdx i } ∧ vr'.ownBlock = vr.ownBlock := by
  have h := h0.lim
  have hil : i < N.row.length := (List.getElem?_eq_some_iff.1 hi).1
  have hlen := hg.len
  have hn64 := hg.n
  obtain ⟨g1, g2, g3, g4, g5⟩ := hg.row f (List.mem_of_getElem? hi)
  have hlt := h.lt
  obtain ⟨g, c, hvr, hgl⟩ : ∃ g c, vr = .slice (some ⟨g, 0, none⟩) N.row.length c ∧ g < H.size := by
    rcases h.own.form with ⟨e1, e2⟩ | ⟨g, c, e1, e2, _⟩
    · rw [e2] at hil; simp at hil
    · exact ⟨g, c, e1, e2⟩
  have hgp : g ≠ p := fun e => h.ne (by rw [hvr, e]; rfl)
  refine spec_of Try.func10 rfl Try.ntmps10 rfl (fun W => ?_)
  repeat (first | refine codeA (k := ?_) | refine condA (k := ?_) | refine offA (k := ?_) | refine pureA (k := ?_) | refine readA (k := ?_))
  refine At_wp (W_alloc rfl rfl ?_) rfl
  intro b1 H1 hn1
  have b1' := hn1.blk
  have s1 := hn1.size
  have h1 := h.ext hn1.ext
  repeat (first | refine codeA (k := ?_) | refine condA (k := ?_) | refine offA (k := ?_) | refine pureA (k := ?_) | refine readA (k := ?_))
  refine At_wp (W_call rfl rfl (place_spec h1 i) rfl rfl ?_) rfl
  rintro _ _ ⟨rfl, rfl⟩
  rw [decide_eq_true ⟨by omega, by omega⟩]
  have c1 := h1.c1
  have hown := h1.own
  rw [hvr] at c1 hown
  obtain ⟨row, ⟨bv, e1, e2⟩, e3, e4⟩ := hown.cells hi
  subst e1
  obtain ⟨pb, pc, rfl⟩ := e2.form
  repeat (first | refine codeA (k := ?_) | refine condA (k := ?_) | refine offA (k := ?_) | refine pureA (k := ?_) | refine readA (k := ?_))
  refine At_read (r_loadN (b := g) (o := 0 + i * 7) (cs := frCells f (.slice pb f.body.length pc)) rfl rfl rfl (fun j u hj => by rw [Nat.zero_add]; exact e4 j u hj)) rfl rfl rfl ?_
  refine At_wp (W_storeB (cs' := (frCells f (.slice pb f.body.length pc)).toArray) rfl rfl hn1.at_ rfl rfl rfl rfl ?_) rfl
  intro H2 p2
  have hx2 : Ext H H2 := Kept.trans hn1.ext p2.kept (fun _ f _ => f) (fun j e hl => by omega)
  have h2 := h.ext hx2
  have d1 := h2.c1
  have s2 := p2.size
  have q2 := p2.at_
  rw [hvr] at d1
  have hdel := delete_spec h2.own hil (fun b hb => (h2.dis b hb).2)
  have hr0 : ∀ {v : Value}, vr = v → vr.ownBlock = v.ownBlock := fun e => by rw [e]
  rw [hvr] at hdel
  repeat (first | refine codeA (k := ?_) | refine condA (k := ?_) | refine offA (k := ?_) | refine pureA (k := ?_) | refine readA (k := ?_))
  refine At_wp (W_call rfl rfl hdel rfl rfl ?_) rfl
  rw [← hvr]
  rintro r H3 ⟨hk3, hr3, ho3⟩
  obtain ⟨cs, k1, k2, k3⟩ := h2.blk
  have k1' := hk3.keep k1 h2.ne
  have q3 := hk3.keep q2 (fun e => by rw [hvr] at e; simp only [Value.ownBlock, Option.some.injEq] at e; omega)
  have s3 := hk3.size
  repeat (first | refine codeA (k := ?_) | refine condA (k := ?_) | refine offA (k := ?_) | refine pureA (k := ?_) | refine readA (k := ?_))
  refine At_wp (W_store rfl rfl k1' ?_ ?_ rfl (Nat.ble_eq_true_of_le (by simp)) ?_) rfl
  · rcases ho3.form with ⟨e, _⟩ | ⟨g, cg, e, _⟩ <;> rw [e] <;> rfl
  · rcases ho3.form with ⟨e, _⟩ | ⟨g, cg, e, _⟩ <;> rw [e] <;> rfl
  intro H4 p4
  have s4 := p4.size
  have h4 : NetD (fun b => D b ∧ b < H.size) H4 p r { N with row := N.row.eraseIdx i } := by
    refine ⟨⟨cs, ?_, k2, k3⟩, ho3.keep p4.kept (fun g hg e => h2.ne (by rw [← hr3, hg, e])) (fun x row _ hr => hr.keep p4.kept (fun b hb hl => ⟨(h.dis b hb).1, hb⟩)), by rw [hr3]; exact h2.ne, fun b hb => by rw [hr3]; exact h.dis b hb⟩
    rw [p4.at_]
    congr 2
  have q4 := p4.kept.keep q3 (fun e => by omega)
  have hk4 : Kept (Fn p vr) H H4 := Kept.trans (Kept.trans (Kept.of_ext hx2 : Kept (Fn p vr) H H2) hk3 (fun _ e _ => e) (fun _ e _ => .inr e)) p4.kept (fun _ e _ => e) (fun _ e _ => .inl e)
  obtain ⟨a, ha⟩ : ∃ a : Nat, f.frm = a := ⟨f.frm.toNat, by omega⟩
  obtain ⟨b, hb⟩ : ∃ b : Nat, f.to = b := ⟨f.to.toNat, by omega⟩
  have m0 : Cell H4 b1 (0 + 0) (.int .i64 a) := Cell.of q4 (by rw [← ha]; rfl)
  have m1 : Cell H4 b1 (0 + 1) (.int .i64 b) := Cell.of q4 (by rw [← hb]; rfl)
  have m2 : Cell H4 p (0 + 2 + a * 64 + b * 1) (.bool (N.cut a b)) := h4.cc (by omega) (by omega)
  have hC : carC N f = N.cut a b := by unfold carC; rw [ha, hb]; rfl
  repeat (first | refine codeA (k := ?_) | refine condA (k := ?_) | refine offA (k := ?_) | refine pureA (k := ?_) | refine readA (k := ?_))
  refine At_draw [2, 4, 9] (fun H' => H' = H4) Try.mixed ?_
  first | refine gA 0 (k := ?_) | refine goffA 0 (k := ?_)
  first | refine gA 1 (k := ?_) | refine goffA 1 (k := ?_)
  refine grA 2 rfl (fun H' hS' => r_load rfl rfl (by subst hS'; exact m0)) (k := ?_)
  first | refine gA 3 (k := ?_) | refine goffA 3 (k := ?_)
  refine grA 4 rfl (fun H' hS' => r_load rfl rfl (by subst hS'; exact m1)) (k := ?_)
  first | refine gA 5 (k := ?_) | refine goffA 5 (k := ?_)
  first | refine gA 6 (k := ?_) | refine goffA 6 (k := ?_)
  refine gpA 7 (p_indexArr (N := 64) (i := a) rfl rfl (by omega)) (k := ?_)
  refine gpA 8 (p_indexArr (N := 64) (i := b) rfl rfl (by omega)) (k := ?_)
  refine grA 9 rfl (fun H' hS' => r_load rfl rfl (by subst hS'; exact m2)) (k := ?_)
  refine G_done (by kernel_rfl) ?_
  cases hcut : N.cut a b
  · have eC : carC N f = false := by rw [hC, hcut]
    have eF : carF N f = f := by unfold carF; rw [eC]; rfl
    have hb5 : BytesAt (fun b => D b ∧ b < H.size) H4 (.slice pb f.body.length pc) f.body := by
      have a1 := e2.keep p2.kept (fun j hj hl => ⟨fun e => by have := hj.2; omega, hj⟩)
      have a2 := a1.keep hk3 (fun j hj hl => ⟨fun e => (h.dis j hj).2 e, hj⟩)
      exact a2.keep p4.kept (fun j hj hl => ⟨(h.dis j hj).1, hj⟩)
    repeat (first | refine codeA (k := ?_) | refine condA (k := ?_) | refine offA (k := ?_) | refine pureA (k := ?_) | refine readA (k := ?_))
    refine At_read (r_loadB rfl q4 rfl rfl) rfl rfl rfl ?_
    refine At_wp (W_call rfl rfl (twin_soft (f := f) hb5 g5) rfl rfl ?_) rfl
    rintro _ H5 ⟨bw, rfl, hx5, hb6⟩
    obtain ⟨qw, cw, rfl⟩ := hb6.form
    have q5 := hx5.keep q4 (fun f => f)
    have s5 := hx5.size
    refine At_wp (W_storeB (cs' := (frCells f (.slice qw f.body.length cw)).toArray) rfl rfl q5 rfl rfl rfl rfl ?_) rfl
    intro H6 p6
    repeat (first | refine codeA (k := ?_) | refine condA (k := ?_) | refine offA (k := ?_) | refine pureA (k := ?_) | refine readA (k := ?_))
    refine At_retC3 rfl rfl p6.at_ rfl rfl rfl rfl ⟨?_, ⟨.slice qw f.body.length cw, by rw [eF, eC]; rfl, ?_⟩, r, ?_, hr3⟩
    · exact Kept.trans (hk4.then_ext hx5) p6.kept (fun _ e _ => e) (fun j e hl => by omega)
    · rw [eF]
      exact hb6.keep p6.kept (fun j hj hl => ⟨fun e => by omega, by omega, hj.2.keep p6.kept (fun e => by omega)⟩)
    · exact ((h4.ext hx5).keep p6.kept (fun e => by omega) (fun g' hg' e => by rw [hr3, hvr] at hg'; simp only [Value.ownBlock, Option.some.injEq] at hg'; omega) (fun j hj hl => ⟨fun e => by have := hj.2; omega, hj⟩) h4.dis).to (fun j hj _ => hj.1) (fun j hj => by rw [hr3]; exact h0.dis j hj)
  · have eC : carC N f = true := by rw [hC, hcut]
    have eF : carF N f = fr0 := by unfold carF; rw [eC]; rfl
    repeat (first | refine codeA (k := ?_) | refine condA (k := ?_) | refine offA (k := ?_) | refine pureA (k := ?_) | refine readA (k := ?_))
    refine At_pure (p_build (frCells fr0 (.slice none 0 0)) rfl rfl) rfl rfl rfl ?_
    refine At_wp (W_storeB (cs' := (frCells fr0 (.slice none 0 0)).toArray) rfl rfl q4 rfl rfl rfl rfl ?_) rfl
    intro H5 p5
    repeat (first | refine codeA (k := ?_) | refine condA (k := ?_) | refine offA (k := ?_) | refine pureA (k := ?_) | refine readA (k := ?_))
    refine At_retC3 rfl rfl p5.at_ rfl rfl rfl rfl ⟨?_, ⟨.slice none 0 0, by rw [eF, eC]; rfl, by rw [eF]; exact BytesAt.nil _ _⟩, r, ?_, hr3⟩
    · exact Kept.trans hk4 p5.kept (fun _ e _ => e) (fun j e hl => by omega)
    · exact (h4.keep p5.kept (fun e => by omega) (fun g' hg' e => by rw [hr3, hvr] at hg'; simp only [Value.ownBlock, Option.some.injEq] at hg'; omega) (fun j hj hl => ⟨fun e => by have := hj.2; omega, hj⟩) h4.dis).to (fun j hj _ => hj.1) (fun j hj => by rw [hr3]; exact h0.dis j hj)
theorem carry_hit {D : Nat → Prop} {H : Heap} {p : Nat} {vr : Value} {N : Nt} (h0 : NetD D H p vr N) (hg : Good N) {i : Nat} {f : Fr} (hi : N.row[i]? = some f) :
    Spc Try.prog 10 #[.pointer (some ⟨p, 0, none⟩), .int .i64 i] H fun r H' => Kept (Fn p vr) H H' ∧ (∃ bv', r = .tuple #[.agg (frCells (carF N f) bv').toArray, .bool (!carC N f), .int .i64 0] ∧ BytesAt (fun b => H.size ≤ b) H' bv' (carF N f).body) ∧
      ∃ vr', NetD D H' p vr' { N with row := N.row.eraseIdx i } ∧ vr'.ownBlock = vr.ownBlock :=
  (carry_soft h0 hg hi).mono fun _ _ ⟨h1, ⟨b, h2, h3⟩, h4⟩ => ⟨h1, ⟨b, h2, h3.mono fun _ h _ => h.1⟩, h4⟩
end Go.Proofs.Ytjgbbegfenmhaaa
