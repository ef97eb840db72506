/- The walk of NetCut. -/
import Derived.Test.YtjgbbegfenmhaaaNetE
namespace Go.Proofs.Ytjgbbegfenmhaaa
open Go Ev
set_option linter.unusedVariables false
set_option linter.unusedSimpArgs false
attribute [local irreducible] Go.wpList Go.bodyPost Go.Code.wp Go.Exit.then Go.Exit.inBlock Go.Exit.noGoto Ev.wpAnyG Go.Oper.wp Ev.Back Ev.Left Ev.Spc Ev.At Ev.Pure Ev.Reads Ev.Runs Ev.Does Ev.Cell

def cutNow (k a b : Nat) : Nat → Nat → Bool := fun i j => decide (k = 0 ∧ ((i = a ∧ j = b) ∨ (i = b ∧ j = a)))
theorem cutNow0 (a b : Nat) : cutF (cutF (fun _ _ => false) b a true) a b true = cutNow 0 a b := by
  funext i j
  unfold cutF cutNow
  by_cases e1 : (i = a ∧ j = b) ∨ (i = b ∧ j = a)
  · rw [if_pos e1, decide_eq_true ⟨rfl, e1⟩]
  · rw [if_neg e1, if_neg (fun e => e1 e.symm), decide_eq_false (fun e => e1 e.2)]
theorem cutNow1 (k a b : Nat) : cutF (cutNow k a b) a b false = cutNow (k + 1) a b := by
  funext i j
  unfold cutF cutNow
  have e0 : decide (k + 1 = 0 ∧ ((i = a ∧ j = b) ∨ (i = b ∧ j = a))) = false := decide_eq_false (fun e => Nat.succ_ne_zero k e.1)
  by_cases e1 : (i = a ∧ j = b) ∨ (i = b ∧ j = a)
  · rw [if_pos e1, e0]
  · rw [if_neg e1, e0, decide_eq_false (fun e => e1 e.2)]
structure NS (H : Heap) (p k a b : Nat) (vr : Value) (H' : Heap) : Prop where
  net : NetD (fun i => i ≠ p ∧ vr.ownBlock ≠ some i) H' p vr ⟨4, [], cutNow k a b⟩
  ext : Ext H H'
  p : H.size ≤ p
  own : ∀ g, vr.ownBlock = some g → H.size ≤ g
theorem NetD.empty {D : Nat → Prop} {H : Heap} {p : Nat} {vr : Value} {n : Int} {cut : Nat → Nat → Bool} (h : NetD D H p vr ⟨n, [], cut⟩) : NetD (fun i => i ≠ p ∧ vr.ownBlock ≠ some i) H p vr ⟨n, [], cut⟩ :=
  ⟨h.blk, h.own.imp (fun x row hx _ => by simp at hx), h.ne, fun b hb => hb⟩
theorem putE_zero {N : Nt} {f : Fr} (h : putE N f = 0) : 0 ≤ f.frm ∧ f.frm < N.n ∧ 0 ≤ f.to ∧ f.to < N.n := by
  unfold putE at h
  split at h
  · assumption
  · cases h
theorem own_lt {e : TypeId} {size : Nat} {α : Type} {R : α → List Value → Prop} {H : Heap} {v : Value} {xs : List α} (h : OwnL H e size R v xs) {g : Nat} (hg : v.ownBlock = some g) : g < H.size := by
  rcases h.form with ⟨e, _⟩ | ⟨g', cg, e, hl, _⟩
  · rw [e] at hg; cases hg
  · rw [e] at hg
    simp only [Value.ownBlock, Option.some.injEq] at hg
    omega

set_option maxHeartbeats 4000000 in
theorem netCut_walk {H : Heap} {v : Value} {a b : Int} {fs : List Fr} (hs : SliceAt (fun _ => True) H 7 (FRow (fun _ => True) H) v fs) :
    Spc Try.prog 3 #[.int .i64 a, .int .i64 b, v] H fun r H' => Ext H H' ∧ r = .bool true := by
  have hlen := hs.len_le
  simp only [maxLen] at hlen
  obtain ⟨q, c, rfl⟩ := hs.form
  refine spec_of Try.func3 rfl Try.ntmps3 rfl (fun W => ?_)
  by_cases h1 : fs.length > 80
  · repeat (first | refine codeA (k := ?_) | refine condA (k := ?_) | refine offA (k := ?_) | refine pureA (k := ?_) | refine readA (k := ?_))
    exact At_ret1 rfl rfl ⟨Kept.refl _ _, rfl⟩
  by_cases h2 : a < 0
  · repeat (first | refine codeA (k := ?_) | refine condA (k := ?_) | refine offA (k := ?_) | refine pureA (k := ?_) | refine readA (k := ?_))
    exact At_ret1 rfl rfl ⟨Kept.refl _ _, rfl⟩
  by_cases h3 : a > 3
  · repeat (first | refine codeA (k := ?_) | refine condA (k := ?_) | refine offA (k := ?_) | refine pureA (k := ?_) | refine readA (k := ?_))
    exact At_ret1 rfl rfl ⟨Kept.refl _ _, rfl⟩
  by_cases h4 : b < 0
  · repeat (first | refine codeA (k := ?_) | refine condA (k := ?_) | refine offA (k := ?_) | refine pureA (k := ?_) | refine readA (k := ?_))
    exact At_ret1 rfl rfl ⟨Kept.refl _ _, rfl⟩
  by_cases h5 : b > 3
  · repeat (first | refine codeA (k := ?_) | refine condA (k := ?_) | refine offA (k := ?_) | refine pureA (k := ?_) | refine readA (k := ?_))
    exact At_ret1 rfl rfl ⟨Kept.refl _ _, rfl⟩
  obtain ⟨a, rfl⟩ : ∃ n : Nat, a = n := ⟨a.toNat, by omega⟩
  obtain ⟨b, rfl⟩ : ∃ n : Nat, b = n := ⟨b.toNat, by omega⟩
  repeat (first | refine codeA (k := ?_) | refine condA (k := ?_) | refine offA (k := ?_) | refine pureA (k := ?_) | refine readA (k := ?_))
  refine At_wp (W_call rfl rfl (new_spec 4 H (by decide) (by decide)) rfl rfl ?_) rfl
  rintro _ H1 ⟨p, rfl, hp, hx1, hD1⟩
  have n1 := hD1 (fun i => i ≠ p) (fun i hi => hi)
  have s1 := hx1.size
  repeat (first | refine codeA (k := ?_) | refine condA (k := ?_) | refine offA (k := ?_) | refine pureA (k := ?_) | refine readA (k := ?_))
  refine At_wp (W_call rfl rfl (cut_spec n1 b a true (by show (b : Int) < 4; omega) (by show (a : Int) < 4; omega) (by decide)) rfl rfl ?_) rfl
  rintro _ H2 ⟨rfl, hk2, s2, n2⟩
  repeat (first | refine codeA (k := ?_) | refine condA (k := ?_) | refine offA (k := ?_) | refine pureA (k := ?_) | refine readA (k := ?_))
  refine At_wp (W_call rfl rfl (cut_spec n2 a b true (by show (a : Int) < 4; omega) (by show (b : Int) < 4; omega) (by show (4 : Int) ≤ 64; decide)) rfl rfl ?_) rfl
  rintro _ H3 ⟨rfl, hk3, s3, n3⟩
  have ns : NS H p 0 a b (.slice none 0 0) H3 := by
    refine ⟨?_, Kept.trans (Kept.trans hx1 hk2 (fun _ f _ => f) (fun i e hl => by omega)) hk3 (fun _ f _ => f) (fun i e hl => by omega), by omega, fun g e => by cases e⟩
    have n4 : NetD (fun i => i ≠ p) H3 p (.slice none 0 0) ⟨4, [], cutF (cutF (fun _ _ => false) b a true) a b true⟩ := n3
    rw [cutNow0] at n4
    exact n4.to (fun i hi _ => ⟨hi, fun e => by cases e⟩) (fun i hi => hi)
  repeat (first | refine codeA (k := ?_) | refine condA (k := ?_) | refine offA (k := ?_) | refine pureA (k := ?_) | refine readA (k := ?_) | refine At_block ?_)
  refine At_loop (fun (s : Nat × Value) => [(0, .int .i64 a), (1, .int .i64 b), (2, .slice q fs.length c), (7, .pointer (some ⟨p, 0, none⟩)), (9, .int .i64 s.1)])
    (fun s H' => s.1 ≤ 2 ∧ NS H p s.1 a b s.2 H') (fun s => 2 - s.1) (0, .slice none 0 0) ?_ ⟨by decide, ns⟩ ?_
  · (repeat (first | exact Sub.nil | refine Sub.cons rfl ?_))
  rintro ⟨k, vr⟩ H4 ⟨hk, ns4⟩
  dsimp only at hk ns4
  by_cases hk2' : k < 2
  rotate_left
  · repeat (first | refine codeA (k := ?_) | refine condA (k := ?_) | refine offA (k := ?_) | refine pureA (k := ?_) | refine readA (k := ?_))
    refine At_wp (W_call rfl rfl (wakes_spec H4) rfl rfl ?_) rfl
    rintro _ H5 ⟨hx5, rfl⟩
    repeat (first | refine codeA (k := ?_) | refine condA (k := ?_) | refine offA (k := ?_) | refine pureA (k := ?_) | refine readA (k := ?_))
    exact At_ret1 rfl rfl ⟨ns4.ext.trans hx5, rfl⟩
  repeat (first | refine codeA (k := ?_) | refine condA (k := ?_) | refine offA (k := ?_) | refine pureA (k := ?_) | refine readA (k := ?_))
  refine At_block ?_
  repeat (first | refine codeA (k := ?_) | refine condA (k := ?_) | refine offA (k := ?_) | refine pureA (k := ?_) | refine readA (k := ?_))
  refine At_cut (fun (s : Value) => [(0, .int .i64 a), (1, .int .i64 b), (2, .slice q fs.length c), (7, .pointer (some ⟨p, 0, none⟩)), (9, .int .i64 k)]) (fun s H' => NS H p k a b s H') ?_ ?_
  rotate_left
  · rintro vr5 H5 ns5
    repeat (first | refine codeA (k := ?_) | refine condA (k := ?_) | refine offA (k := ?_) | refine pureA (k := ?_) | refine readA (k := ?_))
    refine At_wp (W_call rfl rfl (cut_spec ns5.net a b false (by show (a : Int) < 4; omega) (by show (b : Int) < 4; omega) (by show (4 : Int) ≤ 64; decide)) rfl rfl ?_) rfl
    rintro _ H6 ⟨rfl, hk6, s6, n6⟩
    repeat (first | refine codeA (k := ?_) | refine condA (k := ?_) | refine offA (k := ?_) | refine pureA (k := ?_) | refine readA (k := ?_))
    have n7 : NetD (fun i => i ≠ p ∧ vr5.ownBlock ≠ some i) H6 p vr5 ⟨4, [], cutF (cutNow k a b) a b false⟩ := n6
    rw [cutNow1] at n7
    refine At_back (k + 1, vr5) ?_ ⟨by dsimp only; omega, n7, Kept.trans ns5.ext hk6 (fun _ f _ => f) (fun i e hl => by have := ns5.p; omega), ns5.p, ns5.own⟩ (by dsimp only; omega)
    (repeat (first | exact Sub.nil | refine Sub.cons rfl ?_))
  refine At_block ?_
  refine At_loop (fun (s : Nat × Value) => [(0, .int .i64 a), (1, .int .i64 b), (2, .slice q fs.length c), (7, .pointer (some ⟨p, 0, none⟩)), (9, .int .i64 k), (10, .int .i64 s.1)])
    (fun s H' => s.1 ≤ fs.length ∧ NS H p k a b s.2 H') (fun s => fs.length - s.1) (0, vr) ?_ ⟨Nat.zero_le _, ns4⟩ ?_
  · (repeat (first | exact Sub.nil | refine Sub.cons rfl ?_))
  rintro ⟨i, vr⟩ H5 ⟨hi, ns5⟩
  dsimp only at hi ns5
  by_cases hil : i < fs.length
  rotate_left
  · repeat (first | refine codeA (k := ?_) | refine condA (k := ?_) | refine offA (k := ?_) | refine pureA (k := ?_) | refine readA (k := ?_))
    refine At_meet (J := fun s H' => NS H p k a b s H') vr ?_ ns5
    (repeat (first | exact Sub.nil | refine Sub.cons rfl ?_))
  have hx : fs[i]? = some fs[i] := by simp [hil]
  generalize fs[i] = f at hx
  obtain ⟨bb, o, row, hq, _, hbb, ⟨bv, e1, e2⟩, e3, e4⟩ := hs.at_ hx
  subst hq
  subst e1
  obtain ⟨pb, pc, rfl⟩ := e2.form
  have f5 : ∀ {H' : Heap}, Ext H H' → ∀ (j : Nat) (u : Value), (frCells f (.slice pb f.body.length pc))[j]? = some u → Cell H' bb (o + i * 7 + j) u := fun hx j u hu => (e4 j u hu).keep hx (fun f => f)
  have x6 := f5 ns5.ext 6 (.slice pb f.body.length pc) rfl
  repeat (first | refine codeA (k := ?_) | refine condA (k := ?_) | refine offA (k := ?_) | refine pureA (k := ?_) | refine readA (k := ?_) | refine At_block ?_)
  by_cases hbl : f.body.length > 1000
  · repeat (first | refine codeA (k := ?_) | refine condA (k := ?_) | refine offA (k := ?_) | refine pureA (k := ?_) | refine readA (k := ?_))
    exact At_ret1 rfl rfl ⟨ns5.ext, rfl⟩
  repeat (first | refine codeA (k := ?_) | refine condA (k := ?_) | refine offA (k := ?_) | refine pureA (k := ?_) | refine readA (k := ?_))
  refine At_read (r_loadN (b := bb) (o := o + i * 7) (cs := frCells f (.slice pb f.body.length pc)) rfl rfl rfl (f5 ns5.ext)) rfl rfl rfl ?_
  refine At_wp (W_call rfl rfl (put_spec (f := f) ns5.net (e2.keep (D' := fun _ => True) ns5.ext (fun _ _ _ => ⟨fun f => f, trivial⟩)) (by omega) (by show (0 : Nat) ≤ 4096; omega)) rfl rfl ?_) rfl
  rintro _ H6 ⟨rfl, hk6, vr6, n6, hv6⟩
  have s5 := ns5.ext.size
  have s6 := hk6.size
  have hp5 := ns5.p
  have hx6 : Ext H H6 := Kept.trans ns5.ext hk6 (fun _ f _ => f) (fun j e hl => by
    rcases e with e | e
    · omega
    · have := ns5.own j e; omega)
  have hv6' : ∀ g, vr6.ownBlock = some g → H.size ≤ g := fun g hg => by
    rcases hv6 g hg with e | e
    · exact ns5.own g e
    · omega
  by_cases hE : putE ⟨4, [], cutNow k a b⟩ f = 0
  rotate_left
  · have eN : putN ⟨4, [], cutNow k a b⟩ f = ⟨4, [], cutNow k a b⟩ := by unfold putN; rw [if_neg hE]
    rw [eN] at n6
    repeat (first | refine codeA (k := ?_) | refine condA (k := ?_) | refine offA (k := ?_) | refine pureA (k := ?_) | refine readA (k := ?_))
    refine At_back (i + 1, vr6) ?_ ⟨by dsimp only; omega, ⟨n6.empty, hx6, ns5.p, hv6'⟩⟩ (by dsimp only; omega)
    (repeat (first | exact Sub.nil | refine Sub.cons rfl ?_))
  have eN : putN ⟨4, [], cutNow k a b⟩ f = ⟨4, [f], cutNow k a b⟩ := by unfold putN; rw [if_pos hE]; rfl
  rw [eN] at n6
  obtain ⟨g1, g2, g3, g4⟩ := putE_zero hE
  have g2' : f.frm < 4 := g2
  have g4' : f.to < 4 := g4
  have good : Good ⟨4, [f], cutNow k a b⟩ := ⟨by show (4 : Int) ≤ 64; decide, by show (1 : Nat) ≤ 4096; decide, fun x hx => by
    have hx' : x ∈ [f] := hx
    simp only [List.mem_singleton] at hx'
    subst hx'
    exact ⟨g1, g2, g3, g4, by omega⟩⟩
  rw [hE]
  repeat (first | refine codeA (k := ?_) | refine condA (k := ?_) | refine offA (k := ?_) | refine pureA (k := ?_) | refine readA (k := ?_))
  refine At_wp (W_call rfl rfl (carry_hit (i := 0) (f := f) n6 good rfl) rfl rfl ?_) rfl
  rintro _ H7 ⟨hk7, ⟨bw, rfl, hb7⟩, vr7, n7, hv7⟩
  have n7' : NetD (Nu (fun i => i ≠ p ∧ vr.ownBlock ≠ some i) H5 vr6) H7 p vr7 ⟨4, [], cutNow k a b⟩ := n7
  have s7 := hk7.size
  have hx7 : Ext H H7 := Kept.trans hx6 hk7 (fun _ f _ => f) (fun j e hl => by
    rcases e with e | e
    · omega
    · have := hv6' j e; omega)
  have hcv : carC ⟨4, [f], cutNow k a b⟩ f = decide (k = 0 ∧ ((f.frm = a ∧ f.to = b) ∨ (f.frm = b ∧ f.to = a))) := by
    show decide (k = 0 ∧ ((f.frm.toNat = a ∧ f.to.toNat = b) ∨ (f.frm.toNat = b ∧ f.to.toNat = a))) = _
    rw [decide_eq_decide]
    omega
  have hF : carF ⟨4, [f], cutNow k a b⟩ f = if carC ⟨4, [f], cutNow k a b⟩ f = true then fr0 else f := rfl
  generalize carC ⟨4, [f], cutNow k a b⟩ f = cv at *
  generalize carF ⟨4, [f], cutNow k a b⟩ f = F at *
  obtain ⟨qw, cw, rfl⟩ := hb7.form
  repeat (first | refine codeA (k := ?_) | refine condA (k := ?_) | refine offA (k := ?_) | refine pureA (k := ?_) | refine readA (k := ?_))
  refine At_wp (W_alloc rfl rfl ?_) rfl
  intro bt H8 hn8
  refine At_wp (W_storeB (cs' := (frCells F (.slice qw F.body.length cw)).toArray) rfl rfl hn8.at_ rfl rfl rfl rfl ?_) rfl
  intro H9 p9
  have b8 := hn8.blk
  have s8 := hn8.size
  have s9 := p9.size
  have hx79 : Ext H7 H9 := Kept.trans hn8.ext p9.kept (fun _ f _ => f) (fun j e hl => by omega)
  have hx9 := hx7.trans hx79
  have q9 := p9.at_
  have hb9 := hb7.keep (D' := fun _ => True) hx79 (fun j _ _ => ⟨fun f => f, trivial⟩)
  have n9 := n7'.ext hx79
  have y0 := f5 hx9 0 (.int .i64 f.frm) rfl
  have y1 := f5 hx9 1 (.int .i64 f.to) rfl
  refine pureA (k := ?_)
  refine pureA (k := ?_)
  refine At_nil ?_
  refine At_then_normal ?_
  refine At_seq ?_
  refine At_cut (fun (s : Unit) => [(0, .int .i64 a), (1, .int .i64 b), (2, .slice (some ⟨bb, o, none⟩) fs.length c), (7, .pointer (some ⟨p, 0, none⟩)), (9, .int .i64 k), (10, .int .i64 i), (11, .pointer (some ⟨bt, 0, none⟩)), (12, .bool (!cv)), (13, .int .i64 0), (14, .bool cv)]) (fun _ H' => H9 = H') ?_ ?_
  · clear hF
    by_cases hk0 : k = 0
    rotate_left
    · obtain rfl : cv = false := by rw [hcv]; exact decide_eq_false (fun e => hk0 e.1)
      repeat (first | refine codeA (k := ?_) | refine condA (k := ?_) | refine offA (k := ?_) | refine pureA (k := ?_) | refine readA (k := ?_))
      refine At_meet (J := fun _ H' => H9 = H') () ?_ rfl
      (repeat (first | exact Sub.nil | refine Sub.cons rfl ?_))
    by_cases a1 : f.frm = a
    · by_cases a2 : f.to = b
      · obtain rfl : cv = true := hcv.trans (decide_eq_true ⟨hk0, .inl ⟨a1, a2⟩⟩)
        repeat (first | refine codeA (k := ?_) | refine condA (k := ?_) | refine offA (k := ?_) | refine pureA (k := ?_) | refine readA (k := ?_))
        refine At_meet (J := fun _ H' => H9 = H') () ?_ rfl
        (repeat (first | exact Sub.nil | refine Sub.cons rfl ?_))
      · by_cases a3 : f.frm = b
        · obtain rfl : cv = false := hcv.trans (decide_eq_false (fun e => e.2.elim (fun z => a2 z.2) (fun z => a2 (by have := z.2; omega))))
          repeat (first | refine codeA (k := ?_) | refine condA (k := ?_) | refine offA (k := ?_) | refine pureA (k := ?_) | refine readA (k := ?_))
          refine At_meet (J := fun _ H' => H9 = H') () ?_ rfl
          (repeat (first | exact Sub.nil | refine Sub.cons rfl ?_))
        · obtain rfl : cv = false := hcv.trans (decide_eq_false (fun e => e.2.elim (fun z => a2 z.2) (fun z => a3 z.1)))
          repeat (first | refine codeA (k := ?_) | refine condA (k := ?_) | refine offA (k := ?_) | refine pureA (k := ?_) | refine readA (k := ?_))
          refine At_meet (J := fun _ H' => H9 = H') () ?_ rfl
          (repeat (first | exact Sub.nil | refine Sub.cons rfl ?_))
    · by_cases a3 : f.frm = b
      · by_cases a4 : f.to = a
        · obtain rfl : cv = true := hcv.trans (decide_eq_true ⟨hk0, .inr ⟨a3, a4⟩⟩)
          repeat (first | refine codeA (k := ?_) | refine condA (k := ?_) | refine offA (k := ?_) | refine pureA (k := ?_) | refine readA (k := ?_))
          refine At_meet (J := fun _ H' => H9 = H') () ?_ rfl
          (repeat (first | exact Sub.nil | refine Sub.cons rfl ?_))
        · obtain rfl : cv = false := hcv.trans (decide_eq_false (fun e => e.2.elim (fun z => a1 z.1) (fun z => a4 z.2)))
          repeat (first | refine codeA (k := ?_) | refine condA (k := ?_) | refine offA (k := ?_) | refine pureA (k := ?_) | refine readA (k := ?_))
          refine At_meet (J := fun _ H' => H9 = H') () ?_ rfl
          (repeat (first | exact Sub.nil | refine Sub.cons rfl ?_))
      · obtain rfl : cv = false := hcv.trans (decide_eq_false (fun e => e.2.elim (fun z => a1 z.1) (fun z => a3 z.1)))
        repeat (first | refine codeA (k := ?_) | refine condA (k := ?_) | refine offA (k := ?_) | refine pureA (k := ?_) | refine readA (k := ?_))
        refine At_meet (J := fun _ H' => H9 = H') () ?_ rfl
        (repeat (first | exact Sub.nil | refine Sub.cons rfl ?_))
  · rintro _ _ rfl
    have own7 : ∀ g, vr7.ownBlock = some g → H.size ≤ g := fun g hg => by
      have e : vr7.ownBlock = vr6.ownBlock := hv7
      exact hv6' g (by rw [← e]; exact hg)
    have hxr : Ext H9 H9 := Kept.refl _ _
    have lsp : ∀ {H' : Heap}, Ext H9 H' → Spc Try.prog 12 #[.pointer (some ⟨p, 0, none⟩)] H' fun v H'' => Ext H' H'' ∧ ∃ q c, v = .slice q 0 c := fun hx' =>
      (list_spec (n9.ext hx') (by show (0 : Nat) ≤ 10000; omega) (fun f hf => by simp at hf)).mono fun v H'' ⟨z1, z2, z3⟩ => ⟨z1, by
        rcases z2.form with ⟨e, _⟩ | ⟨g, c, e, _⟩
        · exact ⟨none, 0, e⟩
        · exact ⟨_, c, e⟩⟩
    cases cv
    · obtain rfl : F = f := by rw [hF]; rfl
      repeat (first | refine codeA (k := ?_) | refine condA (k := ?_) | refine offA (k := ?_) | refine pureA (k := ?_) | refine readA (k := ?_))
      refine At_draw [10, 14, 24, 29] (fun H' => Ext H9 H') Try.mixed ?_
      first | refine gA 0 (k := ?_) | refine goffA 0 (k := ?_)
      first | refine gA 1 (k := ?_) | refine goffA 1 (k := ?_)
      first | refine gA 2 (k := ?_) | refine goffA 2 (k := ?_)
      first | refine gA 3 (k := ?_) | refine goffA 3 (k := ?_)
      first | refine gA 4 (k := ?_) | refine goffA 4 (k := ?_)
      first | refine gA 5 (k := ?_) | refine goffA 5 (k := ?_)
      first | refine gA 6 (k := ?_) | refine goffA 6 (k := ?_)
      first | refine gA 7 (k := ?_) | refine goffA 7 (k := ?_)
      first | refine gA 8 (k := ?_) | refine goffA 8 (k := ?_)
      first | refine gA 9 (k := ?_) | refine goffA 9 (k := ?_)
      refine grA 10 hxr (fun H' hS' => r_loadB rfl (hS'.keep q9 (fun f => f)) rfl rfl) (k := ?_)
      first | refine gA 11 (k := ?_) | refine goffA 11 (k := ?_)
      first | refine gA 12 (k := ?_) | refine goffA 12 (k := ?_)
      first | refine gA 13 (k := ?_) | refine goffA 13 (k := ?_)
      refine grA 14 hxr (fun H' hS' => r_loadN (b := bb) (o := o + i * 7) (cs := frCells F (.slice pb F.body.length pc)) rfl rfl rfl (f5 (hx9.trans hS'))) (k := ?_)
      refine G_op 15 rfl (by kernel_rfl) rfl (W_call rfl rfl (frame_eq (f := F) hb9 (e2.keep (D' := fun _ => True) hx9 (fun _ _ _ => ⟨fun f => f, trivial⟩))) rfl rfl ?_) 
      rintro _ H10 ⟨hx10, rfl⟩
      refine G_next (fun _ s => s.trans hx10) ?_
      first | refine gA 16 (k := ?_) | refine goffA 16 (k := ?_)
      first | refine gA 17 (k := ?_) | refine goffA 17 (k := ?_)
      first | refine gA 18 (k := ?_) | refine goffA 18 (k := ?_)
      first | refine gA 19 (k := ?_) | refine goffA 19 (k := ?_)
      first | refine gA 20 (k := ?_) | refine goffA 20 (k := ?_)
      first | refine gA 21 (k := ?_) | refine goffA 21 (k := ?_)
      first | refine gA 22 (k := ?_) | refine goffA 22 (k := ?_)
      first | refine gA 23 (k := ?_) | refine goffA 23 (k := ?_)
      refine goffN 24 hx10 (k := ?_)
      first | refine gA 25 (k := ?_) | refine goffA 25 (k := ?_)
      first | refine gA 26 (k := ?_) | refine goffA 26 (k := ?_)
      first | refine gA 27 (k := ?_) | refine goffA 27 (k := ?_)
      first | refine gA 28 (k := ?_) | refine goffA 28 (k := ?_)
      refine goffN 29 hx10 (k := ?_)
      first | refine gA 30 (k := ?_) | refine goffA 30 (k := ?_)
      first | refine gA 31 (k := ?_) | refine goffA 31 (k := ?_)
      first | refine gA 32 (k := ?_) | refine goffA 32 (k := ?_)
      first | refine gA 33 (k := ?_) | refine goffA 33 (k := ?_)
      first | refine gA 34 (k := ?_) | refine goffA 34 (k := ?_)
      first | refine gA 35 (k := ?_) | refine goffA 35 (k := ?_)
      refine G_op 36 rfl (by kernel_rfl) rfl (W_call rfl rfl (lsp hx10) rfl rfl ?_) 
      rintro _ H11 ⟨hx11, ql, cl, rfl⟩
      refine G_next (fun _ s => s.trans hx11) ?_
      first | refine gA 37 (k := ?_) | refine goffA 37 (k := ?_)
      first | refine gA 38 (k := ?_) | refine goffA 38 (k := ?_)
      first | refine gA 39 (k := ?_) | refine goffA 39 (k := ?_)
      refine G_done (by kernel_rfl) ?_
      repeat (first | refine codeA (k := ?_) | refine condA (k := ?_) | refine offA (k := ?_) | refine pureA (k := ?_) | refine readA (k := ?_))
      refine At_back (i + 1, vr7) ?_ ⟨by dsimp only; omega, ⟨(n9.ext (hx10.trans hx11)).empty, hx9.trans (hx10.trans hx11), hp5, own7⟩⟩ (by dsimp only; omega)
      (repeat (first | exact Sub.nil | refine Sub.cons rfl ?_))
    · obtain rfl : F = fr0 := by rw [hF]; rfl
      repeat (first | refine codeA (k := ?_) | refine condA (k := ?_) | refine offA (k := ?_) | refine pureA (k := ?_) | refine readA (k := ?_))
      refine At_draw [10, 14, 24, 29] (fun H' => Ext H9 H') Try.mixed ?_
      first | refine gA 0 (k := ?_) | refine goffA 0 (k := ?_)
      first | refine gA 1 (k := ?_) | refine goffA 1 (k := ?_)
      first | refine gA 2 (k := ?_) | refine goffA 2 (k := ?_)
      first | refine gA 3 (k := ?_) | refine goffA 3 (k := ?_)
      first | refine gA 4 (k := ?_) | refine goffA 4 (k := ?_)
      first | refine gA 5 (k := ?_) | refine goffA 5 (k := ?_)
      first | refine gA 6 (k := ?_) | refine goffA 6 (k := ?_)
      first | refine gA 7 (k := ?_) | refine goffA 7 (k := ?_)
      first | refine gA 8 (k := ?_) | refine goffA 8 (k := ?_)
      first | refine gA 9 (k := ?_) | refine goffA 9 (k := ?_)
      refine goffN 10 hxr (k := ?_)
      first | refine gA 11 (k := ?_) | refine goffA 11 (k := ?_)
      first | refine gA 12 (k := ?_) | refine goffA 12 (k := ?_)
      first | refine gA 13 (k := ?_) | refine goffA 13 (k := ?_)
      refine goffN 14 hxr (k := ?_)
      first | refine gA 15 (k := ?_) | refine goffA 15 (k := ?_)
      first | refine gA 16 (k := ?_) | refine goffA 16 (k := ?_)
      first | refine gA 17 (k := ?_) | refine goffA 17 (k := ?_)
      first | refine gA 18 (k := ?_) | refine goffA 18 (k := ?_)
      first | refine gA 19 (k := ?_) | refine goffA 19 (k := ?_)
      first | refine gA 20 (k := ?_) | refine goffA 20 (k := ?_)
      first | refine gA 21 (k := ?_) | refine goffA 21 (k := ?_)
      first | refine gA 22 (k := ?_) | refine goffA 22 (k := ?_)
      first | refine gA 23 (k := ?_) | refine goffA 23 (k := ?_)
      refine grA 24 hxr (fun H' hS' => r_load rfl rfl (show Cell H' bt (0 + 6) (.slice qw 0 cw) from Cell.of (hS'.keep q9 (fun f => f)) rfl)) (k := ?_)
      first | refine gA 25 (k := ?_) | refine goffA 25 (k := ?_)
      first | refine gA 26 (k := ?_) | refine goffA 26 (k := ?_)
      first | refine gA 27 (k := ?_) | refine goffA 27 (k := ?_)
      first | refine gA 28 (k := ?_) | refine goffA 28 (k := ?_)
      refine grA 29 hxr (fun H' hS' => r_load rfl rfl (show Cell H' bt (0 + 2) (.int .i64 0) from Cell.of (hS'.keep q9 (fun f => f)) rfl)) (k := ?_)
      first | refine gA 30 (k := ?_) | refine goffA 30 (k := ?_)
      first | refine gA 31 (k := ?_) | refine goffA 31 (k := ?_)
      first | refine gA 32 (k := ?_) | refine goffA 32 (k := ?_)
      first | refine gA 33 (k := ?_) | refine goffA 33 (k := ?_)
      first | refine gA 34 (k := ?_) | refine goffA 34 (k := ?_)
      first | refine gA 35 (k := ?_) | refine goffA 35 (k := ?_)
      refine G_op 36 rfl (by kernel_rfl) rfl (W_call rfl rfl (lsp hxr) rfl rfl ?_) 
      rintro _ H11 ⟨hx11, ql, cl, rfl⟩
      refine G_next (fun _ s => s.trans hx11) ?_
      first | refine gA 37 (k := ?_) | refine goffA 37 (k := ?_)
      first | refine gA 38 (k := ?_) | refine goffA 38 (k := ?_)
      first | refine gA 39 (k := ?_) | refine goffA 39 (k := ?_)
      refine G_done (by kernel_rfl) ?_
      repeat (first | refine codeA (k := ?_) | refine condA (k := ?_) | refine offA (k := ?_) | refine pureA (k := ?_) | refine readA (k := ?_))
      refine At_back (i + 1, vr7) ?_ ⟨by dsimp only; omega, ⟨(n9.ext hx11).empty, hx9.trans hx11, hp5, own7⟩⟩ (by dsimp only; omega)
      (repeat (first | exact Sub.nil | refine Sub.cons rfl ?_))
end Go.Proofs.Ytjgbbegfenmhaaa
