/- The walk of NetOrder. -/
import Derived.Test.YtjgbbegfenmhaaaNetH
namespace Go.Proofs.Ytjgbbegfenmhaaa
open Go Ev
set_option linter.unusedVariables false
set_option linter.unusedSimpArgs false
attribute [local irreducible] Go.wpList Go.bodyPost Go.Code.wp Go.Exit.then Go.Exit.inBlock Go.Exit.noGoto Ev.wpAnyG Go.Oper.wp Ev.Back Ev.Left Ev.Spc Ev.At Ev.Pure Ev.Reads Ev.Runs Ev.Does Ev.Cell

def OkF (n : Int) (f : Fr) : Prop := 0 ≤ f.frm ∧ f.frm < n ∧ 0 ≤ f.to ∧ f.to < n ∧ f.body.length ≤ 1000
theorem good_of {n : Int} {rs : List Fr} {cut : Nat → Nat → Bool} (hn : n ≤ 64) (hl : rs.length ≤ 4096) (h : ∀ f ∈ rs, OkF n f) : Good ⟨n, rs, cut⟩ :=
  ⟨hn, hl, fun f hf => ⟨(h f hf).1, (h f hf).2.1, (h f hf).2.2.1, (h f hf).2.2.2.1, by have := (h f hf).2.2.2.2; omega⟩⟩

set_option maxHeartbeats 4000000 in
theorem netOrder_walk {H : Heap} {v : Value} {tw : Int} {fs : List Fr} (hs : SliceAt (fun _ => True) H 7 (FRow (fun _ => True) H) v fs) :
    Spc Try.prog 4 #[v, .int .i64 tw] H fun r H' => Ext H H' ∧ r = .bool true := by
  have hlen := hs.len_le
  simp only [maxLen] at hlen
  obtain ⟨q, c, rfl⟩ := hs.form
  refine spec_of Try.func4 rfl Try.ntmps4 rfl (fun W => ?_)
  by_cases h1 : fs.length > 80
  · repeat (first | refine codeA (k := ?_) | refine condA (k := ?_) | refine offA (k := ?_) | refine pureA (k := ?_) | refine readA (k := ?_))
    exact At_ret1 rfl rfl ⟨Kept.refl _ _, rfl⟩
  repeat (first | refine codeA (k := ?_) | refine condA (k := ?_) | refine offA (k := ?_) | refine pureA (k := ?_) | refine readA (k := ?_))
  refine At_wp (W_call rfl rfl (new_spec 3 H (by decide) (by decide)) rfl rfl ?_) rfl
  rintro _ H1 ⟨p, rfl, hp, hx1, hD1⟩
  have nw1 : NW H p (.slice none 0 0) (.slice none 0 0) 3 [] [] H1 :=
    ⟨hD1 _ (fun i hi => hi.2.1), OwnL.nil _ _ _ _, hx1, by omega, (fun g e => by cases e), (fun g e => by cases e)⟩
  repeat (first | refine codeA (k := ?_) | refine condA (k := ?_) | refine offA (k := ?_) | refine pureA (k := ?_) | refine readA (k := ?_))
  refine At_cut (fun (s : Value × Value × List Fr) => [(0, .slice q fs.length c), (1, .int .i64 tw), (5, .pointer (some ⟨p, 0, none⟩)), (7, s.2.1)]) (fun s H' => NW H p s.1 s.2.1 3 s.2.2 s.2.2 H' ∧ s.2.2.length ≤ 80 ∧ ∀ f ∈ s.2.2, OkF 3 f) ?_ ?_
  · refine At_block ?_
    refine At_loop (fun (s : Nat × Value × Value × List Fr) => [(0, .slice q fs.length c), (1, .int .i64 tw), (5, .pointer (some ⟨p, 0, none⟩)), (7, s.2.2.1), (8, .int .i64 s.1)])
      (fun s H' => s.1 ≤ fs.length ∧ NW H p s.2.1 s.2.2.1 3 s.2.2.2 s.2.2.2 H' ∧ s.2.2.2.length ≤ s.1 ∧ ∀ f ∈ s.2.2.2, OkF 3 f) (fun s => fs.length - s.1) (0, .slice none 0 0, .slice none 0 0, []) ?_ ⟨Nat.zero_le _, nw1, Nat.le_refl _, fun f hf => by simp at hf⟩ ?_
    · (repeat (first | exact Sub.nil | refine Sub.cons rfl ?_))
    rintro ⟨i, vr, vw, rs⟩ H2 ⟨hi, nw2, hrl, hok⟩
    dsimp only at hi nw2 hrl hok
    by_cases hil : i < fs.length
    rotate_left
    · repeat (first | refine codeA (k := ?_) | refine condA (k := ?_) | refine offA (k := ?_) | refine pureA (k := ?_) | refine readA (k := ?_))
      refine At_meet (J := fun (s : Value × Value × List Fr) H' => NW H p s.1 s.2.1 3 s.2.2 s.2.2 H' ∧ s.2.2.length ≤ 80 ∧ ∀ f ∈ s.2.2, OkF 3 f) (vr, vw, rs) ?_ ⟨nw2, by dsimp only; omega, hok⟩
      (repeat (first | exact Sub.nil | refine Sub.cons rfl ?_))
    have hx : fs[i]? = some fs[i] := by simp [hil]
    generalize fs[i] = f at hx
    obtain ⟨bb, o, row, hq, _, hbb, ⟨bv, e1, e2⟩, e3, e4⟩ := hs.at_ hx
    subst hq
    subst e1
    obtain ⟨pb, pc, rfl⟩ := e2.form
    have f5 : ∀ {H' : Heap}, Ext H H' → ∀ (j : Nat) (u : Value), (frCells f (.slice pb f.body.length pc))[j]? = some u → Cell H' bb (o + i * 7 + j) u := fun hx j u hu => (e4 j u hu).keep hx (fun f => f)
    have x6 := f5 nw2.ext 6 (.slice pb f.body.length pc) rfl
    obtain ⟨qw, cw, hvw⟩ := own_of_NW nw2
    repeat (first | refine codeA (k := ?_) | refine condA (k := ?_) | refine offA (k := ?_) | refine pureA (k := ?_) | refine readA (k := ?_) | refine At_block ?_)
    by_cases hbl : f.body.length > 1000
    · repeat (first | refine codeA (k := ?_) | refine condA (k := ?_) | refine offA (k := ?_) | refine pureA (k := ?_) | refine readA (k := ?_))
      exact At_ret1 rfl rfl ⟨nw2.ext, rfl⟩
    repeat (first | refine codeA (k := ?_) | refine condA (k := ?_) | refine offA (k := ?_) | refine pureA (k := ?_) | refine readA (k := ?_))
    refine At_read (r_loadN (b := bb) (o := o + i * 7) (cs := frCells f (.slice pb f.body.length pc)) rfl rfl rfl (f5 nw2.ext)) rfl rfl rfl ?_
    refine At_wp (W_call rfl rfl (put_spec (f := f) nw2.net (e2.keep (D' := fun _ => True) nw2.ext (fun _ _ _ => ⟨fun f => f, trivial⟩)) (by omega) (by dsimp only; omega)) rfl rfl ?_) rfl
    rintro _ H3 ⟨rfl, hk3, vr3, n3, hv3⟩
    by_cases hE : putE ⟨3, rs, fun _ _ => false⟩ f = 0
    rotate_left
    · have eN : putN ⟨3, rs, fun _ _ => false⟩ f = ⟨3, rs, fun _ _ => false⟩ := by unfold putN; rw [if_neg hE]
      rw [eN] at n3
      have nw3 := nw2.step hk3 n3 (fun b hb => hb.imp (fun z => ⟨z.1, z.2.1, z.2.2.2.2⟩) (fun z => z.1)) hv3
      repeat (first | refine codeA (k := ?_) | refine condA (k := ?_) | refine offA (k := ?_) | refine pureA (k := ?_) | refine readA (k := ?_))
      refine At_back (i + 1, vr3, vw, rs) ?_ ⟨by dsimp only; omega, nw3, by dsimp only; omega, hok⟩ (by dsimp only; omega)
      (repeat (first | exact Sub.nil | refine Sub.cons rfl ?_))
    have eN : putN ⟨3, rs, fun _ _ => false⟩ f = ⟨3, rs ++ [f], fun _ _ => false⟩ := by unfold putN; rw [if_pos hE]
    rw [eN] at n3
    have nw3 := nw2.step hk3 n3 (fun b hb => hb.imp (fun z => ⟨z.1, z.2.1, z.2.2.2.2⟩) (fun z => z.1)) hv3
    obtain ⟨g1, g2, g3, g4⟩ := putE_zero hE
    have hokf : OkF 3 f := ⟨g1, g2, g3, g4, by omega⟩
    rw [hE]
    repeat (first | refine codeA (k := ?_) | refine condA (k := ?_) | refine offA (k := ?_) | refine pureA (k := ?_) | refine readA (k := ?_))
    refine At_read (r_loadN (b := bb) (o := o + i * 7) (cs := frCells f (.slice pb f.body.length pc)) rfl rfl rfl (f5 nw3.ext)) rfl rfl rfl ?_
    refine At_wp (W_buildSlice1 (cs := (frCells f (.slice pb f.body.length pc)).toArray) rfl rfl rfl (by decide) rfl ?_) rfl
    intro b4 H4 hn4
    have nw4 := nw3.on hn4.ext
    have hrow : FRow (fun b => b < H.size) H4 f (frCells f (.slice pb f.body.length pc)) := ⟨_, rfl, e2.keep nw4.ext (fun b _ hl => ⟨fun f => f, hl⟩)⟩
    refine At_wp (W_append1 (R := FRow (fun b => b < H.size) H4) (a := f) (row := frCells f (.slice pb f.body.length pc)) (fun H' => FRow (fun b => b < H.size) H') rfl rfl nw4.want hn4.at_ rfl hrow rfl hrow.one rfl (by decide) (by omega) (by decide) rfl ?_ ?_) rfl
    · intro H' g hk hg hgl x row hr
      exact hr.keep hk (fun b hb hl => ⟨fun e => by have := (nw4.ovw b e).1; omega, hb⟩)
    intro g5 c5 H5 ho5 hk5 hg5
    have nw5 := nw4.wants hk5 ho5 (fun g hg => by
      simp only [Value.ownBlock, Option.some.injEq] at hg
      subst hg
      exact hg5)
    repeat (first | refine codeA (k := ?_) | refine condA (k := ?_) | refine offA (k := ?_) | refine pureA (k := ?_) | refine readA (k := ?_))
    refine At_back (i + 1, vr3, .slice (some ⟨g5, 0, none⟩) (rs.length + 1) c5, rs ++ [f]) ?_ ⟨by dsimp only; omega, nw5, by simp; omega, fun x hx => ?_⟩ (by dsimp only; omega)
    · (repeat (first | exact Sub.nil | refine Sub.cons rfl ?_))
    · rcases List.mem_append.1 hx with hx | hx
      · exact hok x hx
      · rw [List.mem_singleton.1 hx]; exact hokf
  rintro ⟨vr, vw, rs⟩ H2 ⟨nw2, hrl, hok⟩
  dsimp only at nw2 hrl hok
  obtain ⟨qw, cw, rfl⟩ := own_of_NW nw2
  repeat (first | refine codeA (k := ?_) | refine condA (k := ?_) | refine offA (k := ?_) | refine pureA (k := ?_) | refine readA (k := ?_))
  refine undA (k := ?_)
  refine At_nil ?_
  refine At_then_normal ?_
  refine At_cut (fun (s : Value × Value × List Fr) => [(5, .pointer (some ⟨p, 0, none⟩)), (7, s.2.1)]) (fun s H' => NW H p s.1 s.2.1 3 s.2.2 s.2.2 H' ∧ s.2.2.length ≤ 81 ∧ ∀ f ∈ s.2.2, OkF 3 f) ?_ ?_
  · refine At_cond_dec rfl (fun hz => ?_) (fun hz => ?_)
    rotate_left
    · repeat (first | refine codeA (k := ?_) | refine condA (k := ?_) | refine offA (k := ?_) | refine pureA (k := ?_) | refine readA (k := ?_))
      refine At_meet (J := fun (s : Value × Value × List Fr) H' => NW H p s.1 s.2.1 3 s.2.2 s.2.2 H' ∧ s.2.2.length ≤ 81 ∧ ∀ f ∈ s.2.2, OkF 3 f) (vr, .slice qw rs.length cw, rs) ?_ ⟨nw2, by dsimp only; omega, hok⟩
      (repeat (first | exact Sub.nil | refine Sub.cons rfl ?_))
    have hz' : 0 < rs.length := by have : ((0 : Int) < rs.length) := hz; omega
    obtain ⟨gw, rfl⟩ : ∃ g, qw = some ⟨g, 0, none⟩ := by
      rcases nw2.want.form with ⟨e1, e2⟩ | ⟨g, c, e1, _⟩
      · rw [e2] at hz'; simp at hz'
      · simp only [Value.slice.injEq] at e1
        exact ⟨g, e1.1⟩
    obtain ⟨k, hk, hkl⟩ : ∃ k : Nat, IntKind.i64.wrap (IntKind.u64.wrap tw % IntKind.u64.wrap rs.length) = k ∧ k < rs.length := by
      have a1 := u64_nonneg tw
      have a2 : IntKind.u64.wrap rs.length = rs.length := IntWalk.u64_in _ (by omega)
      have a3 := Int.emod_nonneg (IntKind.u64.wrap tw) (b := rs.length) (by omega)
      have a4 := Int.emod_lt_of_pos (IntKind.u64.wrap tw) (b := rs.length) (by omega)
      rw [a2, IntWalk.i64_in _ (by omega)]
      exact ⟨(IntKind.u64.wrap tw % rs.length).toNat, by omega, by omega⟩
    have hne : IntKind.u64.wrap rs.length ≠ 0 := by rw [IntWalk.u64_in _ (by omega)]; omega
    have hx : rs[k]? = some rs[k] := by simp [hkl]
    generalize rs[k] = f at hx
    have hokf := hok f (List.mem_of_getElem? hx)
    obtain ⟨row, ⟨bv, e1, e2⟩, e3, e4⟩ := nw2.want.cells hx
    subst e1
    obtain ⟨pb, pc, rfl⟩ := e2.form
    repeat (first | refine codeA (k := ?_) | refine condA (k := ?_) | refine offA (k := ?_) | refine pureA (k := ?_) | refine readA (k := ?_))
    refine At_pure (p_convInt rfl) rfl rfl rfl ?_
    repeat (first | refine codeA (k := ?_) | refine condA (k := ?_) | refine offA (k := ?_) | refine pureA (k := ?_) | refine readA (k := ?_))
    refine At_pure (p_convInt rfl) rfl rfl rfl ?_
    refine At_pure (p_rem rfl rfl (u64_nonneg _) hne) rfl rfl rfl ?_
    refine At_pure (p_convInt rfl) rfl rfl rfl ?_
    rw [hk]
    repeat (first | refine codeA (k := ?_) | refine condA (k := ?_) | refine offA (k := ?_) | refine pureA (k := ?_) | refine readA (k := ?_))
    refine At_wp (W_call rfl rfl (twice_spec (i := k) (f := f) nw2.net hx (by have := hokf.2.2.2.2; omega) (by dsimp only; omega)) rfl rfl ?_) rfl
    rintro _ H3 ⟨rfl, hk3, vr3, n3, hv3⟩
    have nw3 := nw2.step hk3 n3 (fun b hb => hb.imp (fun z => ⟨z.1, z.2.1, z.2.2.2.2⟩) (fun z => z.1)) hv3
    obtain ⟨row, ⟨bv, e1, e2⟩, e3, e4⟩ := nw3.want.cells hx
    subst e1
    obtain ⟨pb, pc, rfl⟩ := e2.form
    repeat (first | refine codeA (k := ?_) | refine condA (k := ?_) | refine offA (k := ?_) | refine pureA (k := ?_) | refine readA (k := ?_))
    refine At_read (r_loadN (b := gw) (o := 0 + k * 7) (cs := frCells f (.slice pb f.body.length pc)) rfl rfl rfl (fun j u hj => by rw [Nat.zero_add]; exact e4 j u hj)) rfl rfl rfl ?_
    refine At_wp (W_buildSlice1 (cs := (frCells f (.slice pb f.body.length pc)).toArray) rfl rfl rfl (by decide) rfl ?_) rfl
    intro b4 H4 hn4
    have nw4 := nw3.on hn4.ext
    have hrow : FRow (fun b => b < H.size) H4 f (frCells f (.slice pb f.body.length pc)) := ⟨_, rfl, e2.keep hn4.ext (fun b hb hl => ⟨fun f => f, hb⟩)⟩
    refine At_wp (W_append1 (R := FRow (fun b => b < H.size) H4) (a := f) (row := frCells f (.slice pb f.body.length pc)) (fun H' => FRow (fun b => b < H.size) H') rfl rfl nw4.want hn4.at_ rfl hrow rfl hrow.one rfl (by decide) (by omega) (by decide) rfl ?_ ?_) rfl
    · intro H' g hk hg hgl x row hr
      exact hr.keep hk (fun b hb hl => ⟨fun e => by have := (nw4.ovw b e).1; omega, hb⟩)
    intro g5 c5 H5 ho5 hk5 hg5
    have nw5 := nw4.wants hk5 ho5 (fun g hg => by
      simp only [Value.ownBlock, Option.some.injEq] at hg
      subst hg
      exact hg5)
    repeat (first | refine codeA (k := ?_) | refine condA (k := ?_) | refine offA (k := ?_) | refine pureA (k := ?_) | refine readA (k := ?_))
    refine At_meet (J := fun (s : Value × Value × List Fr) H' => NW H p s.1 s.2.1 3 s.2.2 s.2.2 H' ∧ s.2.2.length ≤ 81 ∧ ∀ f ∈ s.2.2, OkF 3 f) (vr3, .slice (some ⟨g5, 0, none⟩) (rs.length + 1) c5, rs ++ [f]) ?_ ⟨nw5, by simp; omega, fun x hx => ?_⟩
    · (repeat (first | exact Sub.nil | refine Sub.cons rfl ?_))
    · rcases List.mem_append.1 hx with hx | hx
      · exact hok x hx
      · rw [List.mem_singleton.1 hx]; exact hokf
  clear hok hrl nw2 rs
  rintro ⟨vr, vw, all⟩ H4 ⟨nw4, hal, hok⟩
  dsimp only at nw4 hal hok
  obtain ⟨qw, cw, rfl⟩ := own_of_NW nw4
  repeat (first | refine codeA (k := ?_) | refine condA (k := ?_) | refine offA (k := ?_) | refine pureA (k := ?_) | refine readA (k := ?_))
  refine At_cut (fun (s : Value) => [(5, .pointer (some ⟨p, 0, none⟩))]) (fun s H' => NW H p s (.slice qw all.length cw) 3 [] all H') ?_ ?_
  · refine At_block ?_
    refine At_loop (fun (s : Nat × Value) => [(5, .pointer (some ⟨p, 0, none⟩)), (7, .slice qw all.length cw), (10, .int .i64 s.1)])
      (fun s H' => s.1 ≤ all.length ∧ NW H p s.2 (.slice qw all.length cw) 3 (all.drop s.1) all H') (fun s => all.length - s.1) (0, vr) ?_ ⟨Nat.zero_le _, nw4⟩ ?_
    · (repeat (first | exact Sub.nil | refine Sub.cons rfl ?_))
    rintro ⟨i, vr⟩ H5 ⟨hi, nw5⟩
    dsimp only at hi nw5
    by_cases hil : i < all.length
    rotate_left
    · obtain rfl : i = all.length := by omega
      rw [List.drop_length] at nw5
      repeat (first | refine codeA (k := ?_) | refine condA (k := ?_) | refine offA (k := ?_) | refine pureA (k := ?_) | refine readA (k := ?_))
      refine At_meet (J := fun (s : Value) H' => NW H p s (.slice qw all.length cw) 3 [] all H') vr ?_ nw5
      (repeat (first | exact Sub.nil | refine Sub.cons rfl ?_))
    have hx : all[i]? = some all[i] := by simp [hil]
    generalize all[i] = f at hx
    obtain ⟨gw, rfl⟩ : ∃ g, qw = some ⟨g, 0, none⟩ := by
      rcases nw5.want.form with ⟨e1, e2⟩ | ⟨g, c, e1, _⟩
      · rw [e2] at hil; simp at hil
      · simp only [Value.slice.injEq] at e1
        exact ⟨g, e1.1⟩
    have h0 : (all.drop i)[0]? = some f := by rw [List.getElem?_drop]; exact hx
    have good : Good ⟨3, all.drop i, fun _ _ => false⟩ := good_of (by decide) (by simp; omega) (fun f hf => hok f (List.mem_of_mem_drop hf))
    repeat (first | refine codeA (k := ?_) | refine condA (k := ?_) | refine offA (k := ?_) | refine pureA (k := ?_) | refine readA (k := ?_) | refine At_block ?_)
    refine At_wp (W_call rfl rfl (carry_hit (i := 0) (f := f) nw5.net good h0) rfl rfl ?_) rfl
    rintro _ H6 ⟨hk6, ⟨bw, rfl, hb6⟩, vr6, n6, hv6⟩
    have eC : carC ⟨3, all.drop i, fun _ _ => false⟩ f = false := rfl
    have eF : carF ⟨3, all.drop i, fun _ _ => false⟩ f = f := rfl
    rw [eC, eF] at *
    have n6' : NetD (fun i => H.size ≤ i ∧ i ≠ p ∧ vr.ownBlock ≠ some i ∧ (Value.slice (some ⟨gw, 0, none⟩) all.length cw).ownBlock ≠ some i) H6 p vr6 ⟨3, (all.drop i).eraseIdx 0, fun _ _ => false⟩ := n6
    rw [List.eraseIdx_zero, List.tail_drop] at n6'
    have nw6 := nw5.step hk6 n6' (fun b hb => by
      rcases Nat.lt_or_ge b H5.size with e | e
      · exact .inl ⟨e, hb.1, hb.2.2.2⟩
      · exact .inr e) (fun g hg => .inl (by rw [← hv6]; exact hg))
    obtain ⟨qb, cb, rfl⟩ := hb6.form
    repeat (first | refine codeA (k := ?_) | refine condA (k := ?_) | refine offA (k := ?_) | refine pureA (k := ?_) | refine readA (k := ?_))
    refine At_wp (W_alloc rfl rfl ?_) rfl
    intro bt H7 hn7
    refine At_wp (W_storeB (cs' := (frCells f (.slice qb f.body.length cb)).toArray) rfl rfl hn7.at_ rfl rfl rfl rfl ?_) rfl
    intro H8 p8
    have b7 := hn7.blk
    have hx68 : Ext H6 H8 := Kept.trans hn7.ext p8.kept (fun _ f _ => f) (fun j e hl => by omega)
    have nw8 := nw6.on hx68
    have q8 := p8.at_
    have hb8 := hb6.keep (D' := fun _ => True) hx68 (fun j _ _ => ⟨fun f => f, trivial⟩)
    obtain ⟨row, ⟨bv, e1, e2⟩, e3, e4⟩ := nw8.want.cells hx
    subst e1
    obtain ⟨pb, pc, rfl⟩ := e2.form
    have hxr : Ext H8 H8 := Kept.refl _ _
    repeat (first | refine codeA (k := ?_) | refine condA (k := ?_) | refine offA (k := ?_) | refine pureA (k := ?_) | refine readA (k := ?_))
    refine At_draw [7, 11] (fun H' => Ext H8 H') Try.mixed ?_
    first | refine gA 0 (k := ?_) | refine goffA 0 (k := ?_)
    first | refine gA 1 (k := ?_) | refine goffA 1 (k := ?_)
    first | refine gA 2 (k := ?_) | refine goffA 2 (k := ?_)
    first | refine gA 3 (k := ?_) | refine goffA 3 (k := ?_)
    first | refine gA 4 (k := ?_) | refine goffA 4 (k := ?_)
    first | refine gA 5 (k := ?_) | refine goffA 5 (k := ?_)
    first | refine gA 6 (k := ?_) | refine goffA 6 (k := ?_)
    refine grA 7 hxr (fun H' hS' => r_loadB rfl (hS'.keep q8 (fun f => f)) rfl rfl) (k := ?_)
    first | refine gA 8 (k := ?_) | refine goffA 8 (k := ?_)
    first | refine gA 9 (k := ?_) | refine goffA 9 (k := ?_)
    first | refine gA 10 (k := ?_) | refine goffA 10 (k := ?_)
    refine grA 11 hxr (fun H' hS' => r_loadN (b := gw) (o := 0 + i * 7) (cs := frCells f (.slice pb f.body.length pc)) rfl rfl rfl (fun j u hj => by rw [Nat.zero_add]; exact (e4 j u hj).keep hS' (fun f => f))) (k := ?_)
    refine G_op 12 rfl (by kernel_rfl) rfl (W_call rfl rfl (frame_eq (f := f) hb8 e2) rfl rfl ?_) 
    rintro _ H9 ⟨hx9, rfl⟩
    refine G_next (fun _ s => s.trans hx9) ?_
    first | refine gA 13 (k := ?_) | refine goffA 13 (k := ?_)
    first | refine gA 14 (k := ?_) | refine goffA 14 (k := ?_)
    refine G_done (by kernel_rfl) ?_
    repeat (first | refine codeA (k := ?_) | refine condA (k := ?_) | refine offA (k := ?_) | refine pureA (k := ?_) | refine readA (k := ?_))
    refine At_back (i + 1, vr6) ?_ ⟨by dsimp only; omega, nw8.on hx9⟩ (by dsimp only; omega)
    (repeat (first | exact Sub.nil | refine Sub.cons rfl ?_))
  · rintro vr9 H9 nw9
    repeat (first | refine codeA (k := ?_) | refine condA (k := ?_) | refine offA (k := ?_) | refine pureA (k := ?_) | refine readA (k := ?_))
    refine At_wp (W_call rfl rfl (carry_miss nw9.net (i := 0) (by simp)) rfl rfl ?_) rfl
    rintro _ H10 ⟨hx10, rfl⟩
    have nw10 := nw9.on hx10
    repeat (first | refine codeA (k := ?_) | refine condA (k := ?_) | refine offA (k := ?_) | refine pureA (k := ?_) | refine readA (k := ?_))
    refine At_wp (W_call rfl rfl (list_spec nw10.net (by simp) (fun f hf => by simp at hf)) rfl rfl ?_) rfl
    rintro vl H11 ⟨hx11, ho11, _⟩
    obtain ⟨ql, cl, rfl⟩ : ∃ q c, vl = .slice q 0 c := by
      rcases ho11.form with ⟨e, _⟩ | ⟨g, c, e, _⟩
      · exact ⟨none, 0, e⟩
      · exact ⟨_, c, e⟩
    repeat (first | refine codeA (k := ?_) | refine condA (k := ?_) | refine offA (k := ?_) | refine pureA (k := ?_) | refine readA (k := ?_))
    refine At_wp (W_call rfl rfl (wakes_spec H11) rfl rfl ?_) rfl
    rintro _ H12 ⟨hx12, rfl⟩
    repeat (first | refine codeA (k := ?_) | refine condA (k := ?_) | refine offA (k := ?_) | refine pureA (k := ?_) | refine readA (k := ?_))
    exact At_ret1 rfl rfl ⟨(nw10.ext.trans hx11).trans hx12, rfl⟩
end Go.Proofs.Ytjgbbegfenmhaaa
