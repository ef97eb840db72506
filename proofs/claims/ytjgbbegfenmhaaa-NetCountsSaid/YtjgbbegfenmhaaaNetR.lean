/- One act on the network and on the page's: Carry, Put. -/
import Derived.Test.YtjgbbegfenmhaaaNetQ
namespace Go.Proofs.Ytjgbbegfenmhaaa
open Go Ev
set_option linter.unusedVariables false
set_option linter.unusedSimpArgs false
attribute [local irreducible] Go.wpList Go.bodyPost Go.Code.wp Go.Exit.then Go.Exit.inBlock Go.Exit.noGoto Ev.wpAnyG Go.Oper.wp Ev.Back Ev.Left Ev.Spc Ev.At Ev.Pure Ev.Reads Ev.Runs Ev.Does Ev.Cell

section
variable {H0 H : Heap} {T : Nat → Nat} {p q : Nat} {vr lv cv bv : Value} {n : Int} {row : List Fr} {cuts : List (Int × Int)} {k : Ac}
set_option maxHeartbeats 4000000 in
theorem do_carry (h : JJ H0 T p q vr lv cv n row cuts H) (hn64 : n ≤ 64) (hl : row.length ≤ 1000) (hc : cuts.length ≤ 1000) (hb : BytesAt (fun b => b < H0.size) H bv k.f.body) (hm : IntKind.u64.wrap k.doo % 8 = 3) :
    Spc Try.prog 16 #[.pointer (some ⟨p, 0, none⟩), .pointer (some ⟨q, 0, none⟩), .agg (acCells k bv).toArray] H fun r H' => r = .bool true ∧ Nxt H0 p q n row.length cuts.length H' := by
  obtain ⟨pb, pc, rfl⟩ := hb.form
  refine spec_of Try.func16 rfl Try.ntmps16 rfl (fun W => ?_)
  repeat (first | refine codeA (k := ?_) | refine condA (k := ?_) | refine offA (k := ?_) | refine pureA (k := ?_) | refine readA (k := ?_))
  refine At_wp (W_box (cs := (acCells k (.slice pb k.f.body.length pc)).toArray) rfl rfl rfl ?_) rfl
  intro b5 H1 hn1
  have q1 := hn1.at_
  have t5 := (h.j.fresh (b := b5) (by have := hn1.blk; omega)).1
  have j1 := h.j.on hn1.ext
  have m0 : Cell H1 b5 (0 + 0) (.int .i64 k.doo) := Cell.of q1 rfl
  have m1 : Cell H1 b5 (0 + 1) (.int .i64 k.a) := Cell.of q1 rfl
  repeat (first | refine codeA (k := ?_) | refine condA (k := ?_) | refine offA (k := ?_) | refine pureA (k := ?_) | refine readA (k := ?_))
  refine At_pure (p_convInt rfl) rfl rfl rfl ?_
  refine At_pure (p_rem rfl rfl (u64_nonneg _) (by decide)) rfl rfl rfl ?_
  rw [hm]
  repeat (first | refine codeA (k := ?_) | refine condA (k := ?_) | refine offA (k := ?_) | refine pureA (k := ?_) | refine readA (k := ?_) | refine At_block ?_)
  by_cases hi : 0 ≤ k.a ∧ k.a < row.length
  · obtain ⟨i, hia⟩ : ∃ i : Nat, k.a = i := ⟨k.a.toNat, by omega⟩
    have hil : i < row.length := by omega
    have hx : row[i]? = some row[i] := by simp [hil]
    generalize row[i] = f at hx
    have hf := h.ok f (List.mem_of_getElem? hx)
    have good : Good ⟨n, row, fun i j => cutAt cuts i j⟩ := h.good hn64 (by omega)
    have eC : carC ⟨n, row, fun i j => cutAt cuts i j⟩ f = cutAt cuts f.frm f.to := by
      unfold carC
      have e1 : ((f.frm.toNat : Nat) : Int) = f.frm := Int.toNat_of_nonneg hf.1
      have e2 : ((f.to.toNat : Nat) : Int) = f.to := Int.toNat_of_nonneg hf.2.2.1
      show cutAt cuts (f.frm.toNat : Nat) (f.to.toNat : Nat) = _
      rw [e1, e2]
    have eF : carF ⟨n, row, fun i j => cutAt cuts i j⟩ f = rcF ⟨n, row, cuts⟩ f := by
      unfold carF rcF
      rw [eC]
    have hcs := carry_soft (i := i) (f := f) j1.net good hx
    rw [eC, eF] at hcs
    have hrc := fun {D : Nat → Prop} {H : Heap} (h : RNet D H q lv cv ⟨n, row, cuts⟩) => rcarry_hit (i := i) (f := f) h (by dsimp only; omega) (by dsimp only; omega) hx
    generalize hFe : rcF ⟨n, row, cuts⟩ f = F at hcs hrc
    generalize hwe : cutAt cuts f.frm f.to = w at hcs
    refine At_tell 27 (.int .i64 i) rfl (by rw [hia]) ?_
    refine At_wp (W_call rfl rfl hcs rfl rfl ?_) rfl
    rintro _ H2 ⟨hk2, ⟨bw, rfl, hb2⟩, vr2, n2, hv2⟩
    obtain ⟨qw, cw, rfl⟩ := hb2.form
    obtain ⟨T2, j2, a2, z2⟩ := j1.x hk2 n2 (fun b hb => .inl hb) (fun g hg => .inl (by rw [← hv2]; exact hg))
    have t5' : T2 b5 = 0 := by rw [a2 b5 (lt_of_heap q1)]; exact t5
    have hb2' : BytesAt (fun b => (T2 b = 0 ∧ H0.size ≤ b) ∧ Soft H2 b) H2 (.slice qw F.body.length cw) F.body := hb2.mono fun b hb _ => ⟨⟨z2 b hb.1 (fun e => by have := own_lt j1.net.own (by rw [← hv2]; exact e); omega) (fun e => by have := j1.new b hb.1; omega), by have := j1.ext.size; omega⟩, hb.2⟩
    have q2 := hk2.keep q1 (j1.nF t5)
    repeat (first | refine codeA (k := ?_) | refine condA (k := ?_) | refine offA (k := ?_) | refine pureA (k := ?_) | refine readA (k := ?_))
    refine At_wp (W_alloc rfl rfl ?_) rfl
    intro b7 H3 hn3
    refine At_wp (W_storeB (cs' := (frCells F (.slice qw F.body.length cw)).toArray) rfl rfl hn3.at_ rfl rfl rfl rfl ?_) rfl
    intro H4 p4
    have b7' := hn3.blk
    have hx4 : Ext H2 H4 := Kept.trans hn3.ext p4.kept (fun _ f _ => f) (fun i e hl => by omega)
    have j4 := j2.on hx4
    have q7 := p4.at_
    have q4 := hx4.keep q2 (fun f => f)
    have t7 : T2 b7 = 0 := (j2.fresh (by omega)).1
    have hb4 : BytesAt (fun b => (T2 b = 0 ∧ H0.size ≤ b) ∧ Soft H4 b) H4 (.slice qw F.body.length cw) F.body := hb2'.keep hx4 (fun b hb _ => ⟨fun f => f, hb.1, hb.2.keep hx4 (fun f => f)⟩)
    have m4 : Cell H4 b5 (0 + 1) (.int .i64 i) := Cell.of q4 (by rw [← hia]; rfl)
    repeat (first | refine codeA (k := ?_) | refine condA (k := ?_) | refine offA (k := ?_) | refine pureA (k := ?_) | refine readA (k := ?_))
    refine At_wp (W_call rfl rfl (hrc j4.ref) rfl rfl ?_) rfl
    rintro _ H5 ⟨hk5, ⟨bz, rfl, hb5⟩, lv5, n5, hl5⟩
    obtain ⟨qz, cz, rfl⟩ := hb5.form
    have hk5' : Kept (Gn q lv cv) H4 H5 := hk5.mono (fun b e _ => .inl e)
    obtain ⟨T5, j5, a5, z5⟩ := j4.r hk5' n5 (fun b hb => hb.1) (fun b hb => ⟨hb, j4.lt (by omega)⟩) (fun g hg => .inr (hl5 g hg)) (fun g hg => .inl hg)
    have s4 := hx4.size
    have t75 : T5 b7 = 0 := by rw [a5 b7 (lt_of_heap q7)]; exact t7
    have q75 := hk5'.keep q7 (j4.nG t7)
    have hb6 : BytesAt (fun b => (T5 b = 0 ∧ H0.size ≤ b) ∧ Soft H5 b) H5 (.slice qw F.body.length cw) F.body := hb4.keep hk5' (fun b hb hl => ⟨j4.nG hb.1.1, ⟨by rw [a5 b hl]; exact hb.1.1, hb.1.2⟩, hb.2.keep hk5' (j4.nG hb.1.1)⟩)
    repeat (first | refine codeA (k := ?_) | refine condA (k := ?_) | refine offA (k := ?_) | refine pureA (k := ?_) | refine readA (k := ?_))
    refine At_wp (W_alloc rfl rfl ?_) rfl
    intro b10 H6 hn6
    refine At_wp (W_storeB (cs' := (frCells F (.slice qz F.body.length cz)).toArray) rfl rfl hn6.at_ rfl rfl rfl rfl ?_) rfl
    intro H7 p7
    have b10' := hn6.blk
    have hx7 : Ext H5 H7 := Kept.trans hn6.ext p7.kept (fun _ f _ => f) (fun i e hl => by omega)
    have j7 := j5.on hx7
    have q10 := p7.at_
    have q77 := hx7.keep q75 (fun f => f)
    have hb7 : BytesAt (fun b => (T5 b = 0 ∧ H0.size ≤ b) ∧ Soft H7 b) H7 (.slice qw F.body.length cw) F.body := hb6.keep hx7 (fun b hb _ => ⟨fun f => f, hb.1, hb.2.keep hx7 (fun f => f)⟩)
    have hbz := hb5.keep (D' := fun _ => True) hx7 (fun b _ _ => ⟨fun f => f, trivial⟩)
    repeat (first | refine codeA (k := ?_) | refine condA (k := ?_) | refine offA (k := ?_) | refine pureA (k := ?_) | refine readA (k := ?_))
    refine At_read (r_loadB rfl q77 rfl rfl) rfl rfl rfl ?_
    refine At_read (r_loadB rfl q10 rfl rfl) rfl rfl rfl ?_
    refine At_wp (W_call rfl rfl (frame_eq (f := F) hb7 hbz) rfl rfl ?_) rfl
    rintro _ H8 ⟨hx8, rfl⟩
    have j8 := j7.on hx8
    have q78 := hx8.keep q77 (fun f => f)
    have hb8 : BytesAt (fun b => (T5 b = 0 ∧ H0.size ≤ b) ∧ Soft H8 b) H8 (.slice qw F.body.length cw) F.body := hb7.keep hx8 (fun b hb _ => ⟨fun f => f, hb.1, hb.2.keep hx8 (fun f => f)⟩)
    have m8 : Cell H8 b7 (0 + 6) (.slice qw F.body.length cw) := Cell.of q78 rfl
    rw [hwe]
    have fin : ∀ H9, Kept (fun b => T5 b = 0 ∧ H0.size ≤ b) H8 H9 → Nxt H0 p q n row.length cuts.length H9 := fun H9 hk9 => by
      refine ⟨T5, _, _, _, row.eraseIdx i, cuts, ⟨j8.garb hk9, h.erase i⟩, ?_, by omega⟩
      have := List.length_eraseIdx_le row i
      omega
    cases w
    · repeat (first | refine codeA (k := ?_) | refine condA (k := ?_) | refine offA (k := ?_) | refine pureA (k := ?_) | refine readA (k := ?_))
      refine At_wp (W_call rfl rfl (spoil_spec hb8) rfl rfl ?_) rfl
      rintro _ H9 ⟨rfl, hk9, _, _⟩
      repeat (first | refine codeA (k := ?_) | refine condA (k := ?_) | refine offA (k := ?_) | refine pureA (k := ?_) | refine readA (k := ?_))
      exact At_ret1 rfl rfl ⟨rfl, fin H9 hk9⟩
    · repeat (first | refine codeA (k := ?_) | refine condA (k := ?_) | refine offA (k := ?_) | refine pureA (k := ?_) | refine readA (k := ?_))
      refine At_wp (W_call rfl rfl (spoil_spec hb8) rfl rfl ?_) rfl
      rintro _ H9 ⟨rfl, hk9, _, _⟩
      repeat (first | refine codeA (k := ?_) | refine condA (k := ?_) | refine offA (k := ?_) | refine pureA (k := ?_) | refine readA (k := ?_))
      exact At_ret1 rfl rfl ⟨rfl, fin H9 hk9⟩
  · repeat (first | refine codeA (k := ?_) | refine condA (k := ?_) | refine offA (k := ?_) | refine pureA (k := ?_) | refine readA (k := ?_))
    refine At_wp (W_call rfl rfl (carry_miss j1.net hi) rfl rfl ?_) rfl
    rintro _ H2 ⟨hx2, rfl⟩
    have j2 := j1.on hx2
    have q2 := hx2.keep q1 (fun f => f)
    repeat (first | refine codeA (k := ?_) | refine condA (k := ?_) | refine offA (k := ?_) | refine pureA (k := ?_) | refine readA (k := ?_))
    refine At_wp (W_alloc rfl rfl ?_) rfl
    intro b7 H3 hn3
    refine At_wp (W_storeB (cs' := (frCells fr0 (.slice none 0 0)).toArray) rfl rfl hn3.at_ rfl rfl rfl rfl ?_) rfl
    intro H4 p4
    have b7' := hn3.blk
    have hx4 : Ext H2 H4 := Kept.trans hn3.ext p4.kept (fun _ f _ => f) (fun i e hl => by omega)
    have j4 := j2.on hx4
    have q7 := p4.at_
    have q4 := hx4.keep q2 (fun f => f)
    have m4 : Cell H4 b5 (0 + 1) (.int .i64 k.a) := Cell.of q4 rfl
    repeat (first | refine codeA (k := ?_) | refine condA (k := ?_) | refine offA (k := ?_) | refine pureA (k := ?_) | refine readA (k := ?_))
    refine At_wp (W_call rfl rfl (rcarry_miss j4.ref hi) rfl rfl ?_) rfl
    rintro _ H5 ⟨hx5, rfl⟩
    have j5 := j4.on hx5
    repeat (first | refine codeA (k := ?_) | refine condA (k := ?_) | refine offA (k := ?_) | refine pureA (k := ?_) | refine readA (k := ?_))
    refine At_wp (W_alloc rfl rfl ?_) rfl
    intro b10 H6 hn6
    refine At_wp (W_storeB (cs' := (frCells fr0 (.slice none 0 0)).toArray) rfl rfl hn6.at_ rfl rfl rfl rfl ?_) rfl
    intro H7 p7
    have b10' := hn6.blk
    have hx7 : Ext H5 H7 := Kept.trans hn6.ext p7.kept (fun _ f _ => f) (fun i e hl => by omega)
    have j7 := j5.on hx7
    have q10 := p7.at_
    have q77 := hx7.keep (hx5.keep q7 (fun f => f)) (fun f => f)
    repeat (first | refine codeA (k := ?_) | refine condA (k := ?_) | refine offA (k := ?_) | refine pureA (k := ?_) | refine readA (k := ?_))
    refine At_read (r_loadB rfl q77 rfl rfl) rfl rfl rfl ?_
    refine At_read (r_loadB rfl q10 rfl rfl) rfl rfl rfl ?_
    refine At_wp (W_call rfl rfl (frame_eq (f := fr0) (BytesAt.nil (fun _ => True) _) (BytesAt.nil (fun _ => True) _)) rfl rfl ?_) rfl
    rintro _ H8 ⟨hx8, rfl⟩
    have j8 := j7.on hx8
    have m8 : Cell H8 b7 (0 + 6) (.slice none 0 0) := Cell.of (hx8.keep q77 (fun f => f)) rfl
    repeat (first | refine codeA (k := ?_) | refine condA (k := ?_) | refine offA (k := ?_) | refine pureA (k := ?_) | refine readA (k := ?_))
    refine At_wp (W_call rfl rfl (spoil_spec (BytesAt.nil (fun b => (T b = 0 ∧ H0.size ≤ b) ∧ Soft H8 b) _)) rfl rfl ?_) rfl
    rintro _ H9 ⟨rfl, hk9, _, _⟩
    repeat (first | refine codeA (k := ?_) | refine condA (k := ?_) | refine offA (k := ?_) | refine pureA (k := ?_) | refine readA (k := ?_))
    exact At_ret1 rfl rfl ⟨rfl, T, _, _, _, row, cuts, ⟨j8.garb hk9, h.ok⟩, by omega, by omega⟩

set_option maxHeartbeats 4000000 in
theorem do_put (h : JJ H0 T p q vr lv cv n row cuts H) (hl : row.length ≤ 1000) (hc : cuts.length ≤ 1000) (hb : BytesAt (fun b => b < H0.size) H bv k.f.body) (hbl : k.f.body.length ≤ 1000)
    (hm : IntKind.u64.wrap k.doo % 8 ≠ 3 ∧ IntKind.u64.wrap k.doo % 8 ≠ 4 ∧ IntKind.u64.wrap k.doo % 8 ≠ 5 ∧ IntKind.u64.wrap k.doo % 8 ≠ 6 ∧ IntKind.u64.wrap k.doo % 8 ≠ 7) :
    Spc Try.prog 16 #[.pointer (some ⟨p, 0, none⟩), .pointer (some ⟨q, 0, none⟩), .agg (acCells k bv).toArray] H fun r H' => r = .bool true ∧ Nxt H0 p q n row.length cuts.length H' := by
  obtain ⟨pb, pc, rfl⟩ := hb.form
  obtain ⟨m, hme⟩ : ∃ m, IntKind.u64.wrap k.doo % 8 = m := ⟨_, rfl⟩
  rw [hme] at hm
  refine spec_of Try.func16 rfl Try.ntmps16 rfl (fun W => ?_)
  repeat (first | refine codeA (k := ?_) | refine condA (k := ?_) | refine offA (k := ?_) | refine pureA (k := ?_) | refine readA (k := ?_))
  refine At_wp (W_box (cs := (acCells k (.slice pb k.f.body.length pc)).toArray) rfl rfl rfl ?_) rfl
  intro b5 H1 hn1
  have q1 := hn1.at_
  have t5 := (h.j.fresh (b := b5) (by have := hn1.blk; omega)).1
  have j1 := h.j.on hn1.ext
  have hb1 := hb.keep (D' := fun _ => True) hn1.ext (fun b _ _ => ⟨fun f => f, trivial⟩)
  have m0 : Cell H1 b5 (0 + 0) (.int .i64 k.doo) := Cell.of q1 rfl
  have fcell : ∀ {H' : Heap}, H'[b5]? = some (.cells (acCells k (.slice pb k.f.body.length pc)).toArray 49 (0, 0)) → ∀ (j : Nat) (u : Value), (frCells k.f (.slice pb k.f.body.length pc))[j]? = some u → Cell H' b5 (0 + 3 + j) u := fun hq j u hu => by
    refine Cell.of hq ?_
    have e : 0 + 3 + j = j + 1 + 1 + 1 := by omega
    rw [e]
    simpa [acCells] using hu
  have m6 : Cell H1 b5 (0 + 3 + 6) (.slice pb k.f.body.length pc) := fcell q1 6 _ rfl
  repeat (first | refine codeA (k := ?_) | refine condA (k := ?_) | refine offA (k := ?_) | refine pureA (k := ?_) | refine readA (k := ?_))
  refine At_pure (p_convInt rfl) rfl rfl rfl ?_
  refine At_pure (p_rem rfl rfl (u64_nonneg _) (by decide)) rfl rfl rfl ?_
  rw [hme]
  repeat (first | refine codeA (k := ?_) | refine condA (k := ?_) | refine offA (k := ?_) | refine pureA (k := ?_) | refine readA (k := ?_) | refine At_block ?_)
  refine At_read (r_loadN (b := b5) (o := 0 + 3) (cs := frCells k.f (.slice pb k.f.body.length pc)) rfl rfl rfl (fcell q1)) rfl rfl rfl ?_
  refine At_wp (W_alloc rfl rfl ?_) rfl
  intro b15 H2 hn2
  refine At_wp (W_storeB (cs' := (frCells k.f (.slice pb k.f.body.length pc)).toArray) rfl rfl hn2.at_ rfl rfl rfl rfl ?_) rfl
  intro H3 p3
  have b15' := hn2.blk
  have hx3 : Ext H1 H3 := Kept.trans hn2.ext p3.kept (fun _ f _ => f) (fun i e hl => by omega)
  have j3 := j1.on hx3
  have t15 : T b15 = 0 ∧ H0.size ≤ b15 := j1.fresh (by omega)
  have q15 := p3.at_
  have m63 := m6.keep hx3 (fun f => f)
  have q3 := hx3.keep q1 (fun f => f)
  have s3 := hx3.size
  repeat (first | refine codeA (k := ?_) | refine condA (k := ?_) | refine offA (k := ?_) | refine pureA (k := ?_) | refine readA (k := ?_))
  refine At_wp (W_call rfl rfl (keepTwin_spec (hb1.keep (D' := fun _ => True) hx3 (fun b _ _ => ⟨fun f => f, trivial⟩)) (by omega)) rfl rfl ?_) rfl
  rintro vx H4 ⟨hx4, hbx⟩
  obtain ⟨qx, cx, rfl⟩ := hbx.form
  have s4 := hx4.size
  have l3 := lt_of_heap q15
  repeat (first | refine codeA (k := ?_) | refine condA (k := ?_) | refine offA (k := ?_) | refine pureA (k := ?_) | refine readA (k := ?_))
  refine At_wp (W_store rfl rfl (hx4.keep q15 (fun f => f)) rfl rfl rfl rfl ?_) rfl
  intro H5 p5
  have s5 := p5.size
  have r15 : H5[b15]? = some (.cells (frCells k.f (.slice qx k.f.body.length cx)).toArray 30 (0, 0)) := p5.at_
  have hk5 : Kept (fun b => T b = 0 ∧ H0.size ≤ b) H4 H5 := p5.kept.mono (fun b e _ => by subst e; exact t15)
  have j5 := (j3.on hx4).garb hk5
  have hbx5 : BytesAt (fun b => (T b = 0 ∧ H0.size ≤ b ∧ b < H5.size) ∧ Soft H5 b) H5 (.slice qx k.f.body.length cx) k.f.body := hbx.keep p5.kept (fun b hb hl => ⟨fun e => by omega, ⟨(j3.fresh hb.1).1, (j3.fresh hb.1).2, by omega⟩, hb.2.keep p5.kept (fun e => by omega)⟩)
  have l5 := lt_of_heap q3
  have q5 := p5.kept.keep (hx4.keep q3 (fun f => f)) (fun e => by have := lt_of_heap q1; omega)
  have hb5 := ((hb1.keep (D' := fun b => b < H1.size) (Kept.refl (fun _ => False) _) (fun b _ hl => ⟨fun f => f, hl⟩)).keep (D' := fun b => b < H1.size) (hx3.trans hx4) (fun b hb hl => ⟨fun f => f, hb⟩)).keep (D' := fun _ => True) p5.kept (fun b hb _ => ⟨fun e => by omega, trivial⟩)
  repeat (first | refine codeA (k := ?_) | refine condA (k := ?_) | refine offA (k := ?_) | refine pureA (k := ?_) | refine readA (k := ?_))
  refine At_read (r_loadN (b := b5) (o := 0 + 3) (cs := frCells k.f (.slice pb k.f.body.length pc)) rfl rfl rfl (fcell q5)) rfl rfl rfl ?_
  refine At_wp (W_alloc rfl rfl ?_) rfl
  intro b16 H6 hn6
  refine At_wp (W_storeB (cs' := (frCells k.f (.slice pb k.f.body.length pc)).toArray) rfl rfl hn6.at_ rfl rfl rfl rfl ?_) rfl
  intro H7 p7
  have b16' := hn6.blk
  have hx7 : Ext H5 H7 := Kept.trans hn6.ext p7.kept (fun _ f _ => f) (fun i e hl => by omega)
  have j7 := j5.on hx7
  have t16 : T b16 = 0 ∧ H0.size ≤ b16 := j5.fresh (by omega)
  have q16 := p7.at_
  have s7 := hx7.size
  have m67 : Cell H7 b5 (0 + 3 + 6) (.slice pb k.f.body.length pc) := fcell (hx7.keep q5 (fun f => f)) 6 _ rfl
  repeat (first | refine codeA (k := ?_) | refine condA (k := ?_) | refine offA (k := ?_) | refine pureA (k := ?_) | refine readA (k := ?_))
  refine At_wp (W_call rfl rfl (keepTwin_spec (hb5.keep (D' := fun _ => True) hx7 (fun b _ _ => ⟨fun f => f, trivial⟩)) (by omega)) rfl rfl ?_) rfl
  rintro vy H8 ⟨hx8, hby⟩
  obtain ⟨qy, cy, rfl⟩ := hby.form
  have s8 := hx8.size
  have l7 := lt_of_heap q16
  repeat (first | refine codeA (k := ?_) | refine condA (k := ?_) | refine offA (k := ?_) | refine pureA (k := ?_) | refine readA (k := ?_))
  refine At_wp (W_store rfl rfl (hx8.keep q16 (fun f => f)) rfl rfl rfl rfl ?_) rfl
  intro H9 p9
  have s9 := p9.size
  have r16 : H9[b16]? = some (.cells (frCells k.f (.slice qy k.f.body.length cy)).toArray 30 (0, 0)) := p9.at_
  have hk9 : Kept (fun b => T b = 0 ∧ H0.size ≤ b) H8 H9 := p9.kept.mono (fun b e _ => by subst e; exact t16)
  have j9 := (j7.on hx8).garb hk9
  have hby9 : BytesAt (fun b => H7.size ≤ b ∧ b < H9.size) H9 (.slice qy k.f.body.length cy) k.f.body := hby.keep p9.kept (fun b hb hl => ⟨fun e => by omega, hb.1, by omega⟩)
  have hxx : Ext H5 H8 := hx7.trans hx8
  have hbx9 : BytesAt (fun b => (T b = 0 ∧ H0.size ≤ b ∧ b < H5.size) ∧ Soft H9 b) H9 (.slice qx k.f.body.length cx) k.f.body := by
    have a1 := hbx5.keep (D' := fun b => (T b = 0 ∧ H0.size ≤ b ∧ b < H5.size) ∧ Soft H8 b) hxx (fun b hb hl => ⟨fun f => f, hb.1, hb.2.keep hxx (fun f => f)⟩)
    exact a1.keep p9.kept (fun b hb hl => ⟨fun e => by have := hb.1.2.2; omega, hb.1, hb.2.keep p9.kept (fun e => by have := hb.1.2.2; omega)⟩)
  have l15 := lt_of_heap r15
  have r159 := p9.kept.keep (hxx.keep r15 (fun f => f)) (fun e => by omega)
  obtain ⟨T2, j10, d1, d2⟩ := j9.tag (Db := fun b => H7.size ≤ b ∧ b < H9.size) (fun b hb => ⟨(j7.fresh hb.1).1, (j7.fresh hb.1).2, hb.2⟩)
  have hby10 : BytesAt (fun b => T2 b = 7) H9 (.slice qy k.f.body.length cy) k.f.body := hby9.mono (fun b hb _ => d1 b hb)
  have u15 : T2 b15 = 0 := by rw [d2 b15 (fun e => by omega)]; exact t15.1
  have u16 : T2 b16 = 0 := by rw [d2 b16 (fun e => by omega)]; exact t16.1
  have hbx10 : BytesAt (fun b => (T2 b = 0 ∧ H0.size ≤ b) ∧ Soft H9 b) H9 (.slice qx k.f.body.length cx) k.f.body := hbx9.mono (fun b hb _ => ⟨⟨by rw [d2 b (fun e => by have := hb.1.2.2; omega)]; exact hb.1.1, hb.1.2.1⟩, hb.2⟩)
  have qq : H9[b15]? = some (.cells (frCells k.f (.slice qx k.f.body.length cx)).toArray 30 (0, 0)) ∧ H9[b16]? = some (.cells (frCells k.f (.slice qy k.f.body.length cy)).toArray 30 (0, 0)) := ⟨r159, r16⟩
  repeat (first | refine codeA (k := ?_) | refine condA (k := ?_) | refine offA (k := ?_) | refine pureA (k := ?_) | refine readA (k := ?_))
  refine At_draw [1, 4] (fun H' => H'[b15]? = some (.cells (frCells k.f (.slice qx k.f.body.length cx)).toArray 30 (0, 0)) ∧ H'[b16]? = some (.cells (frCells k.f (.slice qy k.f.body.length cy)).toArray 30 (0, 0))) Try.mixed ?_
  first | refine gA 0 (k := ?_) | refine goffA 0 (k := ?_)
  refine grA 1 qq (fun H' hS' => r_loadB rfl hS'.1 rfl rfl) (k := ?_)
  first | refine gA 3 (k := ?_) | refine goffA 3 (k := ?_)
  refine grA 4 qq (fun H' hS' => r_loadB rfl hS'.2 rfl rfl) (k := ?_)
  refine G_op 2 rfl (by kernel_rfl) rfl (W_call rfl rfl (put_spec (f := k.f) j10.net hbx10 (by omega) (by dsimp only; omega)) rfl rfl ?_) 
  rintro _ H10 ⟨rfl, hk10, vr10, n10, hv10⟩
  obtain ⟨T3, j11, a3, z3⟩ := j10.x hk10 n10 (fun b hb => hb.imp (fun e => e.2) (fun e => e.1)) hv10
  refine G_next (fun _ s => ⟨hk10.keep s.1 (j10.nF u15), hk10.keep s.2 (j10.nF u16)⟩) ?_
  have v15 : T3 b15 = 0 := by rw [a3 b15 (lt_of_heap r159)]; exact u15
  have v16 : T3 b16 = 0 := by rw [a3 b16 (lt_of_heap r16)]; exact u16
  have w15 := hk10.keep r159 (j10.nF u15)
  have hbx11 : BytesAt (fun b => (T3 b = 0 ∧ H0.size ≤ b) ∧ Soft H10 b) H10 (.slice qx k.f.body.length cx) k.f.body := hbx10.keep hk10 (fun b hb hl => ⟨j10.nF hb.1.1, ⟨by rw [a3 b hl]; exact hb.1.1, hb.1.2⟩, hb.2.keep hk10 (j10.nF hb.1.1)⟩)
  have hby11 : BytesAt (fun b => T3 b = 7) H10 (.slice qy k.f.body.length cy) k.f.body := hby10.keep hk10 (fun b hb hl => ⟨fun e => by
    rcases e with e | e
    · have := j10.tp; rw [← e] at this; omega
    · have := j10.tv b e; omega, by rw [a3 b hl]; exact hb⟩)
  refine G_op 5 rfl (by kernel_rfl) rfl (W_call rfl rfl (rput_spec (f := k.f) j11.ref hby11 (by dsimp only; omega)) rfl rfl ?_) 
  rintro _ H11 ⟨rfl, hk11, lv11, n11, hl11⟩
  obtain ⟨T4, j12, a4, z4⟩ := j11.r hk11 n11 (fun b hb => hb.1) (fun b hb => ⟨hb, j11.lt (by omega)⟩) hl11 (fun g hg => .inl hg)
  refine G_next (fun _ s => ⟨hk11.keep s.1 (j11.nG v15), hk11.keep s.2 (j11.nG v16)⟩) ?_
  have w15' := hk11.keep w15 (j11.nG v15)
  have hbx12 : BytesAt (fun b => (T4 b = 0 ∧ H0.size ≤ b) ∧ Soft H11 b) H11 (.slice qx k.f.body.length cx) k.f.body := hbx11.keep hk11 (fun b hb hl => ⟨j11.nG hb.1.1, ⟨by rw [a4 b hl]; exact hb.1.1, hb.1.2⟩, hb.2.keep hk11 (j11.nG hb.1.1)⟩)
  have eP : rputE ⟨n, row, cuts⟩ k.f = putE ⟨n, row, fun i j => cutAt cuts i j⟩ k.f := rfl
  rw [eP]
  first | refine gA 6 (k := ?_) | refine goffA 6 (k := ?_)
  first | refine gA 7 (k := ?_) | refine goffA 7 (k := ?_)
  refine G_done (by kernel_rfl) ?_
  have m15 : Cell H11 b15 (0 + 6) (.slice qx k.f.body.length cx) := Cell.of w15' rfl
  repeat (first | refine codeA (k := ?_) | refine condA (k := ?_) | refine offA (k := ?_) | refine pureA (k := ?_) | refine readA (k := ?_))
  refine At_wp (W_call rfl rfl (spoil_spec hbx12) rfl rfl ?_) rfl
  rintro _ H12 ⟨rfl, hk12, _, _⟩
  have j13 := j12.garb hk12
  repeat (first | refine codeA (k := ?_) | refine condA (k := ?_) | refine offA (k := ?_) | refine pureA (k := ?_) | refine readA (k := ?_))
  refine At_ret1 rfl rfl ⟨rfl, ?_⟩
  by_cases hE : putE ⟨n, row, fun i j => cutAt cuts i j⟩ k.f = 0
  · have e1 : putN ⟨n, row, fun i j => cutAt cuts i j⟩ k.f = ⟨n, row ++ [k.f], fun i j => cutAt cuts i j⟩ := by unfold putN; rw [if_pos hE]
    have e2 : rputR ⟨n, row, cuts⟩ k.f = ⟨n, row ++ [k.f], cuts⟩ := by unfold rputR; rw [eP, if_pos hE]
    rw [e1, e2] at j13
    obtain ⟨g1, g2, g3, g4⟩ := putE_zero hE
    refine ⟨T4, _, _, _, row ++ [k.f], cuts, ⟨j13, fun x hx => ?_⟩, by simp, by omega⟩
    rcases List.mem_append.1 hx with hx | hx
    · exact h.ok x hx
    · rw [List.mem_singleton.1 hx]; exact ⟨g1, g2, g3, g4, hbl⟩
  · have e1 : putN ⟨n, row, fun i j => cutAt cuts i j⟩ k.f = ⟨n, row, fun i j => cutAt cuts i j⟩ := by unfold putN; rw [if_neg hE]
    have e2 : rputR ⟨n, row, cuts⟩ k.f = ⟨n, row, cuts⟩ := by unfold rputR; rw [eP, if_neg hE]
    rw [e1, e2] at j13
    exact ⟨T4, _, _, _, row, cuts, ⟨j13, h.ok⟩, by omega, by omega⟩
end
end Go.Proofs.Ytjgbbegfenmhaaa
