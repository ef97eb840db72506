/- The walk of LinkLives. -/
import Derived.Test.YtdbmhcchgbpccaaLinkR
namespace Go.Proofs.Ytdbmhcchgbpccaa
open Go Ev
set_option linter.unusedVariables false
set_option linter.unusedSimpArgs false

section
variable {P : Program} {n : Nat} {W : World} {env : Env} {H : Heap} {Q : Exit → Act → World → Prop} {K : Act → World → Prop}
variable {ty : TypeId} {pos : String} {af : Array Edge} {gd : Option (Nat × Bool)}
theorem W_buildSliceN {t e : TypeId} {d : TypeDesc} {sz sb es eb nn : Nat} {z ez : Value} {dd : Nat} {ps : List (Nat × Operand)} {vs : List (Nat × Value)} {cs : Array Value} [h : Ty P t (.slice e) sz sb z] [he : Ty P e d es eb ez] (hx : evps env ps = some vs)
    (hf : Instr.fill (fun i => some (i * es, es)) ((Array.range (nn * es)).map (ez.cells[· % ez.cells.size]!)) vs = some cs) (hes : nn * es ≠ 0 ∧ nn * es ≤ 16777216) (hn : Nat.blt dd n = true)
    (k : ∀ b H', New H H' b (.cells cs e) → At n W ((dd, .slice (some ⟨b, 0, none⟩) nn nn) :: env) H' K) : At n W env H (fun a w => Oper.wp P ⟨some dd, .buildSlice t nn ps.toArray, ty, pos, af, gd⟩ a w K Q) := by
  refine W_new (v := fun b => .slice (some ⟨b, 0, none⟩) nn nn) (fun a w f eq => ?_) rfl hn k
  subst eq
  obtain ⟨h1, h2⟩ := hes
  have h2' : ¬ 16777216 < nn * es := by omega
  have hee := f.evps hx
  refine ⟨w.alloc (.cells cs e), ?_, rfl, ⟨rfl, rfl, rfl⟩⟩
  simp [execOp, Instr.buildSlice, run_underlying h.und, he.sizeOf, he.zeroValue, h1, h2', hee, hf, newRow]
  done
end

structure Sp where
  doo : Int
  n : Int
  b : List UInt8
def spCells (s : Sp) (bv : Value) : List Value := [.int .i64 s.doo, .int .i64 s.n, bv]
def SRow (D : Nat → Prop) (H : Heap) (s : Sp) (row : List Value) : Prop := ∃ bv, row = spCells s bv ∧ BytesAt D H bv s.b
theorem u64_nonneg (a : Int) : 0 ≤ IntKind.u64.wrap a := by
  simp [IntKind.wrap, IntKind.bits, IntKind.signed]; omega
section
variable {P : Program} {n : Nat} {env : Env} {ds : Option Tmp} {ty : TypeId} {pos : String} {af : Array Edge} {gd : Option (Nat × Bool)}
theorem p_convInt {x : Operand} {src dst : TypeId} {ks kd k : IntKind} {s1 s2 s3 s4 : Nat} {z1 z2 : Value} {a : Int} [h1 : Ty P src (.int ks) s1 s2 z1] [h2 : Ty P dst (.int kd) s3 s4 z2] (hx : ev env x = some (.int k a)) :
    Pure P n env ⟨ds, .convert src dst x, ty, pos, af, gd⟩ (.int kd (kd.wrap a)) := fun a' w f => by
  have hk : P.intKind dst = kd := by simp [Program.intKind, h2.und]
  have := run_convert_int (P := P) (w := w) src dst k a (by rw [h1.und]; rfl) (by rw [hk]; exact h2.und)
  rw [hk] at this
  simp [execOp, f.ev hx, this]
end

theorem inv_start {mx my : Int} (h : mx ≠ my) {ex ey : Int} (h1 : 1 ≤ ex) (h2 : 1 ≤ ey) : Inv ⟨mx, my, ex, 0, [], 0, 0, false⟩ ⟨my, mx, ey, 0, [], 0, 0, false⟩ [] [] [] [] [] 0 := by
  have half : ∀ (mx my ex ey : Int), Half ⟨mx, my, ex, 0, [], 0, 0, false⟩ ⟨my, mx, ey, 0, [], 0, 0, false⟩ [] [] [] 0 := fun mx my ex ey =>
    ⟨rfl, .inl rfl, fun _ => ⟨rfl, rfl⟩, fun e => absurd rfl e, Nat.le_refl _, rfl, rfl, Nat.zero_le _, (fun x hx => by cases hx), ⟨Int.le_refl _, Int.le_refl _⟩, Nat.le_refl _, (fun f hf => by cases hf)⟩
  exact ⟨half mx my ex ey, half my mx ey ex, h, h1, h2, (fun f hf => by cases hf)⟩
/-- both ends in memory, the law's invariant, both epochs 1 -/
def Both (H0 : Heap) (pa pb N : Nat) (K : Lk → Lk → List (List UInt8) → List (List UInt8) → List (List UInt8) → List (List UInt8) → Prop) (H' : Heap) : Prop :=
  ∃ T va vb A B SA SB TA TB, Ba H0 T H' ∧ Lc T H' 1 pa va A ∧ Lc T H' 2 pb vb B ∧ Inv A B SA SB TA TB [] N ∧ A.epoch = 1 ∧ B.epoch = 1 ∧ K A B SA SB TA TB
attribute [local irreducible] Go.wpList Go.bodyPost Go.Code.wp Go.Exit.then Go.Exit.inBlock Go.Exit.noGoto Ev.wpAnyG Go.Oper.wp Ev.Back Ev.Left Ev.Spc Ev.At Ev.Pure Ev.Reads Ev.Runs Ev.Does Ev.Cell
theorem PI.full {X Y0 Y : Lk} {SX SY TX TY TY' : List (List UInt8)} {N k : Nat} (h : PI X Y0 SX SY TX N k (framesOf X).length Y TY) (hle : TY'.length ≤ TY.length) (hx : X.other ≠ 0) (hy : Y0.other = X.epoch) (hk : X.other ≠ 0 → X.waits = num k (SX.drop k) ∧ k ≤ TY'.length) : TY.length = SX.length := by
  obtain ⟨k1, k2⟩ := hk hx
  have htl := h.inv.xy.tle
  by_cases hw : X.waits = []
  · rw [hw] at k1
    have : (num k (SX.drop k)).length = 0 := by rw [← k1]; rfl
    rw [num_length, List.length_drop] at this
    omega
  · have h1 := h.t1 hx hy hw
    have : (framesOf X).length = X.waits.length := by unfold framesOf; rw [if_neg (fun e => hw e.1), List.length_map]
    rw [this, k1, num_length, List.length_drop] at h1
    omega
theorem bs_room {bs : List (List UInt8)} {i : Nat} {l : List UInt8} (hx : bs[i]? = some l) : bs.take (i + 1) = bs.take i ++ [l] := by rw [List.take_add_one, hx]; rfl
theorem nextF2 (i : Nat) : nextF (nextF (min (2 * i) 5)) = min (2 * (i + 1)) 5 := by
  unfold nextF
  split <;> split <;> omega

set_option maxHeartbeats 8000000 in
theorem linkLives_walk {H : Heap} {v vb : Value} {sts : List Sp} {bs : List (List UInt8)} (hs : SliceAt (fun _ => True) H 3 (SRow (fun _ => True) H) v sts) (hv : SliceAt (fun _ => True) H 1 (BRow (fun _ => True) H) vb bs) :
    Spc Try.prog 5 #[v, vb] H fun r H' => Ext H H' ∧ r = .bool true := by
  have hlen := hs.len_le
  have hlen2 := hv.len_le
  simp only [maxLen] at hlen hlen2
  obtain ⟨qs, cs, rfl⟩ := hs.form
  obtain ⟨qb, cb, rfl⟩ := hv.form
  refine spec_of Try.func5 rfl Try.ntmps5 rfl (fun W => ?_)
  by_cases h1 : sts.length > 400
  · repeat (first | refine codeA (k := ?_) | refine condA (k := ?_) | refine offA (k := ?_) | refine pureA (k := ?_) | refine readA (k := ?_))
    exact At_ret1 rfl rfl ⟨Kept.refl _ _, rfl⟩
  by_cases h2 : bs.length > 4
  · repeat (first | refine codeA (k := ?_) | refine condA (k := ?_) | refine offA (k := ?_) | refine pureA (k := ?_) | refine readA (k := ?_))
    exact At_ret1 rfl rfl ⟨Kept.refl _ _, rfl⟩
  have ba0 : Ba H (fun _ => 0) H := ⟨Kept.refl _ _, fun _ _ => rfl, fun _ _ => rfl⟩
  repeat (first | refine codeA (k := ?_) | refine condA (k := ?_) | refine offA (k := ?_) | refine pureA (k := ?_) | refine readA (k := ?_))
  refine At_wp (W_call rfl rfl (new_ok 0 1 1 H (by decide) (by decide) (by decide)) rfl rfl ?_) rfl
  rintro _ H1 ⟨pa, rfl, hn1⟩
  obtain ⟨T1, s1, a1⟩ := new_c (t := 1) ba0 (by decide) hn1
  have ba1 := ba0.stp s1 (fun f => f)
  repeat (first | refine codeA (k := ?_) | refine condA (k := ?_) | refine offA (k := ?_) | refine pureA (k := ?_) | refine readA (k := ?_))
  refine At_wp (W_call rfl rfl (new_ok 1 0 1 H1 (by decide) (by decide) (by decide)) rfl rfl ?_) rfl
  rintro _ H2 ⟨pb, rfl, hn2⟩
  obtain ⟨T2, s2, b2⟩ := new_c (t := 2) ba1 (by decide) hn2
  have ba2 := ba1.stp s2 (fun f => f)
  have a2 := a1.stp s2 (fun f => f) (fun f => f)
  have st : Both H pa pb 0 (fun _ _ _ _ _ _ => True) H2 := ⟨T2, _, _, _, _, [], [], [], [], ba2, a2, b2, inv_start (by decide) (by decide) (by decide), rfl, rfl, trivial⟩
  repeat (first | refine codeA (k := ?_) | refine condA (k := ?_) | refine offA (k := ?_) | refine pureA (k := ?_) | refine readA (k := ?_))
  refine At_cut (fun (s : Unit) => [(1, .slice qb bs.length cb), (5, .pointer (some ⟨pa, 0, none⟩)), (7, .pointer (some ⟨pb, 0, none⟩))]) (fun s H' => Both H pa pb 60 (fun _ _ _ _ _ _ => True) H') ?_ ?_
  · refine At_block ?_
    refine At_loop (fun (s : Nat) => [(0, .slice qs sts.length cs), (1, .slice qb bs.length cb), (5, .pointer (some ⟨pa, 0, none⟩)), (7, .pointer (some ⟨pb, 0, none⟩)), (9, .int .i64 s)]) (fun s H' => s ≤ sts.length ∧ s ≤ 60 ∧ Both H pa pb s (fun _ _ _ _ _ _ => True) H') (fun s => sts.length - s) 0 ?_ ⟨Nat.zero_le _, Nat.zero_le _, st⟩ ?_
    · (repeat (first | exact Sub.nil | refine Sub.cons rfl ?_))
    rintro i H3 ⟨hi, hi6, T, va, vb, A, B, SA, SB, TA, TB, ba3, a3, b3, inv, ea, eb, _⟩
    have fin : Both H pa pb 60 (fun _ _ _ _ _ _ => True) H3 := by
      obtain ⟨d, hd⟩ : ∃ d, 60 = i + d := ⟨60 - i, by omega⟩
      have : ∀ d, Inv A B SA SB TA TB [] (i + d) := fun d => by
        induction d with
        | zero => exact inv
        | succ d ih => exact ih.more
      exact ⟨T, va, vb, A, B, SA, SB, TA, TB, ba3, a3, b3, by rw [hd]; exact this d, ea, eb, trivial⟩
    by_cases hil : i < sts.length
    rotate_left
    · repeat (first | refine codeA (k := ?_) | refine condA (k := ?_) | refine offA (k := ?_) | refine pureA (k := ?_) | refine readA (k := ?_))
      refine At_meet (E := fun (s : Unit) => [(1, .slice qb bs.length cb), (5, .pointer (some ⟨pa, 0, none⟩)), (7, .pointer (some ⟨pb, 0, none⟩))]) (J := fun s H' => Both H pa pb 60 (fun _ _ _ _ _ _ => True) H') () ?_ fin
      (repeat (first | exact Sub.nil | refine Sub.cons rfl ?_))
    by_cases hi60 : i < 60
    rotate_left
    · repeat (first | refine codeA (k := ?_) | refine condA (k := ?_) | refine offA (k := ?_) | refine pureA (k := ?_) | refine readA (k := ?_))
      refine At_meet (E := fun (s : Unit) => [(1, .slice qb bs.length cb), (5, .pointer (some ⟨pa, 0, none⟩)), (7, .pointer (some ⟨pb, 0, none⟩))]) (J := fun s H' => Both H pa pb 60 (fun _ _ _ _ _ _ => True) H') () ?_ fin
      (repeat (first | exact Sub.nil | refine Sub.cons rfl ?_))
    have hx : sts[i]? = some sts[i] := by simp [hil]
    generalize sts[i] = k at hx
    obtain ⟨bb, o, row, hq, _, hbb, ⟨bv, e1, e2⟩, e3, e4⟩ := hs.at_ hx
    subst hq
    subst e1
    obtain ⟨pl, cl, rfl⟩ := e2.form
    have m0 : Cell H3 bb (o + i * 3 + 0) (.int .i64 k.doo) := (e4 0 _ rfl).keep ba3.ext (fun f => f)
    have m1 : Cell H3 bb (o + i * 3 + 1) (.int .i64 k.n) := (e4 1 _ rfl).keep ba3.ext (fun f => f)
    have m2 : Cell H3 bb (o + i * 3 + 2) (.slice pl k.b.length cl) := (e4 2 _ rfl).keep ba3.ext (fun f => f)
    have hb3 : BytesAt (fun b => T b = 0) H3 (.slice pl k.b.length cl) k.b := (e2.mono (fun b _ hl => hl)).keep ba3.ext (fun b hb _ => ⟨fun f => f, ba3.old b hb⟩)
    have nb : ∀ H4, Both H pa pb (i + 1) (fun _ _ _ _ _ _ => True) H4 → (i + 1 ≤ sts.length ∧ i + 1 ≤ 60 ∧ Both H pa pb (i + 1) (fun _ _ _ _ _ _ => True) H4) := fun H4 h => ⟨by omega, by omega, h⟩
    repeat (first | refine codeA (k := ?_) | refine condA (k := ?_) | refine offA (k := ?_) | refine pureA (k := ?_) | refine readA (k := ?_) | refine At_block ?_)
    by_cases hbl : k.b.length > 1000
    · repeat (first | refine codeA (k := ?_) | refine condA (k := ?_) | refine offA (k := ?_) | refine pureA (k := ?_) | refine readA (k := ?_))
      exact At_ret1 rfl rfl ⟨ba3.ext, rfl⟩
    obtain ⟨m, hme⟩ : ∃ m, IntKind.u64.wrap k.doo % 4 = m := ⟨_, rfl⟩
    repeat (first | refine codeA (k := ?_) | refine condA (k := ?_) | refine offA (k := ?_) | refine pureA (k := ?_) | refine readA (k := ?_))
    refine At_pure (p_convInt rfl) rfl rfl rfl ?_
    refine At_pure (p_rem rfl rfl (u64_nonneg _) (by decide)) rfl rfl rfl ?_
    rw [hme]
    repeat (first | refine codeA (k := ?_) | refine condA (k := ?_) | refine offA (k := ?_) | refine pureA (k := ?_) | refine readA (k := ?_) | refine At_block ?_)
    by_cases hm0 : m = 0
    · repeat (first | refine codeA (k := ?_) | refine condA (k := ?_) | refine offA (k := ?_) | refine pureA (k := ?_) | refine readA (k := ?_))
      refine At_wp (W_call rfl rfl (ls_send ba3 a3 b3 (by decide) inv (by omega) hb3 (by omega)) rfl rfl ?_) rfl
      rintro _ H4 ⟨T4, va4, A4, SA4, s4, ba4, a4, b4, inv4, ea4, _, _, _, _⟩
      repeat (first | refine codeA (k := ?_) | refine condA (k := ?_) | refine offA (k := ?_) | refine pureA (k := ?_) | refine readA (k := ?_))
      refine At_back (i + 1) ?_ (nb H4 ⟨T4, va4, vb, A4, B, SA4, SB, TA, TB, ba4, a4, b4, inv4, by rw [ea4]; exact ea, eb, trivial⟩) (by omega)
      (repeat (first | exact Sub.nil | refine Sub.cons rfl ?_))
    by_cases hm1 : m = 1
    · repeat (first | refine codeA (k := ?_) | refine condA (k := ?_) | refine offA (k := ?_) | refine pureA (k := ?_) | refine readA (k := ?_))
      refine At_wp (W_call rfl rfl (ls_send ba3 b3 a3 (by decide) inv.symm (by omega) hb3 (by omega)) rfl rfl ?_) rfl
      rintro _ H4 ⟨T4, vb4, B4, SB4, s4, ba4, b4, a4, inv4, eb4, _, _, _, _⟩
      repeat (first | refine codeA (k := ?_) | refine condA (k := ?_) | refine offA (k := ?_) | refine pureA (k := ?_) | refine readA (k := ?_))
      refine At_back (i + 1) ?_ (nb H4 ⟨T4, va, vb4, A, B4, SA, SB4, TA, TB, ba4, a4, b4, inv4.symm, ea, by rw [eb4]; exact eb, trivial⟩) (by omega)
      (repeat (first | exact Sub.nil | refine Sub.cons rfl ?_))
    by_cases hm2 : m = 2
    · repeat (first | refine codeA (k := ?_) | refine condA (k := ?_) | refine offA (k := ?_) | refine pureA (k := ?_) | refine readA (k := ?_))
      refine At_wp (W_call rfl rfl (ls_pass (n := k.n) ba3 a3 b3 (by decide) inv (by omega)) rfl rfl ?_) rfl
      rintro _ H4 ⟨rfl, vb4, B4, TB4, ba4, a4, b4, inv4, eb4⟩
      repeat (first | refine codeA (k := ?_) | refine condA (k := ?_) | refine offA (k := ?_) | refine pureA (k := ?_) | refine readA (k := ?_))
      refine At_back (i + 1) ?_ (nb H4 ⟨T, va, vb4, _, B4, SA, SB, TA, TB4, ba4, a4, b4, inv4.more, ea, by rw [eb4]; exact eb, trivial⟩) (by omega)
      (repeat (first | exact Sub.nil | refine Sub.cons rfl ?_))
    · repeat (first | refine codeA (k := ?_) | refine condA (k := ?_) | refine offA (k := ?_) | refine pureA (k := ?_) | refine readA (k := ?_))
      refine At_wp (W_call rfl rfl (ls_pass (n := k.n) ba3 b3 a3 (by decide) inv.symm (by omega)) rfl rfl ?_) rfl
      rintro _ H4 ⟨rfl, va4, A4, TA4, ba4, b4, a4, inv4, ea4⟩
      repeat (first | refine codeA (k := ?_) | refine condA (k := ?_) | refine offA (k := ?_) | refine pureA (k := ?_) | refine readA (k := ?_))
      refine At_back (i + 1) ?_ (nb H4 ⟨T, va4, vb, A4, _, SA, SB, TA4, TB, ba4, a4, b4, inv4.symm.more, by rw [ea4]; exact ea, eb, trivial⟩) (by omega)
      (repeat (first | exact Sub.nil | refine Sub.cons rfl ?_))
  rintro _ H3 ⟨T, va, vb, A, B, SA, SB, TA, TB, ba3, a3, b3, inv, ea, eb, _⟩
  repeat (first | refine codeA (k := ?_) | refine condA (k := ?_) | refine offA (k := ?_) | refine pureA (k := ?_) | refine readA (k := ?_))
  refine At_wp (W_buildSliceN (cs := #[.int .u8 104, .int .u8 101, .int .u8 108, .int .u8 108, .int .u8 111]) rfl (by kernel_rfl) (by decide) rfl ?_) rfl
  intro b4 H4 hn4
  refine At_wp (W_convertBytes rfl hn4.at_ rfl ?_) rfl
  intro H5 p5
  obtain ⟨x5, hb5⟩ := lit_byte (l := [104, 101, 108, 108, 111]) ba3 hn4 p5 (by decide)
  have s5 : Stp (fun _ => False) T T H3 H5 := Stp.of_ext ba3 x5
  have ba5 := ba3.stp s5 (fun f => f)
  have a5 := a3.stp s5 (fun f => f) (fun f => f)
  have b5 := b3.stp s5 (fun f => f) (fun f => f)
  refine At_wp (W_call rfl rfl (ls_send ba5 a5 b5 (by decide) inv (by omega) hb5 (by decide)) rfl rfl ?_) rfl
  rintro _ H6 ⟨T6, va6, A6, SA6, s6, ba6, a6, b6, inv6, ea6, _, wa6, _, _⟩
  repeat (first | refine codeA (k := ?_) | refine condA (k := ?_) | refine offA (k := ?_) | refine pureA (k := ?_) | refine readA (k := ?_))
  refine At_wp (W_buildSliceN (cs := #[.int .u8 104, .int .u8 101, .int .u8 108, .int .u8 108, .int .u8 111]) rfl (by kernel_rfl) (by decide) rfl ?_) rfl
  intro b7 H7 hn7
  refine At_wp (W_convertBytes rfl hn7.at_ rfl ?_) rfl
  intro H8 p8
  obtain ⟨x8, hb8⟩ := lit_byte (l := [104, 101, 108, 108, 111]) ba6 hn7 p8 (by decide)
  have s8 : Stp (fun _ => False) T6 T6 H6 H8 := Stp.of_ext ba6 x8
  have ba8 := ba6.stp s8 (fun f => f)
  have a8 := a6.stp s8 (fun f => f) (fun f => f)
  have b8 := b6.stp s8 (fun f => f) (fun f => f)
  refine At_wp (W_call rfl rfl (ls_send ba8 b8 a8 (by decide) inv6.symm (by omega) hb8 (by decide)) rfl rfl ?_) rfl
  rintro _ H9 ⟨T9, vb9, B9, SB9, s9, ba9, b9, a9, inv9, eb9, _, wb9, _, _⟩
  repeat (first | refine codeA (k := ?_) | refine condA (k := ?_) | refine offA (k := ?_) | refine pureA (k := ?_) | refine readA (k := ?_))
  refine At_cut (fun (s : Unit) => [(1, .slice qb bs.length cb), (5, .pointer (some ⟨pa, 0, none⟩)), (7, .pointer (some ⟨pb, 0, none⟩))]) (fun s H' => Both H pa pb 62 (FF 5) H') ?_ ?_
  · refine At_block ?_
    refine At_loop (fun (s : Nat) => [(1, .slice qb bs.length cb), (5, .pointer (some ⟨pa, 0, none⟩)), (7, .pointer (some ⟨pb, 0, none⟩)), (10, .int .i64 s)]) (fun s H' => s ≤ 6 ∧ Both H pa pb 62 (FF (min (2 * s) 5)) H') (fun s => 6 - s) 0 ?_ ⟨Nat.zero_le _, T9, va6, vb9, A6, B9, SA6, SB9, TA, TB, ba9, a9, b9, inv9.symm, by rw [ea6]; exact ea, by rw [eb9]; exact eb, wa6, wb9⟩ ?_
    · (repeat (first | exact Sub.nil | refine Sub.cons rfl ?_))
    rintro i H10 ⟨hi, T, va, vb, A, B, SA, SB, TA, TB, ba10, a10, b10, inv, ea, eb, hF⟩
    by_cases hi6 : i < 6
    rotate_left
    · obtain rfl : i = 6 := by omega
      repeat (first | refine codeA (k := ?_) | refine condA (k := ?_) | refine offA (k := ?_) | refine pureA (k := ?_) | refine readA (k := ?_))
      refine At_meet (E := fun (s : Unit) => [(1, .slice qb bs.length cb), (5, .pointer (some ⟨pa, 0, none⟩)), (7, .pointer (some ⟨pb, 0, none⟩))]) (J := fun s H' => Both H pa pb 62 (FF 5) H') () ?_ ⟨T, va, vb, A, B, SA, SB, TA, TB, ba10, a10, b10, inv, ea, eb, hF⟩
      (repeat (first | exact Sub.nil | refine Sub.cons rfl ?_))
    repeat (first | refine codeA (k := ?_) | refine condA (k := ?_) | refine offA (k := ?_) | refine pureA (k := ?_) | refine readA (k := ?_) | refine At_block ?_)
    refine At_wp (W_call rfl rfl (ls_half (j := min (2 * i) 5) (by omega) ba10 a10 b10 (by decide) inv (by omega) hF) rfl rfl ?_) rfl
    rintro _ H11 ⟨rfl, vb11, B11, TB11, ba11, a11, b11, inv11, eb11, hF11⟩
    repeat (first | refine codeA (k := ?_) | refine condA (k := ?_) | refine offA (k := ?_) | refine pureA (k := ?_) | refine readA (k := ?_))
    refine At_wp (W_call rfl rfl (ls_half (j := nextF (min (2 * i) 5)) (by unfold nextF; split <;> omega) ba11 b11 a11 (by decide) inv11.symm (by omega) hF11) rfl rfl ?_) rfl
    rintro _ H12 ⟨rfl, va12, A12, TA12, ba12, b12, a12, inv12, ea12, hF12⟩
    rw [nextF2] at hF12
    repeat (first | refine codeA (k := ?_) | refine condA (k := ?_) | refine offA (k := ?_) | refine pureA (k := ?_) | refine readA (k := ?_))
    refine At_back (i + 1) ?_ ⟨by omega, T, va12, vb11, A12, _, SA, SB, TA12, TB11, ba12, a12, b12, inv12.symm, by rw [ea12]; exact ea, by show B11.epoch = 1; rw [eb11]; exact eb, hF12⟩ (by omega)
    (repeat (first | exact Sub.nil | refine Sub.cons rfl ?_))
  clear inv6 inv9 inv a9 b9 ba9 a8 b8 ba8 a6 b6 ba6 a5 b5 ba5 a3 b3 ba3 hb8 hb5 s9 s8 s6 s5 T9 T6 T
  rintro _ H10 ⟨T, va, vb, A, B, SA, SB, TA, TB, ba, a, b, inv, ea, eb, f1, f2, f3, f4, f5, f6⟩
  have fa : A.other = 1 := by omega
  have fb : B.other = 1 := by omega
  have f5' : A.waits.length = 0 := by rw [f5]; rfl
  have f6' : B.waits.length = 0 := by rw [f6]; rfl
  repeat (first | refine codeA (k := ?_) | refine condA (k := ?_) | refine offA (k := ?_) | refine pureA (k := ?_) | refine readA (k := ?_))
  refine At_wp (W_call rfl rfl (peer_spec a.d.lnk) rfl rfl ?_) rfl
  rintro _ _ ⟨rfl, rfl⟩
  repeat (first | refine codeA (k := ?_) | refine condA (k := ?_) | refine offA (k := ?_) | refine pureA (k := ?_) | refine readA (k := ?_))
  refine At_wp (W_call rfl rfl (peer_spec b.d.lnk) rfl rfl ?_) rfl
  rintro _ _ ⟨rfl, rfl⟩
  repeat (first | refine codeA (k := ?_) | refine condA (k := ?_) | refine offA (k := ?_) | refine pureA (k := ?_) | refine readA (k := ?_))
  refine At_wp (W_call rfl rfl (waiting_spec a.d.lnk) rfl rfl ?_) rfl
  rintro _ _ ⟨rfl, rfl⟩
  repeat (first | refine codeA (k := ?_) | refine condA (k := ?_) | refine offA (k := ?_) | refine pureA (k := ?_) | refine readA (k := ?_))
  refine At_wp (W_call rfl rfl (waiting_spec b.d.lnk) rfl rfl ?_) rfl
  rintro _ _ ⟨rfl, rfl⟩
  repeat (first | refine codeA (k := ?_) | refine condA (k := ?_) | refine offA (k := ?_) | refine pureA (k := ?_) | refine readA (k := ?_))
  rename_i H10
  have hvx := hv.keep (D' := fun b => b < H.size) (R' := BRow (fun b => b < H.size) H) (Kept.refl (fun _ => False) _) (fun b _ hl => ⟨fun f => f, hl⟩) (fun x row _ hr => BRow.keepR _ _ (fun _ => False) _ _ x row hr (Kept.refl _ _) (fun b _ hl => ⟨fun f => f, hl⟩))
  refine At_cut (fun (s : Unit) => [(1, .slice qb bs.length cb), (5, .pointer (some ⟨pa, 0, none⟩)), (7, .pointer (some ⟨pb, 0, none⟩)), (11, .slice none 0 0)])
    (fun s H' => (∃ T va vb A' SA', Ba H T H' ∧ Lc T H' 1 pa va A' ∧ Lc T H' 2 pb vb B ∧ Inv A' B SA' SB TA TB [] 66 ∧ A'.epoch = 1 ∧ A'.other = 1 ∧ SA' = SA ++ bs)) ?_ ?_
  · refine At_block ?_
    refine At_loop (fun (s : Nat) => [(1, .slice qb bs.length cb), (5, .pointer (some ⟨pa, 0, none⟩)), (7, .pointer (some ⟨pb, 0, none⟩)), (11, .slice none 0 0), (12, .int .i64 s)])
      (fun s H' => s ≤ bs.length ∧ (∃ T va vb A' SA', Ba H T H' ∧ Lc T H' 1 pa va A' ∧ Lc T H' 2 pb vb B ∧ Inv A' B SA' SB TA TB [] (62 + s) ∧ A'.epoch = 1 ∧ A'.other = 1 ∧ A'.waits.length = s ∧ SA' = SA ++ bs.take s)) (fun s => bs.length - s) 0 ?_ ⟨Nat.zero_le _, T, va, vb, A, SA, ba, a, b, inv, ea, fa, f5', by simp⟩ ?_
    · (repeat (first | exact Sub.nil | refine Sub.cons rfl ?_))
    rintro i H11 ⟨hi, T11, va11, vb11, A11, SA11, ba11, a11, b11, inv11, ea11, fa11, wl11, es11⟩
    by_cases hil : i < bs.length
    rotate_left
    · obtain rfl : i = bs.length := by omega
      rw [List.take_length] at es11
      have inv66 : Inv A11 B SA11 SB TA TB [] 66 := by
        obtain ⟨d, hd⟩ : ∃ d, 66 = 62 + bs.length + d := ⟨4 - bs.length, by omega⟩
        rw [hd]
        generalize 62 + bs.length = m at inv11
        clear hd
        induction d with
        | zero => exact inv11
        | succ d ih => exact ih.more
      repeat (first | refine codeA (k := ?_) | refine condA (k := ?_) | refine offA (k := ?_) | refine pureA (k := ?_) | refine readA (k := ?_))
      refine At_meet (E := fun (s : Unit) => [(1, .slice qb bs.length cb), (5, .pointer (some ⟨pa, 0, none⟩)), (7, .pointer (some ⟨pb, 0, none⟩)), (11, .slice none 0 0)]) (J := fun s H' => (∃ T va vb A' SA', Ba H T H' ∧ Lc T H' 1 pa va A' ∧ Lc T H' 2 pb vb B ∧ Inv A' B SA' SB TA TB [] 66 ∧ A'.epoch = 1 ∧ A'.other = 1 ∧ SA' = SA ++ bs)) () ?_ ⟨T11, va11, vb11, A11, SA11, ba11, a11, b11, inv66, ea11, fa11, es11⟩
      (repeat (first | exact Sub.nil | refine Sub.cons rfl ?_))
    have hx : bs[i]? = some bs[i] := by simp [hil]
    generalize bs[i] = l at hx
    obtain ⟨bb, o, row, hq, _, hbb, ⟨bv, e1, e2⟩, e3, e4⟩ := hvx.at_ hx
    subst hq
    subst e1
    obtain ⟨pl, cl, rfl⟩ := e2.form
    have hc8 : Cell H11 bb (o + i * 1) (.slice pl l.length cl) := (e4 0 _ rfl).keep ba11.ext (fun f => f)
    have hb8 : BytesAt (fun b => T11 b = 0) H11 (.slice pl l.length cl) l := e2.keep ba11.ext (fun b hb _ => ⟨fun f => f, ba11.old b hb⟩)
    repeat (first | refine codeA (k := ?_) | refine condA (k := ?_) | refine offA (k := ?_) | refine pureA (k := ?_) | refine readA (k := ?_) | refine At_block ?_)
    by_cases hll : l.length > 1000
    · repeat (first | refine codeA (k := ?_) | refine condA (k := ?_) | refine offA (k := ?_) | refine pureA (k := ?_) | refine readA (k := ?_))
      exact At_ret1 rfl rfl ⟨ba11.ext, rfl⟩
    repeat (first | refine codeA (k := ?_) | refine condA (k := ?_) | refine offA (k := ?_) | refine pureA (k := ?_) | refine readA (k := ?_))
    refine At_wp (W_call rfl rfl (ls_send ba11 a11 b11 (by decide) inv11 (by omega) hb8 (by omega)) rfl rfl ?_) rfl
    rintro r H12 ⟨T12, va12, A12, SA12, s12, ba12, a12, b12, inv12, ea12, fo12, _, hok, _⟩
    obtain ⟨rfl, hA12, hS12⟩ := hok (by omega)
    rw [if_pos (by omega)] at hS12
    repeat (first | refine codeA (k := ?_) | refine condA (k := ?_) | refine offA (k := ?_) | refine pureA (k := ?_) | refine readA (k := ?_))
    refine At_back (i + 1) ?_ ⟨by omega, T12, va12, vb11, A12, SA12, ba12, a12, b12, inv12, by rw [ea12]; exact ea11, by rw [fo12]; exact fa11, ?_, ?_⟩ (by omega)
    · (repeat (first | exact Sub.nil | refine Sub.cons rfl ?_))
    · rw [hA12]
      show (A11.waits ++ [(A11.sent + 1, l)]).length = i + 1
      rw [List.length_append, wl11]; rfl
    · rw [hS12, es11, bs_room hx, List.append_assoc]
  clear ba a b T va vb hvx
  rintro _ H11 ⟨T, va, vb, A1, SA1, ba, a, b, inv1, ea1, fa1, es1⟩
  obtain ⟨k, hk⟩ := inv_k inv1
  have wl1 := inv1.xy.wlen
  repeat (first | refine codeA (k := ?_) | refine condA (k := ?_) | refine offA (k := ?_) | refine pureA (k := ?_) | refine readA (k := ?_))
  refine At_wp (W_call rfl rfl (frames_c ba a (by omega) (fun x hx => by have := (inv1.xy.wbody x hx).2; omega)) rfl rfl ?_) rfl
  rintro vl H12 ⟨s12, a12, l12⟩
  have ba12 := ba.stp s12 (by decide)
  have b12 := b.stp s12 (by decide) (by decide)
  obtain ⟨ql, cl, rfl⟩ := ow_form l12
  have hfl := framesOf_length (L := A1)
  repeat (first | refine codeA (k := ?_) | refine condA (k := ?_) | refine offA (k := ?_) | refine pureA (k := ?_) | refine readA (k := ?_))
  refine At_cut (fun (s : Value × List (List UInt8)) => [(1, .slice qb bs.length cb), (5, .pointer (some ⟨pa, 0, none⟩)), (7, .pointer (some ⟨pb, 0, none⟩)), (11, s.1)])
    (fun s H' => ∃ T' vb' B', Ba H T' H' ∧ Lc T' H' 1 pa va { A1 with owes := false } ∧ Lc T' H' 2 pb vb' B' ∧ PI A1 B SA1 SB TA 66 k (framesOf A1).length B' (TB ++ s.2) ∧ B'.epoch = 1 ∧ Ow T' H' 3 27 1 BRow s.1 s.2) ?_ ?_
  · refine At_block ?_
    refine At_loop (fun (s : Nat × Value × List (List UInt8)) => [(1, .slice qb bs.length cb), (5, .pointer (some ⟨pa, 0, none⟩)), (7, .pointer (some ⟨pb, 0, none⟩)), (11, s.2.1), (13, .slice ql (framesOf A1).length cl), (14, .int .i64 s.1)])
      (fun s H' => s.1 ≤ (framesOf A1).length ∧ ∃ T' vb' B', Ba H T' H' ∧ Lc T' H' 1 pa va { A1 with owes := false } ∧ Lc T' H' 2 pb vb' B' ∧ PI A1 B SA1 SB TA 66 k s.1 B' (TB ++ s.2.2) ∧ B'.epoch = 1 ∧ Ow T' H' 3 27 1 BRow s.2.1 s.2.2 ∧ Ow T' H' 0 34 7 FRow (.slice ql (framesOf A1).length cl) (framesOf A1)) (fun s => (framesOf A1).length - s.1) (0, .slice none 0 0, []) ?_ ⟨Nat.zero_le _, T, vb, B, ba12, a12, b12, by simpa using PI.start inv1 (fun e => (hk e).2), eb, ⟨OwnL.nil _ _ _ _, fun g e => by cases e⟩, l12⟩ ?_
    · (repeat (first | exact Sub.nil | refine Sub.cons rfl ?_))
    rintro ⟨i, vt, xs⟩ H13 ⟨hi, T13, vb13, B13, ba13, a13, b13, pi13, eb13, t13, l13⟩
    dsimp only at hi pi13 t13
    by_cases hil : i < (framesOf A1).length
    rotate_left
    · obtain rfl : i = (framesOf A1).length := by omega
      repeat (first | refine codeA (k := ?_) | refine condA (k := ?_) | refine offA (k := ?_) | refine pureA (k := ?_) | refine readA (k := ?_))
      refine At_meet (J := fun (s : Value × List (List UInt8)) H' => ∃ T' vb' B', Ba H T' H' ∧ Lc T' H' 1 pa va { A1 with owes := false } ∧ Lc T' H' 2 pb vb' B' ∧ PI A1 B SA1 SB TA 66 k (framesOf A1).length B' (TB ++ s.2) ∧ B'.epoch = 1 ∧ Ow T' H' 3 27 1 BRow s.1 s.2) (vt, xs) ?_ ⟨T13, vb13, B13, ba13, a13, b13, pi13, eb13, t13⟩
      (repeat (first | exact Sub.nil | refine Sub.cons rfl ?_))
    have hf : (framesOf A1)[i]? = some (framesOf A1)[i] := by simp [hil]
    generalize (framesOf A1)[i] = f at hf
    obtain ⟨gl, rfl⟩ := ow_some l13 (by omega)
    obtain ⟨row, ⟨bv, e1, e2⟩, e3, e4⟩ := l13.d.cells hf
    subst e1
    obtain ⟨hmay, hstep⟩ := pi13.step (fun e => (hk e).1) hf
    have hep := takeL_epoch B13 f
    have htk := take_c ba13 b13 e2 hmay (pi13.came (by decide))
    refine At_sub (e' := [(1, .slice qb bs.length cb), (5, .pointer (some ⟨pa, 0, none⟩)), (7, .pointer (some ⟨pb, 0, none⟩)), (11, vt), (13, .slice (some ⟨gl, 0, none⟩) (framesOf A1).length cl), (14, .int .i64 i)]) ?_ ?_
    · (repeat (first | exact Sub.nil | refine Sub.cons rfl ?_))
    repeat (first | refine codeA (k := ?_) | refine condA (k := ?_) | refine offA (k := ?_) | refine pureA (k := ?_) | refine readA (k := ?_) | refine At_block ?_)
    refine At_read (r_loadN (b := gl) (o := 0 + i * 7) (cs := frCells f bv) rfl rfl rfl (fun j u hj => by rw [Nat.zero_add]; exact e4 j u hj)) rfl rfl rfl ?_
    generalize takeL B13 f = tk at htk hstep hep
    obtain ⟨L', o⟩ := tk
    refine At_wp (W_call rfl rfl htk rfl rfl ?_) rfl
    rintro _ H14 ⟨s14, bv14, vb14, rfl, hb14, b14⟩
    have ba14 := ba13.stp s14 (by decide)
    have a14 := a13.stp s14 (by decide) (by decide)
    have t14 := t13.stp BRow.keepR s14 (by decide) (by decide)
    have l14 := l13.stp FRow.keepR s14 (by decide) (by decide)
    cases o with
    | none =>
      have hstep' : PI A1 B SA1 SB TA 66 k (i + 1) L' (TB ++ xs) := by simpa using hstep
      repeat (first | refine codeA (k := ?_) | refine condA (k := ?_) | refine offA (k := ?_) | refine pureA (k := ?_) | refine readA (k := ?_))
      refine At_back (i + 1, vt, xs) ?_ ⟨by dsimp only; omega, T13, vb14, L', ba14, a14, b14, hstep', by rw [← eb13]; exact hep, t14, l14⟩ (by dsimp only; omega)
      (repeat (first | exact Sub.nil | refine Sub.cons rfl ?_))
    | some y =>
      have hb14' : BytesAt (fun b => T13 b = 0) H14 bv14 y := hb14
      have hstep' : PI A1 B SA1 SB TA 66 k (i + 1) L' (TB ++ (xs ++ [y])) := by simpa using hstep
      have hxl : xs.length ≤ 66 := by
        have q1 := pi13.inv.xy.tle
        have q2 := pi13.inv.xy.slen
        rw [List.length_append] at q1
        omega
      repeat (first | refine codeA (k := ?_) | refine condA (k := ?_) | refine offA (k := ?_) | refine pureA (k := ?_) | refine readA (k := ?_))
      refine At_wp (W_buildSlice1 (cs := #[bv14]) rfl hb14'.one.1 rfl (by decide) rfl ?_) rfl
      intro b15 H15 hn15
      have s15 : Stp (fun _ => False) T13 T13 H14 H15 := Stp.of_ext ba14 hn15.ext
      have ba15 := ba14.stp s15 (fun f => f)
      have t15 := t14.stp BRow.keepR s15 (fun f => f) (fun f => f)
      refine At_wp (W_appendOw (row := [bv14]) (a := y) BRow.keepR ba15 (by decide) rfl rfl t15 hn15.at_ rfl ⟨bv14, rfl, bytes_stp hb14' s15 (fun f => f)⟩ rfl (by simpa using hb14'.one.2) rfl (by decide) (by omega) (by decide) rfl ?_) rfl
      intro g c' H16 T16 s16 t16
      have ba16 := ba15.stp s16 (by decide)
      repeat (first | refine codeA (k := ?_) | refine condA (k := ?_) | refine offA (k := ?_) | refine pureA (k := ?_) | refine readA (k := ?_))
      refine At_back (i + 1, .slice (some ⟨g, 0, none⟩) (xs.length + 1) c', xs ++ [y]) ?_ ⟨by dsimp only; omega, T16, vb14, L', ba16, (a14.stp s15 (fun f => f) (fun f => f)).stp s16 (by decide) (by decide), (b14.stp s15 (fun f => f) (fun f => f)).stp s16 (by decide) (by decide), hstep', by rw [← eb13]; exact hep, t16, (l14.stp FRow.keepR s15 (fun f => f) (fun f => f)).stp FRow.keepR s16 (by decide) (by decide)⟩ (by dsimp only; omega)
      (repeat (first | exact Sub.nil | refine Sub.cons rfl ?_))
  rintro ⟨vt, xs⟩ H13 ⟨T13, vb13, B13, ba13, a13, b13, pi13, eb13, t13⟩
  dsimp only at pi13 t13
  have hfull := pi13.full (TY' := TB) (by rw [List.length_append]; omega) (by omega) (by omega) hk
  have inv13 := pi13.done
  have exs : xs = bs := by
    have q1 := inv13.xy.tol
    rw [hfull, List.take_length, es1] at q1
    have q2 := inv.xy.tol
    rw [f4, List.take_length] at q2
    rw [q2] at q1
    exact List.append_cancel_left q1
  subst exs
  have ob13 : B13.other = A1.epoch := pi13.o2 (by omega)
  have cb13 := inv13.xy.came
  obtain ⟨k2, hk2⟩ := inv_k inv13.symm
  have hep13 := inv13.xy.other
  repeat (first | refine codeA (k := ?_) | refine condA (k := ?_) | refine offA (k := ?_) | refine pureA (k := ?_) | refine readA (k := ?_))
  refine At_wp (W_call rfl rfl (ls_all (k := k2) ba13 b13 a13 (by decide) inv13.symm (by decide) hk2) rfl rfl ?_) rfl
  rintro _ H14 ⟨rfl, va14, A14, TA14, s14, ba14, b14, a14, pi14, _, _⟩
  have w14 : A14.waits = [] := by
    by_cases e : A1.waits = []
    · exact pi14.f2 (by show A1.other = B13.epoch; omega) e
    · have hp : 0 < (framesOf A1).length := by
        unfold framesOf
        rw [if_neg (fun e2 => e e2.1), List.length_map]
        exact List.length_pos_iff.2 e
      have ho := pi13.w2 hp e
      have hp2 : 0 < (framesOf B13).length := by
        rcases Nat.eq_zero_or_pos (framesOf B13).length with e2 | e2
        · have := (framesOf_nil (List.eq_nil_of_length_eq_zero e2)).2
          rw [ho] at this; cases this
        · exact e2
      exact pi14.f1 hp2 (by omega) (by show A1.other = B13.epoch; omega) (by omega)
  have w14' : A14.waits.length = 0 := by rw [w14]; rfl
  have t14 := t13.stp BRow.keepR s14 (by decide) (by decide)
  have hvy := hv.keep (D' := fun _ => True) (R' := BRow (fun _ => True) H14) ba14.ext (fun b _ _ => ⟨fun f => f, trivial⟩) (fun x row _ hr => BRow.keepR _ _ _ _ _ x row hr ba14.ext (fun b _ _ => ⟨fun f => f, trivial⟩))
  repeat (first | refine codeA (k := ?_) | refine condA (k := ?_) | refine offA (k := ?_) | refine pureA (k := ?_) | refine readA (k := ?_))
  refine At_wp (W_call rfl rfl (rows_eq t14.d.slice hvy) rfl rfl ?_) rfl
  rintro _ _ ⟨rfl, rfl⟩
  repeat (first | refine codeA (k := ?_) | refine condA (k := ?_) | refine offA (k := ?_) | refine pureA (k := ?_) | refine readA (k := ?_))
  refine At_wp (W_call rfl rfl (waiting_spec a14.d.lnk) rfl rfl ?_) rfl
  rintro _ _ ⟨rfl, rfl⟩
  repeat (first | refine codeA (k := ?_) | refine condA (k := ?_) | refine offA (k := ?_) | refine pureA (k := ?_) | refine readA (k := ?_))
  refine At_wp (W_call rfl rfl (wakes_spec _) rfl rfl ?_) rfl
  rintro _ H15 ⟨hx15, rfl⟩
  repeat (first | refine codeA (k := ?_) | refine condA (k := ?_) | refine offA (k := ?_) | refine pureA (k := ?_) | refine readA (k := ?_))
  exact At_ret1 rfl rfl ⟨ba14.ext.trans hx15, rfl⟩
end Go.Proofs.Ytdbmhcchgbpccaa
