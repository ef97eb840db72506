/- The walk of LinkOnce. -/
import Derived.Test.YtdbmhcchgbpccaaLinkU
namespace Go.Proofs.Ytdbmhcchgbpccaa
open Go Ev
set_option linter.unusedVariables false
set_option linter.unusedSimpArgs false
attribute [local irreducible] Go.wpList Go.bodyPost Go.Code.wp Go.Exit.then Go.Exit.inBlock Go.Exit.noGoto Ev.wpAnyG Go.Oper.wp Ev.Back Ev.Left Ev.Spc Ev.At Ev.Pure Ev.Reads Ev.Runs Ev.Does Ev.Cell

structure Vs where
  w : Value
  a : Value
  b : Value
  c : Value
  d : Value
structure LOm (H0 : Heap) (T : Nat → Nat) (pa pb : Nat) (va vb : Value) (A B : Lk) (SA SB TA TB : List (List UInt8)) (F : List Fr) (s : Vs) (H : Heap) : Prop where
  ba : Ba H0 T H
  a : Lc T H 1 pa va A
  b : Lc T H 2 pb vb B
  w : Ow T H 3 34 7 FRow s.w F
  sa : Ow T H 4 27 1 BRow s.a SA
  sb : Ow T H 5 27 1 BRow s.b SB
  ta : Ow T H 6 27 1 BRow s.c TA
  tb : Ow T H 7 27 1 BRow s.d TB
section
variable {H0 H H' : Heap} {T T' : Nat → Nat} {pa pb : Nat} {va vb va' vb' : Value} {A B A' B' : Lk} {SA SB TA TB : List (List UInt8)} {F : List Fr} {s : Vs} {Z : Nat → Prop}
theorem LOm.on (h : LOm H0 T pa pb va vb A B SA SB TA TB F s H) (k : Ext H H') : LOm H0 T pa pb va vb A B SA SB TA TB F s H' := by
  have st : Stp (fun _ => False) T T H H' := Stp.of_ext h.ba k
  exact ⟨h.ba.stp st (fun f => f), h.a.stp st (fun f => f) (fun f => f), h.b.stp st (fun f => f) (fun f => f), h.w.stp FRow.keepR st (fun f => f) (fun f => f), h.sa.stp BRow.keepR st (fun f => f) (fun f => f), h.sb.stp BRow.keepR st (fun f => f) (fun f => f), h.ta.stp BRow.keepR st (fun f => f) (fun f => f), h.tb.stp BRow.keepR st (fun f => f) (fun f => f)⟩
theorem LOm.links (h : LOm H0 T pa pb va vb A B SA SB TA TB F s H) (st : Stp Z T T' H H') (hz : ∀ t, Z t → t = 1 ∨ t = 2) (a' : Lc T' H' 1 pa va' A') (b' : Lc T' H' 2 pb vb' B') : LOm H0 T' pa pb va' vb' A' B' SA SB TA TB F s H' := by
  have hn : ∀ t, t ≠ 1 → t ≠ 2 → ¬ Z t := fun t h1 h2 e => by rcases hz t e with e | e <;> contradiction
  exact ⟨h.ba.stp st (hn 0 (by decide) (by decide)), a', b', h.w.stp FRow.keepR st (hn 0 (by decide) (by decide)) (hn 3 (by decide) (by decide)), h.sa.stp BRow.keepR st (hn 0 (by decide) (by decide)) (hn 4 (by decide) (by decide)), h.sb.stp BRow.keepR st (hn 0 (by decide) (by decide)) (hn 5 (by decide) (by decide)), h.ta.stp BRow.keepR st (hn 0 (by decide) (by decide)) (hn 6 (by decide) (by decide)), h.tb.stp BRow.keepR st (hn 0 (by decide) (by decide)) (hn 7 (by decide) (by decide))⟩
theorem LOm.pw {v' : Value} {X' : List Fr} (h : LOm H0 T pa pb va vb A B SA SB TA TB F s H) (st : Stp (· = 3) T T' H H') (x : Ow T' H' 3 34 7 FRow v' X') : LOm H0 T' pa pb va vb A B SA SB TA TB X' { s with w := v' } H' :=
  ⟨h.ba.stp st (by decide), h.a.stp st (by decide) (by decide), h.b.stp st (by decide) (by decide), x, h.sa.stp BRow.keepR st (by decide) (by decide), h.sb.stp BRow.keepR st (by decide) (by decide), h.ta.stp BRow.keepR st (by decide) (by decide), h.tb.stp BRow.keepR st (by decide) (by decide)⟩
theorem LOm.psa {v' : Value} {X' : List (List UInt8)} (h : LOm H0 T pa pb va vb A B SA SB TA TB F s H) (st : Stp (· = 4) T T' H H') (x : Ow T' H' 4 27 1 BRow v' X') : LOm H0 T' pa pb va vb A B X' SB TA TB F { s with a := v' } H' :=
  ⟨h.ba.stp st (by decide), h.a.stp st (by decide) (by decide), h.b.stp st (by decide) (by decide), h.w.stp FRow.keepR st (by decide) (by decide), x, h.sb.stp BRow.keepR st (by decide) (by decide), h.ta.stp BRow.keepR st (by decide) (by decide), h.tb.stp BRow.keepR st (by decide) (by decide)⟩
theorem LOm.psb {v' : Value} {X' : List (List UInt8)} (h : LOm H0 T pa pb va vb A B SA SB TA TB F s H) (st : Stp (· = 5) T T' H H') (x : Ow T' H' 5 27 1 BRow v' X') : LOm H0 T' pa pb va vb A B SA X' TA TB F { s with b := v' } H' :=
  ⟨h.ba.stp st (by decide), h.a.stp st (by decide) (by decide), h.b.stp st (by decide) (by decide), h.w.stp FRow.keepR st (by decide) (by decide), h.sa.stp BRow.keepR st (by decide) (by decide), x, h.ta.stp BRow.keepR st (by decide) (by decide), h.tb.stp BRow.keepR st (by decide) (by decide)⟩
theorem LOm.pta {v' : Value} {X' : List (List UInt8)} (h : LOm H0 T pa pb va vb A B SA SB TA TB F s H) (st : Stp (· = 6) T T' H H') (x : Ow T' H' 6 27 1 BRow v' X') : LOm H0 T' pa pb va vb A B SA SB X' TB F { s with c := v' } H' :=
  ⟨h.ba.stp st (by decide), h.a.stp st (by decide) (by decide), h.b.stp st (by decide) (by decide), h.w.stp FRow.keepR st (by decide) (by decide), h.sa.stp BRow.keepR st (by decide) (by decide), h.sb.stp BRow.keepR st (by decide) (by decide), x, h.tb.stp BRow.keepR st (by decide) (by decide)⟩
theorem LOm.ptb {v' : Value} {X' : List (List UInt8)} (h : LOm H0 T pa pb va vb A B SA SB TA TB F s H) (st : Stp (· = 7) T T' H H') (x : Ow T' H' 7 27 1 BRow v' X') : LOm H0 T' pa pb va vb A B SA SB TA X' F { s with d := v' } H' :=
  ⟨h.ba.stp st (by decide), h.a.stp st (by decide) (by decide), h.b.stp st (by decide) (by decide), h.w.stp FRow.keepR st (by decide) (by decide), h.sa.stp BRow.keepR st (by decide) (by decide), h.sb.stp BRow.keepR st (by decide) (by decide), h.ta.stp BRow.keepR st (by decide) (by decide), x⟩
end
def LO (H0 : Heap) (pa pb N : Nat) (s : Vs) (H' : Heap) : Prop := ∃ T va vb A B SA SB TA TB F, LOm H0 T pa pb va vb A B SA SB TA TB F s H' ∧ Inv A B SA SB TA TB F N ∧ A.me = 3 ∧ B.me = 4 ∧ F.length ≤ 5 * N
theorem takeB_me (Z : Lk) (f : Fr) : (takeB Z f).1.me = Z.me := by
  unfold takeB
  split
  · rfl
  · split
    · rfl
    · split <;> rfl
theorem takeB_some (Z : Lk) (f : Fr) (y : List UInt8) (h : (takeB Z f).2 = some y) : y = f.body := by
  unfold takeB at h
  split at h
  · cases h
  · split at h
    · cases h
    · split at h
      · cases h
      · simpa using h.symm
theorem takeL_some (Y : Lk) (f : Fr) (y : List UInt8) (h : (takeL Y f).2 = some y) : y = f.body := by
  unfold takeL at h
  split at h
  · cases h
  · exact takeB_some _ _ _ h
theorem takeL_me (Y : Lk) (f : Fr) : (takeL Y f).1.me = Y.me := by
  unfold takeL
  split
  · rfl
  · rw [takeB_me]
    unfold takeA
    split <;> rfl

set_option maxHeartbeats 16000000 in
theorem linkOnce_walk {H : Heap} {v : Value} {sts : List Sp} (hs : SliceAt (fun _ => True) H 3 (SRow (fun _ => True) H) v sts) :
    Spc Try.prog 4 #[v] H fun r H' => Ext H H' ∧ r = .bool true := by
  have hlen := hs.len_le
  simp only [maxLen] at hlen
  obtain ⟨qs, cs, rfl⟩ := hs.form
  refine spec_of Try.func4 rfl Try.ntmps4 rfl (fun W => ?_)
  by_cases h1 : sts.length > 400
  · repeat (first | refine codeA (k := ?_) | refine condA (k := ?_) | refine offA (k := ?_) | refine pureA (k := ?_) | refine readA (k := ?_))
    exact At_ret1 rfl rfl ⟨Kept.refl _ _, rfl⟩
  have ba0 : Ba H (fun _ => 0) H := ⟨Kept.refl _ _, fun _ _ => rfl, fun _ _ => rfl⟩
  repeat (first | refine codeA (k := ?_) | refine condA (k := ?_) | refine offA (k := ?_) | refine pureA (k := ?_) | refine readA (k := ?_))
  refine At_wp (W_call rfl rfl (new_ok 3 4 7 H (by decide) (by decide) (by decide)) rfl rfl ?_) rfl
  rintro _ H1 ⟨pa, rfl, hn1⟩
  obtain ⟨T1, s1, a1⟩ := new_c (t := 1) ba0 (by decide) hn1
  have ba1 := ba0.stp s1 (fun f => f)
  repeat (first | refine codeA (k := ?_) | refine condA (k := ?_) | refine offA (k := ?_) | refine pureA (k := ?_) | refine readA (k := ?_))
  refine At_wp (W_call rfl rfl (new_ok 4 3 2 H1 (by decide) (by decide) (by decide)) rfl rfl ?_) rfl
  rintro _ H2 ⟨pb, rfl, hn2⟩
  obtain ⟨T2, s2, b2⟩ := new_c (t := 2) ba1 (by decide) hn2
  have ba2 := ba1.stp s2 (fun f => f)
  have a2 := a1.stp s2 (fun f => f) (fun f => f)
  have onil : ∀ {α : Type} (t : Nat) (e : TypeId) (size : Nat) (R : (Nat → Prop) → Heap → α → List Value → Prop), Ow T2 H2 t e size R (.slice none 0 0) [] := fun t e size R => ⟨OwnL.nil _ _ _ _, fun g e => by cases e⟩
  have st : LO H pa pb 0 ⟨.slice none 0 0, .slice none 0 0, .slice none 0 0, .slice none 0 0, .slice none 0 0⟩ H2 := ⟨T2, _, _, _, _, [], [], [], [], [], ⟨ba2, a2, b2, onil _ _ _ _, onil _ _ _ _, onil _ _ _ _, onil _ _ _ _, onil _ _ _ _⟩, inv_start (by decide) (by decide) (by decide), rfl, rfl, Nat.le_refl _⟩
  repeat (first | refine codeA (k := ?_) | refine condA (k := ?_) | refine offA (k := ?_) | refine pureA (k := ?_) | refine readA (k := ?_))
  refine At_cut (fun (s : Unit) => []) (fun s H' => Ext H H') ?_ ?_
  rotate_left
  · rintro _ H3 hx3
    repeat (first | refine codeA (k := ?_) | refine condA (k := ?_) | refine offA (k := ?_) | refine pureA (k := ?_) | refine readA (k := ?_))
    refine At_wp (W_call rfl rfl (wakes_spec H3) rfl rfl ?_) rfl
    rintro _ H4 ⟨hx4, rfl⟩
    repeat (first | refine codeA (k := ?_) | refine condA (k := ?_) | refine offA (k := ?_) | refine pureA (k := ?_) | refine readA (k := ?_))
    exact At_ret1 rfl rfl ⟨hx3.trans hx4, rfl⟩
  refine At_block ?_
  refine At_loop (fun (s : Nat × Vs) => [(0, .slice qs sts.length cs), (3, .pointer (some ⟨pa, 0, none⟩)), (5, .pointer (some ⟨pb, 0, none⟩)), (7, s.2.w), (8, s.2.a), (9, s.2.b), (10, s.2.c), (11, s.2.d), (12, .int .i64 s.1)]) (fun s H' => s.1 ≤ sts.length ∧ s.1 ≤ 200 ∧ LO H pa pb s.1 s.2 H') (fun s => sts.length - s.1) (0, ⟨.slice none 0 0, .slice none 0 0, .slice none 0 0, .slice none 0 0, .slice none 0 0⟩) ?_ ⟨Nat.zero_le _, Nat.zero_le _, st⟩ ?_
  · (repeat (first | exact Sub.nil | refine Sub.cons rfl ?_))
  rintro ⟨i, vw, vsa, vsb, vta, vtb⟩ H3 ⟨hi, hi2, T, va, vb, A, B, SA, SB, TA, TB, F, lo, inv, ma, mb, hF⟩
  dsimp only at hi hi2 lo inv hF
  clear st onil ba2 a2 b2 ba1 s2 s1 a1 ba0 T1 T2
  by_cases hil : i < sts.length
  rotate_left
  · repeat (first | refine codeA (k := ?_) | refine condA (k := ?_) | refine offA (k := ?_) | refine pureA (k := ?_) | refine readA (k := ?_))
    exact At_meet (E := fun (s : Unit) => []) (J := fun s H' => Ext H H') () Sub.nil lo.ba.ext
  by_cases hi200 : i < 200
  rotate_left
  · repeat (first | refine codeA (k := ?_) | refine condA (k := ?_) | refine offA (k := ?_) | refine pureA (k := ?_) | refine readA (k := ?_))
    exact At_meet (E := fun (s : Unit) => []) (J := fun s H' => Ext H H') () Sub.nil lo.ba.ext
  have hx : sts[i]? = some sts[i] := by simp [hil]
  generalize sts[i] = k at hx
  obtain ⟨bb, o, row, hq, _, hbb, ⟨bv, e1, e2⟩, e3, e4⟩ := hs.at_ hx
  subst hq
  subst e1
  obtain ⟨pl, cl, rfl⟩ := e2.form
  obtain ⟨qw, cw, e⟩ := ow_form lo.w
  dsimp only at e
  subst e
  refine At_sub (e' := [(0, .slice (some ⟨bb, o, none⟩) sts.length cs), (3, .pointer (some ⟨pa, 0, none⟩)), (5, .pointer (some ⟨pb, 0, none⟩)), (7, .slice qw F.length cw), (8, vsa), (9, vsb), (10, vta), (11, vtb), (12, .int .i64 i)]) ?_ ?_
  · (repeat (first | exact Sub.nil | refine Sub.cons rfl ?_))
  repeat (first | refine codeA (k := ?_) | refine condA (k := ?_) | refine offA (k := ?_) | refine pureA (k := ?_) | refine readA (k := ?_) | refine At_block ?_)
  refine At_read (r_loadN (b := bb) (o := o + i * 3) (cs := spCells k (.slice pl k.b.length cl)) rfl rfl rfl (fun j u hu => (e4 j u hu).keep lo.ba.ext (fun f => f))) rfl rfl rfl ?_
  refine At_wp (W_alloc rfl rfl ?_) rfl
  intro b13 H4 hn4
  refine At_wp (W_storeB (cs' := (spCells k (.slice pl k.b.length cl)).toArray) rfl rfl hn4.at_ rfl rfl rfl rfl ?_) rfl
  intro H5 p5
  have b13' := hn4.blk
  have hx5 : Ext H3 H5 := Kept.trans hn4.ext p5.kept (fun _ f _ => f) (fun j e hl => by omega)
  have t13 : T b13 = 0 := lo.ba.new b13 (by omega)
  have lo5 := lo.on hx5
  have q13 := p5.at_
  have m0 : Cell H5 b13 (0 + 0) (.int .i64 k.doo) := Cell.of q13 rfl
  have m1 : Cell H5 b13 (0 + 1) (.int .i64 k.n) := Cell.of q13 rfl
  have m2 : Cell H5 b13 (0 + 2) (.slice pl k.b.length cl) := Cell.of q13 rfl
  have hb5 : BytesAt (fun b => T b = 0) H5 (.slice pl k.b.length cl) k.b := (e2.mono (fun b _ hl => hl)).keep lo5.ba.ext (fun b hb _ => ⟨fun f => f, lo5.ba.old b hb⟩)
  repeat (first | refine codeA (k := ?_) | refine condA (k := ?_) | refine offA (k := ?_) | refine pureA (k := ?_) | refine readA (k := ?_))
  by_cases hbl : k.b.length > 1000
  · repeat (first | refine codeA (k := ?_) | refine condA (k := ?_) | refine offA (k := ?_) | refine pureA (k := ?_) | refine readA (k := ?_))
    exact At_ret1 rfl rfl ⟨lo5.ba.ext, rfl⟩
  obtain ⟨m, hme⟩ : ∃ m, IntKind.u64.wrap k.doo % 8 = m := ⟨_, rfl⟩
  repeat (first | refine codeA (k := ?_) | refine condA (k := ?_) | refine offA (k := ?_) | refine pureA (k := ?_) | refine readA (k := ?_))
  refine At_pure (p_convInt rfl) rfl rfl rfl ?_
  refine At_pure (p_rem rfl rfl (u64_nonneg _) (by decide)) rfl rfl rfl ?_
  rw [hme]
  repeat (first | refine codeA (k := ?_) | refine condA (k := ?_) | refine offA (k := ?_) | refine pureA (k := ?_) | refine readA (k := ?_))
  refine At_cut (fun (s : Vs) => [(0, .slice (some ⟨bb, o, none⟩) sts.length cs), (3, .pointer (some ⟨pa, 0, none⟩)), (5, .pointer (some ⟨pb, 0, none⟩)), (7, s.w), (8, s.a), (9, s.b), (10, s.c), (11, s.d), (12, .int .i64 i)]) (fun s H' => LO H pa pb (i + 1) s H') ?_ ?_
  rotate_left
  · clear lo5 hb5 m0 m1 m2 q13 hx5 t13 lo inv ma mb hF e2 hn4 p5
    rintro ⟨vw, vsa, vsb, vta, vtb⟩ H6 ⟨T, va, vb, A, B, SA, SB, TA, TB, F, lo, inv, ma, mb, hF⟩
    obtain ⟨q8, c8, e⟩ := ow_form lo.sa
    dsimp only at e
    subst e
    obtain ⟨q9, c9, e⟩ := ow_form lo.sb
    dsimp only at e
    subst e
    obtain ⟨q10, c10, e⟩ := ow_form lo.ta
    dsimp only at e
    subst e
    obtain ⟨q11, c11, e⟩ := ow_form lo.tb
    dsimp only at e
    subst e
    have z1 := inv.xy.slen
    have z2 := inv.yx.slen
    have z3 := inv.xy.tle
    have z4 := inv.yx.tle
    have z5 := inv.xy.wlen
    have z6 := inv.yx.wlen
    have hpB := prefix_spec lo.tb.d.slice lo.sa.d.slice inv.xy.tol inv.xy.tle
    have hpA := prefix_spec lo.ta.d.slice lo.sb.d.slice inv.yx.tol inv.yx.tle
    have fin : i + 1 ≤ sts.length ∧ i + 1 ≤ 200 ∧ LO H pa pb (i + 1) ⟨vw, .slice q8 SA.length c8, .slice q9 SB.length c9, .slice q10 TA.length c10, .slice q11 TB.length c11⟩ H6 := ⟨by omega, by omega, T, va, vb, A, B, SA, SB, TA, TB, F, lo, inv, ma, mb, hF⟩
    refine At_sub (e' := [(0, .slice (some ⟨bb, o, none⟩) sts.length cs), (3, .pointer (some ⟨pa, 0, none⟩)), (5, .pointer (some ⟨pb, 0, none⟩)), (7, vw), (8, .slice q8 SA.length c8), (9, .slice q9 SB.length c9), (10, .slice q10 TA.length c10), (11, .slice q11 TB.length c11), (12, .int .i64 i)]) ?_ ?_
    · (repeat (first | exact Sub.nil | refine Sub.cons rfl ?_))
    repeat (first | refine codeA (k := ?_) | refine condA (k := ?_) | refine offA (k := ?_) | refine pureA (k := ?_) | refine readA (k := ?_))
    refine At_wp (W_call rfl rfl hpB rfl rfl ?_) rfl
    rintro _ _ ⟨rfl, rfl⟩
    repeat (first | refine codeA (k := ?_) | refine condA (k := ?_) | refine offA (k := ?_) | refine pureA (k := ?_) | refine readA (k := ?_))
    refine At_wp (W_call rfl rfl hpA rfl rfl ?_) rfl
    rintro _ _ ⟨rfl, rfl⟩
    repeat (first | refine codeA (k := ?_) | refine condA (k := ?_) | refine offA (k := ?_) | refine pureA (k := ?_) | refine readA (k := ?_))
    refine At_wp (W_call rfl rfl (peer_spec lo.a.d.lnk) rfl rfl ?_) rfl
    rintro _ _ ⟨rfl, rfl⟩
    by_cases hoa : 0 < A.other
    · have g1 := inv.gap hoa
      repeat (first | refine codeA (k := ?_) | refine condA (k := ?_) | refine offA (k := ?_) | refine pureA (k := ?_) | refine readA (k := ?_))
      refine At_wp (W_call rfl rfl (waiting_spec lo.a.d.lnk) rfl rfl ?_) rfl
      rintro _ _ ⟨rfl, rfl⟩
      repeat (first | refine codeA (k := ?_) | refine condA (k := ?_) | refine offA (k := ?_) | refine pureA (k := ?_) | refine readA (k := ?_))
      refine At_wp (W_call rfl rfl (peer_spec lo.b.d.lnk) rfl rfl ?_) rfl
      rintro _ _ ⟨rfl, rfl⟩
      by_cases hob : 0 < B.other
      · have g2 := inv.symm.gap hob
        repeat (first | refine codeA (k := ?_) | refine condA (k := ?_) | refine offA (k := ?_) | refine pureA (k := ?_) | refine readA (k := ?_))
        refine At_wp (W_call rfl rfl (waiting_spec lo.b.d.lnk) rfl rfl ?_) rfl
        rintro _ _ ⟨rfl, rfl⟩
        repeat (first | refine codeA (k := ?_) | refine condA (k := ?_) | refine offA (k := ?_) | refine pureA (k := ?_) | refine readA (k := ?_))
        refine At_back (i + 1, ⟨vw, .slice q8 SA.length c8, .slice q9 SB.length c9, .slice q10 TA.length c10, .slice q11 TB.length c11⟩) ?_ fin (by dsimp only; omega)
        (repeat (first | exact Sub.nil | refine Sub.cons rfl ?_))
      · repeat (first | refine codeA (k := ?_) | refine condA (k := ?_) | refine offA (k := ?_) | refine pureA (k := ?_) | refine readA (k := ?_))
        repeat (first | refine codeA (k := ?_) | refine condA (k := ?_) | refine offA (k := ?_) | refine pureA (k := ?_) | refine readA (k := ?_))
        refine At_back (i + 1, ⟨vw, .slice q8 SA.length c8, .slice q9 SB.length c9, .slice q10 TA.length c10, .slice q11 TB.length c11⟩) ?_ fin (by dsimp only; omega)
        (repeat (first | exact Sub.nil | refine Sub.cons rfl ?_))
    · repeat (first | refine codeA (k := ?_) | refine condA (k := ?_) | refine offA (k := ?_) | refine pureA (k := ?_) | refine readA (k := ?_))
      repeat (first | refine codeA (k := ?_) | refine condA (k := ?_) | refine offA (k := ?_) | refine pureA (k := ?_) | refine readA (k := ?_))
      refine At_wp (W_call rfl rfl (peer_spec lo.b.d.lnk) rfl rfl ?_) rfl
      rintro _ _ ⟨rfl, rfl⟩
      by_cases hob : 0 < B.other
      · have g2 := inv.symm.gap hob
        repeat (first | refine codeA (k := ?_) | refine condA (k := ?_) | refine offA (k := ?_) | refine pureA (k := ?_) | refine readA (k := ?_))
        refine At_wp (W_call rfl rfl (waiting_spec lo.b.d.lnk) rfl rfl ?_) rfl
        rintro _ _ ⟨rfl, rfl⟩
        repeat (first | refine codeA (k := ?_) | refine condA (k := ?_) | refine offA (k := ?_) | refine pureA (k := ?_) | refine readA (k := ?_))
        refine At_back (i + 1, ⟨vw, .slice q8 SA.length c8, .slice q9 SB.length c9, .slice q10 TA.length c10, .slice q11 TB.length c11⟩) ?_ fin (by dsimp only; omega)
        (repeat (first | exact Sub.nil | refine Sub.cons rfl ?_))
      · repeat (first | refine codeA (k := ?_) | refine condA (k := ?_) | refine offA (k := ?_) | refine pureA (k := ?_) | refine readA (k := ?_))
        repeat (first | refine codeA (k := ?_) | refine condA (k := ?_) | refine offA (k := ?_) | refine pureA (k := ?_) | refine readA (k := ?_))
        refine At_back (i + 1, ⟨vw, .slice q8 SA.length c8, .slice q9 SB.length c9, .slice q10 TA.length c10, .slice q11 TB.length c11⟩) ?_ fin (by dsimp only; omega)
        (repeat (first | exact Sub.nil | refine Sub.cons rfl ?_))
  refine At_block ?_
  have hFl : F.length ≤ 1000 := by omega
  have hia := inv.xy.slen
  have hib := inv.yx.slen
  by_cases hm0 : m = 0
  · repeat (first | refine codeA (k := ?_) | refine condA (k := ?_) | refine offA (k := ?_) | refine pureA (k := ?_) | refine readA (k := ?_))
    refine At_wp (W_call rfl rfl (ls_send lo5.ba lo5.a lo5.b (by decide) inv (by omega) hb5 (by omega)) rfl rfl ?_) rfl
    rintro r H6 ⟨T6, v6, X6, S6, s6, ba6, x6, y6, inv6, _, fo6, _, hok, hno⟩
    have lo6 := lo5.links s6 (fun t e => .inl e) x6 y6
    have me6 : X6.me = A.me := by
      by_cases hw : A.waits.length < 4
      · rw [(hok hw).2.1]; rfl
      · rw [(hno hw).2.1]
    by_cases hw : A.waits.length < 4
    rotate_left
    · obtain ⟨rfl, rfl, rfl⟩ := hno hw
      repeat (first | refine codeA (k := ?_) | refine condA (k := ?_) | refine offA (k := ?_) | refine pureA (k := ?_) | refine readA (k := ?_))
      refine At_meet (E := (fun (s : Vs) => [(0, .slice (some ⟨bb, o, none⟩) sts.length cs), (3, .pointer (some ⟨pa, 0, none⟩)), (5, .pointer (some ⟨pb, 0, none⟩)), (7, s.w), (8, s.a), (9, s.b), (10, s.c), (11, s.d), (12, .int .i64 i)])) (J := (fun s H' => LO H pa pb (i + 1) s H')) ⟨.slice qw F.length cw, vsa, vsb, vta, vtb⟩ ?_ ⟨T6, v6, vb, X6, B, S6, SB, TA, TB, F, lo6, inv6, ma, mb, by omega⟩
      (repeat (first | exact Sub.nil | refine Sub.cons rfl ?_))
    obtain ⟨rfl, _, hS6⟩ := hok hw
    repeat (first | refine codeA (k := ?_) | refine condA (k := ?_) | refine offA (k := ?_) | refine pureA (k := ?_) | refine readA (k := ?_))
    refine At_wp (W_call rfl rfl (peer_spec x6.d.lnk) rfl rfl ?_) rfl
    rintro _ _ ⟨rfl, rfl⟩
    by_cases ho : 0 < A.other
    rotate_left
    · rw [if_neg ho] at hS6
      subst hS6
      repeat (first | refine codeA (k := ?_) | refine condA (k := ?_) | refine offA (k := ?_) | refine pureA (k := ?_) | refine readA (k := ?_))
      refine At_meet (E := (fun (s : Vs) => [(0, .slice (some ⟨bb, o, none⟩) sts.length cs), (3, .pointer (some ⟨pa, 0, none⟩)), (5, .pointer (some ⟨pb, 0, none⟩)), (7, s.w), (8, s.a), (9, s.b), (10, s.c), (11, s.d), (12, .int .i64 i)])) (J := (fun s H' => LO H pa pb (i + 1) s H')) ⟨.slice qw F.length cw, vsa, vsb, vta, vtb⟩ ?_ ⟨T6, v6, vb, X6, B, S6, SB, TA, TB, F, lo6, inv6, by rw [me6]; exact ma, mb, by omega⟩
      (repeat (first | exact Sub.nil | refine Sub.cons rfl ?_))
    rw [if_pos ho] at hS6
    have q6 := s6.kept.keep q13 (fun e => by rw [t13] at e; cases e)
    have m26 : Cell _ b13 (0 + 2) (.slice pl k.b.length cl) := Cell.of q6 rfl
    have hb6 := bytes_stp hb5 s6 (by decide)
    repeat (first | refine codeA (k := ?_) | refine condA (k := ?_) | refine offA (k := ?_) | refine pureA (k := ?_) | refine readA (k := ?_))
    refine At_wp (W_call rfl rfl (keepTwin_spec hb6 (by omega)) rfl rfl ?_) rfl
    rintro bt H7 ⟨hx7, hb7⟩
    have lo7 := lo6.on hx7
    have hb7' : BytesAt (fun b => T6 b = 0) H7 bt k.b := hb7.mono (fun b hb _ => lo6.ba.new b hb)
    refine At_wp (W_buildSlice1 (cs := #[bt]) rfl hb7'.one.1 rfl (by decide) rfl ?_) rfl
    intro b8 H8 hn8
    have lo8 := lo7.on hn8.ext
    have s8 : Stp (fun _ => False) T6 T6 H7 H8 := Stp.of_ext lo7.ba hn8.ext
    refine At_wp (W_appendOw (row := [bt]) (a := k.b) BRow.keepR lo8.ba (by decide) rfl rfl lo8.sa hn8.at_ rfl ⟨bt, rfl, bytes_stp hb7' s8 (fun f => f)⟩ rfl (by simpa using hb7'.one.2) rfl (by decide) (by omega) (by decide) rfl ?_) rfl
    intro g c9 H9 T9 s9 l9
    have lo9 := lo8.psa s9 l9
    rw [← hS6] at lo9
    repeat (first | refine codeA (k := ?_) | refine condA (k := ?_) | refine offA (k := ?_) | refine pureA (k := ?_) | refine readA (k := ?_))
    refine At_meet (E := (fun (s : Vs) => [(0, .slice (some ⟨bb, o, none⟩) sts.length cs), (3, .pointer (some ⟨pa, 0, none⟩)), (5, .pointer (some ⟨pb, 0, none⟩)), (7, s.w), (8, s.a), (9, s.b), (10, s.c), (11, s.d), (12, .int .i64 i)])) (J := (fun s H' => LO H pa pb (i + 1) s H')) ⟨.slice qw F.length cw, .slice (some ⟨g, 0, none⟩) (SA.length + 1) c9, vsb, vta, vtb⟩ ?_ ⟨T9, v6, vb, X6, B, S6, SB, TA, TB, F, lo9, inv6, by rw [me6]; exact ma, mb, by omega⟩
    (repeat (first | exact Sub.nil | refine Sub.cons rfl ?_))
  by_cases hm1 : m = 1
  · repeat (first | refine codeA (k := ?_) | refine condA (k := ?_) | refine offA (k := ?_) | refine pureA (k := ?_) | refine readA (k := ?_))
    refine At_wp (W_call rfl rfl (ls_send lo5.ba lo5.b lo5.a (by decide) inv.symm (by omega) hb5 (by omega)) rfl rfl ?_) rfl
    rintro r H6 ⟨T6, v6, X6, S6, s6, ba6, x6, y6, inv6, _, fo6, _, hok, hno⟩
    have lo6 := lo5.links s6 (fun t e => .inr e) y6 x6
    have me6 : X6.me = B.me := by
      by_cases hw : B.waits.length < 4
      · rw [(hok hw).2.1]; rfl
      · rw [(hno hw).2.1]
    by_cases hw : B.waits.length < 4
    rotate_left
    · obtain ⟨rfl, rfl, rfl⟩ := hno hw
      repeat (first | refine codeA (k := ?_) | refine condA (k := ?_) | refine offA (k := ?_) | refine pureA (k := ?_) | refine readA (k := ?_))
      refine At_meet (E := (fun (s : Vs) => [(0, .slice (some ⟨bb, o, none⟩) sts.length cs), (3, .pointer (some ⟨pa, 0, none⟩)), (5, .pointer (some ⟨pb, 0, none⟩)), (7, s.w), (8, s.a), (9, s.b), (10, s.c), (11, s.d), (12, .int .i64 i)])) (J := (fun s H' => LO H pa pb (i + 1) s H')) ⟨.slice qw F.length cw, vsa, vsb, vta, vtb⟩ ?_ ⟨T6, va, v6, A, X6, SA, S6, TA, TB, F, lo6, inv6.symm, ma, mb, by omega⟩
      (repeat (first | exact Sub.nil | refine Sub.cons rfl ?_))
    obtain ⟨rfl, _, hS6⟩ := hok hw
    repeat (first | refine codeA (k := ?_) | refine condA (k := ?_) | refine offA (k := ?_) | refine pureA (k := ?_) | refine readA (k := ?_))
    refine At_wp (W_call rfl rfl (peer_spec x6.d.lnk) rfl rfl ?_) rfl
    rintro _ _ ⟨rfl, rfl⟩
    by_cases ho : 0 < B.other
    rotate_left
    · rw [if_neg ho] at hS6
      subst hS6
      repeat (first | refine codeA (k := ?_) | refine condA (k := ?_) | refine offA (k := ?_) | refine pureA (k := ?_) | refine readA (k := ?_))
      refine At_meet (E := (fun (s : Vs) => [(0, .slice (some ⟨bb, o, none⟩) sts.length cs), (3, .pointer (some ⟨pa, 0, none⟩)), (5, .pointer (some ⟨pb, 0, none⟩)), (7, s.w), (8, s.a), (9, s.b), (10, s.c), (11, s.d), (12, .int .i64 i)])) (J := (fun s H' => LO H pa pb (i + 1) s H')) ⟨.slice qw F.length cw, vsa, vsb, vta, vtb⟩ ?_ ⟨T6, va, v6, A, X6, SA, S6, TA, TB, F, lo6, inv6.symm, ma, by rw [me6]; exact mb, by omega⟩
      (repeat (first | exact Sub.nil | refine Sub.cons rfl ?_))
    rw [if_pos ho] at hS6
    have q6 := s6.kept.keep q13 (fun e => by rw [t13] at e; cases e)
    have m26 : Cell _ b13 (0 + 2) (.slice pl k.b.length cl) := Cell.of q6 rfl
    have hb6 := bytes_stp hb5 s6 (by decide)
    repeat (first | refine codeA (k := ?_) | refine condA (k := ?_) | refine offA (k := ?_) | refine pureA (k := ?_) | refine readA (k := ?_))
    refine At_wp (W_call rfl rfl (keepTwin_spec hb6 (by omega)) rfl rfl ?_) rfl
    rintro bt H7 ⟨hx7, hb7⟩
    have lo7 := lo6.on hx7
    have hb7' : BytesAt (fun b => T6 b = 0) H7 bt k.b := hb7.mono (fun b hb _ => lo6.ba.new b hb)
    refine At_wp (W_buildSlice1 (cs := #[bt]) rfl hb7'.one.1 rfl (by decide) rfl ?_) rfl
    intro b8 H8 hn8
    have lo8 := lo7.on hn8.ext
    have s8 : Stp (fun _ => False) T6 T6 H7 H8 := Stp.of_ext lo7.ba hn8.ext
    refine At_wp (W_appendOw (row := [bt]) (a := k.b) BRow.keepR lo8.ba (by decide) rfl rfl lo8.sb hn8.at_ rfl ⟨bt, rfl, bytes_stp hb7' s8 (fun f => f)⟩ rfl (by simpa using hb7'.one.2) rfl (by decide) (by omega) (by decide) rfl ?_) rfl
    intro g c9 H9 T9 s9 l9
    have lo9 := lo8.psb s9 l9
    rw [← hS6] at lo9
    repeat (first | refine codeA (k := ?_) | refine condA (k := ?_) | refine offA (k := ?_) | refine pureA (k := ?_) | refine readA (k := ?_))
    refine At_meet (E := (fun (s : Vs) => [(0, .slice (some ⟨bb, o, none⟩) sts.length cs), (3, .pointer (some ⟨pa, 0, none⟩)), (5, .pointer (some ⟨pb, 0, none⟩)), (7, s.w), (8, s.a), (9, s.b), (10, s.c), (11, s.d), (12, .int .i64 i)])) (J := (fun s H' => LO H pa pb (i + 1) s H')) ⟨.slice qw F.length cw, vsa, .slice (some ⟨g, 0, none⟩) (SB.length + 1) c9, vta, vtb⟩ ?_ ⟨T9, va, v6, A, X6, SA, S6, TA, TB, F, lo9, inv6.symm, ma, by rw [me6]; exact mb, by omega⟩
    (repeat (first | exact Sub.nil | refine Sub.cons rfl ?_))
  by_cases hm2 : m = 2
  · repeat (first | refine codeA (k := ?_) | refine condA (k := ?_) | refine offA (k := ?_) | refine pureA (k := ?_) | refine readA (k := ?_))
    refine At_wp (W_call rfl rfl (frames_c lo5.ba lo5.a (by have := inv.xy.wlen; omega) (fun x hx => by have := (inv.xy.wbody x hx).2; omega)) rfl rfl ?_) rfl
    rintro vl H6 ⟨s6, x6, l6⟩
    have lo6 := lo5.links s6 (fun t e => .inl e) x6 (lo5.b.stp s6 (by decide) (by decide))
    have hfl := framesOf_length (L := A)
    have hwl := inv.xy.wlen
    obtain ⟨ql, cl6, rfl⟩ := ow_form l6
    repeat (first | refine codeA (k := ?_) | refine condA (k := ?_) | refine offA (k := ?_) | refine pureA (k := ?_) | refine readA (k := ?_))
    refine At_wp (W_appendAllOw FRow.keepR frow_one lo6.ba (by decide) rfl rfl lo6.w l6 rfl (by decide) (by omega) (by decide) rfl ?_) rfl
    intro v7 H7 T7 s7 l7
    have lo7 := lo6.pw s7 l7
    repeat (first | refine codeA (k := ?_) | refine condA (k := ?_) | refine offA (k := ?_) | refine pureA (k := ?_) | refine readA (k := ?_))
    refine At_meet (E := (fun (s : Vs) => [(0, .slice (some ⟨bb, o, none⟩) sts.length cs), (3, .pointer (some ⟨pa, 0, none⟩)), (5, .pointer (some ⟨pb, 0, none⟩)), (7, s.w), (8, s.a), (9, s.b), (10, s.c), (11, s.d), (12, .int .i64 i)])) (J := (fun s H' => LO H pa pb (i + 1) s H')) ⟨v7, vsa, vsb, vta, vtb⟩ ?_ ⟨T7, va, vb, _, B, SA, SB, TA, TB, _, lo7, (inv.frames).more, ma, mb, by rw [List.length_append]; omega⟩
    (repeat (first | exact Sub.nil | refine Sub.cons rfl ?_))
  by_cases hm3 : m = 3
  · repeat (first | refine codeA (k := ?_) | refine condA (k := ?_) | refine offA (k := ?_) | refine pureA (k := ?_) | refine readA (k := ?_))
    refine At_wp (W_call rfl rfl (frames_c lo5.ba lo5.b (by have := inv.yx.wlen; omega) (fun x hx => by have := (inv.yx.wbody x hx).2; omega)) rfl rfl ?_) rfl
    rintro vl H6 ⟨s6, x6, l6⟩
    have lo6 := lo5.links s6 (fun t e => .inr e) (lo5.a.stp s6 (by decide) (by decide)) x6
    have hfl := framesOf_length (L := B)
    have hwl := inv.yx.wlen
    obtain ⟨ql, cl6, rfl⟩ := ow_form l6
    repeat (first | refine codeA (k := ?_) | refine condA (k := ?_) | refine offA (k := ?_) | refine pureA (k := ?_) | refine readA (k := ?_))
    refine At_wp (W_appendAllOw FRow.keepR frow_one lo6.ba (by decide) rfl rfl lo6.w l6 rfl (by decide) (by omega) (by decide) rfl ?_) rfl
    intro v7 H7 T7 s7 l7
    have lo7 := lo6.pw s7 l7
    repeat (first | refine codeA (k := ?_) | refine condA (k := ?_) | refine offA (k := ?_) | refine pureA (k := ?_) | refine readA (k := ?_))
    refine At_meet (E := (fun (s : Vs) => [(0, .slice (some ⟨bb, o, none⟩) sts.length cs), (3, .pointer (some ⟨pa, 0, none⟩)), (5, .pointer (some ⟨pb, 0, none⟩)), (7, s.w), (8, s.a), (9, s.b), (10, s.c), (11, s.d), (12, .int .i64 i)])) (J := (fun s H' => LO H pa pb (i + 1) s H')) ⟨v7, vsa, vsb, vta, vtb⟩ ?_ ⟨T7, va, vb, A, _, SA, SB, TA, TB, _, lo7, (inv.symm.frames.symm).more, ma, mb, by rw [List.length_append]; omega⟩
    (repeat (first | exact Sub.nil | refine Sub.cons rfl ?_))
  by_cases hm7 : m = 7
  · by_cases hz : F.length = 0
    · repeat (first | refine codeA (k := ?_) | refine condA (k := ?_) | refine offA (k := ?_) | refine pureA (k := ?_) | refine readA (k := ?_))
      refine At_meet (E := (fun (s : Vs) => [(0, .slice (some ⟨bb, o, none⟩) sts.length cs), (3, .pointer (some ⟨pa, 0, none⟩)), (5, .pointer (some ⟨pb, 0, none⟩)), (7, s.w), (8, s.a), (9, s.b), (10, s.c), (11, s.d), (12, .int .i64 i)])) (J := (fun s H' => LO H pa pb (i + 1) s H')) ⟨.slice qw F.length cw, vsa, vsb, vta, vtb⟩ ?_ ⟨T, va, vb, A, B, SA, SB, TA, TB, F, lo5, inv.more, ma, mb, by omega⟩
      (repeat (first | exact Sub.nil | refine Sub.cons rfl ?_))
    obtain ⟨j, hj, hjl⟩ : ∃ j : Nat, IntKind.i64.wrap (IntKind.u64.wrap k.n % IntKind.u64.wrap F.length) = j ∧ j < F.length := by
      have a1 := u64_nonneg k.n
      have a2 : IntKind.u64.wrap F.length = F.length := IntWalk.u64_in _ (by omega)
      have a3 := Int.emod_nonneg (IntKind.u64.wrap k.n) (b := F.length) (by omega)
      have a4 := Int.emod_lt_of_pos (IntKind.u64.wrap k.n) (b := F.length) (by omega)
      rw [a2, IntWalk.i64_in _ (by omega)]
      exact ⟨(IntKind.u64.wrap k.n % F.length).toNat, by omega, by omega⟩
    have hne : IntKind.u64.wrap F.length ≠ 0 := by rw [IntWalk.u64_in _ (by omega)]; omega
    obtain ⟨gw, rfl⟩ := ow_some lo5.w (by omega)
    repeat (first | refine codeA (k := ?_) | refine condA (k := ?_) | refine offA (k := ?_) | refine pureA (k := ?_) | refine readA (k := ?_))
    refine At_pure (p_convInt rfl) rfl rfl rfl ?_
    repeat (first | refine codeA (k := ?_) | refine condA (k := ?_) | refine offA (k := ?_) | refine pureA (k := ?_) | refine readA (k := ?_))
    refine At_pure (p_convInt rfl) rfl rfl rfl ?_
    refine At_pure (p_rem rfl rfl (u64_nonneg _) hne) rfl rfl rfl ?_
    refine At_pure (p_convInt rfl) rfl rfl rfl ?_
    rw [hj]
    repeat (first | refine codeA (k := ?_) | refine condA (k := ?_) | refine offA (k := ?_) | refine pureA (k := ?_) | refine readA (k := ?_))
    obtain ⟨rows, hor, hrl, hrr⟩ := lo5.w.d.rowsR
    have hone : ∀ r ∈ rows, ∀ u ∈ r, u.oneCell' = true := fun r hr => by
      obtain ⟨x, hx⟩ := List.mem_iff_getElem?.1 hr
      have hlt : x < F.length := by rw [← hrl]; exact (List.getElem?_eq_some_iff.1 hx).1
      exact frow_one _ _ _ _ (hrr x F[x] r (by simp [hlt]) hx)
    have hor' : OwnR H5 34 7 (.slice (some ⟨gw, 0, none⟩) rows.length cw) rows := by rw [hrl]; exact hor
    obtain ⟨_, _, _, hrc, hcm, _, _⟩ := hor'.block
    have tgw : T gw = 3 := lo5.w.tv gw rfl
    have done : ∀ (H' : Heap) (rows1 : List (List Value)), OwnR H' 34 7 (.slice (some ⟨gw, 0, none⟩) rows.length cw) rows1 → rows1.length = rows.length → rows1.take (F.length - 1) = rows.eraseIdx j → Kept (· = gw) H5 H' →
        LO H pa pb (i + 1) ⟨.slice (some ⟨gw, 0, none⟩) (F.length - 1 : Nat) cw, vsa, vsb, vta, vtb⟩ H' := fun H' rows1 ho1 hl1 ht1 hk1 => by
      have s1 : Stp (· = 3) T T H5 H' := ⟨hk1.mono (fun b e _ => by subst e; exact tgw), fun _ _ => rfl, fun b hb => lo5.ba.new b (by have := hk1.size; omega)⟩
      have ho2 : OwnR H' 34 7 (.slice (some ⟨gw, 0, none⟩) (F.length - 1 : Nat) cw) (rows1.take (F.length - 1)) := by
        have : OwnR H' 34 7 (.slice (some ⟨gw, 0, none⟩) rows1.length cw) rows1 := by rw [hl1]; exact ho1
        exact this.short (by omega)
      rw [ht1] at ho2
      have hel : (F.eraseIdx j).length = F.length - 1 := by rw [List.length_eraseIdx, if_pos hjl]
      have l1 : Ow T H' 3 34 7 FRow (.slice (some ⟨gw, 0, none⟩) (F.length - 1 : Nat) cw) (F.eraseIdx j) := by
        refine ⟨OwnR.toL ho2 (by rw [List.length_eraseIdx, List.length_eraseIdx, hrl]) (fun x f row hx hr => ?_), fun g hg => ?_⟩
        · have cv : ∀ (x : Nat) (f : Fr) (row : List Value), F[x]? = some f → rows[x]? = some row → FRow (fun b => T b = 0) H' f row := fun x f row hx hr =>
            FRow.keepR _ _ _ _ _ f row (hrr x f row hx hr) hk1 (fun b hb _ => ⟨fun e => by subst e; omega, hb⟩)
          rw [List.getElem?_eraseIdx] at hx hr
          split at hx
          · rename_i e
            rw [if_pos e] at hr
            exact cv x f row hx hr
          · rename_i e
            rw [if_neg e] at hr
            exact cv _ f row hx hr
        · simp only [Value.ownBlock, Option.some.injEq] at hg
          subst hg
          exact tgw
      exact ⟨T, va, vb, A, B, SA, SB, TA, TB, F.eraseIdx j, lo5.pw s1 l1, (inv.fewer (fun f hf => List.mem_of_mem_eraseIdx hf)).more, ma, mb, by omega⟩
    by_cases hl : j + 1 = F.length
    · refine At_draw [] (fun _ => True) Try.mixed ?_
      first | refine gA 0 (k := ?_) | refine goffA 0 (k := ?_)
      first | refine gA 1 (k := ?_) | refine goffA 1 (k := ?_)
      refine gpA 2 (p_slice_hi (c := cw) (j := j) rfl rfl (by omega)) (k := ?_)
      first | refine gA 3 (k := ?_) | refine goffA 3 (k := ?_)
      first | refine gA 4 (k := ?_) | refine goffA 4 (k := ?_)
      first | refine gA 5 (k := ?_) | refine goffA 5 (k := ?_)
      refine gpA 6 (p_slice_any (l := F.length) (c := cw) (i := j + 1) (k := 0) rfl rfl (by omega) (by omega) (by omega)) (k := ?_)
      refine G_op 7 rfl (by kernel_rfl) rfl (W_run (Reads.runs (r_append0 (c2 := cw - (j + 1)) (q := if cw = j + 1 then some ⟨gw, 0, none⟩ else some ⟨gw, 0 + (j + 1) * 7, none⟩) rfl rfl (by omega))) rfl rfl ?_)
      refine G_next (fun _ _ => trivial) ?_
      first | refine gA 8 (k := ?_) | refine goffA 8 (k := ?_)
      refine G_done (by kernel_rfl) ?_
      have e : j = F.length - 1 := by omega
      repeat (first | refine codeA (k := ?_) | refine condA (k := ?_) | refine offA (k := ?_) | refine pureA (k := ?_) | refine readA (k := ?_))
      refine At_meet (E := (fun (s : Vs) => [(0, .slice (some ⟨bb, o, none⟩) sts.length cs), (3, .pointer (some ⟨pa, 0, none⟩)), (5, .pointer (some ⟨pb, 0, none⟩)), (7, s.w), (8, s.a), (9, s.b), (10, s.c), (11, s.d), (12, .int .i64 i)])) (J := (fun s H' => LO H pa pb (i + 1) s H')) ⟨.slice (some ⟨gw, 0, none⟩) j cw, vsa, vsb, vta, vtb⟩ ?_ ?_
      · (repeat (first | exact Sub.nil | refine Sub.cons rfl ?_))
      · have := done H5 rows hor' rfl (by rw [← e, List.eraseIdx_eq_take_drop_succ, List.drop_eq_nil_of_le (by omega), List.append_nil]) (Kept.refl _ _)
        rw [← e] at this
        exact this
    · refine At_draw [] (fun _ => True) Try.mixed ?_
      first | refine gA 0 (k := ?_) | refine goffA 0 (k := ?_)
      first | refine gA 1 (k := ?_) | refine goffA 1 (k := ?_)
      refine gpA 2 (p_slice_hi (c := cw) (j := j) rfl rfl (by omega)) (k := ?_)
      first | refine gA 3 (k := ?_) | refine goffA 3 (k := ?_)
      first | refine gA 4 (k := ?_) | refine goffA 4 (k := ?_)
      first | refine gA 5 (k := ?_) | refine goffA 5 (k := ?_)
      refine gpA 6 (p_slice_lo (l := F.length) (c := cw) (i := j + 1) rfl rfl (by omega) (by omega)) (k := ?_)
      refine G_op 7 rfl (by kernel_rfl) rfl (W_appendIn (m := F.length - (j + 1)) (j := j + 1) rfl rfl hor' (by omega) (by omega) hone rfl ?_) 
      intro H6 rows6 ho6 er hk6 hs6
      refine G_next (fun _ _ => trivial) ?_
      first | refine gA 8 (k := ?_) | refine goffA 8 (k := ?_)
      refine G_done (by kernel_rfl) ?_
      have e : j + (F.length - (j + 1)) = F.length - 1 := by omega
      rw [e] at *
      repeat (first | refine codeA (k := ?_) | refine condA (k := ?_) | refine offA (k := ?_) | refine pureA (k := ?_) | refine readA (k := ?_))
      refine At_meet (E := (fun (s : Vs) => [(0, .slice (some ⟨bb, o, none⟩) sts.length cs), (3, .pointer (some ⟨pa, 0, none⟩)), (5, .pointer (some ⟨pb, 0, none⟩)), (7, s.w), (8, s.a), (9, s.b), (10, s.c), (11, s.d), (12, .int .i64 i)])) (J := (fun s H' => LO H pa pb (i + 1) s H')) ⟨.slice (some ⟨gw, 0, none⟩) (F.length - 1 : Nat) cw, vsa, vsb, vta, vtb⟩ ?_ (done H6 rows6 ho6 ?_ ?_ hk6)
      · (repeat (first | exact Sub.nil | refine Sub.cons rfl ?_))
      · rw [er]; simp; omega
      · rw [er, List.take_left' (by simp; omega), List.eraseIdx_eq_take_drop_succ]
  by_cases hz : F.length = 0
  · repeat (first | refine codeA (k := ?_) | refine condA (k := ?_) | refine offA (k := ?_) | refine pureA (k := ?_) | refine readA (k := ?_))
    refine At_back (i + 1, ⟨.slice qw F.length cw, vsa, vsb, vta, vtb⟩) ?_ ⟨by dsimp only; omega, by dsimp only; omega, T, va, vb, A, B, SA, SB, TA, TB, F, lo5, inv.more, ma, mb, by omega⟩ (by dsimp only; omega)
    (repeat (first | exact Sub.nil | refine Sub.cons rfl ?_))
  obtain ⟨j, hj, hjl⟩ : ∃ j : Nat, IntKind.i64.wrap (IntKind.u64.wrap k.n % IntKind.u64.wrap F.length) = j ∧ j < F.length := by
    have a1 := u64_nonneg k.n
    have a2 : IntKind.u64.wrap F.length = F.length := IntWalk.u64_in _ (by omega)
    have a3 := Int.emod_nonneg (IntKind.u64.wrap k.n) (b := F.length) (by omega)
    have a4 := Int.emod_lt_of_pos (IntKind.u64.wrap k.n) (b := F.length) (by omega)
    rw [a2, IntWalk.i64_in _ (by omega)]
    exact ⟨(IntKind.u64.wrap k.n % F.length).toNat, by omega, by omega⟩
  have hne : IntKind.u64.wrap F.length ≠ 0 := by rw [IntWalk.u64_in _ (by omega)]; omega
  obtain ⟨gw, rfl⟩ := ow_some lo5.w (by omega)
  have hxj : F[j]? = some F[j] := by simp [hjl]
  generalize F[j] = x at hxj
  have hxm := List.mem_of_getElem? hxj
  obtain ⟨rw5, ⟨bx, f1, f2⟩, f3, f4⟩ := lo5.w.d.cells hxj
  subst f1
  repeat (first | refine codeA (k := ?_) | refine condA (k := ?_) | refine offA (k := ?_) | refine pureA (k := ?_) | refine readA (k := ?_))
  refine At_pure (p_convInt rfl) rfl rfl rfl ?_
  repeat (first | refine codeA (k := ?_) | refine condA (k := ?_) | refine offA (k := ?_) | refine pureA (k := ?_) | refine readA (k := ?_))
  refine At_pure (p_convInt rfl) rfl rfl rfl ?_
  refine At_pure (p_rem rfl rfl (u64_nonneg _) hne) rfl rfl rfl ?_
  refine At_pure (p_convInt rfl) rfl rfl rfl ?_
  rw [hj]
  repeat (first | refine codeA (k := ?_) | refine condA (k := ?_) | refine offA (k := ?_) | refine pureA (k := ?_) | refine readA (k := ?_))
  refine At_read (r_loadN (b := gw) (o := 0 + j * 7) (cs := frCells x bx) rfl rfl rfl (fun jj u hu => by rw [Nat.zero_add]; exact f4 jj u hu)) rfl rfl rfl ?_
  refine At_wp (W_alloc rfl rfl ?_) rfl
  intro b15 H6 hn6
  have ob := f2.one.1
  refine At_wp (W_storeB (cs' := (frCells x bx).toArray) rfl rfl hn6.at_ rfl rfl rfl ?_ ?_) rfl
  · obtain ⟨p, c, rfl⟩ := f2.form
    rfl
  intro H7 p7
  have b15' := hn6.blk
  have hx7 : Ext H5 H7 := Kept.trans hn6.ext p7.kept (fun _ f _ => f) (fun j e hl => by omega)
  have lo7 := lo5.on hx7
  have q15 := p7.at_
  have m15 : Cell H7 b15 (0 + 1) (.int .i64 x.to) := Cell.of q15 rfl
  have hb7 := f2.keep (D' := fun b => T b = 0) hx7 (fun b hb _ => ⟨fun f => f, hb⟩)
  repeat (first | refine codeA (k := ?_) | refine condA (k := ?_) | refine offA (k := ?_) | refine pureA (k := ?_) | refine readA (k := ?_))
  by_cases h4 : x.to = 4
  · -- taken at b
    have hto : x.to = B.me := by omega
    have hmay := (inv).may hxm hto
    have htk := take_c (f := x) lo7.ba lo7.b hb7 hmay (by have h1 := inv.xy.came; have h2 := inv.xy.tle; have h3 := inv.xy.slen; omega)
    have hstep := (inv).take hxm hto
    have hme8 := takeL_me B x
    have hby := takeL_some B x
    have hxl := (inv.xy.fr x hxm hto).len
    generalize takeL B x = tk at htk hstep hme8 hby
    obtain ⟨L', oo⟩ := tk
    repeat (first | refine codeA (k := ?_) | refine condA (k := ?_) | refine offA (k := ?_) | refine pureA (k := ?_) | refine readA (k := ?_))
    refine At_read (r_loadB rfl q15 rfl rfl) rfl rfl rfl ?_
    refine At_wp (W_call rfl rfl htk rfl rfl ?_) rfl
    rintro _ H8 ⟨s8, bv8, v8, rfl, hb8, x8⟩
    have lo8 := lo7.links s8 (fun t e => .inr e) (lo7.a.stp s8 (by decide) (by decide)) x8
    cases oo with
    | none =>
      have hstep' : Inv A L' SA SB TA TB F i := by
        have := hstep
        simpa using this
      obtain ⟨pz, cz, hz8⟩ := hb8.form
      have hz8' : bv8 = .slice pz (0 : Nat) cz := hz8
      subst hz8'
      repeat (first | refine codeA (k := ?_) | refine condA (k := ?_) | refine offA (k := ?_) | refine pureA (k := ?_) | refine readA (k := ?_))
      refine At_meet (E := (fun (s : Vs) => [(0, .slice (some ⟨bb, o, none⟩) sts.length cs), (3, .pointer (some ⟨pa, 0, none⟩)), (5, .pointer (some ⟨pb, 0, none⟩)), (7, s.w), (8, s.a), (9, s.b), (10, s.c), (11, s.d), (12, .int .i64 i)])) (J := (fun s H' => LO H pa pb (i + 1) s H')) ⟨.slice (some ⟨gw, 0, none⟩) F.length cw, vsa, vsb, vta, vtb⟩ ?_ ⟨T, va, v8, A, L', SA, SB, TA, TB, F, lo8, hstep'.more, ma, by rw [← mb]; exact hme8, by omega⟩
      (repeat (first | exact Sub.nil | refine Sub.cons rfl ?_))
    | some y =>
      have hstep' : Inv A L' SA SB TA (TB ++ [y]) F i := by
        have := hstep
        simpa using this
      have hb8' : BytesAt (fun b => T b = 0) H8 bv8 y := hb8
      have hyl : y.length ≤ 70368744177664 := by
        rw [hby y rfl]
        omega
      obtain ⟨pz, cz, rfl⟩ := hb8'.form
      repeat (first | refine codeA (k := ?_) | refine condA (k := ?_) | refine offA (k := ?_) | refine pureA (k := ?_) | refine readA (k := ?_))
      refine At_wp (W_call rfl rfl (keepTwin_spec hb8' hyl) rfl rfl ?_) rfl
      rintro bt H9 ⟨hx9, hb9⟩
      have lo9 := lo8.on hx9
      have hb9' : BytesAt (fun b => T b = 0) H9 bt y := hb9.mono (fun b hb _ => lo8.ba.new b hb)
      refine At_wp (W_buildSlice1 (cs := #[bt]) rfl hb9'.one.1 rfl (by decide) rfl ?_) rfl
      intro b10 H10 hn10
      have lo10 := lo9.on hn10.ext
      have s10 : Stp (fun _ => False) T T H9 H10 := Stp.of_ext lo9.ba hn10.ext
      have htl := inv.xy.tle
      refine At_wp (W_appendOw (row := [bt]) (a := y) BRow.keepR lo10.ba (by decide) rfl rfl lo10.tb hn10.at_ rfl ⟨bt, rfl, bytes_stp hb9' s10 (fun f => f)⟩ rfl (by simpa using hb9'.one.2) rfl (by decide) (by omega) (by decide) rfl ?_) rfl
      intro g c11 H11 T11 s11 l11
      have lo11 := lo10.ptb s11 l11
      repeat (first | refine codeA (k := ?_) | refine condA (k := ?_) | refine offA (k := ?_) | refine pureA (k := ?_) | refine readA (k := ?_))
      refine At_meet (E := (fun (s : Vs) => [(0, .slice (some ⟨bb, o, none⟩) sts.length cs), (3, .pointer (some ⟨pa, 0, none⟩)), (5, .pointer (some ⟨pb, 0, none⟩)), (7, s.w), (8, s.a), (9, s.b), (10, s.c), (11, s.d), (12, .int .i64 i)])) (J := (fun s H' => LO H pa pb (i + 1) s H')) ⟨.slice (some ⟨gw, 0, none⟩) F.length cw, vsa, vsb, vta, .slice (some ⟨g, 0, none⟩) (TB.length + 1) c11⟩ ?_ ⟨T11, va, v8, A, L', SA, SB, TA, (TB ++ [y]), F, lo11, hstep'.more, ma, by rw [← mb]; exact hme8, by omega⟩
      (repeat (first | exact Sub.nil | refine Sub.cons rfl ?_))
  · -- taken at a
    have hft := inv.fto x hxm
    have hto : x.to = A.me := by omega
    have hmay := (inv.symm).may hxm hto
    have htk := take_c (f := x) lo7.ba lo7.a hb7 hmay (by have h1 := inv.yx.came; have h2 := inv.yx.tle; have h3 := inv.yx.slen; omega)
    have hstep := (inv.symm).take hxm hto
    have hme8 := takeL_me A x
    have hby := takeL_some A x
    have hxl := (inv.yx.fr x hxm hto).len
    generalize takeL A x = tk at htk hstep hme8 hby
    obtain ⟨L', oo⟩ := tk
    repeat (first | refine codeA (k := ?_) | refine condA (k := ?_) | refine offA (k := ?_) | refine pureA (k := ?_) | refine readA (k := ?_))
    refine At_read (r_loadB rfl q15 rfl rfl) rfl rfl rfl ?_
    refine At_wp (W_call rfl rfl htk rfl rfl ?_) rfl
    rintro _ H8 ⟨s8, bv8, v8, rfl, hb8, x8⟩
    have lo8 := lo7.links s8 (fun t e => .inl e) x8 (lo7.b.stp s8 (by decide) (by decide))
    cases oo with
    | none =>
      have hstep' : Inv L' B SA SB TA TB F i := by
        have := hstep.symm
        simpa using this
      obtain ⟨pz, cz, hz8⟩ := hb8.form
      have hz8' : bv8 = .slice pz (0 : Nat) cz := hz8
      subst hz8'
      repeat (first | refine codeA (k := ?_) | refine condA (k := ?_) | refine offA (k := ?_) | refine pureA (k := ?_) | refine readA (k := ?_))
      refine At_meet (E := (fun (s : Vs) => [(0, .slice (some ⟨bb, o, none⟩) sts.length cs), (3, .pointer (some ⟨pa, 0, none⟩)), (5, .pointer (some ⟨pb, 0, none⟩)), (7, s.w), (8, s.a), (9, s.b), (10, s.c), (11, s.d), (12, .int .i64 i)])) (J := (fun s H' => LO H pa pb (i + 1) s H')) ⟨.slice (some ⟨gw, 0, none⟩) F.length cw, vsa, vsb, vta, vtb⟩ ?_ ⟨T, v8, vb, L', B, SA, SB, TA, TB, F, lo8, hstep'.more, by rw [← ma]; exact hme8, mb, by omega⟩
      (repeat (first | exact Sub.nil | refine Sub.cons rfl ?_))
    | some y =>
      have hstep' : Inv L' B SA SB (TA ++ [y]) TB F i := by
        have := hstep.symm
        simpa using this
      have hb8' : BytesAt (fun b => T b = 0) H8 bv8 y := hb8
      have hyl : y.length ≤ 70368744177664 := by
        rw [hby y rfl]
        omega
      obtain ⟨pz, cz, rfl⟩ := hb8'.form
      repeat (first | refine codeA (k := ?_) | refine condA (k := ?_) | refine offA (k := ?_) | refine pureA (k := ?_) | refine readA (k := ?_))
      refine At_wp (W_call rfl rfl (keepTwin_spec hb8' hyl) rfl rfl ?_) rfl
      rintro bt H9 ⟨hx9, hb9⟩
      have lo9 := lo8.on hx9
      have hb9' : BytesAt (fun b => T b = 0) H9 bt y := hb9.mono (fun b hb _ => lo8.ba.new b hb)
      refine At_wp (W_buildSlice1 (cs := #[bt]) rfl hb9'.one.1 rfl (by decide) rfl ?_) rfl
      intro b10 H10 hn10
      have lo10 := lo9.on hn10.ext
      have s10 : Stp (fun _ => False) T T H9 H10 := Stp.of_ext lo9.ba hn10.ext
      have htl := inv.yx.tle
      refine At_wp (W_appendOw (row := [bt]) (a := y) BRow.keepR lo10.ba (by decide) rfl rfl lo10.ta hn10.at_ rfl ⟨bt, rfl, bytes_stp hb9' s10 (fun f => f)⟩ rfl (by simpa using hb9'.one.2) rfl (by decide) (by omega) (by decide) rfl ?_) rfl
      intro g c11 H11 T11 s11 l11
      have lo11 := lo10.pta s11 l11
      repeat (first | refine codeA (k := ?_) | refine condA (k := ?_) | refine offA (k := ?_) | refine pureA (k := ?_) | refine readA (k := ?_))
      refine At_meet (E := (fun (s : Vs) => [(0, .slice (some ⟨bb, o, none⟩) sts.length cs), (3, .pointer (some ⟨pa, 0, none⟩)), (5, .pointer (some ⟨pb, 0, none⟩)), (7, s.w), (8, s.a), (9, s.b), (10, s.c), (11, s.d), (12, .int .i64 i)])) (J := (fun s H' => LO H pa pb (i + 1) s H')) ⟨.slice (some ⟨gw, 0, none⟩) F.length cw, vsa, vsb, .slice (some ⟨g, 0, none⟩) (TA.length + 1) c11, vtb⟩ ?_ ⟨T11, v8, vb, L', B, SA, SB, (TA ++ [y]), TB, F, lo11, hstep'.more, by rw [← ma]; exact hme8, mb, by omega⟩
      (repeat (first | exact Sub.nil | refine Sub.cons rfl ?_))
end Go.Proofs.Ytdbmhcchgbpccaa
