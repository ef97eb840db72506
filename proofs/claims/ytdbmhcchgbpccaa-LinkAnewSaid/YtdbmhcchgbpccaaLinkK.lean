/- The walk of LinkAnew. -/
import Derived.Test.YtdbmhcchgbpccaaLinkI
namespace Go.Proofs.Ytdbmhcchgbpccaa
open Go Ev
set_option linter.unusedVariables false
set_option linter.unusedSimpArgs false
attribute [local irreducible] Go.wpList Go.bodyPost Go.Code.wp Go.Exit.then Go.Exit.inBlock Go.Exit.noGoto Ev.wpAnyG Go.Oper.wp Ev.Back Ev.Left Ev.Spc Ev.At Ev.Pure Ev.Reads Ev.Runs Ev.Does Ev.Cell

theorem pass_one {T : Nat → Nat} {H0 H : Heap} {t1 t2 p1 p2 : Nat} {v1 v2 : Value} {X Y : Lk} {f : Fr} (hba : Ba H0 T H) (hx : Lc T H t1 p1 v1 X) (hy : Lc T H t2 p2 v2 Y) (h12 : t1 ≠ t2) (hF : framesOf X = [f]) (hw : X.waits.length ≤ 4) (hb : ∀ x ∈ X.waits, x.2.length ≤ 131072)
    (hm : MayB Y f) (hc : 0 ≤ Y.came ∧ Y.came ≤ 1000000000000) :
    Spc Try.prog 18 #[.pointer (some ⟨p1, 0, none⟩), .pointer (some ⟨p2, 0, none⟩), .int .i64 (-1)] H fun r H' => r = .tuple #[] ∧ Stp (fun t => t = t1 ∨ t = t2) T T H H' ∧ Lc T H' t1 p1 v1 { X with owes := false } ∧ ∃ v2', Lc T H' t2 p2 v2' (takeL Y f).1 := by
  refine (pass_c (n := -1) hba hx hy h12 hw hb (fun i Y' => (i = 0 ∧ Y' = Y) ∨ (i = 1 ∧ Y' = (takeL Y f).1)) (.inl ⟨rfl, rfl⟩) ?_).mono ?_
  · intro i g Y' hg hP
    rw [hF] at hg
    have hi : i = 0 := by
      have := (List.getElem?_eq_some_iff.1 hg).1
      simpa using this
    subst hi
    obtain rfl : f = g := by simpa using hg
    rcases hP with ⟨_, rfl⟩ | ⟨h, _⟩
    · exact ⟨hm, hc, .inr ⟨rfl, by rw [if_pos (by decide)]⟩⟩
    · cases h
  · rintro r H' ⟨h1, h2, h3, v2', Y', h4, h5⟩
    rw [hF] at h5
    rcases h5 with ⟨h, _⟩ | ⟨_, rfl⟩
    · cases h
    · exact ⟨h1, h2, h3, v2', h4⟩

def anA (bs : List (List UInt8)) (i : Nat) : Lk := ⟨0, 1, 1, 1, num 0 (bs.take i), i, 0, false⟩
theorem anA_len (bs : List (List UInt8)) (i : Nat) (h : i ≤ bs.length) : (anA bs i).waits.length = i := by
  show (num 0 (bs.take i)).length = i
  rw [num_length]; simp; omega
theorem anA_step (bs : List (List UInt8)) (i : Nat) (l : List UInt8) (h : bs[i]? = some l) : sentL (anA bs i) l = anA bs (i + 1) := by
  have hl := (List.getElem?_eq_some_iff.1 h).1
  have e1 : bs.take (i + 1) = bs.take i ++ [l] := by rw [List.take_add_one, h]; rfl
  have e2 : (bs.take i).length = i := by simp; omega
  unfold sentL anA
  dsimp only
  rw [e1, num_append, e2]
  simp only [num, Nat.zero_add]
  rfl
theorem anA_frames (bs : List (List UInt8)) (i : Nat) : framesOf (anA bs i) = (num 0 (bs.take i)).map (frOf (anA bs i)) := by
  unfold framesOf
  rw [if_neg (fun e => by cases e.2)]
  rfl
theorem anA_wait {bs : List (List UInt8)} {i : Nat} (hb : ∀ l ∈ bs, l.length ≤ 1000) {x : Int × List UInt8} (hx : x ∈ (anA bs i).waits) : 0 < x.1 ∧ x.2.length ≤ 1000 := by
  obtain ⟨j, h1, h2⟩ := num_mem hx
  refine ⟨by omega, hb _ ?_⟩
  have := List.mem_of_getElem? h1
  exact List.mem_of_mem_take this
def anC (ep : Int) (i : Nat) : Lk := if i = 0 then ⟨1, 0, ep, 0, [], 0, 0, false⟩ else ⟨1, 0, ep, 1, [], 0, 0, true⟩
theorem anC_take {ep : Int} (he : 2 ≤ ep) (i : Nat) {f : Fr} (h1 : f.epoch = 1) (h2 : f.peer = 1) : takeL (anC ep i) f = (anC ep (i + 1), none) := by
  obtain ⟨f0, f1, f2, f3, f4, f5, f6⟩ := f
  dsimp only at h1 h2
  subst h1
  subst h2
  unfold anC
  rw [if_neg (Nat.succ_ne_zero i)]
  have hne : (1 : Int) ≠ ep := by omega
  split
  · unfold takeL takeA takeB
    simp [hne]
  · unfold takeL takeA takeB
    simp [hne]

set_option maxHeartbeats 4000000 in
theorem linkAnew_walk {H : Heap} {v : Value} {ep : Int} {bs : List (List UInt8)} (hv : SliceAt (fun _ => True) H 1 (BRow (fun _ => True) H) v bs) :
    Spc Try.prog 6 #[v, .int .i64 ep] H fun r H' => Ext H H' ∧ r = .bool true := by
  have hlen := hv.len_le
  simp only [maxLen] at hlen
  obtain ⟨q, c, rfl⟩ := hv.form
  refine spec_of Try.func6 rfl Try.ntmps6 rfl (fun W => ?_)
  by_cases h1 : bs.length > 4
  · repeat (first | refine codeA (k := ?_) | refine condA (k := ?_) | refine offA (k := ?_) | refine pureA (k := ?_) | refine readA (k := ?_))
    exact At_ret1 rfl rfl ⟨Kept.refl _ _, rfl⟩
  by_cases h2 : ep < 2
  · repeat (first | refine codeA (k := ?_) | refine condA (k := ?_) | refine offA (k := ?_) | refine pureA (k := ?_) | refine readA (k := ?_))
    exact At_ret1 rfl rfl ⟨Kept.refl _ _, rfl⟩
  by_cases h3 : ep > 1073741824
  · repeat (first | refine codeA (k := ?_) | refine condA (k := ?_) | refine offA (k := ?_) | refine pureA (k := ?_) | refine readA (k := ?_))
    exact At_ret1 rfl rfl ⟨Kept.refl _ _, rfl⟩
  have ba0 : Ba H (fun _ => 0) H := ⟨Kept.refl _ _, fun _ _ => rfl, fun _ _ => rfl⟩
  repeat (first | refine codeA (k := ?_) | refine condA (k := ?_) | refine offA (k := ?_) | refine pureA (k := ?_) | refine readA (k := ?_))
  refine At_wp (W_call rfl rfl (new_ok 0 1 1 H (by decide) (by decide) (by decide)) rfl rfl ?_) rfl
  rintro _ H1 ⟨pa, rfl, hn1⟩
  obtain ⟨T1, s1, a1⟩ := new_c (t := 1) ba0 (by decide) hn1
  have ba1 := ba0.stp s1 (fun f => f)
  repeat (first | refine codeA (k := ?_) | refine condA (k := ?_) | refine offA (k := ?_) | refine pureA (k := ?_) | refine readA (k := ?_))
  refine At_wp (W_call rfl rfl (new_ok 1 0 1 H1 (by decide) (by decide) (by decide)) rfl rfl ?_) rfl
  rintro _ H2 ⟨pb, rfl, hn2⟩
  obtain ⟨T2, s2, b2⟩ := new_c (t := 2) ba1 (by decide) hn2
  have ba2 := ba1.stp s2 (fun f => f)
  have a2 := a1.stp s2 (fun f => f) (fun f => f)
  repeat (first | refine codeA (k := ?_) | refine condA (k := ?_) | refine offA (k := ?_) | refine pureA (k := ?_) | refine readA (k := ?_))
  refine At_wp (W_buildSlice1 rfl rfl rfl (by decide) rfl ?_) rfl
  intro b3 H3 hn3
  refine At_wp (W_convertBytes rfl hn3.at_ rfl ?_) rfl
  intro H4 p4
  obtain ⟨x4, hb4⟩ := lit_byte (l := [120]) ba2 hn3 p4 (by decide)
  have s4 : Stp (fun _ => False) T2 T2 H2 H4 := Stp.of_ext ba2 x4
  have ba4 := ba2.stp s4 (fun f => f)
  have a4 := a2.stp s4 (fun f => f) (fun f => f)
  have b4 := b2.stp s4 (fun f => f) (fun f => f)
  refine At_wp (W_call rfl rfl (send_c ba4 a4 hb4 (by decide) (by decide) (by decide)) rfl rfl ?_) rfl
  rintro _ H5 ⟨rfl, T5, va5, s5, a5⟩
  have ba5 := ba4.stp s5 (by decide)
  have b5 := b4.stp s5 (by decide) (by decide)
  have a5' : Lc T5 H5 1 pa va5 ⟨0, 1, 1, 0, [(1, [120])], 1, 0, false⟩ := a5
  repeat (first | refine codeA (k := ?_) | refine condA (k := ?_) | refine offA (k := ?_) | refine pureA (k := ?_) | refine readA (k := ?_))
  refine At_wp (W_call rfl rfl (pass_one (f := ⟨0, 1, 1, 0, 1, 0, [120]⟩) ba5 a5' b5 (by decide) rfl (by decide) (by decide) (by unfold MayB; decide) (by decide)) rfl rfl ?_) rfl
  rintro _ H6 ⟨rfl, s6, a6, vb6, b6⟩
  have ba6 := ba5.stp s6 (by decide)
  have b6' : Lc T5 H6 2 pb vb6 ⟨1, 0, 1, 1, [], 0, 0, true⟩ := b6
  have a6' : Lc T5 H6 1 pa va5 ⟨0, 1, 1, 0, [(1, [120])], 1, 0, false⟩ := a6
  repeat (first | refine codeA (k := ?_) | refine condA (k := ?_) | refine offA (k := ?_) | refine pureA (k := ?_) | refine readA (k := ?_))
  refine At_wp (W_call rfl rfl (pass_one (f := ⟨1, 0, 1, 1, 0, 0, []⟩) ba6 b6' a6' (by decide) rfl (by decide) (by decide) (by unfold MayB; decide) (by decide)) rfl rfl ?_) rfl
  rintro _ H7 ⟨rfl, s7, b7, va7, a7⟩
  have ba7 := ba6.stp s7 (by decide)
  have a7' : Lc T5 H7 1 pa va7 (anA bs 0) := a7
  repeat (first | refine codeA (k := ?_) | refine condA (k := ?_) | refine offA (k := ?_) | refine pureA (k := ?_) | refine readA (k := ?_))
  refine At_cut (fun (s : Unit) => [(1, .int .i64 ep), (5, .pointer (some ⟨pa, 0, none⟩))]) (fun s H' => (∃ T va, Ba H T H' ∧ Lc T H' 1 pa va (anA bs bs.length)) ∧ ∀ l ∈ bs, l.length ≤ 1000) ?_ ?_
  · refine At_block ?_
    refine At_loop (fun (s : Nat) => [(0, .slice q bs.length c), (1, .int .i64 ep), (5, .pointer (some ⟨pa, 0, none⟩)), (9, .int .i64 s)]) (fun s H' => s ≤ bs.length ∧ (∃ T va, Ba H T H' ∧ Lc T H' 1 pa va (anA bs s)) ∧ ∀ l ∈ bs.take s, l.length ≤ 1000) (fun s => bs.length - s) 0 ?_ ⟨Nat.zero_le _, ⟨T5, va7, ba7, a7'⟩, fun l hl => by simp at hl⟩ ?_
    · (repeat (first | exact Sub.nil | refine Sub.cons rfl ?_))
    rintro i H8 ⟨hi, ⟨T, va, ba8, a8⟩, hbl⟩
    by_cases hil : i < bs.length
    rotate_left
    · obtain rfl : i = bs.length := by omega
      rw [List.take_length] at hbl
      repeat (first | refine codeA (k := ?_) | refine condA (k := ?_) | refine offA (k := ?_) | refine pureA (k := ?_) | refine readA (k := ?_))
      refine At_meet (E := fun (s : Unit) => [(1, .int .i64 ep), (5, .pointer (some ⟨pa, 0, none⟩))]) (J := fun s H' => (∃ T va, Ba H T H' ∧ Lc T H' 1 pa va (anA bs bs.length)) ∧ ∀ l ∈ bs, l.length ≤ 1000) () ?_ ⟨⟨T, va, ba8, a8⟩, hbl⟩
      (repeat (first | exact Sub.nil | refine Sub.cons rfl ?_))
    have hx : bs[i]? = some bs[i] := by simp [hil]
    generalize bs[i] = l at hx
    obtain ⟨bb, o, row, hq, _, hbb, ⟨bv, e1, e2⟩, e3, e4⟩ := hv.at_ hx
    subst hq
    subst e1
    obtain ⟨pl, cl, rfl⟩ := e2.form
    have hc8 : Cell H8 bb (o + i * 1) (.slice pl l.length cl) := (e4 0 _ rfl).keep ba8.ext (fun f => f)
    have hb8 : BytesAt (fun b => T b = 0) H8 (.slice pl l.length cl) l := (e2.mono (fun b _ hl => hl)).keep ba8.ext (fun b hb _ => ⟨fun f => f, ba8.old b hb⟩)
    repeat (first | refine codeA (k := ?_) | refine condA (k := ?_) | refine offA (k := ?_) | refine pureA (k := ?_) | refine readA (k := ?_) | refine At_block ?_)
    by_cases hll : l.length > 1000
    · repeat (first | refine codeA (k := ?_) | refine condA (k := ?_) | refine offA (k := ?_) | refine pureA (k := ?_) | refine readA (k := ?_))
      exact At_ret1 rfl rfl ⟨ba8.ext, rfl⟩
    repeat (first | refine codeA (k := ?_) | refine condA (k := ?_) | refine offA (k := ?_) | refine pureA (k := ?_) | refine readA (k := ?_))
    refine At_wp (W_call rfl rfl (send_c ba8 a8 hb8 (by omega) (by rw [anA_len bs i hi]; omega) (by show -1000000000000 ≤ (i : Int) ∧ (i : Int) ≤ 1000000000000; omega)) rfl rfl ?_) rfl
    rintro _ H9 ⟨rfl, T9, va9, s9, a9⟩
    rw [anA_step bs i l hx] at a9
    repeat (first | refine codeA (k := ?_) | refine condA (k := ?_) | refine offA (k := ?_) | refine pureA (k := ?_) | refine readA (k := ?_))
    refine At_back (i + 1) ?_ ⟨by omega, ⟨T9, va9, ba8.stp s9 (by decide), a9⟩, fun x hxx => ?_⟩ (by omega)
    · (repeat (first | exact Sub.nil | refine Sub.cons rfl ?_))
    · rw [List.take_add_one, hx] at hxx
      rcases List.mem_append.1 hxx with hxx | hxx
      · exact hbl x hxx
      · rw [show x = l by simpa using hxx]; omega
  rintro _ H8 ⟨⟨T, va, ba8, a8⟩, hbl⟩
  have hlw := anA_len bs bs.length (Nat.le_refl _)
  repeat (first | refine codeA (k := ?_) | refine condA (k := ?_) | refine offA (k := ?_) | refine pureA (k := ?_) | refine readA (k := ?_))
  refine At_wp (W_call rfl rfl (frames_c ba8 a8 (by omega) (fun x hx => by have := (anA_wait hbl hx).2; omega)) rfl rfl ?_) rfl
  rintro vl H9 ⟨s9, a9, l9⟩
  have ba9 := ba8.stp s9 (by decide)
  have a9' : Lc T H9 1 pa va (anA bs bs.length) := a9
  have hfl : (framesOf (anA bs bs.length)).length = bs.length := by rw [anA_frames, List.length_map, List.take_length, num_length]
  have hff : ∀ (i : Nat) (f : Fr), (framesOf (anA bs bs.length))[i]? = some f → f.frm = 0 ∧ f.to = 1 ∧ f.epoch = 1 ∧ f.peer = 1 ∧ 0 < f.seq ∧ f.ack = 0 ∧ f.body.length ≤ 1000 := fun i f hf => by
    rw [anA_frames] at hf
    obtain ⟨x, hx, rfl⟩ := List.mem_map.1 (List.mem_of_getElem? hf)
    obtain ⟨w1, w2⟩ := anA_wait (i := bs.length) hbl hx
    exact ⟨rfl, rfl, rfl, rfl, w1, rfl, w2⟩
  obtain ⟨ql, cl, rfl⟩ := ow_form l9
  repeat (first | refine codeA (k := ?_) | refine condA (k := ?_) | refine offA (k := ?_) | refine pureA (k := ?_) | refine readA (k := ?_))
  refine At_wp (W_call rfl rfl (new_ok 1 0 ep H9 (by decide) (by decide) (by omega)) rfl rfl ?_) rfl
  rintro _ H10 ⟨pc, rfl, hn10⟩
  obtain ⟨T10, s10, c10⟩ := new_c (t := 3) ba9 (by decide) hn10
  have ba10 := ba9.stp s10 (fun f => f)
  have a10 := a9'.stp s10 (fun f => f) (fun f => f)
  have l10 := l9.stp FRow.keepR s10 (fun f => f) (fun f => f)
  have c10' : Lc T10 H10 3 pc (.slice none 0 0) (anC ep 0) := c10
  repeat (first | refine codeA (k := ?_) | refine condA (k := ?_) | refine offA (k := ?_) | refine pureA (k := ?_) | refine readA (k := ?_))
  refine At_cut (fun (s : Unit) => [(1, .int .i64 ep), (5, .pointer (some ⟨pa, 0, none⟩)), (10, .slice ql (framesOf (anA bs bs.length)).length cl), (11, .pointer (some ⟨pc, 0, none⟩))]) (fun s H' => Ba H T10 H' ∧ Lc T10 H' 1 pa va (anA bs bs.length) ∧ ∃ vc, Lc T10 H' 3 pc vc (anC ep bs.length)) ?_ ?_
  · refine At_block ?_
    refine At_loop (fun (s : Nat) => [(1, .int .i64 ep), (5, .pointer (some ⟨pa, 0, none⟩)), (10, .slice ql (framesOf (anA bs bs.length)).length cl), (11, .pointer (some ⟨pc, 0, none⟩)), (12, .int .i64 s)]) (fun s H' => s ≤ bs.length ∧ Stp (· = 3) T10 T10 H10 H' ∧ ∃ vc, Lc T10 H' 3 pc vc (anC ep s)) (fun s => bs.length - s) 0 ?_ ⟨Nat.zero_le _, Stp.of_ext ba10 (Kept.refl _ _), _, c10'⟩ ?_
    · (repeat (first | exact Sub.nil | refine Sub.cons rfl ?_))
    rintro i H11 ⟨hi, s11, vc, c11⟩
    by_cases hil : i < bs.length
    rotate_left
    · obtain rfl : i = bs.length := by omega
      repeat (first | refine codeA (k := ?_) | refine condA (k := ?_) | refine offA (k := ?_) | refine pureA (k := ?_) | refine readA (k := ?_))
      refine At_meet (E := fun (s : Unit) => [(1, .int .i64 ep), (5, .pointer (some ⟨pa, 0, none⟩)), (10, .slice ql (framesOf (anA bs bs.length)).length cl), (11, .pointer (some ⟨pc, 0, none⟩))]) (J := fun s H' => Ba H T10 H' ∧ Lc T10 H' 1 pa va (anA bs bs.length) ∧ ∃ vc, Lc T10 H' 3 pc vc (anC ep bs.length)) () ?_ ⟨ba10.stp s11 (by decide), a10.stp s11 (by decide) (by decide), vc, c11⟩
      (repeat (first | exact Sub.nil | refine Sub.cons rfl ?_))
    have hf : (framesOf (anA bs bs.length))[i]? = some (framesOf (anA bs bs.length))[i] := by simp [hfl, hil]
    generalize (framesOf (anA bs bs.length))[i] = f at hf
    obtain ⟨g1, g2, g3, g4, g5, g6, g7⟩ := hff i f hf
    obtain ⟨gl, rfl⟩ := ow_some l10 (by omega)
    obtain ⟨row, ⟨bv, e1, e2⟩, e3, e4⟩ := (l10.stp FRow.keepR s11 (by decide) (by decide)).d.cells hf
    subst e1
    have ba11 := ba10.stp s11 (by decide)
    have hmay : MayB (anC ep i) f := by
      unfold MayB anC
      split <;> exact ⟨g1, g2, by omega, by omega, by omega, by omega, by omega, .inl g5⟩
    have hcm : 0 ≤ (anC ep i).came ∧ (anC ep i).came ≤ 1000000000000 := by
      unfold anC
      split <;> exact ⟨Int.le_refl 0, by show (0 : Int) ≤ 1000000000000; decide⟩
    repeat (first | refine codeA (k := ?_) | refine condA (k := ?_) | refine offA (k := ?_) | refine pureA (k := ?_) | refine readA (k := ?_) | refine At_block ?_)
    refine At_read (r_loadN (b := gl) (o := 0 + i * 7) (cs := frCells f bv) rfl rfl rfl (fun j u hj => by rw [Nat.zero_add]; exact e4 j u hj)) rfl rfl rfl ?_
    have htk := take_c ba11 c11 e2 hmay hcm
    rw [anC_take (by omega) i g3 g4] at htk
    refine At_wp (W_call rfl rfl htk rfl rfl ?_) rfl
    rintro _ H12 ⟨s12, bv12, vc12, rfl, hb12, c12⟩
    obtain ⟨pz, cz, hz⟩ := hb12.form
    have hz' : bv12 = .slice pz (0 : Nat) cz := hz
    subst hz'
    repeat (first | refine codeA (k := ?_) | refine condA (k := ?_) | refine offA (k := ?_) | refine pureA (k := ?_) | refine readA (k := ?_))
    refine At_back (i + 1) ?_ ⟨by omega, s11.trans s12, vc12, c12⟩ (by omega)
    (repeat (first | exact Sub.nil | refine Sub.cons rfl ?_))
  rintro _ H11 ⟨ba11, a11, vc, c11⟩
  by_cases h0 : bs.length = 0
  · rw [hfl]
    repeat (first | refine codeA (k := ?_) | refine condA (k := ?_) | refine offA (k := ?_) | refine pureA (k := ?_) | refine readA (k := ?_))
    refine At_wp (W_call rfl rfl (wakes_spec H11) rfl rfl ?_) rfl
    rintro _ H12 ⟨hx12, rfl⟩
    repeat (first | refine codeA (k := ?_) | refine condA (k := ?_) | refine offA (k := ?_) | refine pureA (k := ?_) | refine readA (k := ?_))
    exact At_ret1 rfl rfl ⟨ba11.ext.trans hx12, rfl⟩
  have ec : anC ep bs.length = ⟨1, 0, ep, 1, [], 0, 0, true⟩ := by unfold anC; rw [if_neg h0]
  rw [ec] at c11
  have hma : MayB (anA bs bs.length) ⟨1, 0, ep, 1, 0, 0, []⟩ := ⟨rfl, rfl, by show (1 : Int) ≤ ep; omega, by show (0 : Int) ≤ 1; decide, Int.le_refl 0, Int.le_refl 0, by show ([] : List UInt8).length ≤ 131072; decide, .inr rfl⟩
  have eta : (takeL (anA bs bs.length) ⟨1, 0, ep, 1, 0, 0, []⟩).1 = ⟨0, 1, 1, ep, [], 0, 0, false⟩ := by
    have q1 : ¬ ep < 1 := by omega
    have q2 : 1 < ep := by omega
    unfold takeL anA takeA takeB
    simp [q1, q2]
  rw [hfl]
  repeat (first | refine codeA (k := ?_) | refine condA (k := ?_) | refine offA (k := ?_) | refine pureA (k := ?_) | refine readA (k := ?_))
  refine At_wp (W_call rfl rfl (pass_one (f := ⟨1, 0, ep, 1, 0, 0, []⟩) ba11 c11 a11 (by decide) rfl (by show ([] : List (Int × List UInt8)).length ≤ 4; decide) (fun x hx => by cases hx) hma ⟨Int.le_refl 0, by show (0 : Int) ≤ 1000000000000; decide⟩) rfl rfl ?_) rfl
  rintro _ H12 ⟨rfl, s12, _, va12, a12⟩
  rw [eta] at a12
  have ba12 := ba11.stp s12 (by decide)
  repeat (first | refine codeA (k := ?_) | refine condA (k := ?_) | refine offA (k := ?_) | refine pureA (k := ?_) | refine readA (k := ?_))
  refine At_wp (W_call rfl rfl (waiting_spec a12.d.lnk) rfl rfl ?_) rfl
  rintro _ _ ⟨rfl, rfl⟩
  refine At_tell 124 (.int .i64 0) rfl rfl ?_
  repeat (first | refine codeA (k := ?_) | refine condA (k := ?_) | refine offA (k := ?_) | refine pureA (k := ?_) | refine readA (k := ?_))
  refine At_wp (W_call rfl rfl (peer_spec a12.d.lnk) rfl rfl ?_) rfl
  rintro _ _ ⟨rfl, rfl⟩
  refine At_tell 128 (.int .i64 ep) rfl rfl ?_
  repeat (first | refine codeA (k := ?_) | refine condA (k := ?_) | refine offA (k := ?_) | refine pureA (k := ?_) | refine readA (k := ?_))
  refine At_wp (W_call rfl rfl (wakes_spec _) rfl rfl ?_) rfl
  rintro _ H13 ⟨hx13, rfl⟩
  repeat (first | refine codeA (k := ?_) | refine condA (k := ?_) | refine offA (k := ?_) | refine pureA (k := ?_) | refine readA (k := ?_))
  exact At_ret1 rfl rfl ⟨ba12.ext.trans hx13, rfl⟩
end Go.Proofs.Ytdbmhcchgbpccaa
