/- pass: the frames of one end to the other one. -/
import Derived.Test.YtdbmhcchgbpccaaLinkH
import Derived.Test.YtdbmhcchgbpccaaLinkP
namespace Go.Proofs.Ytdbmhcchgbpccaa
open Go Ev
set_option linter.unusedVariables false
set_option linter.unusedSimpArgs false
attribute [local irreducible] Go.wpList Go.bodyPost Go.Code.wp Go.Exit.then Go.Exit.inBlock Go.Exit.noGoto Ev.wpAnyG Go.Oper.wp Ev.Back Ev.Left Ev.Spc Ev.At Ev.Pure Ev.Reads Ev.Runs Ev.Does Ev.Cell

theorem ow_form {α : Type} {T : Nat → Nat} {H : Heap} {t : Nat} {e : TypeId} {size : Nat} {R : (Nat → Prop) → Heap → α → List Value → Prop} {v : Value} {xs : List α} (h : Ow T H t e size R v xs) : ∃ q c, v = .slice q xs.length c := by
  rcases h.d.form with ⟨e1, e2⟩ | ⟨g, c, e1, _⟩
  · exact ⟨none, 0, by rw [e1, e2]; rfl⟩
  · exact ⟨_, c, e1⟩
theorem ow_some {α : Type} {T : Nat → Nat} {H : Heap} {t : Nat} {e : TypeId} {size : Nat} {R : (Nat → Prop) → Heap → α → List Value → Prop} {q : Option Addr} {n c : Nat} {xs : List α} (h : Ow T H t e size R (.slice q n c) xs) (hl : 0 < xs.length) : ∃ g, q = some ⟨g, 0, none⟩ := by
  rcases h.d.form with ⟨e1, e2⟩ | ⟨g, c, e1, _⟩
  · rw [e2] at hl; simp at hl
  · simp only [Value.slice.injEq] at e1
    exact ⟨g, e1.1⟩
set_option maxHeartbeats 2000000 in
theorem pass_c {T : Nat → Nat} {H0 H : Heap} {t1 t2 p1 p2 : Nat} {v1 v2 : Value} {X Y : Lk} {n : Int} (hba : Ba H0 T H) (hx : Lc T H t1 p1 v1 X) (hy : Lc T H t2 p2 v2 Y) (h12 : t1 ≠ t2) (hw : X.waits.length ≤ 4) (hb : ∀ x ∈ X.waits, x.2.length ≤ 131072)
    (P : Nat → Lk → Prop) (hP0 : P 0 Y) (hP : ∀ i f Y, (framesOf X)[i]? = some f → P i Y → MayB Y f ∧ (0 ≤ Y.came ∧ Y.came ≤ 1000000000000) ∧ P (i + 1) (if (i : Int) ≠ n then (takeL Y f).1 else Y)) :
    Spc Try.prog 18 #[.pointer (some ⟨p1, 0, none⟩), .pointer (some ⟨p2, 0, none⟩), .int .i64 n] H fun r H' => r = .tuple #[] ∧ Stp (fun t => t = t1 ∨ t = t2) T T H H' ∧ Lc T H' t1 p1 v1 { X with owes := false } ∧ ∃ v2' Y', Lc T H' t2 p2 v2' Y' ∧ P (framesOf X).length Y' := by
  have hfl := framesOf_length (L := X)
  have h20 := hy.t0
  have h10 := hx.t0
  refine spec_of Try.func18 rfl Try.ntmps18 rfl (fun W => ?_)
  repeat (first | refine codeA (k := ?_) | refine condA (k := ?_) | refine offA (k := ?_) | refine pureA (k := ?_) | refine readA (k := ?_))
  refine At_wp (W_call rfl rfl (frames_c hba hx (by omega) hb) rfl rfl ?_) rfl
  rintro vl H1 ⟨s1, hx1, hl1⟩
  have hba1 := hba.stp s1 (fun e => h10 e.symm)
  have hy1 := hy.stp s1 (fun e => h10 e.symm) (fun e => h12 e.symm)
  obtain ⟨q, c, rfl⟩ := ow_form hl1
  repeat (first | refine codeA (k := ?_) | refine condA (k := ?_) | refine offA (k := ?_) | refine pureA (k := ?_) | refine readA (k := ?_))
  refine At_block ?_
  refine At_loop (fun (s : Nat) => [(1, .pointer (some ⟨p2, 0, none⟩)), (2, .int .i64 n), (6, .slice q (framesOf X).length c), (7, .int .i64 s)]) (fun s H' => s ≤ (framesOf X).length ∧ Stp (· = t2) T T H1 H' ∧ ∃ v2' Y', Lc T H' t2 p2 v2' Y' ∧ P s Y') (fun s => (framesOf X).length - s) 0 ?_ ⟨Nat.zero_le _, Stp.of_ext hba1 (Kept.refl _ _), v2, Y, hy1, hP0⟩ ?_
  · (repeat (first | exact Sub.nil | refine Sub.cons rfl ?_))
  rintro i H2 ⟨hi, s2, v2', Y', hy2, hPi⟩
  by_cases hil : i < (framesOf X).length
  rotate_left
  · obtain rfl : i = (framesOf X).length := by omega
    repeat (first | refine codeA (k := ?_) | refine condA (k := ?_) | refine offA (k := ?_) | refine pureA (k := ?_) | refine readA (k := ?_))
    exact At_ret0 rfl ⟨rfl, (s1.mono fun _ e => .inl e).trans (s2.mono fun _ e => .inr e), hx1.stp s2 (fun e => h20 e.symm) h12, v2', Y', hy2, hPi⟩ (.inl rfl)
  have hf : (framesOf X)[i]? = some (framesOf X)[i] := by simp [hil]
  generalize (framesOf X)[i] = f at hf
  obtain ⟨g, rfl⟩ := ow_some hl1 (by omega)
  obtain ⟨row, ⟨bv, e1, e2⟩, e3, e4⟩ := (hl1.stp FRow.keepR s2 (fun e => h20 e.symm) (fun e => h20 e.symm)).d.cells hf
  subst e1
  have hba2 := hba1.stp s2 (fun e => h20 e.symm)
  obtain ⟨hm, hc, hn⟩ := hP i f Y' hf hPi
  by_cases hin : (i : Int) = n
  · rw [if_neg (by simp [hin])] at hn
    repeat (first | refine codeA (k := ?_) | refine condA (k := ?_) | refine offA (k := ?_) | refine pureA (k := ?_) | refine readA (k := ?_) | refine At_block ?_)
    refine At_back (i + 1) ?_ ⟨by omega, s2, v2', Y', hy2, hn⟩ (by omega)
    (repeat (first | exact Sub.nil | refine Sub.cons rfl ?_))
  · rw [if_pos hin] at hn
    repeat (first | refine codeA (k := ?_) | refine condA (k := ?_) | refine offA (k := ?_) | refine pureA (k := ?_) | refine readA (k := ?_) | refine At_block ?_)
    refine At_read (r_loadN (b := g) (o := 0 + i * 7) (cs := frCells f bv) rfl rfl rfl (fun j u hj => by rw [Nat.zero_add]; exact e4 j u hj)) rfl rfl rfl ?_
    refine At_wp (W_call rfl rfl (take_c hba2 hy2 e2 hm hc) rfl rfl ?_) rfl
    rintro _ H3 ⟨s3, bv3, v3, rfl, hb3, hy3⟩
    repeat (first | refine codeA (k := ?_) | refine condA (k := ?_) | refine offA (k := ?_) | refine pureA (k := ?_) | refine readA (k := ?_))
    refine At_back (i + 1) ?_ ⟨by omega, s2.trans s3, v3, _, hy3, hn⟩ (by omega)
    (repeat (first | exact Sub.nil | refine Sub.cons rfl ?_))

/-- literals of bytes -/
theorem lit_byte {H0 H H1 H2 : Heap} {T : Nat → Nat} {b : Nat} {l : List UInt8} (hba : Ba H0 T H) (hn : New H H1 b (.cells (l.map fun x => Value.int .u8 x.toNat).toArray 5 (0, 0)))
    (hp : Put H1 H2 b (.cells (l.map fun x => Value.int .u8 x.toNat).toArray 5 ((l.map fun x => Value.int .u8 x.toNat).toArray.size, (l.map fun x => Value.int .u8 x.toNat).toArray.size + 1))) (hl : l.length ≤ 1000) :
    Ext H H2 ∧ BytesAt (fun b => T b = 0) H2 (.slice (some ⟨b, 0, none⟩) l.length l.length) l := by
  have hb := hn.blk
  refine ⟨Kept.trans hn.ext hp.kept (fun _ f _ => f) (fun i e hl => by omega), BytesAt.mk (Nat.le_refl _) (by simp only [maxLen]; omega) (hba.new b (by omega)) (fun i x hx => ?_)⟩
  rw [Nat.zero_add]
  exact Cell.of hp.at_ (by simp [hx])
end Go.Proofs.Ytdbmhcchgbpccaa
