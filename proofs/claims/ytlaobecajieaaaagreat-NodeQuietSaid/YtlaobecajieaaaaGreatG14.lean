/- A bundle of one message, read from all of its bytes. -/
import Derived.Test.YtlaobecajieaaaaGreatG13
import Derived.Test.YtlaobecajieaaaaGreatG11
namespace Go.Proofs.YtlaobecajieaaaaGreat
open Go Ev
set_option linter.unusedVariables false
set_option linter.unusedSimpArgs false

/-- what reading a bundle of one message answers -/
def RB (m : Ms) (H : Heap) (r : Value) (H' : Heap) : Prop :=
  Ext H H' ∧ ∃ q n c w, r = .tuple #[w, .int .i64 0] ∧ One 18 (msgC m (.slice q n c)) H' w ∧ Vs nv H' (.slice q n c) m.job.sites ∧ (∀ b, w.ownBlock = some b → H.size ≤ b) ∧ ∀ b, (Value.slice q n c).ownBlock = some b → H.size ≤ b
attribute [local irreducible] Go.wpList Go.bodyPost Go.Code.wp Go.Exit.then Go.Exit.inBlock Go.Exit.noGoto Ev.wpAnyG Go.Oper.wp Ev.Back Ev.Left Ev.Spc Ev.At Ev.Pure Ev.Reads Ev.Runs Ev.Does Ev.Cell

set_option maxHeartbeats 2000000 in
theorem readBundle_spec {D : Nat → Prop} {H : Heap} {v : Value} (m : Ms) (ok : MsOk m) (hv : BytesAt D H v (uvs (1 :: msgT m))) :
    Spc Tryz.prog 66 #[v] H fun r H' => RB m H r H' := by
  have hln : (1 :: msgT m).length ≤ 100 := by
    have := jobT_len ok.j
    simp [msgT]; omega
  have hall : ∀ x ∈ 1 :: msgT m, x < 18446744073709551616 := by
    intro x hx
    have h0 := ok.j
    simp only [msgT, jobT, List.mem_append, List.mem_cons, List.not_mem_nil, or_false, List.mem_map] at hx
    have b1 : ∀ b : Bool, bt b ≤ 1 := fun b => by cases b <;> decide
    have := b1 m.on
    have := b1 m.job.pact
    have := ok.a; have := ok.b; have := ok.c; have := ok.e; have := ok.f; have := ok.h
    have := h0.a; have := h0.b; have := h0.c; have := h0.d; have := h0.e; have := h0.f; have := h0.g; have := h0.h; have := h0.i
    rcases hx with hx | (hx | (hx | hx | ⟨s, hs, hx⟩) | hx) | hx
    · omega
    · omega
    · omega
    · omega
    · have := h0.k s hs; omega
    · omega
    · omega
  have hw : ∀ (H : Heap) (v : Value), BytesAt D H v (uvs (1 :: msgT m)) → Spc Tryz.prog 130 #[v, .func (.func 131) #[] #[]] H fun r H' => RB m H r H' := by
    intro H v hv
    refine spec_of Tryz.func130 rfl Tryz.ntmps130 rfl (fun W => ?_)
    repeat (first | refine codeA (k := ?_) | refine condA (k := ?_) | refine offA (k := ?_) | refine pureA (k := ?_) | refine readA (k := ?_))
    refine At_wp (W_call rfl rfl (newReader_spec hv hall (by omega)) rfl rfl ?_) rfl
    rintro _ H2 ⟨p, rfl, x2, hp, hs2, hd⟩
    refine At_pure (p_build [.pointer (some ⟨p, 0, none⟩), .bool false] rfl rfl) rfl rfl rfl ?_
    refine At_wp (W_box (cs := #[.pointer (some ⟨p, 0, none⟩), .bool false]) rfl rfl rfl ?_) rfl
    intro g H3 n3
    have e3 := n3.blk
    have e3' := n3.size
    have hr : Rr p H3 g p (1 :: (msgT m ++ [])) := ⟨n3.at_, by omega, by omega, by rw [List.append_nil]; exact hd.keep n3.ext (fun _ f => f.elim)⟩
    have x13 := x2.trans n3.ext
    repeat (first | refine codeA (k := ?_) | refine condA (k := ?_) | refine offA (k := ?_) | refine pureA (k := ?_) | refine readA (k := ?_))
    refine At_wp (W_call_bound (first := []) (cap := []) (vs := [.pointer (some ⟨g, 0, none⟩)]) rfl rfl rfl (rbundle1_spec m hr ok (by simp)) rfl rfl ?_) rfl
    rintro w H4 ⟨sq, sn, sc, hone, hk4, hd4, hv4, hnw, hnew⟩
    have hr4 := hr.next hk4 hd4
    have s34 := hk4.size
    have x4 : Ext H H4 := Kept.trans x13 hk4 (fun _ f _ => f) (fun b e hb => by omega)
    have hw1 : w.cells = #[w] ∧ w.oneCell' = true := by obtain ⟨b, c, rfl, _⟩ := hone; exact ⟨rfl, rfl⟩
    repeat (first | refine codeA (k := ?_) | refine condA (k := ?_) | refine offA (k := ?_) | refine pureA (k := ?_) | refine readA (k := ?_))
    refine At_read (r_load (v := .bool false) rfl rfl (Cell.of hr4.blk rfl)) rfl rfl rfl ?_
    repeat (first | refine codeA (k := ?_) | refine condA (k := ?_) | refine offA (k := ?_) | refine pureA (k := ?_) | refine readA (k := ?_))
    refine At_read (r_load (v := .pointer (some ⟨p, 0, none⟩)) rfl rfl (Cell.of hr4.blk rfl)) rfl rfl rfl ?_
    refine At_wp (W_call rfl rfl (rdone_spec hr4.rd) rfl rfl ?_) rfl
    rintro _ _ ⟨rfl, rfl⟩
    repeat (first | refine codeA (k := ?_) | refine condA (k := ?_) | refine offA (k := ?_) | refine pureA (k := ?_) | refine readA (k := ?_))
    refine At_ret2 rfl rfl rfl ⟨x4, sq, sn, sc, w, rfl, hone, hv4, fun b e => by have := hnw b e; omega, fun b e => by have := hnew b e; omega⟩
  refine spec_of Tryz.func66 rfl Tryz.ntmps66 rfl (fun W => ?_)
  repeat (first | refine codeA (k := ?_) | refine condA (k := ?_) | refine offA (k := ?_) | refine pureA (k := ?_) | refine readA (k := ?_))
  refine At_wp (W_call rfl rfl (hw H v hv) rfl rfl ?_) rfl
  rintro _ H2 ⟨x2, sq, sn, sc, w, rfl, hone, hv2, hnw, hnew⟩
  repeat (first | refine codeA (k := ?_) | refine condA (k := ?_) | refine offA (k := ?_) | refine pureA (k := ?_) | refine readA (k := ?_))
  exact At_ret2 rfl rfl rfl ⟨x2, sq, sn, sc, w, rfl, hone, hv2, hnw, hnew⟩
end Go.Proofs.YtlaobecajieaaaaGreat
/- A disk: bytes that one may add to. -/
namespace Go.Proofs.YtlaobecajieaaaaGreat
open Go Ev
set_option linter.unusedVariables false
set_option linter.unusedSimpArgs false

/-- bytes that are a slice's own -/
def Ob (H : Heap) (v : Value) (l : List UInt8) : Prop := Own H 0 5 1 v l.length (bcs l)
theorem Ob.nil (H : Heap) : Ob H (.slice none 0 0) [] := Own.nil H 0 _ 1
theorem bcs_len (l : List UInt8) : (bcs l).length = l.length := by simp [bcs]
theorem bcs_app (a b : List UInt8) : bcs (a ++ b) = bcs a ++ bcs b := by simp [bcs]
theorem Ob.bytes {H : Heap} {v : Value} {l : List UInt8} (h : Ob H v l) : BytesAt (fun b => v.ownBlock = some b) H v l := by
  rcases h.form with ⟨rfl, h2, _⟩ | ⟨g, c, rfl, _, _, h6, h7⟩
  · rw [List.eq_nil_of_length_eq_zero h2]; exact BytesAt.nil _ _
  · refine BytesAt.mk h6 h7 rfl (fun i x hx => ?_)
    rw [Nat.zero_add]
    exact h.cell (by simp [bcs, hx])
theorem Ob.own_lt {H : Heap} {v : Value} {l : List UInt8} (h : Ob H v l) {b : Nat} (e : v.ownBlock = some b) : b < H.size := by
  rcases h.form with ⟨rfl, _⟩ | ⟨g, c, rfl, _, h5, _⟩
  · cases e
  · simp only [Value.ownBlock, Option.some.injEq] at e; omega
/-- a disk in block d that holds bs; F is where its blocks lie -/
structure Dk (F : Nat → Prop) (H : Heap) (d : Nat) (bs : List UInt8) : Prop where
  at_ : F d
  blk : ∃ bv sy, H[d]? = some (.cells #[bv, .int .i64 sy, .bool false, .bool false, .int .i64 0] 59 (0, 0)) ∧ Ob H bv bs ∧ ∀ b, bv.ownBlock = some b → b ≠ d ∧ F b
theorem Dk.keep {F F' S : Nat → Prop} {H H' : Heap} {d : Nat} {bs : List UInt8} (h : Dk F H d bs) (hk : Kept S H H') (h1 : ∀ b, F b → b < H.size → ¬ S b ∧ F' b) : Dk F' H' d bs := by
  obtain ⟨bv, sy, hb, ho, hn⟩ := h.blk
  have hd := h1 d h.at_ (lt_of_heap hb)
  exact ⟨hd.2, bv, sy, hk.keep hb hd.1, Own.keep ho hk (fun b e => (h1 b (hn b e).2 (ho.own_lt e)).1), fun b e => ⟨(hn b e).1, (h1 b (hn b e).2 (ho.own_lt e)).2⟩⟩
section
variable {P : Program} {n : Nat} {W : World} {env : Env} {H : Heap} {Q : Exit → Act → World → Prop} {K : Act → World → Prop}
variable {ty : TypeId} {pos : String} {af : Array Edge} {gd : Option (Nat × Bool)}
theorem W_appendB {D : Nat → Prop} {x y : Operand} {t : TypeId} {de : TypeDesc} {sz sb bytes : Nat} {z ez : Value} {dd : Nat} [h : Ty P t (.slice 5) sz sb z] [he : Ty P 5 de 1 bytes ez] {v u : Value} {xs l : List UInt8}
    (hx : ev env x = some v) (hy : ev env y = some u) (ho : Ob H v xs) (hu : BytesAt D H u l) (hz : ez.cells.size = 1) (h0 : 0 < l.length) (h63 : xs.length + l.length ≤ 1000000000) (hby : bytes ≤ 1) (hn : Nat.blt dd n = true)
    (k : ∀ g c' H', Ob H' (.slice (some ⟨g, 0, none⟩) (xs ++ l).length c') (xs ++ l) → Kept (fun b => v.ownBlock = some b) H H' → (v.ownBlock = some g ∨ H.size ≤ g) →
      At n W ((dd, .slice (some ⟨g, 0, none⟩) (xs ++ l).length c') :: env) H' K) : At n W env H (fun a w => Oper.wp P ⟨some dd, .call ⟨.builtin .append, #[x, y], #[t, t]⟩, ty, pos, af, gd⟩ a w K Q) := by
  obtain ⟨q, c, rfl⟩ := hu.form
  obtain ⟨b, o, rfl, _, _, hcell⟩ := hu.some h0
  refine W_append (news := bcs l) hx hy ho (by simp [bcs]) (fun j u hj => ?_) (fun u hu => ?_) (Nat.zero_le _) hz (by decide) h0 (by simp only [maxLen]; omega) ?_ hn ?_
  · simp only [bcs, List.getElem?_map, Option.map_eq_some_iff] at hj
    obtain ⟨x, hx, rfl⟩ := hj
    exact hcell j x hx
  · simp only [bcs, List.mem_map] at hu
    obtain ⟨x, _, rfl⟩ := hu
    rfl
  · have := Nat.mul_le_mul_left (xs.length + l.length) hby
    omega
  · intro g c' H' own hk hg
    have := k g c' H' (by unfold Ob; rw [bcs_app, List.length_append]; exact own) hk hg
    rw [List.length_append] at this
    exact this
end
attribute [local irreducible] Go.wpList Go.bodyPost Go.Code.wp Go.Exit.then Go.Exit.inBlock Go.Exit.noGoto Ev.wpAnyG Go.Oper.wp Ev.Back Ev.Left Ev.Spc Ev.At Ev.Pure Ev.Reads Ev.Runs Ev.Does Ev.Cell

set_option maxHeartbeats 1000000 in
theorem dnew_spec (H : Heap) : Spc Tryz.prog 4 #[] H fun r H' => ∃ d, r = .pointer (some ⟨d, 0, none⟩) ∧ Ext H H' ∧ H.size ≤ d ∧ Dk (fun b => H.size ≤ b) H' d [] := by
  refine spec_of Tryz.func4 rfl Tryz.ntmps4 rfl (fun W => ?_)
  repeat (first | refine codeA (k := ?_) | refine condA (k := ?_) | refine offA (k := ?_) | refine pureA (k := ?_) | refine readA (k := ?_))
  refine At_pure (p_build [.slice none 0 0, .int .i64 0, .bool false, .bool false, .int .i64 0] rfl rfl) rfl rfl rfl ?_
  refine At_wp (W_box (cs := #[.slice none 0 0, .int .i64 0, .bool false, .bool false, .int .i64 0]) rfl rfl rfl ?_) rfl
  intro d H1 n1
  have e1 := n1.blk
  repeat (first | refine codeA (k := ?_) | refine condA (k := ?_) | refine offA (k := ?_) | refine pureA (k := ?_) | refine readA (k := ?_))
  exact At_ret1 rfl rfl ⟨d, rfl, n1.ext, by omega, by omega, _, _, n1.at_, Ob.nil _, fun b e => by cases e⟩
theorem doff_spec {F : Nat → Prop} {H : Heap} {d : Nat} {bs : List UInt8} (h : Dk F H d bs) : Spc Tryz.prog 19 #[.pointer (some ⟨d, 0, none⟩)] H fun r H' => H' = H ∧ r = .bool false := by
  obtain ⟨bv, sy, hb, ho, hn⟩ := h.blk
  refine spec_of Tryz.func19 rfl Tryz.ntmps19 rfl (fun W => ?_)
  repeat (first | refine codeA (k := ?_) | refine condA (k := ?_) | refine offA (k := ?_) | refine pureA (k := ?_) | refine readA (k := ?_))
  refine At_read (r_load rfl rfl (Cell.of hb rfl)) rfl rfl rfl ?_
  repeat (first | refine codeA (k := ?_) | refine condA (k := ?_) | refine offA (k := ?_) | refine pureA (k := ?_) | refine readA (k := ?_))
  exact At_ret1 rfl rfl ⟨rfl, rfl⟩
theorem dstroke_spec {F : Nat → Prop} {H : Heap} {d : Nat} {bs : List UInt8} (h : Dk F H d bs) : Spc Tryz.prog 73 #[.pointer (some ⟨d, 0, none⟩)] H fun r H' => H' = H ∧ r = .int .i64 0 := by
  obtain ⟨bv, sy, hb, ho, hn⟩ := h.blk
  refine spec_of Tryz.func73 rfl Tryz.ntmps73 rfl (fun W => ?_)
  repeat (first | refine codeA (k := ?_) | refine condA (k := ?_) | refine offA (k := ?_) | refine pureA (k := ?_) | refine readA (k := ?_))
  refine At_read (r_load rfl rfl (Cell.of hb rfl)) rfl rfl rfl ?_
  repeat (first | refine codeA (k := ?_) | refine condA (k := ?_) | refine offA (k := ?_) | refine pureA (k := ?_) | refine readA (k := ?_))
  exact At_ret1 rfl rfl ⟨rfl, rfl⟩
theorem dread_spec {F : Nat → Prop} {H : Heap} {d : Nat} {bs : List UInt8} (h : Dk F H d bs) (hl : bs.length ≤ 1000000000) : Spc Tryz.prog 32 #[.pointer (some ⟨d, 0, none⟩)] H fun r H' => BytesOut bs H r H' := by
  obtain ⟨bv, sy, hb, ho, hn⟩ := h.blk
  refine spec_of Tryz.func32 rfl Tryz.ntmps32 rfl (fun W => ?_)
  repeat (first | refine codeA (k := ?_) | refine condA (k := ?_) | refine offA (k := ?_) | refine pureA (k := ?_) | refine readA (k := ?_))
  refine At_read (r_load rfl rfl (Cell.of hb rfl)) rfl rfl rfl ?_
  repeat (first | refine codeA (k := ?_) | refine condA (k := ?_) | refine offA (k := ?_) | refine pureA (k := ?_) | refine readA (k := ?_))
  refine At_read (r_load rfl rfl (Cell.of hb rfl)) rfl rfl rfl ?_
  refine At_wp (W_call rfl rfl (bclone_spec ho.bytes (by omega)) rfl rfl ?_) rfl
  rintro w H1 ⟨x1, hw⟩
  repeat (first | refine codeA (k := ?_) | refine condA (k := ?_) | refine offA (k := ?_) | refine pureA (k := ?_) | refine readA (k := ?_))
  exact At_ret2 rfl rfl rfl ⟨x1, w, rfl, hw⟩
theorem dappend_spec {F D : Nat → Prop} {H : Heap} {d : Nat} {bs l : List UInt8} {v : Value} (h : Dk F H d bs) (hv : BytesAt D H v l) (h0 : 0 < l.length) (hl : bs.length + l.length ≤ 1000000000) :
    Spc Tryz.prog 80 #[.pointer (some ⟨d, 0, none⟩), v] H fun r H' => r = .int .i64 0 ∧ Kept F H H' ∧ Dk (fun b => F b ∨ H.size ≤ b) H' d (bs ++ l) := by
  obtain ⟨bv, sy, hb, ho, hn⟩ := h.blk
  obtain ⟨q, c, rfl⟩ := hv.form
  refine spec_of Tryz.func80 rfl Tryz.ntmps80 rfl (fun W => ?_)
  repeat (first | refine codeA (k := ?_) | refine condA (k := ?_) | refine offA (k := ?_) | refine pureA (k := ?_) | refine readA (k := ?_))
  refine At_read (r_load rfl rfl (Cell.of hb rfl)) rfl rfl rfl ?_
  repeat (first | refine codeA (k := ?_) | refine condA (k := ?_) | refine offA (k := ?_) | refine pureA (k := ?_) | refine readA (k := ?_))
  refine At_read (r_load rfl rfl (Cell.of hb rfl)) rfl rfl rfl ?_
  repeat (first | refine codeA (k := ?_) | refine condA (k := ?_) | refine offA (k := ?_) | refine pureA (k := ?_) | refine readA (k := ?_))
  refine At_wp (W_appendB rfl rfl ho hv rfl h0 hl (by decide) rfl ?_) rfl
  intro g c2 H1 ho1 hk1 hg
  have hb1 := hk1.keep hb (fun e => (hn d e).1 rfl)
  have hs1 := hk1.size
  have hdl := lt_of_heap hb
  repeat (first | refine codeA (k := ?_) | refine condA (k := ?_) | refine offA (k := ?_) | refine pureA (k := ?_) | refine readA (k := ?_))
  refine At_wp (W_store rfl rfl hb1 rfl rfl rfl rfl ?_) rfl
  intro H2 p2
  have hgd : g ≠ d := by
    rcases hg with e | e
    · exact (hn g e).1
    · omega
  repeat (first | refine codeA (k := ?_) | refine condA (k := ?_) | refine offA (k := ?_) | refine pureA (k := ?_) | refine readA (k := ?_))
  refine At_ret1 rfl rfl ⟨rfl, Kept.trans (hk1.mono (fun b e hl => (hn b e).2)) p2.kept (fun _ f _ => f) (fun b e _ => e ▸ h.at_), .inl h.at_, _, _, p2.at_, Own.keep ho1 p2.kept (fun b e e2 => ?_), fun b e => ?_⟩
  · simp only [Value.ownBlock, Option.some.injEq] at e
    omega
  · simp only [Value.ownBlock, Option.some.injEq] at e
    subst e
    exact ⟨hgd, hg.imp (fun e => (hn _ e).2) id⟩
theorem dsync_spec {F : Nat → Prop} {H : Heap} {d : Nat} {bs : List UInt8} (h : Dk F H d bs) : Spc Tryz.prog 81 #[.pointer (some ⟨d, 0, none⟩)] H fun r H' => r = .int .i64 0 ∧ Kept F H H' ∧ Dk F H' d bs := by
  have h' := h
  obtain ⟨bv, sy, hb, ho, hn⟩ := h.blk
  obtain ⟨q, c, rfl⟩ := ho.bytes.form
  refine spec_of Tryz.func81 rfl Tryz.ntmps81 rfl (fun W => ?_)
  repeat (first | refine codeA (k := ?_) | refine condA (k := ?_) | refine offA (k := ?_) | refine pureA (k := ?_) | refine readA (k := ?_))
  refine At_read (r_load rfl rfl (Cell.of hb rfl)) rfl rfl rfl ?_
  repeat (first | refine codeA (k := ?_) | refine condA (k := ?_) | refine offA (k := ?_) | refine pureA (k := ?_) | refine readA (k := ?_))
  refine At_wp (W_call rfl rfl (dstroke_spec h') rfl rfl ?_) rfl
  rintro _ _ ⟨rfl, rfl⟩
  repeat (first | refine codeA (k := ?_) | refine condA (k := ?_) | refine offA (k := ?_) | refine pureA (k := ?_) | refine readA (k := ?_))
  refine At_read (r_load rfl rfl (Cell.of hb rfl)) rfl rfl rfl ?_
  repeat (first | refine codeA (k := ?_) | refine condA (k := ?_) | refine offA (k := ?_) | refine pureA (k := ?_) | refine readA (k := ?_))
  refine At_wp (W_store rfl rfl hb rfl rfl rfl rfl ?_) rfl
  intro H2 p2
  repeat (first | refine codeA (k := ?_) | refine condA (k := ?_) | refine offA (k := ?_) | refine pureA (k := ?_) | refine readA (k := ?_))
  exact At_ret1 rfl rfl ⟨rfl, p2.kept.mono (fun b e hl => e ▸ h.at_), h.at_, _, _, p2.at_, Own.keep ho p2.kept (fun b e e2 => (hn b e).1 e2), hn⟩
end Go.Proofs.YtlaobecajieaaaaGreat
/- A journal: records on a disk. -/
namespace Go.Proofs.YtlaobecajieaaaaGreat
open Go Ev
set_option linter.unusedVariables false
set_option linter.unusedSimpArgs false

theorem Dk.bound {F : Nat → Prop} {H : Heap} {d : Nat} {bs : List UInt8} (h : Dk F H d bs) : Dk (fun b => F b ∧ b < H.size) H d bs := by
  obtain ⟨bv, sy, hb, ho, hn⟩ := h.blk
  exact ⟨⟨h.at_, lt_of_heap hb⟩, bv, sy, hb, ho, fun b e => ⟨(hn b e).1, (hn b e).2, ho.own_lt e⟩⟩
/-- a record's row: bytes outside the block lg and outside rv's -/
def PR (F : Nat → Prop) (lg : Nat) (rv : Value) (H : Heap) (l : List UInt8) (row : List Value) : Prop := ∃ w, row = [w] ∧ BytesAt (fun b => F b ∧ b ≠ lg ∧ rv.ownBlock ≠ some b) H w l
/-- a journal's own part: the block lg and the records' -/
structure Lw (F : Nat → Prop) (H : Heap) (lg d : Nat) (recs : List (List UInt8)) : Prop where
  at_ : F lg
  blk : ∃ rv, H[lg]? = some (.cells #[.pointer (some ⟨d, 0, none⟩), .slice none 0 0, rv] 99 (0, 0)) ∧ OwnL H 57 1 (PR F lg rv H) rv recs ∧ ∀ b, rv.ownBlock = some b → b ≠ lg ∧ F b
theorem ownL_lt {α : Type} {H : Heap} {e : TypeId} {size : Nat} {R : α → List Value → Prop} {v : Value} {xs : List α} (h : OwnL H e size R v xs) {b : Nat} (e : v.ownBlock = some b) : b < H.size := by
  rcases h.form with ⟨rfl, _⟩ | ⟨g, c, rfl, hl, _⟩
  · cases e
  · simp only [Value.ownBlock, Option.some.injEq] at e; omega
theorem Lw.keep {F F' S : Nat → Prop} {H H' : Heap} {lg d : Nat} {recs : List (List UInt8)} (h : Lw F H lg d recs) (hk : Kept S H H') (h1 : ∀ b, F b → b < H.size → ¬ S b ∧ F' b) : Lw F' H' lg d recs := by
  obtain ⟨rv, hb, ho, hn⟩ := h.blk
  have hd := h1 lg h.at_ (lt_of_heap hb)
  exact ⟨hd.2, rv, hk.keep hb hd.1, ho.keep hk (fun b e => (h1 b (hn b e).2 (ownL_lt ho e)).1) (fun l row _ ⟨w, e, hw⟩ => ⟨w, e, hw.keep hk (fun b hb hl => ⟨(h1 b hb.1 hl).1, (h1 b hb.1 hl).2, hb.2⟩)⟩), fun b e => ⟨(hn b e).1, (h1 b (hn b e).2 (ownL_lt ho e)).2⟩⟩
/-- one record more: what the row's growing and the store come to -/
theorem Lw.step {F' : Nat → Prop} {H1 H2 H3 : Heap} {lg d g c : Nat} {rv : Value} {recs : List (List UInt8)} {l : List UInt8} (hF : F' lg) (hlg : lg < H1.size) (hn : ∀ b, rv.ownBlock = some b → b ≠ lg ∧ F' b) (hg : rv.ownBlock = some g ∨ H1.size ≤ g) (hg2 : H1.size ≤ g → F' g)
    (own : OwnL H2 57 1 (PR (fun b => F' b ∧ b < H1.size) lg rv H2) (.slice (some ⟨g, 0, none⟩) (recs.length + 1) c) (recs ++ [l]))
    (p3 : Put H2 H3 lg (.cells #[.pointer (some ⟨d, 0, none⟩), .slice none 0 0, .slice (some ⟨g, 0, none⟩) (recs.length + 1) c] 99 (0, 0))) : Lw F' H3 lg d (recs ++ [l]) := by
  have hgl : g ≠ lg := by
    rcases hg with e | e
    · exact (hn g e).1
    · omega
  refine ⟨hF, _, p3.at_, own.keep p3.kept (fun b e e2 => ?_) (fun l row _ ⟨w, e, hw⟩ => ⟨w, e, hw.keep p3.kept (fun b hb hl => ⟨fun e2 => hb.2.1 e2, hb.1.1, hb.2.1, fun e2 => ?_⟩)⟩), fun b e => ?_⟩
  · simp only [Value.ownBlock, Option.some.injEq] at e
    omega
  · simp only [Value.ownBlock, Option.some.injEq] at e2
    subst e2
    rcases hg with e | e
    · exact hb.2.2 e
    · have := hb.1.2; omega
  · simp only [Value.ownBlock, Option.some.injEq] at e
    subst e
    refine ⟨hgl, ?_⟩
    rcases hg with e | e
    · exact (hn _ e).2
    · exact hg2 e
theorem Lw.bound {F : Nat → Prop} {H : Heap} {lg d : Nat} {recs : List (List UInt8)} (h : Lw F H lg d recs) : Lw (fun b => F b ∧ b < H.size) H lg d recs := h.keep (Kept.refl (fun _ => False) H) (fun b hb hl => ⟨fun f => f, hb, hl⟩)
/-- a journal and its disk -/
def Lg (F : Nat → Prop) (H : Heap) (lg d : Nat) (recs : List (List UInt8)) (bs : List UInt8) : Prop :=
  ∃ Fd Fl, Dk Fd H d bs ∧ Lw Fl H lg d recs ∧ (∀ b, Fd b → F b ∧ b < H.size ∧ ¬ Fl b) ∧ ∀ b, Fl b → F b ∧ b < H.size
theorem Lg.keep {F F' S : Nat → Prop} {H H' : Heap} {lg d : Nat} {recs : List (List UInt8)} {bs : List UInt8} (h : Lg F H lg d recs bs) (hk : Kept S H H') (h1 : ∀ b, F b → b < H.size → ¬ S b ∧ F' b) : Lg F' H' lg d recs bs := by
  obtain ⟨Fd, Fl, h2, h3, h4, h5⟩ := h
  have hs := hk.size
  exact ⟨Fd, Fl, h2.keep hk (fun b hb hl => ⟨(h1 b (h4 b hb).1 hl).1, hb⟩), h3.keep hk (fun b hb hl => ⟨(h1 b (h5 b hb).1 hl).1, hb⟩),
    fun b hb => ⟨(h1 b (h4 b hb).1 (h4 b hb).2.1).2, Nat.lt_of_lt_of_le (h4 b hb).2.1 hs, (h4 b hb).2.2⟩, fun b hb => ⟨(h1 b (h5 b hb).1 (h5 b hb).2).2, Nat.lt_of_lt_of_le (h5 b hb).2 hs⟩⟩
attribute [local irreducible] Go.wpList Go.bodyPost Go.Code.wp Go.Exit.then Go.Exit.inBlock Go.Exit.noGoto Ev.wpAnyG Go.Oper.wp Ev.Back Ev.Left Ev.Spc Ev.At Ev.Pure Ev.Reads Ev.Runs Ev.Does Ev.Cell

set_option maxHeartbeats 2000000 in
theorem jseal_spec {D : Nat → Prop} {H : Heap} {v : Value} {l : List UInt8} (hv : BytesAt D H v l) (h0 : 0 < l.length) (hl : l.length ≤ 100000) :
    Spc Tryz.prog 79 #[.int .u8 82, v] H fun r H' => Ext H H' ∧ ∃ p f, r = .tuple #[p, f, .int .i64 0] ∧ BytesAt (fun b => H.size ≤ b) H' p (82 :: l) ∧ BytesAt (fun b => H.size ≤ b) H' f (sealB (82 :: l)) := by
  obtain ⟨q, c, rfl⟩ := hv.form
  refine spec_of Tryz.func79 rfl Tryz.ntmps79 rfl (fun W => ?_)
  repeat (first | refine codeA (k := ?_) | refine condA (k := ?_) | refine offA (k := ?_) | refine pureA (k := ?_) | refine readA (k := ?_))
  refine At_wp (W_buildSlice1 rfl rfl rfl (by decide) rfl ?_) rfl
  intro g1 H1 n1
  have e1 := n1.blk
  repeat (first | refine codeA (k := ?_) | refine condA (k := ?_) | refine offA (k := ?_) | refine pureA (k := ?_) | refine readA (k := ?_))
  have ho : Ob H1 (.slice (some ⟨g1, 0, none⟩) 1 1) [82] := ⟨by simp [bcs], .inr ⟨g1, 1, _, rfl, Nat.zero_le _, n1.at_, Nat.le_refl _, by simp [maxLen], by rfl, by rfl⟩⟩
  refine At_wp (W_appendB rfl rfl ho (hv.keep n1.ext (fun b hb _ => ⟨fun f => f, hb⟩)) rfl h0 (by simp; omega) (by decide) rfl ?_) rfl
  intro g c2 H2 ho2 hk2 hg
  have x2 : Ext H H2 := Kept.trans n1.ext hk2 (fun _ f _ => f) (fun b e hl => by simp only [Value.ownBlock, Option.some.injEq] at e; omega)
  have hgH : H.size ≤ g := by
    have := n1.size
    rcases hg with e | e
    · simp only [Value.ownBlock, Option.some.injEq] at e; omega
    · omega
  have hp : BytesAt (fun b => H.size ≤ b) H2 (.slice (some ⟨g, 0, none⟩) ([82] ++ l).length c2) (82 :: l) := ho2.bytes.mono (fun b e _ => by simp only [Value.ownBlock, Option.some.injEq] at e; omega)
  repeat (first | refine codeA (k := ?_) | refine condA (k := ?_) | refine offA (k := ?_) | refine pureA (k := ?_) | refine readA (k := ?_))
  refine At_wp (W_call rfl rfl (seal_spec hp (by simp) (by simp; omega)) rfl rfl ?_) rfl
  rintro _ H3 ⟨x3, f, rfl, hf⟩
  have s2 := x2.size
  repeat (first | refine codeA (k := ?_) | refine condA (k := ?_) | refine offA (k := ?_) | refine pureA (k := ?_) | refine readA (k := ?_))
  exact At_ret3 rfl rfl rfl rfl ⟨x2.trans x3, _, f, rfl, hp.keep x3 (fun b hb _ => ⟨fun f => f, hb⟩), hf.mono (fun b hb _ => by omega)⟩
theorem found_spec {F D : Nat → Prop} {H : Heap} {lg d : Nat} {recs : List (List UInt8)} {v : Value} {l : List UInt8} (h : Lw F H lg d recs) (hv : BytesAt D H v (82 :: l)) (h0 : 0 < l.length) (hr : recs.length ≤ 1000) (hD : ∀ b, D b → ¬ F b) (first : Bool) :
    Spc Tryz.prog 34 #[.pointer (some ⟨lg, 0, none⟩), v, .bool first] H fun r H' => r = .bool true ∧ Kept F H H' ∧ Lw (fun b => F b ∨ D b ∨ H.size ≤ b) H' lg d (recs ++ [l]) := by
  obtain ⟨rv, hb, ho, hn⟩ := h.blk
  obtain ⟨q, c, rfl⟩ := hv.form
  obtain ⟨u0, hcl, hcm⟩ : ∃ u : Unit, (82 :: l).length ≤ c ∧ c ≤ maxLen := by
    obtain ⟨p', c', e, h1, h2, h3, _⟩ := hv
    cases e
    exact ⟨(), h1, h2⟩
  obtain ⟨b, o, rfl, hDb, hbl, hcell⟩ := hv.some (by simp)
  have c0 : Cell H b (o + 0 * 1) (.int .u8 82) := by rw [Nat.zero_mul]; exact hcell 0 82 rfl
  have hlen : (82 :: l).length = l.length + 1 := rfl
  have hpay : BytesAt D H (.slice (some ⟨b, o + 1 * 1, none⟩) ((82 :: l).length - 1) (c - 1)) l :=
    part_bytes 1 hcell (by simp) (by omega) (by omega) hDb (fun i x hx => by rw [Nat.add_comm]; exact hx)
  refine spec_of Tryz.func34 rfl Tryz.ntmps34 rfl (fun W => ?_)
  repeat (first | refine codeA (k := ?_) | refine condA (k := ?_) | refine offA (k := ?_) | refine pureA (k := ?_) | refine readA (k := ?_) | refine At_block ?_)
  refine At_pure (p_indexAddr (i := 0) rfl rfl (by omega)) rfl rfl rfl ?_
  refine At_read (r_load rfl rfl (c0)) rfl rfl rfl ?_
  repeat (first | refine codeA (k := ?_) | refine condA (k := ?_) | refine offA (k := ?_) | refine pureA (k := ?_) | refine readA (k := ?_) | refine At_block ?_)
  have hx0 : Ext H H := Kept.refl _ _
  refine At_draw [4] (fun H' => Ext H H') Tryz.mixed ?_
  first | refine gA 0 (k := ?_) | refine goffA 0 (k := ?_)
  first | refine gA 1 (k := ?_) | refine goffA 1 (k := ?_)
  first | refine gA 2 (k := ?_) | refine goffA 2 (k := ?_)
  first | refine gA 3 (k := ?_) | refine goffA 3 (k := ?_)
  refine grA 4 hx0 (fun H' hS' => r_load rfl rfl (Cell.of (hS'.keep hb (fun f => f)) rfl)) (k := ?_)
  first | refine gA 5 (k := ?_) | refine goffA 5 (k := ?_)
  refine gqA 6 rfl (p_slice_lo (i := 1) rfl rfl (by simp) (by omega)) (k := ?_)
  refine G_op 7 rfl (by kernel_rfl) rfl (W_buildSlice1 rfl rfl rfl (by decide) rfl ?_) 
  intro g1 H2 n1
  have e1 := n1.blk
  have e2 := n1.size
  have hb2 := n1.ext.keep hb (fun f => f)
  have hlgH := lt_of_heap hb
  have ho2 : OwnL H2 57 1 (PR (fun b => (F b ∨ D b ∨ H.size ≤ b) ∧ b < H2.size) lg rv H2) rv recs := ho.keep n1.ext (fun _ _ f => f) (fun l row _ ⟨w, e, hw⟩ => ⟨w, e, hw.keep n1.ext (fun b hb hl => ⟨fun f => f, ⟨.inl hb.1, by omega⟩, hb.2⟩)⟩)
  refine G_next (fun _ s => s.trans n1.ext) ?_
  refine G_op 8 rfl (by kernel_rfl) rfl (W_append1 (v := rv) (size := 1) (R := PR (fun b => (F b ∨ D b ∨ H.size ≤ b) ∧ b < H2.size) lg rv H2) (row := [.slice (some ⟨b, o + 1 * 1, none⟩) ((82 :: l).length - 1) (c - 1)]) (a := l) (fun H' => PR (fun b => (F b ∨ D b ∨ H.size ≤ b) ∧ b < H2.size) lg rv H') rfl rfl ho2 n1.at_ rfl ?_ rfl (fun u hu => by rw [List.mem_singleton.1 hu]; rfl) rfl (by decide) (by omega) (by decide) rfl ?_ ?_) 
  · exact ⟨_, rfl, hpay.keep n1.ext (fun b hb hl => ⟨fun f => f, ⟨.inr (.inl hb), by omega⟩, fun e => hD b hb (e ▸ h.at_), fun e => hD b hb (hn b e).2⟩)⟩
  · exact fun H' g hk _ _ l row ⟨w, e, hw⟩ => ⟨w, e, hw.keep hk (fun b hb hl => ⟨hb.2.2, hb⟩)⟩
  intro g c2 H3 own3 hk3 hg3
  refine G_free (by kernel_rfl) ?_
  have hb3 := hk3.keep hb2 (fun e => (hn lg e).1 rfl)
  first | refine gA 9 (k := ?_) | refine goffA 9 (k := ?_)
  first | refine gA 10 (k := ?_) | refine goffA 10 (k := ?_)
  refine G_op 11 rfl (by kernel_rfl) rfl (W_store rfl rfl hb3 rfl rfl rfl rfl ?_) 
  intro H4 p4
  refine G_free (by kernel_rfl) ?_
  refine G_done (by kernel_rfl) ?_
  repeat (first | refine codeA (k := ?_) | refine condA (k := ?_) | refine offA (k := ?_) | refine pureA (k := ?_) | refine readA (k := ?_) | refine At_block ?_)
  have hst := Lw.step (F' := fun b => F b ∨ D b ∨ H.size ≤ b) (.inl h.at_) (by omega) (fun b e => ⟨(hn b e).1, .inl (hn b e).2⟩) hg3 (fun e => .inr (.inr (by omega))) own3 p4
  exact At_ret1 rfl rfl ⟨rfl, Kept.trans (Kept.trans n1.ext hk3 (fun _ f _ => f.elim) (fun b e hl => (hn b e).2)) p4.kept (fun _ f _ => f) (fun b e _ => e ▸ h.at_), hst⟩
theorem lappend_spec {F D : Nat → Prop} {H : Heap} {lg d : Nat} {recs : List (List UInt8)} {bs : List UInt8} {v : Value} {l : List UInt8} (h : Lg F H lg d recs bs) (hv : BytesAt D H v l) (h0 : 0 < l.length) (hl : l.length ≤ 10000) (hr : recs.length ≤ 1000) (hbs : bs.length ≤ 100000000) :
    Spc Tryz.prog 42 #[.pointer (some ⟨lg, 0, none⟩), v] H fun r H' => r = .int .i64 0 ∧ Kept F H H' ∧ Lg (fun b => F b ∨ H.size ≤ b) H' lg d (recs ++ [l]) (bs ++ sealB (82 :: l)) := by
  obtain ⟨Fd, Fl, hd, hw, hF, hFl⟩ := h
  obtain ⟨q0, c0, rfl⟩ := hv.form
  refine spec_of Tryz.func42 rfl Tryz.ntmps42 rfl (fun W => ?_)
  repeat (first | refine codeA (k := ?_) | refine condA (k := ?_) | refine offA (k := ?_) | refine pureA (k := ?_) | refine readA (k := ?_))
  refine At_wp (W_call rfl rfl (jseal_spec hv h0 (by omega)) rfl rfl ?_) rfl
  rintro _ H1 ⟨x1, p, f, rfl, hp, hf⟩
  have s1 := x1.size
  have hw1 := hw.keep (F' := Fl) x1 (fun b hb _ => ⟨fun f => f, hb⟩)
  have hd1 := hd.keep (F' := Fd) x1 (fun b hb _ => ⟨fun f => f, hb⟩)
  obtain ⟨rv1, hb1, _, _⟩ := hw1.blk
  repeat (first | refine codeA (k := ?_) | refine condA (k := ?_) | refine offA (k := ?_) | refine pureA (k := ?_) | refine readA (k := ?_))
  refine At_read (r_load rfl rfl (Cell.of hb1 rfl)) rfl rfl rfl ?_
  repeat (first | refine codeA (k := ?_) | refine condA (k := ?_) | refine offA (k := ?_) | refine pureA (k := ?_) | refine readA (k := ?_))
  refine At_read (r_load rfl rfl (Cell.of hb1 rfl)) rfl rfl rfl ?_
  repeat (first | refine codeA (k := ?_) | refine condA (k := ?_) | refine offA (k := ?_) | refine pureA (k := ?_) | refine readA (k := ?_))
  refine At_wp (W_call rfl rfl (dappend_spec hd1 hf (by simp [sealB_len]; omega) (by simp [sealB_len]; omega)) rfl rfl ?_) rfl
  rintro _ H2 ⟨rfl, k2, hd2⟩
  have s2 := k2.size
  have hw2 := hw1.keep (F' := Fl) k2 (fun b hb _ => ⟨fun e => (hF b e).2.2 hb, hb⟩)
  have hp2 : BytesAt (fun b => H.size ≤ b ∧ b < H1.size) H2 p (82 :: l) := hp.keep k2 (fun b hb hl => ⟨fun e => by have := (hF b e).2.1; omega, hb, hl⟩)
  have hd2 := hd2.bound
  obtain ⟨rv, hb, ho, hn⟩ := hw2.blk
  obtain ⟨q, c, rfl⟩ := hp2.form
  obtain ⟨u0, hcl, hcm⟩ : ∃ u : Unit, (82 :: l).length ≤ c ∧ c ≤ maxLen := by
    obtain ⟨p', c', e, h1, h2, h3, _⟩ := hp2
    cases e
    exact ⟨(), h1, h2⟩
  obtain ⟨b, o, rfl, hDb, hbl, hcell⟩ := hp2.some (by simp)
  have hlen : (82 :: l).length = l.length + 1 := rfl
  have hpay : BytesAt (fun b => H.size ≤ b ∧ b < H1.size) H2 (.slice (some ⟨b, o + 1 * 1, none⟩) ((82 :: l).length - 1) (c - 1)) l :=
    part_bytes 1 hcell (by simp) (by omega) (by omega) hDb (fun i x hx => by rw [Nat.add_comm]; exact hx)
  repeat (first | refine codeA (k := ?_) | refine condA (k := ?_) | refine offA (k := ?_) | refine pureA (k := ?_) | refine readA (k := ?_) | refine At_block ?_)
  have hx0 : Ext H2 H2 := Kept.refl _ _
  refine At_draw [4] (fun H' => Ext H2 H') Tryz.mixed ?_
  first | refine gA 0 (k := ?_) | refine goffA 0 (k := ?_)
  first | refine gA 1 (k := ?_) | refine goffA 1 (k := ?_)
  first | refine gA 2 (k := ?_) | refine goffA 2 (k := ?_)
  first | refine gA 3 (k := ?_) | refine goffA 3 (k := ?_)
  refine grA 4 hx0 (fun H' hS' => r_load rfl rfl (Cell.of (hS'.keep hb (fun f => f)) rfl)) (k := ?_)
  first | refine gA 5 (k := ?_) | refine goffA 5 (k := ?_)
  refine gqA 6 rfl (p_slice_lo (i := 1) rfl rfl (by simp) (by omega)) (k := ?_)
  refine G_op 7 rfl (by kernel_rfl) rfl (W_buildSlice1 rfl rfl rfl (by decide) rfl ?_) 
  intro g1 H3 n1
  have e1 := n1.blk
  have e2 := n1.size
  have hb2 := n1.ext.keep hb (fun f => f)
  have hlgH := lt_of_heap hb
  have ho2 : OwnL H3 57 1 (PR (fun b => (Fl b ∨ (H.size ≤ b ∧ b < H1.size) ∨ H2.size ≤ b) ∧ b < H3.size) lg rv H3) rv recs := ho.keep n1.ext (fun _ _ f => f) (fun l row _ ⟨w, e, hw⟩ => ⟨w, e, hw.keep n1.ext (fun b hb hl => ⟨fun f => f, ⟨.inl hb.1, by omega⟩, hb.2⟩)⟩)
  refine G_next (fun _ s => s.trans n1.ext) ?_
  refine G_op 8 rfl (by kernel_rfl) rfl (W_append1 (v := rv) (size := 1) (R := PR (fun b => (Fl b ∨ (H.size ≤ b ∧ b < H1.size) ∨ H2.size ≤ b) ∧ b < H3.size) lg rv H3) (row := [.slice (some ⟨b, o + 1 * 1, none⟩) ((82 :: l).length - 1) (c - 1)]) (a := l) (fun H' => PR (fun b => (Fl b ∨ (H.size ≤ b ∧ b < H1.size) ∨ H2.size ≤ b) ∧ b < H3.size) lg rv H') rfl rfl ho2 n1.at_ rfl ?_ rfl (fun u hu => by rw [List.mem_singleton.1 hu]; rfl) rfl (by decide) (by omega) (by decide) rfl ?_ ?_) 
  · exact ⟨_, rfl, hpay.keep n1.ext (fun b hb hl => ⟨fun f => f, ⟨.inr (.inl hb), by omega⟩, fun e => by have := (hFl b (e ▸ hw2.at_)).2; omega, fun e => by have := (hFl b (hn b e).2).2; omega⟩)⟩
  · exact fun H' g hk _ _ l row ⟨w, e, hw⟩ => ⟨w, e, hw.keep hk (fun b hb hl => ⟨hb.2.2, hb⟩)⟩
  intro g c2 H4 own3 hk3 hg3
  refine G_free (by kernel_rfl) ?_
  have hb3 := hk3.keep hb2 (fun e => (hn lg e).1 rfl)
  first | refine gA 9 (k := ?_) | refine goffA 9 (k := ?_)
  first | refine gA 10 (k := ?_) | refine goffA 10 (k := ?_)
  refine G_op 11 rfl (by kernel_rfl) rfl (W_store rfl rfl hb3 rfl rfl rfl rfl ?_) 
  intro H5 p4
  refine G_free (by kernel_rfl) ?_
  refine G_done (by kernel_rfl) ?_
  repeat (first | refine codeA (k := ?_) | refine condA (k := ?_) | refine offA (k := ?_) | refine pureA (k := ?_) | refine readA (k := ?_) | refine At_block ?_)
  have hst := (Lw.step (F' := fun b => Fl b ∨ (H.size ≤ b ∧ b < H1.size) ∨ H2.size ≤ b) (.inl hw2.at_) (by omega) (fun b e => ⟨(hn b e).1, .inl (hn b e).2⟩) hg3 (fun e => .inr (.inr (by omega))) own3 p4).bound
  have k25 : Kept Fl H2 H5 := Kept.trans (Kept.trans n1.ext hk3 (fun _ f _ => f.elim) (fun b e hl => (hn b e).2)) p4.kept (fun _ f _ => f) (fun b e _ => e ▸ hw2.at_)
  have s5 := k25.size
  refine At_ret1 rfl rfl ⟨rfl, Kept.trans (Kept.trans x1 k2 (fun _ f _ => f.elim) (fun b e hl => (hF b e).1)) k25 (fun _ f _ => f) (fun b e _ => (hFl b e).1),
    fun b => (Fd b ∨ H1.size ≤ b) ∧ b < H2.size, _, hd2.keep k25 (fun b hb hl => ⟨fun e => ?_, hb⟩), hst, fun b hb => ?_, fun b hb => ?_⟩
  · have := (hFl b e).2
    rcases hb.1 with e2 | e2
    · exact (hF b e2).2.2 e
    · omega
  · refine ⟨?_, by omega, fun e => ?_⟩
    · rcases hb.1 with e2 | e2
      · exact .inl (hF b e2).1
      · exact .inr (by omega)
    · rcases hb.1 with e2 | e2
      · have := (hF b e2).2
        rcases e.1 with e3 | e3 | e3
        · exact this.2 e3
        · omega
        · omega
      · rcases e.1 with e3 | e3 | e3
        · have := (hFl b e3).2; omega
        · omega
        · omega
  · refine ⟨?_, hb.2⟩
    rcases hb.1 with e3 | e3 | e3
    · exact .inl (hFl b e3).1
    · exact .inr e3.1
    · exact .inr (by omega)
theorem lsync_spec {F : Nat → Prop} {H : Heap} {lg d : Nat} {recs : List (List UInt8)} {bs : List UInt8} (h : Lg F H lg d recs bs) :
    Spc Tryz.prog 43 #[.pointer (some ⟨lg, 0, none⟩)] H fun r H' => r = .int .i64 0 ∧ Kept F H H' ∧ Lg F H' lg d recs bs := by
  obtain ⟨Fd, Fl, hd, hw, hF, hFl⟩ := h
  obtain ⟨rv1, hb1, _, _⟩ := hw.blk
  refine spec_of Tryz.func43 rfl Tryz.ntmps43 rfl (fun W => ?_)
  repeat (first | refine codeA (k := ?_) | refine condA (k := ?_) | refine offA (k := ?_) | refine pureA (k := ?_) | refine readA (k := ?_))
  refine At_read (r_load rfl rfl (Cell.of hb1 rfl)) rfl rfl rfl ?_
  repeat (first | refine codeA (k := ?_) | refine condA (k := ?_) | refine offA (k := ?_) | refine pureA (k := ?_) | refine readA (k := ?_))
  refine At_read (r_load rfl rfl (Cell.of hb1 rfl)) rfl rfl rfl ?_
  refine At_wp (W_call rfl rfl (dsync_spec hd) rfl rfl ?_) rfl
  rintro _ H1 ⟨rfl, k1, hd1⟩
  have s1 := k1.size
  repeat (first | refine codeA (k := ?_) | refine condA (k := ?_) | refine offA (k := ?_) | refine pureA (k := ?_) | refine readA (k := ?_))
  exact At_ret1 rfl rfl ⟨rfl, k1.mono (fun b e _ => (hF b e).1), Fd, Fl, hd1, hw.keep k1 (fun b hb _ => ⟨fun e => (hF b e).2.2 hb, hb⟩), fun b hb => ⟨(hF b hb).1, by have := (hF b hb).2.1; omega, (hF b hb).2.2⟩, fun b hb => ⟨(hFl b hb).1, by have := (hFl b hb).2; omega⟩⟩
theorem lsnap_spec {F : Nat → Prop} {H : Heap} {lg d : Nat} {recs : List (List UInt8)} {bs : List UInt8} (h : Lg F H lg d recs bs) :
    Spc Tryz.prog 37 #[.pointer (some ⟨lg, 0, none⟩)] H fun r H' => Ext H H' ∧ ∃ q c, r = .slice q 0 c := by
  obtain ⟨Fd, Fl, hd, hw, hF, hFl⟩ := h
  obtain ⟨rv1, hb1, _, _⟩ := hw.blk
  refine spec_of Tryz.func37 rfl Tryz.ntmps37 rfl (fun W => ?_)
  repeat (first | refine codeA (k := ?_) | refine condA (k := ?_) | refine offA (k := ?_) | refine pureA (k := ?_) | refine readA (k := ?_))
  refine At_read (r_load rfl rfl (Cell.of hb1 rfl)) rfl rfl rfl ?_
  refine At_wp (W_call rfl rfl (bclone_spec (l := []) (BytesAt.nil (fun _ => True) H) (by simp)) rfl rfl ?_) rfl
  rintro w H1 ⟨x1, hw1⟩
  obtain ⟨q, c, rfl⟩ := hw1.form
  repeat (first | refine codeA (k := ?_) | refine condA (k := ?_) | refine offA (k := ?_) | refine pureA (k := ?_) | refine readA (k := ?_))
  exact At_ret1 rfl rfl ⟨x1, q, c, rfl⟩
end Go.Proofs.YtlaobecajieaaaaGreat
/- A journal's records told; a journal opened on a disk of nothing, or of one record. -/
namespace Go.Proofs.YtlaobecajieaaaaGreat
open Go Ev
set_option linter.unusedVariables false
set_option linter.unusedSimpArgs false
theorem cell_put {H H' : Heap} {g o o' : Nat} {cs : Array Value} {t : TypeId} {fr : Nat × Nat} {v w : Value} (h : Cell H g o w) (hb : H[g]? = some (.cells cs t fr)) (p : Put H H' g (.cells (cs.setIfInBounds o' v) t fr)) (hne : o' ≠ o) : Cell H' g o w := by
  obtain ⟨cs', t', fr', hb', hc'⟩ := h
  rw [hb] at hb'
  cases hb'
  exact Cell.of p.at_ (by rw [Array.getElem?_setIfInBounds_ne hne]; exact hc')
attribute [local irreducible] Go.wpList Go.bodyPost Go.Code.wp Go.Exit.then Go.Exit.inBlock Go.Exit.noGoto Ev.wpAnyG Go.Oper.wp Ev.Back Ev.Left Ev.Spc Ev.At Ev.Pure Ev.Reads Ev.Runs Ev.Does Ev.Cell

set_option maxHeartbeats 2000000 in
theorem lrecs_spec {F : Nat → Prop} {H : Heap} {lg d : Nat} {recs : List (List UInt8)} (h : Lw F H lg d recs) (hr : recs.length ≤ 1000) (hl : ∀ l ∈ recs, l.length ≤ 100000) :
    Spc Tryz.prog 39 #[.pointer (some ⟨lg, 0, none⟩)] H fun r H' => Ext H H' ∧ ∃ g, r = .slice (some ⟨g, 0, none⟩) recs.length recs.length ∧ ∀ (i : Nat) (x : List UInt8), recs[i]? = some x → ∃ w, Cell H' g (0 + i * 1) w ∧ BytesAt (fun b => H.size ≤ b) H' w x := by
  obtain ⟨rv, hb, ho, hn⟩ := h.blk
  obtain ⟨q, c, hq⟩ := ho.slice.form
  subst hq
  refine spec_of Tryz.func39 rfl Tryz.ntmps39 rfl (fun W => ?_)
  repeat (first | refine codeA (k := ?_) | refine condA (k := ?_) | refine offA (k := ?_) | refine pureA (k := ?_) | refine readA (k := ?_))
  refine At_read (r_load rfl rfl (Cell.of hb rfl)) rfl rfl rfl ?_
  repeat (first | refine codeA (k := ?_) | refine condA (k := ?_) | refine offA (k := ?_) | refine pureA (k := ?_) | refine readA (k := ?_))
  refine At_tell 10 (.int .i64 recs.length) rfl rfl ?_
  refine At_wp (W_make (nn := recs.length) rfl rfl (by omega) (by omega) rfl ?_) rfl
  intro g H1 n1
  have e1 := n1.blk
  have s1 := n1.size
  have hb1 := n1.ext.keep hb (fun f => f)
  repeat (first | refine codeA (k := ?_) | refine condA (k := ?_) | refine offA (k := ?_) | refine pureA (k := ?_) | refine readA (k := ?_))
  refine At_read (r_load rfl rfl (Cell.of hb1 rfl)) rfl rfl rfl ?_
  repeat (first | refine codeA (k := ?_) | refine condA (k := ?_) | refine offA (k := ?_) | refine pureA (k := ?_) | refine readA (k := ?_))
  refine At_tell 16 (.int .i64 recs.length) rfl rfl ?_
  refine At_cut (fun (s : Unit) => [(3, .slice (some ⟨g, 0, none⟩) recs.length recs.length)]) (fun s H' => Ext H H' ∧ ∀ (i : Nat) (x : List UInt8), recs[i]? = some x → ∃ w, Cell H' g (0 + i * 1) w ∧ BytesAt (fun b => H.size ≤ b) H' w x) ?_ ?_
  · refine At_block ?_
    refine At_loop (fun (i : Nat) => [(3, .slice (some ⟨g, 0, none⟩) recs.length recs.length), (15, .slice q recs.length c), (16, .int .i64 recs.length), (17, .int .i64 i)]) (fun i H' => i ≤ recs.length ∧ Ext H H' ∧ (∃ cs, H'[g]? = some (.cells cs 57 (0, 0)) ∧ cs.size = recs.length) ∧ ∀ (j : Nat) (x : List UInt8), j < i → recs[j]? = some x → ∃ w, Cell H' g (0 + j * 1) w ∧ BytesAt (fun b => H.size ≤ b ∧ b ≠ g) H' w x) (fun i => recs.length - i) 0 ?_ ⟨Nat.zero_le _, n1.ext, ⟨_, n1.at_, by simp [madeCells]⟩, fun j x hj => by omega⟩ ?_
    · (repeat (first | exact Sub.nil | refine Sub.cons rfl ?_))
    rintro i H2 ⟨hi, x2, ⟨cs, hg2, hcs⟩, hrows⟩
    by_cases hil : i < recs.length
    rotate_left
    · repeat (first | refine codeA (k := ?_) | refine condA (k := ?_) | refine offA (k := ?_) | refine pureA (k := ?_) | refine readA (k := ?_))
      refine At_meet (E := fun (s : Unit) => [(3, .slice (some ⟨g, 0, none⟩) recs.length recs.length)]) (J := fun s H' => Ext H H' ∧ ∀ (i : Nat) (x : List UInt8), recs[i]? = some x → ∃ w, Cell H' g (0 + i * 1) w ∧ BytesAt (fun b => H.size ≤ b) H' w x) () ?_ ⟨x2, fun j x hx => ?_⟩
      · (repeat (first | exact Sub.nil | refine Sub.cons rfl ?_))
      · obtain ⟨w, hw, hbw⟩ := hrows j x (by have := (List.getElem?_eq_some_iff.1 hx).1; omega) hx
        exact ⟨w, hw, hbw.mono (fun b hb _ => hb.1)⟩
    have hx : recs[i]? = some recs[i] := by simp [hil]
    have hxl := hl recs[i] (List.getElem_mem hil)
    generalize recs[i] = l at hx hxl
    rcases ho.form with ⟨_, e⟩ | ⟨rg, rc, e, hrg, hrc, hrm⟩
    · rw [e] at hil; simp at hil
    cases e
    obtain ⟨row, ⟨w, rfl, hw⟩, _, hcell⟩ := ho.cells hx
    have cw : Cell H2 rg (0 + i * 1) w := by
      have := (hcell 0 w rfl).keep x2 (fun f => f)
      rwa [show i * 1 + 0 = 0 + i * 1 by omega] at this
    repeat (first | refine codeA (k := ?_) | refine condA (k := ?_) | refine offA (k := ?_) | refine pureA (k := ?_) | refine readA (k := ?_) | refine At_block ?_)
    refine At_wp (W_call rfl rfl (bclone_spec (hw.keep x2 (fun b hb _ => ⟨fun f => f, hb⟩)) (by omega)) rfl rfl ?_) rfl
    rintro w3 H3 ⟨x3, hw3⟩
    have hg3 := x3.keep hg2 (fun f => f)
    obtain ⟨q3, c3, rfl⟩ := hw3.form
    repeat (first | refine codeA (k := ?_) | refine condA (k := ?_) | refine offA (k := ?_) | refine pureA (k := ?_) | refine readA (k := ?_))
    refine At_wp (W_store rfl rfl hg3 rfl rfl rfl (Nat.ble_eq_true_of_le (by omega)) ?_) rfl
    intro H4 p4
    have hgH2 := lt_of_heap hg2
    have s2 := x2.size
    repeat (first | refine codeA (k := ?_) | refine condA (k := ?_) | refine offA (k := ?_) | refine pureA (k := ?_) | refine readA (k := ?_))
    refine At_tell 17 (.int .i64 (i + 1 : Nat)) rfl rfl ?_
    refine At_back (i + 1) ?_ ⟨hil, Kept.trans (x2.trans x3) p4.kept (fun _ f _ => f) (fun b e hb => by omega), ⟨_, p4.at_, by simp [hcs]⟩, fun j x hj hx2 => ?_⟩ (by omega)
    · (repeat (first | exact Sub.nil | refine Sub.cons rfl ?_))
    by_cases hji : j = i
    · subst hji
      rw [hx] at hx2
      cases hx2
      exact ⟨_, Cell.of p4.at_ (Array.getElem?_setIfInBounds_self_of_lt (by omega)), hw3.keep p4.kept (fun b hb hl => ⟨fun e => by omega, by omega, by omega⟩)⟩
    · obtain ⟨w5, hw5, hb5⟩ := hrows j x (by omega) hx2
      refine ⟨w5, ?_, (hb5.keep x3 (fun b hb _ => ⟨fun f => f, hb⟩)).keep p4.kept (fun b hb hl => ⟨hb.2, hb⟩)⟩
      have h6 := hw5.keep x3 (fun f => f)
      exact cell_put h6 hg3 p4 (by omega)
  rintro s H2 ⟨x2, hrows⟩
  repeat (first | refine codeA (k := ?_) | refine condA (k := ?_) | refine offA (k := ?_) | refine pureA (k := ?_) | refine readA (k := ?_))
  exact At_ret1 rfl rfl ⟨x2, g, rfl, hrows⟩
end Go.Proofs.YtlaobecajieaaaaGreat
/- A journal opened on a disk of nothing, or of one record. -/
namespace Go.Proofs.YtlaobecajieaaaaGreat
open Go Ev
set_option linter.unusedVariables false
set_option linter.unusedSimpArgs false

/-- the bytes of a disk with one record, or none -/
def jb : Option (List UInt8) → List UInt8
  | none => []
  | some l => sealB (82 :: l)
theorem jb_len (o : Option (List UInt8)) (h : ∀ l, o = some l → l.length ≤ 10000) : (jb o).length ≤ 10100 := by
  cases o with
  | none => simp [jb]
  | some l => have := h l rfl; simp [jb, sealB_len]; omega
attribute [local irreducible] Go.wpList Go.bodyPost Go.Code.wp Go.Exit.then Go.Exit.inBlock Go.Exit.noGoto Ev.wpAnyG Go.Oper.wp Ev.Back Ev.Left Ev.Spc Ev.At Ev.Pure Ev.Reads Ev.Runs Ev.Does Ev.Cell

set_option maxHeartbeats 2000000 in
theorem jopen_spec {Fd : Nat → Prop} {H : Heap} {d : Nat} (o : Option (List UInt8)) (h : Dk Fd H d (jb o)) (ho : ∀ l, o = some l → 0 < l.length ∧ l.length ≤ 10000) :
    Spc Tryz.prog 14 #[.pointer (some ⟨d, 0, none⟩)] H fun r H' => ∃ lg, r = .tuple #[.pointer (some ⟨lg, 0, none⟩), .int .i64 0] ∧ Ext H H' ∧ H.size ≤ lg ∧ Lg (fun b => Fd b ∨ H.size ≤ b) H' lg d o.toList (jb o) := by
  have hjl := jb_len o (fun l e => (ho l e).2)
  have hdl : d < H.size := by obtain ⟨bv, sy, hb, _⟩ := h.blk; exact lt_of_heap hb
  refine spec_of Tryz.func14 rfl Tryz.ntmps14 rfl (fun W => ?_)
  repeat (first | refine codeA (k := ?_) | refine condA (k := ?_) | refine offA (k := ?_) | refine pureA (k := ?_) | refine readA (k := ?_))
  refine At_wp (W_call rfl rfl (dread_spec h (by omega)) rfl rfl ?_) rfl
  rintro _ H1 ⟨x1, v, rfl, hv⟩
  obtain ⟨q, c, rfl⟩ := hv.form
  have s1 := x1.size
  repeat (first | refine codeA (k := ?_) | refine condA (k := ?_) | refine offA (k := ?_) | refine pureA (k := ?_) | refine readA (k := ?_))
  refine At_pure (p_build [.pointer (some ⟨d, 0, none⟩), .slice none 0 0, .slice none 0 0] rfl rfl) rfl rfl rfl ?_
  refine At_wp (W_box (cs := #[.pointer (some ⟨d, 0, none⟩), .slice none 0 0, .slice none 0 0]) rfl rfl rfl ?_) rfl
  intro lg H2 n2
  have e2 := n2.blk
  have s2 := n2.size
  have hw2 : Lw (fun b => H1.size ≤ b) H2 lg d [] := ⟨by omega, _, n2.at_, OwnL.nil _ _ _ _, fun b e => by cases e⟩
  repeat (first | refine codeA (k := ?_) | refine condA (k := ?_) | refine offA (k := ?_) | refine pureA (k := ?_) | refine readA (k := ?_))
  refine At_cut (fun (s : Unit) => [(6, .pointer (some ⟨lg, 0, none⟩)), (4, .slice q (jb o).length c), (7, .int .i64 (jb o).length)]) (fun s H' => Ext H1 H' ∧ Lw (fun b => H1.size ≤ b) H' lg d o.toList) ?_ ?_
  · refine At_block ?_
    refine At_loop (fun (s : Nat × List (List UInt8)) => [(6, .pointer (some ⟨lg, 0, none⟩)), (4, .slice q (jb o).length c), (7, .int .i64 s.1)]) (fun s H' => Ext H1 H' ∧ Lw (fun b => H1.size ≤ b) H' lg d s.2 ∧ (s = (0, []) ∨ s = ((jb o).length, o.toList))) (fun s => (jb o).length - s.1) (0, []) ?_ ⟨n2.ext, hw2, .inl rfl⟩ ?_
    · (repeat (first | exact Sub.nil | refine Sub.cons rfl ?_))
    rintro ⟨i, rs⟩ H3 ⟨x3, hw3, hs⟩
    show At _ W [(6, .pointer (some ⟨lg, 0, none⟩)), (4, .slice q (jb o).length c), (7, .int .i64 i)] H3 _
    by_cases hil : i < (jb o).length
    rotate_left
    · have hrs : rs = o.toList ∧ i = (jb o).length := by
        rcases hs with hs | hs
        · cases hs
          cases o with
          | none => exact ⟨rfl, rfl⟩
          | some l => simp [jb, sealB_len] at hil
        · cases hs; exact ⟨rfl, rfl⟩
      obtain ⟨rfl, rfl⟩ := hrs
      repeat (first | refine codeA (k := ?_) | refine condA (k := ?_) | refine offA (k := ?_) | refine pureA (k := ?_) | refine readA (k := ?_))
      refine At_meet (E := fun (s : Unit) => [(6, .pointer (some ⟨lg, 0, none⟩)), (4, .slice q (jb o).length c), (7, .int .i64 (jb o).length)]) (J := fun s H' => Ext H1 H' ∧ Lw (fun b => H1.size ≤ b) H' lg d o.toList) () ?_ ⟨x3, hw3⟩
      (repeat (first | exact Sub.nil | refine Sub.cons rfl ?_))
    obtain ⟨rfl, rfl⟩ : i = 0 ∧ rs = [] := by
      rcases hs with hs | hs
      · cases hs; exact ⟨rfl, rfl⟩
      · cases hs; omega
    obtain ⟨l, rfl⟩ : ∃ l, o = some l := by
      cases o with
      | none => simp [jb] at hil
      | some l => exact ⟨l, rfl⟩
    obtain ⟨h0, hl⟩ := ho l rfl
    have hv3 : BytesAt (fun b => H.size ≤ b) H3 (.slice q (jb (some l)).length c) (jb (some l)) := hv.keep x3 (fun b hb _ => ⟨fun f => f, hb⟩)
    obtain ⟨u0, hcl⟩ : ∃ u : Unit, (jb (some l)).length ≤ c := by
      obtain ⟨p', c', e, h1, h2, h3, _⟩ := hv3
      cases e
      exact ⟨(), h1⟩
    obtain ⟨b, oo, rfl, _, _, _⟩ := hv3.some (by omega)
    have hv0 : BytesAt (fun b => H.size ≤ b) H3 (.slice (some ⟨b, oo + 0 * 1, none⟩) ((jb (some l)).length - 0) (c - 0)) (sealB (82 :: l) ++ []) := by simpa [jb] using hv3
    repeat (first | refine codeA (k := ?_) | refine condA (k := ?_) | refine offA (k := ?_) | refine pureA (k := ?_) | refine readA (k := ?_) | refine At_block ?_)
    refine At_pure (p_slice_lo (i := 0) rfl rfl (by omega) (by omega)) rfl rfl rfl ?_
    refine At_wp (W_call rfl rfl (first_spec hv0 (by simp) (by simp; omega) (by simp)) rfl rfl ?_) rfl
    rintro _ H4 ⟨x4, w, rfl, hw⟩
    have s4 := x4.size
    have s3 := x3.size
    have hlw := (hw3.bound).keep (F' := fun b => H1.size ≤ b ∧ b < H3.size) x4 (fun b hb _ => ⟨fun f => f, hb⟩)
    repeat (first | refine codeA (k := ?_) | refine condA (k := ?_) | refine offA (k := ?_) | refine pureA (k := ?_) | refine readA (k := ?_))
    refine At_wp (W_call rfl rfl (found_spec hlw hw h0 (by simp) (fun b hb e => by omega) true) rfl rfl ?_) rfl
    rintro _ H5 ⟨rfl, k5, hw5⟩
    repeat (first | refine codeA (k := ?_) | refine condA (k := ?_) | refine offA (k := ?_) | refine pureA (k := ?_) | refine readA (k := ?_))
    have hl82 : (82 :: l).length = l.length + 1 := rfl
    refine At_tell 46 (.int .i64 (8 + (82 :: l).length : Nat)) rfl rfl ?_
    repeat (first | refine codeA (k := ?_) | refine condA (k := ?_) | refine offA (k := ?_) | refine pureA (k := ?_) | refine readA (k := ?_))
    refine At_tell 7 (.int .i64 (jb (some l)).length) rfl (by congr 1; simp [jb, sealB_len]) ?_
    refine At_back ((jb (some l)).length, [l]) ?_ ⟨Kept.trans (x3.trans x4) k5 (fun _ f _ => f) (fun b e hb => by omega), hw5.keep (Kept.refl (fun _ => False) _) (fun b hb _ => ⟨fun f => f, by omega⟩), .inr rfl⟩ (by dsimp only; omega)
    (repeat (first | exact Sub.nil | refine Sub.cons rfl ?_))
  rintro s H3 ⟨x3, hw3⟩
  have s3 := x3.size
  repeat (first | refine codeA (k := ?_) | refine condA (k := ?_) | refine offA (k := ?_) | refine pureA (k := ?_) | refine readA (k := ?_))
  refine At_ret2 rfl rfl rfl ⟨lg, rfl, x1.trans x3, by omega, fun b => Fd b ∧ b < H.size, fun b => H1.size ≤ b ∧ b < H3.size, h.bound.keep (x1.trans x3) (fun b hb _ => ⟨fun f => f, hb⟩), hw3.bound, fun b hb => ⟨.inl hb.1, by omega, fun e => by omega⟩, fun b hb => ⟨.inr (by omega), hb.2⟩⟩
end Go.Proofs.YtlaobecajieaaaaGreat
/- A book's state: new, and its empty lists cloned. -/
namespace Go.Proofs.YtlaobecajieaaaaGreat
open Go Ev
set_option linter.unusedVariables false
set_option linter.unusedSimpArgs false

/-- a state with no owns, no plan and no uses -/
def stC (me cap epoch next recs : Nat) (copies resvs : Value) : List Value :=
  [.int .i64 me, amt cap, .int .i64 epoch, .bool false, .int .i64 next, .int .i64 0, .slice none 0 0, copies, resvs, .slice none 0 0, .slice none 0 0, .int .i64 recs]
def nilV : Value := .slice none 0 0
attribute [local irreducible] Go.wpList Go.bodyPost Go.Code.wp Go.Exit.then Go.Exit.inBlock Go.Exit.noGoto Ev.wpAnyG Go.Oper.wp Ev.Back Ev.Left Ev.Spc Ev.At Ev.Pure Ev.Reads Ev.Runs Ev.Does Ev.Cell

set_option maxHeartbeats 1000000 in
theorem cloneOwn0 (H : Heap) : Spc Tryz.prog 96 #[.slice none 0 0] H fun r H' => H' = H ∧ r = .slice none 0 0 := by
  refine spec_of Tryz.func96 rfl Tryz.ntmps96 rfl (fun W => ?_)
  repeat (first | refine codeA (k := ?_) | refine condA (k := ?_) | refine offA (k := ?_) | refine pureA (k := ?_) | refine readA (k := ?_))
  exact At_ret1 rfl rfl ⟨rfl, rfl⟩
theorem cloneCopy0 (H : Heap) : Spc Tryz.prog 102 #[.slice none 0 0] H fun r H' => H' = H ∧ r = .slice none 0 0 := by
  refine spec_of Tryz.func102 rfl Tryz.ntmps102 rfl (fun W => ?_)
  repeat (first | refine codeA (k := ?_) | refine condA (k := ?_) | refine offA (k := ?_) | refine pureA (k := ?_) | refine readA (k := ?_))
  exact At_ret1 rfl rfl ⟨rfl, rfl⟩
theorem cloneResv0 (H : Heap) : Spc Tryz.prog 103 #[.slice none 0 0] H fun r H' => H' = H ∧ r = .slice none 0 0 := by
  refine spec_of Tryz.func103 rfl Tryz.ntmps103 rfl (fun W => ?_)
  repeat (first | refine codeA (k := ?_) | refine condA (k := ?_) | refine offA (k := ?_) | refine pureA (k := ?_) | refine readA (k := ?_))
  exact At_ret1 rfl rfl ⟨rfl, rfl⟩
theorem cloneSlot0 (H : Heap) : Spc Tryz.prog 104 #[.slice none 0 0] H fun r H' => H' = H ∧ r = .slice none 0 0 := by
  refine spec_of Tryz.func104 rfl Tryz.ntmps104 rfl (fun W => ?_)
  repeat (first | refine codeA (k := ?_) | refine condA (k := ?_) | refine offA (k := ?_) | refine pureA (k := ?_) | refine readA (k := ?_))
  exact At_ret1 rfl rfl ⟨rfl, rfl⟩
theorem cloneUse0 (H : Heap) : Spc Tryz.prog 105 #[.slice none 0 0] H fun r H' => H' = H ∧ r = .slice none 0 0 := by
  refine spec_of Tryz.func105 rfl Tryz.ntmps105 rfl (fun W => ?_)
  repeat (first | refine codeA (k := ?_) | refine condA (k := ?_) | refine offA (k := ?_) | refine pureA (k := ?_) | refine readA (k := ?_))
  exact At_ret1 rfl rfl ⟨rfl, rfl⟩
theorem cloneInt0 (H : Heap) : Spc Tryz.prog 98 #[.slice none 0 0] H fun r H' => H' = H ∧ r = .slice none 0 0 := by
  refine spec_of Tryz.func98 rfl Tryz.ntmps98 rfl (fun W => ?_)
  repeat (first | refine codeA (k := ?_) | refine condA (k := ?_) | refine offA (k := ?_) | refine pureA (k := ?_) | refine readA (k := ?_))
  exact At_ret1 rfl rfl ⟨rfl, rfl⟩
theorem bnew_spec (H : Heap) (me cap : Nat) (hm : me < 64) (hc : cap ≤ 1048576) : Spc Tryz.prog 36 #[.int .i64 me, amt cap] H fun r H' => Ext H H' ∧ r = .tuple #[.agg (stC me cap 0 0 0 nilV nilV).toArray, .int .i64 0] := by
  refine spec_of Tryz.func36 rfl Tryz.ntmps36 rfl (fun W => ?_)
  repeat (first | refine codeA (k := ?_) | refine condA (k := ?_) | refine offA (k := ?_) | refine pureA (k := ?_) | refine readA (k := ?_))
  refine At_wp (W_alloc rfl rfl ?_) rfl
  intro y H1 n1
  repeat (first | refine codeA (k := ?_) | refine condA (k := ?_) | refine offA (k := ?_) | refine pureA (k := ?_) | refine readA (k := ?_))
  refine At_wp (W_call rfl rfl (right_spec cap H1) rfl rfl ?_) rfl
  rintro _ _ ⟨rfl, rfl⟩
  repeat (first | refine codeA (k := ?_) | refine condA (k := ?_) | refine offA (k := ?_) | refine pureA (k := ?_) | refine readA (k := ?_))
  refine At_pure (p_build (stC me cap 0 0 0 nilV nilV) rfl rfl) rfl rfl rfl ?_
  refine At_wp (W_storeB (cs' := (stC me cap 0 0 0 nilV nilV).toArray) rfl rfl n1.at_ rfl rfl rfl rfl ?_) rfl
  intro H2 p2
  have e1 := n1.blk
  repeat (first | refine codeA (k := ?_) | refine condA (k := ?_) | refine offA (k := ?_) | refine pureA (k := ?_) | refine readA (k := ?_))
  exact At_retC2 rfl rfl p2.at_ rfl rfl rfl ⟨Kept.trans n1.ext p2.kept (fun _ f _ => f) (fun b e hb => by omega), rfl⟩
end Go.Proofs.YtlaobecajieaaaaGreat
