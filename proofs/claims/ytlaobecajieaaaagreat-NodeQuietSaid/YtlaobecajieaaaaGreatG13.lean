/- Bytes read whole: a record, a bundle of one message. -/
import Derived.Test.YtlaobecajieaaaaGreatG12
import Derived.Test.YtlaobecajieaaaaGreatG09
import Derived.Test.YtlaobecajieaaaaGreatG11
import Derived.Laws.MakeOwn
import Derived.Laws.CopyRow
namespace Go.Proofs.YtlaobecajieaaaaGreat
open Go Ev
set_option linter.unusedVariables false
set_option linter.unusedSimpArgs false

/-- a slice of one element, whose cells are these -/
def One (size : Nat) (cells : List Value) (H : Heap) (v : Value) : Prop := ∃ b c, v = .slice (some ⟨b, 0, none⟩) 1 c ∧ 1 ≤ c ∧ ∀ (j : Nat) (u : Value), cells[j]? = some u → Cell H b (0 + 0 * size + j) u
theorem One.keep {size : Nat} {cells : List Value} {H H' : Heap} {v : Value} {S : Nat → Prop} (h : One size cells H v) (hk : Kept S H H') (hb : ∀ b, v.ownBlock = some b → ¬ S b) : One size cells H' v := by
  obtain ⟨b, c, rfl, h1, h2⟩ := h
  exact ⟨b, c, rfl, h1, fun j u hj => (h2 j u hj).keep hk (hb b rfl)⟩
def RM (N : Nat) (p : Nat) (l : List Nat) (m : Ms) (H : Heap) (r : Value) (H' : Heap) : Prop :=
  ∃ q n c, One 18 (msgC m (.slice q n c)) H' r ∧ Kept (· = p) H H' ∧ Rd N H' p l ∧ Vs nv H' (.slice q n c) m.job.sites ∧ (∀ b, r.ownBlock = some b → H.size ≤ b) ∧ ∀ b, (Value.slice q n c).ownBlock = some b → H.size ≤ b
theorem msgC_each (m : Ms) {sv : Value} (h : sv.oneCell' = true) : ∀ u ∈ msgC m sv, u.oneCell' = true := fun u hu => List.all_eq_true.1 (msgC_one m h) u (by simpa using hu)
def MR (m : Ms) (sv : Value) (x : Unit) (row : List Value) : Prop := row = msgC m sv
attribute [local irreducible] Go.wpList Go.bodyPost Go.Code.wp Go.Exit.then Go.Exit.inBlock Go.Exit.noGoto Ev.wpAnyG Go.Oper.wp Ev.Back Ev.Left Ev.Spc Ev.At Ev.Pure Ev.Reads Ev.Runs Ev.Does Ev.Cell

set_option maxHeartbeats 2000000 in
theorem rmany_msg1_spec {N : Nat} {H : Heap} {g p : Nat} (m : Ms) {l : List Nat} (h : Rr N H g p (1 :: (msgT m ++ l))) (ok : MsOk m) (hlen : l.length ≤ 7900) :
    Spc Tryz.prog 220 #[.pointer (some ⟨g, 0, none⟩), .int .i64 16, .func (.func 221) #[.pointer (some ⟨g, 0, none⟩)] #[]] H fun r H' => RM N p l m H r H' := by
  have hpl := h.lt
  have hln : (msgT m).length ≤ 100 := by
    have := jobT_len ok.j
    simp [msgT]; omega
  refine spec_of Tryz.func220 rfl Tryz.ntmps220 rfl (fun W => ?_)
  repeat (first | refine codeA (k := ?_) | refine condA (k := ?_) | refine offA (k := ?_) | refine pureA (k := ?_) | refine readA (k := ?_))
  refine At_read (r_load (v := .pointer (some ⟨p, 0, none⟩)) rfl rfl (Cell.of h.blk rfl)) rfl rfl rfl ?_
  refine At_wp (W_call rfl rfl (ruint_spec h.rd (by simp; omega)) rfl rfl ?_) rfl
  rintro _ H1 ⟨rfl, hk1, hd⟩
  have hr := h.next hk1 hd
  repeat (first | refine codeA (k := ?_) | refine condA (k := ?_) | refine offA (k := ?_) | refine pureA (k := ?_) | refine readA (k := ?_))
  refine At_pure (p_convInt rfl) rfl rfl rfl ?_
  refine At_tell 16 (.int .u64 16) rfl (by rw [IntWalk.u64_in _ (by omega)]) ?_
  repeat (first | refine codeA (k := ?_) | refine condA (k := ?_) | refine offA (k := ?_) | refine pureA (k := ?_) | refine readA (k := ?_))
  refine At_cut (fun (s : Value) => [(8, s)]) (fun s H' => RM N p l m H s H') ?_ ?_
  · refine At_block ?_
    refine At_loop (fun (s : Value × Nat) => [(2, .func (.func 221) #[.pointer (some ⟨g, 0, none⟩)] #[]), (8, s.1), (21, .int .u64 (1 : Nat)), (22, .int .u64 (s.2 : Nat))])
      (fun s H' => (s = (.slice none 0 0, 0) ∧ Kept (· = p) H H' ∧ Rr N H' g p (msgT m ++ l)) ∨ (s.2 = 1 ∧ RM N p l m H s.1 H')) (fun s => 1 - s.2) (.slice none 0 0, 0) ?_ (.inl ⟨rfl, hk1, hr⟩) ?_
    · (repeat (first | exact Sub.nil | refine Sub.cons rfl ?_))
    rintro ⟨s, i⟩ H2 (⟨e, hk2, hr⟩ | ⟨e, hres⟩)
    rotate_left
    · dsimp only at e hres
      subst e
      repeat (first | refine codeA (k := ?_) | refine condA (k := ?_) | refine offA (k := ?_) | refine pureA (k := ?_) | refine readA (k := ?_))
      refine At_meet (E := fun (s : Value) => [(8, s)]) (J := fun s H' => RM N p l m H s H') s ?_ hres
      (repeat (first | exact Sub.nil | refine Sub.cons rfl ?_))
    cases e
    have s02 := hk2.size
    repeat (first | refine codeA (k := ?_) | refine condA (k := ?_) | refine offA (k := ?_) | refine pureA (k := ?_) | refine readA (k := ?_) | refine At_block ?_)
    refine At_wp (W_call_bound (first := [.pointer (some ⟨g, 0, none⟩)]) (cap := []) (vs := []) rfl rfl rfl (rmsg_spec m hr ok (by omega)) rfl rfl ?_) rfl
    rintro _ H3 ⟨q, sn, c, rfl, hk3, hd3, hv, hnew⟩
    have s23 := hk3.size
    refine At_wp (W_buildSlice1 (cs := (msgC m (.slice q sn c)).toArray) rfl rfl rfl (by decide) rfl ?_) rfl
    intro g4 H4 n4
    have s34 := n4.size
    refine At_wp (W_append1 (size := 18) (R := MR m (.slice q sn c)) (row := msgC m (.slice q sn c)) (a := ()) (fun _ => MR m (.slice q sn c)) rfl rfl (OwnL.nil _ _ _ _) n4.at_ rfl rfl rfl (msgC_each m rfl) rfl (by decide) (by simp) (by decide) rfl (fun _ _ _ _ _ _ _ r => r) ?_) rfl
    intro g5 c5 H5 own5 hk5 hg5
    have hg5 : H4.size ≤ g5 := by
      rcases hg5 with e | e
      · cases e
      · exact e
    have x35 : Ext H3 H5 := Kept.trans n4.ext hk5 (fun _ f _ => f) (fun b e hb => by cases e)
    have hone : One 18 (msgC m (.slice q sn c)) H5 (.slice (some ⟨g5, 0, none⟩) 1 c5) := by
      rcases own5.form with ⟨e, _⟩ | ⟨_, c6, e, _, h1, _⟩
      · cases e
      · cases e
        obtain ⟨row, hrow, _, hcell⟩ := own5.cells (i := 0) (x := ()) rfl
        rw [show row = msgC m (.slice q sn c) from hrow] at hcell
        refine ⟨g5, c5, rfl, h1, fun j u hj => ?_⟩
        have := hcell j u hj
        rw [Nat.zero_mul, Nat.zero_add] at *
        exact this
    repeat (first | refine codeA (k := ?_) | refine condA (k := ?_) | refine offA (k := ?_) | refine pureA (k := ?_) | refine readA (k := ?_))
    refine At_pure (p_add64 (a := 0) (b := 1) rfl rfl (by omega)) rfl rfl rfl ?_
    repeat (first | refine codeA (k := ?_) | refine condA (k := ?_) | refine offA (k := ?_) | refine pureA (k := ?_) | refine readA (k := ?_))
    refine At_back (.slice (some ⟨g5, 0, none⟩) 1 c5, 1) ?_ (.inr ⟨rfl, q, sn, c, hone, ?_, hd3.keep x35 (fun _ f => f.elim), hv.on x35, fun b e => ?_, fun b e => by have := hnew b e; omega⟩) (by dsimp only; omega)
    · (repeat (first | exact Sub.nil | refine Sub.cons rfl ?_))
    · exact (Kept.trans hk2 hk3 (fun _ s _ => s) (fun _ s _ => s)).then_ext x35
    · simp only [Value.ownBlock, Option.some.injEq] at e
      omega
  intro s H2 hres
  repeat (first | refine codeA (k := ?_) | refine condA (k := ?_) | refine offA (k := ?_) | refine pureA (k := ?_) | refine readA (k := ?_))
  exact At_ret1 rfl rfl hres
theorem rbundle1_spec {N : Nat} {H : Heap} {g p : Nat} (m : Ms) {l : List Nat} (h : Rr N H g p (1 :: (msgT m ++ l))) (ok : MsOk m) (hlen : l.length ≤ 7900) :
    Spc Tryz.prog 131 #[.pointer (some ⟨g, 0, none⟩)] H fun r H' => RM N p l m H r H' := by
  refine spec_of Tryz.func131 rfl Tryz.ntmps131 rfl (fun W => ?_)
  repeat (first | refine codeA (k := ?_) | refine condA (k := ?_) | refine offA (k := ?_) | refine pureA (k := ?_) | refine readA (k := ?_))
  refine At_pure (p_makeFuncB (first := [.tmp 4]) (cap := []) rfl rfl) rfl rfl rfl ?_
  refine At_wp (W_call rfl rfl (rmany_msg1_spec m h ok hlen) rfl rfl ?_) rfl
  rintro r H1 hres
  repeat (first | refine codeA (k := ?_) | refine condA (k := ?_) | refine offA (k := ?_) | refine pureA (k := ?_) | refine readA (k := ?_))
  exact At_ret1 rfl rfl hres
theorem newReader_spec {D : Nat → Prop} {H : Heap} {v : Value} {l : List Nat} (hv : BytesAt D H v (uvs l)) (hall : ∀ x ∈ l, x < 18446744073709551616) (hlen : l.length ≤ 9000) :
    Spc Tryz.prog 141 #[v] H fun r H' => ∃ p, r = .pointer (some ⟨p, 0, none⟩) ∧ Ext H H' ∧ H.size ≤ p ∧ H'.size = p + 1 ∧ Rd p H' p l := by
  have hbl := uvs_len l hall
  refine spec_of Tryz.func141 rfl Tryz.ntmps141 rfl (fun W => ?_)
  repeat (first | refine codeA (k := ?_) | refine condA (k := ?_) | refine offA (k := ?_) | refine pureA (k := ?_) | refine readA (k := ?_))
  refine At_wp (W_call rfl rfl (bclone_spec hv (by omega)) rfl rfl ?_) rfl
  rintro bv H1 ⟨x1, hb⟩
  obtain ⟨q, c, rfl⟩ := hb.form
  refine At_pure (p_build [.slice q (uvs l).length c, .int .i64 0] rfl rfl) rfl rfl rfl ?_
  refine At_wp (W_box (cs := #[.slice q (uvs l).length c, .int .i64 0]) rfl rfl rfl ?_) rfl
  intro p H2 n2
  have e1 := n2.blk
  have e2 := n2.size
  have s1 := x1.size
  repeat (first | refine codeA (k := ?_) | refine condA (k := ?_) | refine offA (k := ?_) | refine pureA (k := ?_) | refine readA (k := ?_))
  exact At_ret1 rfl rfl ⟨p, rfl, x1.trans n2.ext, by omega, by omega, Nat.le_refl _, hall, _, n2.at_, hb.keep n2.ext (fun b hb hl => ⟨fun f => f, by omega⟩)⟩
/-- what a reading of all bytes comes to -/
theorem readRec_spec {D : Nat → Prop} {H : Heap} {v : Value} (q : Rc) (ok : RcOk q) (hv : BytesAt D H v (uvs (recT q))) :
    Spc Tryz.prog 40 #[v] H fun r H' => Ext H H' ∧ ∃ sq n c, r = .tuple #[.agg (recC q (.slice sq n c)).toArray, .int .i64 0] ∧ Vs nv H' (.slice sq n c) q.job.sites ∧ ∀ b, (Value.slice sq n c).ownBlock = some b → H.size ≤ b := by
  have hln : (recT q).length ≤ 100 := by
    have := jobT_len ok.j
    simp [recT]; omega
  have hall : ∀ x ∈ recT q, x < 18446744073709551616 := by
    intro x hx
    have h0 := ok.j
    simp only [recT, jobT, List.mem_append, List.mem_cons, List.not_mem_nil, or_false, List.mem_map] at hx
    have b1 : ∀ b : Bool, bt b ≤ 1 := fun b => by cases b <;> decide
    have := b1 q.on
    have := b1 q.job.pact
    have := ok.a; have := ok.b; have := ok.c; have := ok.d; have := ok.e; have := ok.f; have := ok.g; have := ok.h
    have := h0.a; have := h0.b; have := h0.c; have := h0.d; have := h0.e; have := h0.f; have := h0.g; have := h0.h; have := h0.i
    rcases hx with (hx | (hx | hx | ⟨s, hs, hx⟩) | hx) | hx
    · omega
    · omega
    · omega
    · have := h0.k s hs; omega
    · omega
    · omega
  have hw : ∀ (H : Heap) (v : Value), BytesAt D H v (uvs (recT q)) → Spc Tryz.prog 76 #[v, .func (.func 77) #[] #[]] H fun r H' => Ext H H' ∧ ∃ sq n c, r = .tuple #[.agg (recC q (.slice sq n c)).toArray, .int .i64 0] ∧ Vs nv H' (.slice sq n c) q.job.sites ∧ ∀ b, (Value.slice sq n c).ownBlock = some b → H.size ≤ b := by
    intro H v hv
    refine spec_of Tryz.func76 rfl Tryz.ntmps76 rfl (fun W => ?_)
    repeat (first | refine codeA (k := ?_) | refine condA (k := ?_) | refine offA (k := ?_) | refine pureA (k := ?_) | refine readA (k := ?_))
    refine At_wp (W_alloc rfl rfl ?_) rfl
    intro y H1 n1
    repeat (first | refine codeA (k := ?_) | refine condA (k := ?_) | refine offA (k := ?_) | refine pureA (k := ?_) | refine readA (k := ?_))
    refine At_wp (W_call rfl rfl (newReader_spec (hv.keep n1.ext (fun b hb _ => ⟨fun f => f, hb⟩)) hall (by omega)) rfl rfl ?_) rfl
    rintro _ H2 ⟨p, rfl, x2, hp, hs2, hd⟩
    refine At_pure (p_build [.pointer (some ⟨p, 0, none⟩), .bool false] rfl rfl) rfl rfl rfl ?_
    refine At_wp (W_box (cs := #[.pointer (some ⟨p, 0, none⟩), .bool false]) rfl rfl rfl ?_) rfl
    intro g H3 n3
    have e1 := n1.blk
    have e1' := n1.size
    have e3 := n3.blk
    have e3' := n3.size
    have hr : Rr p H3 g p (recT q ++ []) := ⟨n3.at_, by omega, by omega, by rw [List.append_nil]; exact hd.keep n3.ext (fun _ f => f.elim)⟩
    have r1 := (x2.trans n3.ext).keep n1.at_ (fun f => f)
    have x13 := (n1.ext.trans x2).trans n3.ext
    repeat (first | refine codeA (k := ?_) | refine condA (k := ?_) | refine offA (k := ?_) | refine pureA (k := ?_) | refine readA (k := ?_))
    refine At_wp (W_call_bound (first := []) (cap := []) (vs := [.pointer (some ⟨g, 0, none⟩)]) rfl rfl rfl (rrec_spec q hr ok (by simp)) rfl rfl ?_) rfl
    rintro _ H4 ⟨sq, sn, sc, rfl, hk4, hd4, hv4, hnew⟩
    have hr4 := hr.next hk4 hd4
    have r1 := hk4.keep r1 (by omega)
    have s34 := hk4.size
    have x4 : Ext H H4 := Kept.trans x13 hk4 (fun _ f _ => f) (fun b e hb => by omega)
    refine At_wp (W_alloc rfl rfl ?_) rfl
    intro z H5 n5
    have e5 := n5.blk
    have e5' := n5.size
    refine At_wp (W_storeB (cs' := (recC q (.slice sq sn sc)).toArray) rfl rfl n5.at_ rfl rfl rfl rfl ?_) rfl
    intro H6 p6
    have x46 : Ext H4 H6 := Kept.trans n5.ext p6.kept (fun _ f _ => f) (fun b e hb => by omega)
    have hr6 := hr4.ext x46
    have r1 := x46.keep r1 (fun f => f)
    repeat (first | refine codeA (k := ?_) | refine condA (k := ?_) | refine offA (k := ?_) | refine pureA (k := ?_) | refine readA (k := ?_))
    refine At_read (r_load (v := .bool false) rfl rfl (Cell.of hr6.blk rfl)) rfl rfl rfl ?_
    repeat (first | refine codeA (k := ?_) | refine condA (k := ?_) | refine offA (k := ?_) | refine pureA (k := ?_) | refine readA (k := ?_))
    refine At_read (r_load (v := .pointer (some ⟨p, 0, none⟩)) rfl rfl (Cell.of hr6.blk rfl)) rfl rfl rfl ?_
    refine At_wp (W_call rfl rfl (rdone_spec hr6.rd) rfl rfl ?_) rfl
    rintro _ _ ⟨rfl, rfl⟩
    repeat (first | refine codeA (k := ?_) | refine condA (k := ?_) | refine offA (k := ?_) | refine pureA (k := ?_) | refine readA (k := ?_))
    refine At_read (r_loadB rfl p6.at_ rfl rfl) rfl rfl rfl ?_
    refine At_wp (W_storeB (cs' := (recC q (.slice sq sn sc)).toArray) rfl rfl r1 rfl rfl rfl rfl ?_) rfl
    intro H7 p7
    repeat (first | refine codeA (k := ?_) | refine condA (k := ?_) | refine offA (k := ?_) | refine pureA (k := ?_) | refine readA (k := ?_))
    have hy : ∀ b, (Value.slice sq sn sc).ownBlock = some b → b ≠ y := fun b e => by have := hnew b e; omega
    refine At_retC2 rfl rfl p7.at_ rfl rfl rfl ⟨Kept.trans (x4.trans x46) p7.kept (fun _ f _ => f) (fun b e hb => by omega), sq, sn, sc, rfl, (hv4.on x46).keepS p7.kept (fun b e e2 => hy b e e2), fun b e => by have := hnew b e; omega⟩
  refine spec_of Tryz.func40 rfl Tryz.ntmps40 rfl (fun W => ?_)
  repeat (first | refine codeA (k := ?_) | refine condA (k := ?_) | refine offA (k := ?_) | refine pureA (k := ?_) | refine readA (k := ?_))
  refine At_wp (W_alloc rfl rfl ?_) rfl
  intro y H1 n1
  have e1 := n1.blk
  have e1' := n1.size
  repeat (first | refine codeA (k := ?_) | refine condA (k := ?_) | refine offA (k := ?_) | refine pureA (k := ?_) | refine readA (k := ?_))
  refine At_wp (W_call rfl rfl (hw H1 v (hv.keep n1.ext (fun b hb _ => ⟨fun f => f, hb⟩))) rfl rfl ?_) rfl
  rintro _ H2 ⟨x2, sq, sn, sc, rfl, hv2, hnew⟩
  have r1 := x2.keep n1.at_ (fun f => f)
  repeat (first | refine codeA (k := ?_) | refine condA (k := ?_) | refine offA (k := ?_) | refine pureA (k := ?_) | refine readA (k := ?_))
  refine At_wp (W_storeB (cs' := (recC q (.slice sq sn sc)).toArray) rfl rfl r1 rfl rfl rfl rfl ?_) rfl
  intro H3 p3
  repeat (first | refine codeA (k := ?_) | refine condA (k := ?_) | refine offA (k := ?_) | refine pureA (k := ?_) | refine readA (k := ?_))
  exact At_retC2 rfl rfl p3.at_ rfl rfl rfl ⟨Kept.trans (n1.ext.trans x2) p3.kept (fun _ f _ => f) (fun b e hb => by omega), sq, sn, sc, rfl, hv2.keepS p3.kept (fun b e e2 => by have := hnew b e; omega), fun b e => by have := hnew b e; omega⟩
end Go.Proofs.YtlaobecajieaaaaGreat
/- The sum of a frame: a function of its bytes. -/
namespace Go.Proofs.YtlaobecajieaaaaGreat
open Go Ev
set_option linter.unusedVariables false
set_option linter.unusedSimpArgs false

/-- one bit of the register -/
def cstep (r : Nat) : Nat := if r % 2 = 1 then (r / 2) ^^^ 2197175160 else r / 2
def citer : Nat → Nat → Nat
  | 0, r => r
  | k + 1, r => cstep (citer k r)
def ctab (i : Nat) : Nat := citer 4 i
theorem cstep_lt {r : Nat} (h : r < 4294967296) : cstep r < 4294967296 := by
  unfold cstep
  split
  · exact Nat.xor_lt_two_pow (n := 32) (by omega) (by decide)
  · omega
theorem citer_lt : ∀ (k : Nat) {r : Nat}, r < 4294967296 → citer k r < 4294967296
  | 0, r, h => h
  | k + 1, r, h => cstep_lt (citer_lt k h)
theorem ctab_lt (i : Nat) (h : i < 16) : ctab i < 4294967296 := citer_lt 4 (by omega)
/-- half a byte of the register -/
def chalf (r : Nat) : Nat := ctab (r % 16) ^^^ (r / 16)
def cbyte (r : Nat) (b : UInt8) : Nat := chalf (chalf (r ^^^ b.toNat))
def csum (l : List UInt8) : Nat := 4294967295 ^^^ l.foldl cbyte 4294967295
theorem chalf_lt {r : Nat} (h : r < 4294967296) : chalf r < 4294967296 := Nat.xor_lt_two_pow (n := 32) (ctab_lt _ (by omega)) (by omega)
theorem cbyte_lt {r : Nat} (h : r < 4294967296) (b : UInt8) : cbyte r b < 4294967296 := chalf_lt (chalf_lt (Nat.xor_lt_two_pow (n := 32) h (by have := b.toNat_lt; omega)))
theorem cfold_lt : ∀ (l : List UInt8) {r : Nat}, r < 4294967296 → l.foldl cbyte r < 4294967296
  | [], r, h => h
  | b :: l, r, h => cfold_lt l (cbyte_lt h b)
theorem csum_lt (l : List UInt8) : csum l < 4294967296 := Nat.xor_lt_two_pow (n := 32) (by decide) (cfold_lt l (by decide))
theorem and15 (r : Nat) : r &&& 15 = r % 16 := Nat.and_two_pow_sub_one_eq_mod r 4
/-- the table's cells -/
def tabC : List Value := (List.range 16).map fun i => .int .u32 (ctab i)
attribute [local irreducible] Go.wpList Go.bodyPost Go.Code.wp Go.Exit.then Go.Exit.inBlock Go.Exit.noGoto Ev.wpAnyG Go.Oper.wp Ev.Back Ev.Left Ev.Spc Ev.At Ev.Pure Ev.Reads Ev.Runs Ev.Does Ev.Cell

set_option maxHeartbeats 2000000 in
theorem four_spec (H : Heap) : Spc Tryz.prog 139 #[] H fun r H' => Ext H H' ∧ r = .agg tabC.toArray := by
  refine spec_of Tryz.func139 rfl Tryz.ntmps139 rfl (fun W => ?_)
  repeat (first | refine codeA (k := ?_) | refine condA (k := ?_) | refine offA (k := ?_) | refine pureA (k := ?_) | refine readA (k := ?_))
  refine At_wp (W_alloc rfl rfl ?_) rfl
  intro y H1 n1
  repeat (first | refine codeA (k := ?_) | refine condA (k := ?_) | refine offA (k := ?_) | refine pureA (k := ?_) | refine readA (k := ?_))
  refine At_wp (W_alloc rfl rfl ?_) rfl
  intro x H2 n2
  have y1 := n1.blk
  have y2 := n2.blk
  have y3 := n1.size
  have y4 := n2.size
  have r1 := n2.ext.keep n1.at_ (fun f => f)
  repeat (first | refine codeA (k := ?_) | refine condA (k := ?_) | refine offA (k := ?_) | refine pureA (k := ?_) | refine readA (k := ?_))
  refine At_cut (fun (s : Unit) => [(0, .pointer (some ⟨y, 0, none⟩)), (1, .pointer (some ⟨x, 0, none⟩))]) (fun s H' => Kept (· = x) H2 H' ∧ H'[x]? = some (.cells tabC.toArray 229 (0, 0))) ?_ ?_
  · refine At_block ?_
    refine At_loop (fun (i : Nat) => [(0, .pointer (some ⟨y, 0, none⟩)), (1, .pointer (some ⟨x, 0, none⟩)), (5, .int .i64 i)])
      (fun i H' => i ≤ 16 ∧ Kept (· = x) H2 H' ∧ ∃ cs : List Value, H'[x]? = some (.cells cs.toArray 229 (0, 0)) ∧ cs.length = 16 ∧ cs.take i = tabC.take i) (fun i => 16 - i) 0 ?_ ⟨by decide, Kept.refl _ _, _, n2.at_, rfl, rfl⟩ ?_
    · (repeat (first | exact Sub.nil | refine Sub.cons rfl ?_))
    rintro i H3 ⟨hi, hk, cs, hb, hl, ht⟩
    by_cases hil : i < 16
    rotate_left
    · obtain rfl : i = 16 := by omega
      have e : cs = tabC := by
        have h2 : tabC.length = 16 := rfl
        rw [List.take_of_length_le (by omega), List.take_of_length_le (by omega)] at ht
        exact ht
      subst e
      repeat (first | refine codeA (k := ?_) | refine condA (k := ?_) | refine offA (k := ?_) | refine pureA (k := ?_) | refine readA (k := ?_))
      refine At_meet (E := fun (s : Unit) => _) (J := fun s H' => Kept (· = x) H2 H' ∧ H'[x]? = some (.cells tabC.toArray 229 (0, 0))) () ?_ ⟨hk, hb⟩
      (repeat (first | exact Sub.nil | refine Sub.cons rfl ?_))
    repeat (first | refine codeA (k := ?_) | refine condA (k := ?_) | refine offA (k := ?_) | refine pureA (k := ?_) | refine readA (k := ?_) | refine At_block ?_)
    refine At_pure (p_convInt rfl) rfl rfl rfl ?_
    refine At_tell 9 (.int .u32 (i : Nat)) rfl (by rw [IntWalk.u32_in _ (by omega)]) ?_
    repeat (first | refine codeA (k := ?_) | refine condA (k := ?_) | refine offA (k := ?_) | refine pureA (k := ?_) | refine readA (k := ?_))
    refine At_cut (fun (s : Unit) => [(0, .pointer (some ⟨y, 0, none⟩)), (1, .pointer (some ⟨x, 0, none⟩)), (2, .int .i64 i), (3, .int .u32 (ctab i : Nat)), (5, .int .i64 i)]) (fun s H' => H' = H3) ?_ ?_
    · refine At_block ?_
      refine At_loop (fun (k : Nat) => [(0, .pointer (some ⟨y, 0, none⟩)), (1, .pointer (some ⟨x, 0, none⟩)), (2, .int .i64 i), (3, .int .u32 (citer k i : Nat)), (5, .int .i64 i), (10, .int .i64 k)]) (fun k H' => H' = H3 ∧ k ≤ 4) (fun k => 4 - k) 0 ?_ ⟨rfl, by decide⟩ ?_
      · (repeat (first | exact Sub.nil | refine Sub.cons rfl ?_))
      rintro k _ ⟨rfl, hk4⟩
      rename_i H3
      by_cases hkl : k < 4
      rotate_left
      · obtain rfl : k = 4 := by omega
        repeat (first | refine codeA (k := ?_) | refine condA (k := ?_) | refine offA (k := ?_) | refine pureA (k := ?_) | refine readA (k := ?_))
        refine At_meet (E := fun (s : Unit) => _) (J := fun s H' => H' = H3) () ?_ rfl
        (repeat (first | exact Sub.nil | refine Sub.cons rfl ?_))
      have hlt : citer k i < 4294967296 := citer_lt k (by omega)
      have hs : citer (k + 1) i = cstep (citer k i) := rfl
      generalize citer k i = r at hlt hs
      repeat (first | refine codeA (k := ?_) | refine condA (k := ?_) | refine offA (k := ?_) | refine pureA (k := ?_) | refine readA (k := ?_) | refine At_block ?_)
      refine At_pure (p_and32 (a := r) (b := 1) rfl rfl hlt (by decide)) rfl rfl rfl ?_
      refine At_tell 13 (.int .u32 (r % 2 : Nat)) rfl (by rw [Nat.and_one_is_mod]) ?_
      repeat (first | refine codeA (k := ?_) | refine condA (k := ?_) | refine offA (k := ?_) | refine pureA (k := ?_) | refine readA (k := ?_))
      refine At_pure (p_shr64 (a := r) (b := 1) rfl rfl (by decide)) rfl rfl rfl ?_
      refine At_tell 15 (.int .u32 (r / 2 : Nat)) rfl (by rfl) ?_
      by_cases hodd : r % 2 = 1
      · repeat (first | refine codeA (k := ?_) | refine condA (k := ?_) | refine offA (k := ?_) | refine pureA (k := ?_) | refine readA (k := ?_))
        refine At_pure (p_xor32 (a := r / 2) (b := 2197175160) rfl rfl (by omega) (by decide)) rfl rfl rfl ?_
        repeat (first | refine codeA (k := ?_) | refine condA (k := ?_) | refine offA (k := ?_) | refine pureA (k := ?_) | refine readA (k := ?_))
        refine At_tell 3 (.int .u32 (citer (k + 1) i : Nat)) rfl (by rw [hs]; unfold cstep; rw [if_pos hodd]) ?_
        refine At_tell 10 (.int .i64 (k + 1 : Nat)) rfl rfl ?_
        refine At_back (k + 1) ?_ ⟨rfl, hkl⟩ (by omega)
        (repeat (first | exact Sub.nil | refine Sub.cons rfl ?_))
      · repeat (first | refine codeA (k := ?_) | refine condA (k := ?_) | refine offA (k := ?_) | refine pureA (k := ?_) | refine readA (k := ?_))
        refine At_tell 3 (.int .u32 (citer (k + 1) i : Nat)) rfl (by rw [hs]; unfold cstep; rw [if_neg hodd]) ?_
        refine At_tell 10 (.int .i64 (k + 1 : Nat)) rfl rfl ?_
        refine At_back (k + 1) ?_ ⟨rfl, hkl⟩ (by omega)
        (repeat (first | exact Sub.nil | refine Sub.cons rfl ?_))
    rintro _ _ rfl
    rename_i H3
    repeat (first | refine codeA (k := ?_) | refine condA (k := ?_) | refine offA (k := ?_) | refine pureA (k := ?_) | refine readA (k := ?_))
    refine At_pure (p_indexArr (i := i) rfl rfl hil) rfl rfl rfl ?_
    refine At_wp (W_store rfl rfl hb rfl rfl rfl (Nat.ble_eq_true_of_le (by simp; omega)) ?_) rfl
    intro H4 p4
    repeat (first | refine codeA (k := ?_) | refine condA (k := ?_) | refine offA (k := ?_) | refine pureA (k := ?_) | refine readA (k := ?_))
    refine At_tell 5 (.int .i64 (i + 1 : Nat)) rfl rfl ?_
    refine At_back (i + 1) ?_ ⟨hil, Kept.trans hk p4.kept (fun _ s _ => s) (fun _ s _ => s), cs.set i (.int .u32 (ctab i)), ?_, by simp [hl], ?_⟩ (by omega)
    · (repeat (first | exact Sub.nil | refine Sub.cons rfl ?_))
    · have := p4.at_
      simpa using this
    · have h1 : tabC[i]? = some (.int .u32 (ctab i)) := by simp [tabC, hil]
      rw [List.take_add_one, List.take_add_one, h1, List.take_set_of_le (Nat.le_refl _), ht]
      simp [hl, hil]
  rintro _ H3 ⟨hk, hb⟩
  have r1 := hk.keep r1 (by omega)
  repeat (first | refine codeA (k := ?_) | refine condA (k := ?_) | refine offA (k := ?_) | refine pureA (k := ?_) | refine readA (k := ?_))
  refine At_read (r_loadB rfl hb rfl rfl) rfl rfl rfl ?_
  refine At_wp (W_storeB (cs' := tabC.toArray) rfl rfl r1 rfl rfl rfl rfl ?_) rfl
  intro H4 p4
  repeat (first | refine codeA (k := ?_) | refine condA (k := ?_) | refine offA (k := ?_) | refine pureA (k := ?_) | refine readA (k := ?_))
  exact At_retC1 rfl rfl p4.at_ rfl rfl ⟨Kept.trans (Kept.trans (n1.ext.trans n2.ext) hk (fun _ f _ => f) (fun b e hb => by omega)) p4.kept (fun _ f _ => f) (fun b e hb => by omega), rfl⟩
end Go.Proofs.YtlaobecajieaaaaGreat
/- The sum of a frame, walked. -/
namespace Go.Proofs.YtlaobecajieaaaaGreat
open Go Ev
set_option linter.unusedVariables false
set_option linter.unusedSimpArgs false
theorem tab_cell {H : Heap} {x : Nat} {r : Nat} (hb : H[x]? = some (.cells tabC.toArray 229 (0, 0))) : Cell H x (0 + r % 16 * 1) (.int .u32 (ctab (r % 16) : Nat)) := by
  refine Cell.of hb ?_
  have h : r % 16 < 16 := Nat.mod_lt _ (by decide)
  simp [tabC, h]
attribute [local irreducible] Go.wpList Go.bodyPost Go.Code.wp Go.Exit.then Go.Exit.inBlock Go.Exit.noGoto Ev.wpAnyG Go.Oper.wp Ev.Back Ev.Left Ev.Spc Ev.At Ev.Pure Ev.Reads Ev.Runs Ev.Does Ev.Cell

set_option maxHeartbeats 4000000 in
theorem sum2_spec {D : Nat → Prop} {H : Heap} {b c : Nat} {v1 v2 : Value} {l1 l2 : List UInt8} (c1 : Cell H b (0 + 0 * 1) v1) (c2 : Cell H b (0 + 1 * 1) v2) (h1 : BytesAt D H v1 l1) (h2 : BytesAt D H v2 l2) (n1 : l1.length ≤ 1000000) (n2 : l2.length ≤ 1000000) :
    Spc Tryz.prog 72 #[.slice (some ⟨b, 0, none⟩) 2 c] H fun r H' => Ext H H' ∧ r = .int .u32 (csum (l1 ++ l2) : Nat) := by
  refine spec_of Tryz.func72 rfl Tryz.ntmps72 rfl (fun W => ?_)
  repeat (first | refine codeA (k := ?_) | refine condA (k := ?_) | refine offA (k := ?_) | refine pureA (k := ?_) | refine readA (k := ?_))
  refine At_wp (W_call rfl rfl (four_spec H) rfl rfl ?_) rfl
  rintro _ H1 ⟨x1, rfl⟩
  refine At_wp (W_alloc rfl rfl ?_) rfl
  intro x H2 m2
  refine At_wp (W_storeB (cs' := tabC.toArray) rfl rfl m2.at_ rfl rfl rfl rfl ?_) rfl
  intro H3 p3
  have e2 := m2.blk
  have x13 : Ext H1 H3 := Kept.trans m2.ext p3.kept (fun _ f _ => f) (fun b e hb => by omega)
  have x3 := x1.trans x13
  have rt := p3.at_
  have c1 := c1.keep x3 (fun f => f)
  have c2 := c2.keep x3 (fun f => f)
  have h1 := h1.keep x3 (fun b hb _ => ⟨fun f => f, hb⟩)
  have h2 := h2.keep x3 (fun b hb _ => ⟨fun f => f, hb⟩)
  repeat (first | refine codeA (k := ?_) | refine condA (k := ?_) | refine offA (k := ?_) | refine pureA (k := ?_) | refine readA (k := ?_))
  refine At_cut (fun (s : Unit) => [(4, .int .u32 ((l1 ++ l2).foldl cbyte 4294967295 : Nat))]) (fun s H' => H' = H3) ?_ ?_
  · refine At_block ?_
    refine At_loop (fun (j : Nat) => [(3, .pointer (some ⟨x, 0, none⟩)), (4, .int .u32 ((if j = 0 then [] else if j = 1 then l1 else l1 ++ l2).foldl cbyte 4294967295 : Nat)), (10, .slice (some ⟨b, 0, none⟩) 2 c), (11, .int .i64 2), (12, .int .i64 j)]) (fun j H' => H' = H3 ∧ j ≤ 2) (fun j => 2 - j) 0 ?_ ⟨rfl, by decide⟩ ?_
    · (repeat (first | exact Sub.nil | refine Sub.cons rfl ?_))
    rintro j _ ⟨rfl, hj⟩
    rename_i H3
    by_cases hj2 : j = 2
    · subst hj2
      repeat (first | refine codeA (k := ?_) | refine condA (k := ?_) | refine offA (k := ?_) | refine pureA (k := ?_) | refine readA (k := ?_))
      refine At_meet (E := fun (s : Unit) => [(4, .int .u32 ((l1 ++ l2).foldl cbyte 4294967295 : Nat))]) (J := fun s H' => H' = H3) () ?_ rfl
      (repeat (first | exact Sub.nil | refine Sub.cons rfl ?_))
    obtain ⟨v, l, r0, r1, cv, hv, hn, hlt, hr0, hr1⟩ : ∃ v l r0 r1, Cell H3 b (0 + j * 1) v ∧ BytesAt D H3 v l ∧ l.length ≤ 1000000 ∧ r0 < 4294967296 ∧ (if j = 0 then [] else if j = 1 then l1 else l1 ++ l2).foldl cbyte 4294967295 = r0 ∧ (if j + 1 = 0 then [] else if j + 1 = 1 then l1 else l1 ++ l2).foldl cbyte 4294967295 = r1 ∧ r1 = l.foldl cbyte r0 := by
      have hc : j = 0 ∨ j = 1 := by omega
      rcases hc with rfl | rfl
      · exact ⟨v1, l1, _, _, c1, h1, n1, cfold_lt _ (by decide), rfl, rfl, rfl⟩
      · exact ⟨v2, l2, _, _, c2, h2, n2, cfold_lt _ (by decide), rfl, rfl, by simp⟩
    obtain ⟨hr1, hr1'⟩ := hr1
    rw [hr0]
    obtain ⟨q, cc, rfl⟩ := hv.form
    repeat (first | refine codeA (k := ?_) | refine condA (k := ?_) | refine offA (k := ?_) | refine pureA (k := ?_) | refine readA (k := ?_))
    refine At_cut (fun (s : Unit) => [(3, .pointer (some ⟨x, 0, none⟩)), (4, .int .u32 (r1 : Nat)), (10, .slice (some ⟨b, 0, none⟩) 2 c), (11, .int .i64 2), (12, .int .i64 j)]) (fun s H' => H' = H3) ?_ ?_
    · refine At_block ?_
      repeat (first | refine codeA (k := ?_) | refine condA (k := ?_) | refine offA (k := ?_) | refine pureA (k := ?_) | refine readA (k := ?_))
      refine At_block ?_
      refine At_loop (fun (i : Nat) => [(3, .pointer (some ⟨x, 0, none⟩)), (4, .int .u32 ((l.take i).foldl cbyte r0 : Nat)), (10, .slice (some ⟨b, 0, none⟩) 2 c), (11, .int .i64 2), (12, .int .i64 j), (16, .slice q l.length cc), (17, .int .i64 l.length), (18, .int .i64 i)]) (fun i H' => H' = H3 ∧ i ≤ l.length) (fun i => l.length - i) 0 ?_ ⟨rfl, Nat.zero_le _⟩ ?_
      · (repeat (first | exact Sub.nil | refine Sub.cons rfl ?_))
      rintro i _ ⟨rfl, hi⟩
      rename_i H3
      by_cases hil : i < l.length
      rotate_left
      · obtain rfl : i = l.length := by omega
        rw [List.take_length, ← hr1']
        repeat (first | refine codeA (k := ?_) | refine condA (k := ?_) | refine offA (k := ?_) | refine pureA (k := ?_) | refine readA (k := ?_))
        refine At_meet (E := fun (s : Unit) => _) (J := fun s H' => H' = H3) () ?_ rfl
        (repeat (first | exact Sub.nil | refine Sub.cons rfl ?_))
      have hx : l[i]? = some l[i] := by simp [hil]
      have htk : (l.take (i + 1)).foldl cbyte r0 = cbyte ((l.take i).foldl cbyte r0) l[i] := by rw [List.take_add_one, hx, List.foldl_append]; rfl
      have hR := cfold_lt (l.take i) hlt
      generalize l[i] = y at hx htk
      generalize (l.take i).foldl cbyte r0 = R at htk hR
      have h255 := y.toNat_lt
      obtain ⟨bb, oo, rfl, _, _, hcell⟩ := hv.some (by omega)
      have cy : Cell H3 bb (oo + i * 1) (.int .u8 y.toNat) := by rw [Nat.mul_one]; exact hcell i y hx
      have hQ : R ^^^ y.toNat < 4294967296 := Nat.xor_lt_two_pow (n := 32) hR (by omega)
      repeat (first | refine codeA (k := ?_) | refine condA (k := ?_) | refine offA (k := ?_) | refine pureA (k := ?_) | refine readA (k := ?_) | refine At_block ?_)
      refine At_pure (p_convInt rfl) rfl rfl rfl ?_
      refine At_tell 24 (.int .u32 (y.toNat : Nat)) rfl (by rw [IntWalk.u32_in _ (by omega)]) ?_
      refine At_pure (p_xor32 (a := R) (b := y.toNat) rfl rfl hR (by omega)) rfl rfl rfl ?_
      repeat (first | refine codeA (k := ?_) | refine condA (k := ?_) | refine offA (k := ?_) | refine pureA (k := ?_) | refine readA (k := ?_))
      refine At_pure (p_and32 (a := (R ^^^ y.toNat)) (b := 15) rfl rfl hQ (by decide)) rfl rfl rfl ?_
      refine At_tell 27 (.int .u32 ((R ^^^ y.toNat) % 16 : Nat)) rfl (by rw [and15]) ?_
      refine At_pure (p_indexArr (i := (R ^^^ y.toNat) % 16) rfl rfl (Nat.mod_lt _ (by decide))) rfl rfl rfl ?_
      refine At_read (r_load rfl rfl (tab_cell rt)) rfl rfl rfl ?_
      repeat (first | refine codeA (k := ?_) | refine condA (k := ?_) | refine offA (k := ?_) | refine pureA (k := ?_) | refine readA (k := ?_))
      refine At_pure (p_shr64 (a := (R ^^^ y.toNat)) (b := 4) rfl rfl (by decide)) rfl rfl rfl ?_
      refine At_tell 31 (.int .u32 ((R ^^^ y.toNat) / 16 : Nat)) rfl rfl ?_
      refine At_pure (p_xor32 (a := ctab ((R ^^^ y.toNat) % 16)) (b := (R ^^^ y.toNat) / 16) rfl rfl (ctab_lt _ (Nat.mod_lt _ (by decide))) (by omega)) rfl rfl rfl ?_
      refine At_tell 32 (.int .u32 (chalf (R ^^^ y.toNat) : Nat)) rfl rfl ?_
      repeat (first | refine codeA (k := ?_) | refine condA (k := ?_) | refine offA (k := ?_) | refine pureA (k := ?_) | refine readA (k := ?_))
      have hQ := chalf_lt hQ
      refine At_pure (p_and32 (a := (chalf (R ^^^ y.toNat))) (b := 15) rfl rfl hQ (by decide)) rfl rfl rfl ?_
      refine At_tell 34 (.int .u32 ((chalf (R ^^^ y.toNat)) % 16 : Nat)) rfl (by rw [and15]) ?_
      refine At_pure (p_indexArr (i := (chalf (R ^^^ y.toNat)) % 16) rfl rfl (Nat.mod_lt _ (by decide))) rfl rfl rfl ?_
      refine At_read (r_load rfl rfl (tab_cell rt)) rfl rfl rfl ?_
      repeat (first | refine codeA (k := ?_) | refine condA (k := ?_) | refine offA (k := ?_) | refine pureA (k := ?_) | refine readA (k := ?_))
      refine At_pure (p_shr64 (a := (chalf (R ^^^ y.toNat))) (b := 4) rfl rfl (by decide)) rfl rfl rfl ?_
      refine At_tell 38 (.int .u32 ((chalf (R ^^^ y.toNat)) / 16 : Nat)) rfl rfl ?_
      refine At_pure (p_xor32 (a := ctab ((chalf (R ^^^ y.toNat)) % 16)) (b := (chalf (R ^^^ y.toNat)) / 16) rfl rfl (ctab_lt _ (Nat.mod_lt _ (by decide))) (by omega)) rfl rfl rfl ?_
      refine At_tell 39 (.int .u32 (chalf (chalf (R ^^^ y.toNat)) : Nat)) rfl rfl ?_
      repeat (first | refine codeA (k := ?_) | refine condA (k := ?_) | refine offA (k := ?_) | refine pureA (k := ?_) | refine readA (k := ?_))
      refine At_tell 18 (.int .i64 (i + 1 : Nat)) rfl rfl ?_
      refine At_back (i + 1) ?_ ⟨rfl, hil⟩ (by omega)
      rw [htk]
      (repeat (first | exact Sub.nil | refine Sub.cons rfl ?_))
    rintro _ _ rfl
    rename_i H3
    repeat (first | refine codeA (k := ?_) | refine condA (k := ?_) | refine offA (k := ?_) | refine pureA (k := ?_) | refine readA (k := ?_))
    refine At_tell 12 (.int .i64 (j + 1 : Nat)) rfl rfl ?_
    refine At_back (j + 1) ?_ ⟨rfl, by omega⟩ (by omega)
    rw [hr1]
    (repeat (first | exact Sub.nil | refine Sub.cons rfl ?_))
  rintro _ _ rfl
  rename_i H3
  repeat (first | refine codeA (k := ?_) | refine condA (k := ?_) | refine offA (k := ?_) | refine pureA (k := ?_) | refine readA (k := ?_))
  refine At_pure (p_not32 rfl (cfold_lt _ (by decide))) rfl rfl rfl ?_
  repeat (first | refine codeA (k := ?_) | refine condA (k := ?_) | refine offA (k := ?_) | refine pureA (k := ?_) | refine readA (k := ?_))
  exact At_ret1 rfl rfl ⟨x3, rfl⟩
end Go.Proofs.YtlaobecajieaaaaGreat
/- Four bytes of a number, written and read. -/
namespace Go.Proofs.YtlaobecajieaaaaGreat
open Go Ev
set_option linter.unusedVariables false
set_option linter.unusedSimpArgs false

def bcs (l : List UInt8) : List Value := l.map fun x => .int .u8 x.toNat
def be (v : Nat) : List UInt8 := [UInt8.ofNat (v / 16777216), UInt8.ofNat (v / 65536), UInt8.ofNat (v / 256), UInt8.ofNat v]
def ge (l : List UInt8) : Nat := l.foldl (fun v b => v * 256 + b.toNat) 0
theorem ge_be (v : Nat) (h : v < 4294967296) : ge (be v) = v := by
  simp [ge, be]
  omega
theorem be_get (v i : Nat) (hi : i < 4) : ∃ x : UInt8, (be v)[i]? = some x ∧ (x.toNat : Int) = ((v / 2 ^ (24 - 8 * i) % 256 : Nat) : Int) := by
  match i, hi with
  | 0, _ => exact ⟨_, rfl, by simp⟩
  | 1, _ => exact ⟨_, rfl, by simp⟩
  | 2, _ => exact ⟨_, rfl, by simp⟩
  | 3, _ => exact ⟨_, rfl, by simp⟩
theorem set_mid (cs A : List Value) (o i : Nat) (x : Value) (hx : A[i]? = some x) (ho : o + i < cs.length) : (cs.take o ++ A.take i ++ cs.drop (o + i)).set (o + i) x = cs.take o ++ A.take (i + 1) ++ cs.drop (o + (i + 1)) := by
  have hil := (List.getElem?_eq_some_iff.1 hx).1
  have hl : (cs.take o ++ A.take i).length = o + i := by simp; omega
  rw [List.set_append_right _ _ (by omega), hl, Nat.sub_self, List.drop_eq_getElem_cons ho, List.set_cons_zero, List.take_add_one, hx]
  simp [Nat.add_assoc]
section
variable {P : Program} {n : Nat} {W : World} {env : Env} {H : Heap} {Q : Exit → Act → World → Prop} {K : Act → World → Prop}
variable {ty : TypeId} {pos : String} {af : Array Edge} {gd : Option (Nat × Bool)}
theorem W_make {x y : Operand} {t e : TypeId} {d : TypeDesc} {sz sb es eb nn dd : Nat} {z ez : Value} {kl kc : IntKind} [h : Ty P t (.slice e) sz sb z] [he : Ty P e d es eb ez] (hx : ev env x = some (.int kl nn)) (hy : ev env y = some (.int kc nn)) (hb : eb * nn ≤ 1000000000) (h63 : nn ≤ 1000000000) (hn : Nat.blt dd n = true)
    (k : ∀ b H', New H H' b (.cells (madeCells ez.cells (nn * es)) e) → At n W ((dd, .slice (some ⟨b, 0, none⟩) nn nn) :: env) H' K) : At n W env H (fun a w => Oper.wp P ⟨some dd, .makeSlice t x y, ty, pos, af, gd⟩ a w K Q) := by
  refine W_new (v := fun b => .slice (some ⟨b, 0, none⟩) nn nn) (fun a w f eq => ?_) rfl hn k
  subst eq
  obtain ⟨i, h1, h2, h3, h4⟩ := he.info
  have hbi : ((eb * nn : Nat) : Int) ≤ 1000000000 := Int.ofNat_le.2 hb
  rw [Int.natCast_mul] at hbi
  have hr := run_make (P := P) w t e i ez h.und h1 h4 kl kc nn nn (by omega) (Int.le_refl _) (by rw [h3]; omega) (by omega)
  simp only [Int.toNat_natCast, h2] at hr
  exact ⟨w.alloc (.cells (madeCells ez.cells (nn * es)) e), by simp [execOp, f.ev hx, f.ev hy, hr], rfl, ⟨rfl, rfl, rfl⟩⟩
theorem W_copyB {D : Nat → Prop} {x y : Operand} {dT sT e : TypeId} {d : TypeDesc} {sz sb eb dd : Nat} {z ez v : Value} {g o dl dc : Nat} {cs : List Value} {bt : TypeId} {l : List UInt8} [h : Ty P dT (.slice e) sz sb z] [he : Ty P e d 1 eb ez] (hx : ev env x = some (.slice (some ⟨g, o, none⟩) dl dc)) (hy : ev env y = some v) (hv : BytesAt D H v l)
    (hb : H[g]? = some (.cells cs.toArray bt (0, 0))) (h0 : 0 < l.length) (hd : l.length ≤ dl) (hf : o + l.length ≤ cs.length) (hn : Nat.blt dd n = true)
    (k : ∀ H', Put H H' g (.cells (cs.take o ++ bcs l ++ cs.drop (o + l.length)).toArray bt (0, 0)) → At n W ((dd, .int .i64 l.length) :: env) H' K) : At n W env H (fun a w => Oper.wp P ⟨some dd, .call ⟨.builtin .copy, #[x, y], #[dT, sT]⟩, ty, pos, af, gd⟩ a w K Q) := fun a w f eq hl => by
  subst eq
  obtain ⟨q, c, rfl⟩ := hv.form
  obtain ⟨b', o', rfl, _, _, hcell⟩ := hv.some h0
  obtain ⟨i, h1, h2, _⟩ := he.info
  have hbl : (bcs l).length = l.length := by simp [bcs]
  have hr := run_copy_row (P := P) w dT sT ty e g o dl dc ⟨b', o', none⟩ l.length c cs.toArray bt (bcs l) h.und (by rw [h1]; simp [h2]) hb (by rw [hbl]; exact (Nat.min_eq_left hd).symm)
    (fun j u hj => by
      rw [add_none]
      simp only [bcs, List.getElem?_map, Option.map_eq_some_iff] at hj
      obtain ⟨y, hy, rfl⟩ := hj
      exact (hcell j y hy).cell?) (by rw [hbl]; simpa using hf) (fun u hu => by
      simp only [bcs, List.mem_map] at hu
      obtain ⟨y, _, rfl⟩ := hu
      rfl)
  rw [hbl] at hr
  have hrun : (execOp a.eval ⟨some dd, .call ⟨.builtin .copy, #[x, y], #[dT, sT]⟩, ty, pos, af, gd⟩).run P w = .ok (.value (.int .i64 l.length)) (w.setRow g (cs.take o ++ bcs l ++ cs.drop (o + l.length)).toArray) := by
    simp [execOp, resolve, invoke, builtin, f.ev hx, f.ev hy, hr, goInt]
  show Oper.wp P _ a w K Q
  unfold Oper.wp
  rw [hrun, Oper.upon_value]
  exact k _ ⟨by simp [World.setRow], setRow_heap w g _ _ _ _ hb, ⟨by simp [World.setRow], fun k _ hS => setRow_other w g k _ hS⟩⟩ _ _ (f.put hn _) rfl (hl.trans ⟨rfl, rfl, rfl⟩)
end
attribute [local irreducible] Go.wpList Go.bodyPost Go.Code.wp Go.Exit.then Go.Exit.inBlock Go.Exit.noGoto Ev.wpAnyG Go.Oper.wp Ev.Back Ev.Left Ev.Spc Ev.At Ev.Pure Ev.Reads Ev.Runs Ev.Does Ev.Cell

theorem put_spec {H : Heap} {g o n c v : Nat} {cs : List Value} (hb : H[g]? = some (.cells cs.toArray 5 (0, 0))) (hn : 4 ≤ n) (ho : o + 4 ≤ cs.length) (hv : v < 4294967296) :
    Spc Tryz.prog 244 #[.slice (some ⟨g, o, none⟩) n c, .int .u32 v] H fun r H' => r = .tuple #[] ∧ Put H H' g (.cells (cs.take o ++ bcs (be v) ++ cs.drop (o + 4)).toArray 5 (0, 0)) := by
  refine spec_of Tryz.func244 rfl Tryz.ntmps244 rfl (fun W => ?_)
  repeat (first | refine codeA (k := ?_) | refine condA (k := ?_) | refine offA (k := ?_) | refine pureA (k := ?_) | refine readA (k := ?_))
  refine At_block ?_
  refine At_loop (fun (i : Nat) => [(0, .slice (some ⟨g, o, none⟩) n c), (1, .int .u32 (v : Nat)), (5, .int .i64 i)]) (fun i H' => i ≤ 4 ∧ Kept (· = g) H H' ∧ H'.size = H.size ∧ H'[g]? = some (.cells (cs.take o ++ (bcs (be v)).take i ++ cs.drop (o + i)).toArray 5 (0, 0))) (fun i => 4 - i) 0 ?_ ⟨by decide, Kept.refl _ _, rfl, by simpa using hb⟩ ?_
  · (repeat (first | exact Sub.nil | refine Sub.cons rfl ?_))
  rintro i H1 ⟨hi, hk, hs, hb1⟩
  by_cases hil : i < 4
  rotate_left
  · obtain rfl : i = 4 := by omega
    have e4 : (bcs (be v)).take 4 = bcs (be v) := rfl
    rw [e4] at hb1
    repeat (first | refine codeA (k := ?_) | refine condA (k := ?_) | refine offA (k := ?_) | refine pureA (k := ?_) | refine readA (k := ?_))
    exact At_ret0 rfl ⟨rfl, hs, hb1, hk⟩ (.inl rfl)
  obtain ⟨x, hx, hxv⟩ := be_get v i hil
  have hbx : (bcs (be v))[i]? = some (.int .u8 x.toNat) := by simp [bcs, hx]
  repeat (first | refine codeA (k := ?_) | refine condA (k := ?_) | refine offA (k := ?_) | refine pureA (k := ?_) | refine readA (k := ?_) | refine At_block ?_)
  refine At_pure (p_mul rfl rfl (by omega)) rfl rfl rfl ?_
  repeat (first | refine codeA (k := ?_) | refine condA (k := ?_) | refine offA (k := ?_) | refine pureA (k := ?_) | refine readA (k := ?_))
  refine At_tell 13 (.int .i64 (24 - 8 * i : Nat)) rfl (by congr 1; omega) ?_
  refine At_pure (p_shr64 (a := v) (b := 24 - 8 * i) rfl rfl (by show 24 - 8 * i ≤ 32; omega)) rfl rfl rfl ?_
  refine At_pure (p_convInt rfl) rfl rfl rfl ?_
  refine At_tell 15 (.int .u8 x.toNat) rfl (by rw [hxv, IntKind.wrap_u8]; congr 1) ?_
  refine At_pure (p_indexAddr (i := i) rfl rfl (by omega)) rfl rfl rfl ?_
  refine At_wp (W_store rfl rfl hb1 rfl rfl rfl (Nat.ble_eq_true_of_le (by simp [bcs, be]; omega)) ?_) rfl
  intro H2 p2
  repeat (first | refine codeA (k := ?_) | refine condA (k := ?_) | refine offA (k := ?_) | refine pureA (k := ?_) | refine readA (k := ?_))
  refine At_tell 5 (.int .i64 (i + 1 : Nat)) rfl rfl ?_
  refine At_back (i + 1) ?_ ⟨hil, Kept.trans hk p2.kept (fun _ s _ => s) (fun _ s _ => s), by rw [p2.size, hs], ?_⟩ (by omega)
  · (repeat (first | exact Sub.nil | refine Sub.cons rfl ?_))
  · have := p2.at_
    rw [Nat.mul_one, List.setIfInBounds_toArray, set_mid cs _ o i _ hbx (by omega)] at this
    exact this
theorem get_spec {D : Nat → Prop} {H : Heap} {v : Value} {l : List UInt8} (hv : BytesAt D H v l) (h4 : 4 ≤ l.length) : Spc Tryz.prog 71 #[v] H fun r H' => H = H' ∧ r = .int .u32 (ge (l.take 4) : Nat) := by
  obtain ⟨q, c, rfl⟩ := hv.form
  obtain ⟨b, o, rfl, hDb, hbl, hcell⟩ := hv.some (by omega)
  refine spec_of Tryz.func71 rfl Tryz.ntmps71 rfl (fun W => ?_)
  repeat (first | refine codeA (k := ?_) | refine condA (k := ?_) | refine offA (k := ?_) | refine pureA (k := ?_) | refine readA (k := ?_))
  refine At_cut (fun (s : Unit) => [(3, .int .u32 (ge (l.take 4) : Nat))]) (fun s H' => H' = H) ?_ ?_
  · refine At_block ?_
    refine At_loop (fun (i : Nat) => [(0, .slice (some ⟨b, o, none⟩) l.length c), (3, .int .u32 (ge (l.take i) : Nat)), (5, .int .i64 i)]) (fun i H' => H' = H ∧ i ≤ 4 ∧ ge (l.take i) < 256 ^ i) (fun i => 4 - i) 0 ?_ ⟨rfl, by decide, by simp [ge]⟩ ?_
    · (repeat (first | exact Sub.nil | refine Sub.cons rfl ?_))
    rintro i _ ⟨rfl, hi, hlt⟩
    rename_i H
    by_cases hil : i < 4
    rotate_left
    · obtain rfl : i = 4 := by omega
      repeat (first | refine codeA (k := ?_) | refine condA (k := ?_) | refine offA (k := ?_) | refine pureA (k := ?_) | refine readA (k := ?_))
      refine At_meet (E := fun (s : Unit) => [(3, .int .u32 (ge (l.take 4) : Nat))]) (J := fun s H' => H' = H) () ?_ rfl
      (repeat (first | exact Sub.nil | refine Sub.cons rfl ?_))
    have hx : l[i]? = some l[i] := by simp [show i < l.length by omega]
    have hge : ge (l.take (i + 1)) = ge (l.take i) * 256 + l[i].toNat := by unfold ge; rw [List.take_add_one, hx, List.foldl_append]; rfl
    generalize l[i] = y at hx hge
    have h255 := y.toNat_lt
    have cy : Cell H b (o + i * 1) (.int .u8 y.toNat) := by rw [Nat.mul_one]; exact hcell i y hx
    have h3 : 256 ^ i ≤ 256 ^ 3 := Nat.pow_le_pow_right (by decide) (by omega)
    generalize hR : ge (l.take i) = R at hlt hge
    have hor : R * 2 ^ 8 ||| y.toNat = R * 256 + y.toNat := by
      rw [Nat.mul_comm R, ← Nat.two_pow_add_eq_or_of_lt (by omega)]
    repeat (first | refine codeA (k := ?_) | refine condA (k := ?_) | refine offA (k := ?_) | refine pureA (k := ?_) | refine readA (k := ?_) | refine At_block ?_)
    refine At_pure (p_shl32 (a := R) (b := 8) rfl rfl (by decide) (by omega)) rfl rfl rfl ?_
    repeat (first | refine codeA (k := ?_) | refine condA (k := ?_) | refine offA (k := ?_) | refine pureA (k := ?_) | refine readA (k := ?_))
    refine At_pure (p_convInt rfl) rfl rfl rfl ?_
    refine At_tell 14 (.int .u32 (y.toNat : Nat)) rfl (by rw [IntWalk.u32_in _ (by omega)]) ?_
    refine At_pure (p_or32 (a := R * 2 ^ 8) (b := y.toNat) rfl rfl (by omega) (by omega)) rfl rfl rfl ?_
    refine At_tell 15 (.int .u32 (ge (l.take (i + 1)) : Nat)) rfl (by rw [hor, hge]) ?_
    repeat (first | refine codeA (k := ?_) | refine condA (k := ?_) | refine offA (k := ?_) | refine pureA (k := ?_) | refine readA (k := ?_))
    refine At_tell 5 (.int .i64 (i + 1 : Nat)) rfl rfl ?_
    refine At_back (i + 1) ?_ ⟨rfl, hil, by rw [hge, Nat.pow_succ]; omega⟩ (by omega)
    (repeat (first | exact Sub.nil | refine Sub.cons rfl ?_))
  rintro _ _ rfl
  rename_i H
  repeat (first | refine codeA (k := ?_) | refine condA (k := ?_) | refine offA (k := ?_) | refine pureA (k := ?_) | refine readA (k := ?_))
  exact At_ret1 rfl rfl ⟨rfl, rfl⟩
end Go.Proofs.YtlaobecajieaaaaGreat
/- Frames of a disk: sealed, and read again. -/
namespace Go.Proofs.YtlaobecajieaaaaGreat
open Go Ev
set_option linter.unusedVariables false
set_option linter.unusedSimpArgs false

/-- a frame's bytes -/
def sealB (l : List UInt8) : List UInt8 := be l.length ++ be (csum (be l.length ++ l)) ++ l
theorem sealB_len (l : List UInt8) : (sealB l).length = 8 + l.length := by simp [sealB, be]; omega
theorem bcs_append (a b : List UInt8) : bcs (a ++ b) = bcs a ++ bcs b := by simp [bcs]
theorem bytes_block {H : Heap} {g o n c : Nat} {cs : List Value} {t : TypeId} {fr : Nat × Nat} {l : List UInt8} {D : Nat → Prop} (hb : H[g]? = some (.cells cs.toArray t fr)) (hl : l.length = n) (hc : n ≤ c) (hm : c ≤ maxLen) (hD : D g) (h : ∀ (i : Nat) (x : UInt8), l[i]? = some x → cs[o + i]? = some (.int .u8 x.toNat)) : BytesAt D H (.slice (some ⟨g, o, none⟩) n c) l := by
  subst hl
  exact BytesAt.mk hc hm hD (fun i x hx => Cell.of hb (by simpa using h i x hx))
theorem made_bytes (n : Nat) : madeCells #[Value.int .u8 0] n = (List.replicate n (Value.int .u8 0)).toArray := by
  apply Array.ext
  · simp [madeCells]
  · intro i h1 h2
    simp [madeCells, Nat.mod_one]
attribute [local irreducible] Go.wpList Go.bodyPost Go.Code.wp Go.Exit.then Go.Exit.inBlock Go.Exit.noGoto Ev.wpAnyG Go.Oper.wp Ev.Back Ev.Left Ev.Spc Ev.At Ev.Pure Ev.Reads Ev.Runs Ev.Does Ev.Cell

set_option maxHeartbeats 2000000 in
theorem seal_spec {D : Nat → Prop} {H : Heap} {v : Value} {l : List UInt8} (hv : BytesAt D H v l) (h0 : 0 < l.length) (hl : l.length ≤ 131072) :
    Spc Tryz.prog 164 #[v] H fun r H' => BytesOut (sealB l) H r H' := by
  obtain ⟨q, c, rfl⟩ := hv.form
  refine spec_of Tryz.func164 rfl Tryz.ntmps164 rfl (fun W => ?_)
  repeat (first | refine codeA (k := ?_) | refine condA (k := ?_) | refine offA (k := ?_) | refine pureA (k := ?_) | refine readA (k := ?_))
  refine At_tell 10 (.int .i64 (8 + l.length : Nat)) rfl (by congr 1) ?_
  refine At_wp (W_make (nn := 8 + l.length) rfl rfl (by omega) (by omega) rfl ?_) rfl
  intro g H1 n1
  have e1 := n1.blk
  have s1 := n1.size
  have hb1 : H1[g]? = some (.cells (List.replicate (8 + l.length) (Value.int .u8 0)).toArray 5 (0, 0)) := by
    have := n1.at_
    rw [show (Value.int .u8 0).cells = #[Value.int .u8 0] from rfl, made_bytes, Nat.mul_one] at this
    exact this
  repeat (first | refine codeA (k := ?_) | refine condA (k := ?_) | refine offA (k := ?_) | refine pureA (k := ?_) | refine readA (k := ?_))
  refine At_pure (p_convInt rfl) rfl rfl rfl ?_
  refine At_tell 15 (.int .u32 (l.length : Nat)) rfl (by rw [IntWalk.u32_in _ (by omega)]) ?_
  refine At_wp (W_call rfl rfl (put_spec hb1 (by omega) (by simp; omega) (by omega)) rfl rfl ?_) rfl
  rintro _ H2 ⟨rfl, p2⟩
  have hb2 := p2.at_
  have x12 : Ext H H2 := Kept.trans n1.ext p2.kept (fun _ f _ => f) (fun b e hb => by omega)
  have s2 := p2.size
  have hv2 := hv.keep x12 (fun b hb hl => ⟨fun f => f, (trivial : (fun _ => True) b)⟩)
  generalize hcs2 : List.take 0 (List.replicate (8 + l.length) (Value.int .u8 0)) ++ bcs (be l.length) ++ List.drop (0 + 4) (List.replicate (8 + l.length) (Value.int .u8 0)) = cs2 at hb2
  have hl2 : cs2.length = 8 + l.length := by rw [← hcs2]; simp [bcs, be]; omega
  have ht2 : cs2.take 4 = bcs (be l.length) := by rw [← hcs2]; simp [bcs, be]
  have hbe : BytesAt (fun _ => True) H2 (.slice (some ⟨g, 0, none⟩) 4 (8 + l.length)) (be l.length) := by
    refine bytes_block hb2 rfl (by omega) (by simp only [maxLen]; omega) trivial (fun i x hx => ?_)
    have h4 : i < 4 := (List.getElem?_eq_some_iff.1 hx).1
    rw [Nat.zero_add, ← List.getElem?_take_of_lt h4, ht2]
    simp [bcs, hx]
  repeat (first | refine codeA (k := ?_) | refine condA (k := ?_) | refine offA (k := ?_) | refine pureA (k := ?_) | refine readA (k := ?_))
  refine At_draw [] (fun H' => True) Tryz.mixed ?_
  first | refine gA 0 (k := ?_) | refine goffA 0 (k := ?_)
  refine gqA 1 rfl (p_slice_lo (i := 4) rfl rfl (by omega) (by omega)) (k := ?_)
  first | refine gA 2 (k := ?_) | refine goffA 2 (k := ?_)
  refine gqA 3 rfl (p_slice_hi (j := 4) rfl rfl (by omega)) (k := ?_)
  first | refine gA 4 (k := ?_) | refine goffA 4 (k := ?_)
  refine G_op 5 rfl (by kernel_rfl) rfl (W_buildSliceN (cs := #[.slice (some ⟨g, 0, none⟩) 4 (8 + l.length), .slice q l.length c]) rfl (by kernel_rfl) (by decide) rfl ?_) 
  intro g3 H3 n3
  refine G_free (by kernel_rfl) ?_
  have e3 := n3.blk
  have s3 := n3.size
  have c0 : Cell H3 g3 (0 + 0 * 1) (.slice (some ⟨g, 0, none⟩) 4 (8 + l.length)) := Cell.of n3.at_ rfl
  have c1 : Cell H3 g3 (0 + 1 * 1) (.slice q l.length c) := Cell.of n3.at_ rfl
  refine G_op 6 rfl (by kernel_rfl) rfl (W_call rfl rfl (sum2_spec c0 c1 (hbe.keep n3.ext (fun b hb _ => ⟨fun f => f, hb⟩)) (hv2.keep n3.ext (fun b hb _ => ⟨fun f => f, hb⟩)) (by simp [be]) (by omega)) rfl rfl ?_) 
  rintro _ H4 ⟨x4, rfl⟩
  refine G_free (by kernel_rfl) ?_
  have hb4 := (n3.ext.trans x4).keep hb2 (fun f => f)
  have s4 := x4.size
  refine G_op 7 rfl (by kernel_rfl) rfl (W_call rfl rfl (put_spec hb4 (by omega) (by omega) (csum_lt _)) rfl rfl ?_) 
  rintro _ H5 ⟨rfl, p5⟩
  refine G_free (by kernel_rfl) ?_
  refine G_done (by kernel_rfl) ?_
  have hb5 := p5.at_
  have s5 := p5.size
  have x25 : Ext H H5 := Kept.trans (x12.trans (n3.ext.trans x4)) p5.kept (fun _ f _ => f) (fun b e hb => by omega)
  have hv5 := hv.keep x25 (fun b hb hl => ⟨fun f => f, (trivial : (fun _ => True) b)⟩)
  generalize hcs5 : List.take (0 + 4 * 1) cs2 ++ bcs (be (csum (be l.length ++ l))) ++ List.drop (0 + 4 * 1 + 4) cs2 = cs5 at hb5
  have hl5 : cs5.length = 8 + l.length := by rw [← hcs5]; simp [bcs, be, hl2]; omega
  have ht5 : cs5.take 8 = bcs (be l.length ++ be (csum (be l.length ++ l))) := by
    rw [← hcs5, bcs_append]
    show List.take 8 (List.take 4 cs2 ++ _ ++ _) = _
    rw [ht2]
    simp [bcs, be]
  repeat (first | refine codeA (k := ?_) | refine condA (k := ?_) | refine offA (k := ?_) | refine pureA (k := ?_) | refine readA (k := ?_))
  refine At_pure (p_slice_lo (i := 8) rfl rfl (by omega) (by omega)) rfl rfl rfl ?_
  repeat (first | refine codeA (k := ?_) | refine condA (k := ?_) | refine offA (k := ?_) | refine pureA (k := ?_) | refine readA (k := ?_))
  refine At_wp (W_copyB (cs := cs5) rfl rfl hv5 hb5 h0 (by omega) (by omega) rfl ?_) rfl
  intro H6 p6
  have hb6 := p6.at_
  repeat (first | refine codeA (k := ?_) | refine condA (k := ?_) | refine offA (k := ?_) | refine pureA (k := ?_) | refine readA (k := ?_))
  refine At_ret2 rfl rfl rfl ⟨Kept.trans x25 p6.kept (fun _ f _ => f) (fun b e hb => by omega), _, rfl, ?_⟩
  refine bytes_block hb6 (sealB_len l) (Nat.le_refl _) (by simp only [maxLen]; omega) (by omega) (fun i x hx => ?_)
  have hall : List.take (0 + 8 * 1) cs5 ++ bcs l ++ List.drop (0 + 8 * 1 + l.length) cs5 = bcs (sealB l) := by
    show List.take 8 cs5 ++ bcs l ++ List.drop (8 + l.length) cs5 = _
    rw [ht5, List.drop_of_length_le (by omega), ← bcs_append, List.append_nil]
    rfl
  rw [hall, Nat.zero_add]
  simp [bcs, hx]
end Go.Proofs.YtlaobecajieaaaaGreat
/- The first frame of a disk's bytes, read again. -/
namespace Go.Proofs.YtlaobecajieaaaaGreat
open Go Ev
set_option linter.unusedVariables false
set_option linter.unusedSimpArgs false

theorem seal_take4 (l r : List UInt8) : (sealB l ++ r).take 4 = be l.length := by simp [sealB, be]
theorem seal_drop4 (l r : List UInt8) : ((sealB l ++ r).drop 4).take 4 = be (csum (be l.length ++ l)) := by simp [sealB, be]
theorem seal_drop8 (l r : List UInt8) (i : Nat) : (sealB l ++ r)[8 + i]? = (l ++ r)[i]? := by
  rw [show 8 + i = i + 8 by omega]
  simp [sealB, be]
/-- a part of bytes that lie in a heap -/
theorem part_bytes {H : Heap} {b o c n : Nat} {L l : List UInt8} {D : Nat → Prop} (a : Nat) (hc : ∀ (i : Nat) (x : UInt8), L[i]? = some x → Cell H b (o + i) (.int .u8 x.toNat)) (hn : l.length = n) (h1 : n ≤ c) (h2 : c ≤ maxLen) (hD : D b) (h : ∀ (i : Nat) (x : UInt8), l[i]? = some x → L[a + i]? = some x) : BytesAt D H (.slice (some ⟨b, o + a * 1, none⟩) n c) l := by
  subst hn
  refine BytesAt.mk h1 h2 hD (fun i x hx => ?_)
  have := hc (a + i) x (h i x hx)
  rwa [show o + a * 1 + i = o + (a + i) by omega]
attribute [local irreducible] Go.wpList Go.bodyPost Go.Code.wp Go.Exit.then Go.Exit.inBlock Go.Exit.noGoto Ev.wpAnyG Go.Oper.wp Ev.Back Ev.Left Ev.Spc Ev.At Ev.Pure Ev.Reads Ev.Runs Ev.Does Ev.Cell

set_option maxHeartbeats 2000000 in
theorem first_spec {D : Nat → Prop} {H : Heap} {v : Value} {l r : List UInt8} (hv : BytesAt D H v (sealB l ++ r)) (h0 : 0 < l.length) (hl : l.length ≤ 131072) (hr : r.length ≤ 1000000) :
    Spc Tryz.prog 33 #[v] H fun x H' => Ext H H' ∧ ∃ w, x = .tuple #[w, .int .i64 (8 + l.length : Nat), .int .i64 0] ∧ BytesAt (fun b => H.size ≤ b) H' w l := by
  obtain ⟨L, hL⟩ : ∃ L, L = sealB l ++ r := ⟨_, rfl⟩
  rw [← hL] at hv
  have hlen : L.length = 8 + l.length + r.length := by rw [hL]; simp [sealB_len]
  have ht4 : L.take 4 = be l.length := by rw [hL]; exact seal_take4 l r
  have hd4 : (L.drop 4).take 4 = be (csum (be l.length ++ l)) := by rw [hL]; exact seal_drop4 l r
  have hd8 : ∀ i, L[8 + i]? = (l ++ r)[i]? := fun i => by rw [hL]; exact seal_drop8 l r i
  obtain ⟨q, c, rfl⟩ := hv.form
  obtain ⟨u0, hcl, hcm⟩ : ∃ u : Unit, L.length ≤ c ∧ c ≤ maxLen := by
    obtain ⟨p', c', e, h1, h2, h3, _⟩ := hv
    cases e
    exact ⟨(), h1, h2⟩
  obtain ⟨b, o, rfl, hDb, hbl, hcell⟩ := hv.some (by omega)
  refine spec_of Tryz.func33 rfl Tryz.ntmps33 rfl (fun W => ?_)
  repeat (first | refine codeA (k := ?_) | refine condA (k := ?_) | refine offA (k := ?_) | refine pureA (k := ?_) | refine readA (k := ?_))
  refine At_wp (W_call rfl rfl (get_spec hv (by omega)) rfl rfl ?_) rfl
  rintro _ _ ⟨rfl, rfl⟩
  rw [ht4, ge_be _ (by omega)]
  repeat (first | refine codeA (k := ?_) | refine condA (k := ?_) | refine offA (k := ?_) | refine pureA (k := ?_) | refine readA (k := ?_))
  refine At_pure (p_convInt rfl) rfl rfl rfl ?_
  rw [show IntKind.wrap .i64 ((l.length : Nat) : Int) = ((l.length : Nat) : Int) from IntWalk.i64_in _ (by omega)]
  repeat (first | refine codeA (k := ?_) | refine condA (k := ?_) | refine offA (k := ?_) | refine pureA (k := ?_) | refine readA (k := ?_))
  refine At_pure (p_convInt rfl) rfl rfl rfl ?_
  rw [show IntKind.wrap .i64 ((l.length : Nat) : Int) = ((l.length : Nat) : Int) from IntWalk.i64_in _ (by omega)]
  repeat (first | refine codeA (k := ?_) | refine condA (k := ?_) | refine offA (k := ?_) | refine pureA (k := ?_) | refine readA (k := ?_))
  have ht : BytesAt D H (.slice (some ⟨b, o, none⟩) 4 c) (L.take 4) := by
    have := part_bytes (l := L.take 4) (n := 4) (c := c) 0 hcell (by simp; omega) (by omega) hcm hDb (fun i x hx => by
      have h4 : i < 4 := by have := (List.getElem?_eq_some_iff.1 hx).1; simp at this; omega
      rw [List.getElem?_take_of_lt h4] at hx
      rwa [Nat.zero_add])
    simpa using this
  have hm : BytesAt D H (.slice (some ⟨b, o + 8 * 1, none⟩) (8 + l.length - 8) (c - 8)) l :=
    part_bytes 8 hcell (by omega) (by omega) (by omega) hDb (fun i x hx => by
      rw [hd8, List.getElem?_append_left (List.getElem?_eq_some_iff.1 hx).1, hx])
  have hd : BytesAt D H (.slice (some ⟨b, o + 4 * 1, none⟩) (L.length - 4) (c - 4)) (L.drop 4) :=
    part_bytes 4 hcell (by simp) (by omega) (by omega) hDb (fun i x hx => by rwa [List.getElem?_drop] at hx)
  refine At_draw [] (fun H' => Ext H H') Tryz.mixed ?_
  first | refine gA 0 (k := ?_) | refine goffA 0 (k := ?_)
  refine gqA 1 rfl (p_slice_hi (j := 4) rfl rfl (by omega)) (k := ?_)
  first | refine gA 2 (k := ?_) | refine goffA 2 (k := ?_)
  first | refine gA 3 (k := ?_) | refine goffA 3 (k := ?_)
  refine gqA 4 rfl (p_slice (i := 8) (j := 8 + l.length) rfl rfl rfl (by omega) (by omega) (by omega)) (k := ?_)
  first | refine gA 7 (k := ?_) | refine goffA 7 (k := ?_)
  refine gqA 8 rfl (p_slice_lo (i := 4) rfl rfl (by omega) (by omega)) (k := ?_)
  refine G_op 5 rfl (by kernel_rfl) rfl (W_buildSliceN (cs := #[.slice (some ⟨b, o, none⟩) 4 c, .slice (some ⟨b, o + 8 * 1, none⟩) (8 + l.length - 8) (c - 8)]) rfl (by kernel_rfl) (by decide) rfl ?_) 
  intro g3 H3 n3
  refine G_free (by kernel_rfl) ?_
  have c0 : Cell H3 g3 (0 + 0 * 1) (.slice (some ⟨b, o, none⟩) 4 c) := Cell.of n3.at_ rfl
  have c1 : Cell H3 g3 (0 + 1 * 1) (.slice (some ⟨b, o + 8 * 1, none⟩) (8 + l.length - 8) (c - 8)) := Cell.of n3.at_ rfl
  refine G_op 6 rfl (by kernel_rfl) rfl (W_call rfl rfl (sum2_spec c0 c1 (ht.keep n3.ext (fun b hb _ => ⟨fun f => f, hb⟩)) (hm.keep n3.ext (fun b hb _ => ⟨fun f => f, hb⟩)) (by simp; omega) (by omega)) rfl rfl ?_) 
  rintro _ H4 ⟨x4, rfl⟩
  have x34 : Ext H H4 := n3.ext.trans x4
  refine G_free (by kernel_rfl) ?_
  refine G_op 9 rfl (by kernel_rfl) rfl (W_call rfl rfl (get_spec (hd.keep x34 (fun b hb _ => ⟨fun f => f, hb⟩)) (by simp; omega)) rfl rfl ?_) 
  rintro _ _ ⟨rfl, rfl⟩
  refine G_free (by kernel_rfl) ?_
  rw [hd4, ge_be _ (csum_lt _), ht4]
  first | refine gA 10 (k := ?_) | refine goffA 10 (k := ?_)
  refine G_done (by kernel_rfl) ?_
  repeat (first | refine codeA (k := ?_) | refine condA (k := ?_) | refine offA (k := ?_) | refine pureA (k := ?_) | refine readA (k := ?_))
  refine At_pure (p_slice (i := 8) (j := 8 + l.length) rfl rfl rfl (by omega) (by omega) (by omega)) rfl rfl rfl ?_
  refine At_wp (W_call rfl rfl (bclone_spec (hm.keep x34 (fun b hb _ => ⟨fun f => f, hb⟩)) (by omega)) rfl rfl ?_) rfl
  rintro w H5 ⟨x5, hw⟩
  repeat (first | refine codeA (k := ?_) | refine condA (k := ?_) | refine offA (k := ?_) | refine pureA (k := ?_) | refine readA (k := ?_))
  refine At_ret3 rfl rfl rfl rfl ⟨x34.trans x5, w, rfl, hw.mono (fun b hb _ => Nat.le_trans x34.size hb)⟩
end Go.Proofs.YtlaobecajieaaaaGreat
