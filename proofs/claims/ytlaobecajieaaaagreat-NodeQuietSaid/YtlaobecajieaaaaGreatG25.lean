/- A node's state, clock; its tick without jobs; an answer sent. -/
import Derived.Test.YtlaobecajieaaaaGreatG24
import Derived.Test.YtlaobecajieaaaaGreatG15
namespace Go.Proofs.YtlaobecajieaaaaGreat
open Go Ev
set_option linter.unusedVariables false
set_option linter.unusedSimpArgs false
def haveM : Ms := { kind := 2, ia := 1, inn := 1, tok := 0, tick := 0, how := 0, on := false, job := jo0 }
def heldM (on : Bool) : Ms := { kind := 14, ia := 1, inn := 1, tok := 1, tick := 0, how := 0, on := on, job := jo0 }
theorem haveM_ok : MsOk haveM := ⟨by show 2 < _; decide, by show 1 < _; decide, by show 1 < _; decide, by show 0 < _; decide, by show 0 < _; decide, by show 0 < _; decide, jo0_ok⟩
theorem heldM_ok (on : Bool) : MsOk (heldM on) := ⟨by show 14 < _; decide, by show 1 < _; decide, by show 1 < _; decide, by show 1 < _; decide, by show 0 < _; decide, by show 0 < _; decide, jo0_ok⟩
theorem msgT_bytes {m : Ms} (ok : MsOk m) : (uvs (1 :: msgT m)).length ≤ 1000 := by
  have hall : ∀ x ∈ 1 :: msgT m, x < 18446744073709551616 := by
    intro x hx
    have h0 := ok.j
    simp only [msgT, jobT, List.mem_append, List.mem_cons, List.not_mem_nil, or_false, List.mem_map] at hx
    have b1 : ∀ b : Bool, bt b ≤ 1 := fun b => by cases b <;> decide
    have := b1 m.on
    have := b1 m.job.pact
    have := ok.a; have := ok.b; have := ok.c; have := ok.e; have := ok.f; have := ok.h
    have := h0.a; have := h0.b; have := h0.c; have := h0.d; have := h0.e; have := h0.f; have := h0.g; have := h0.h; have := h0.i
    rcases hx with hx | (hx | (hx | hx | ⟨s, hs, hx⟩) | hx) | hx
    · omega
    · omega
    · omega
    · omega
    · have := h0.k s hs; omega
    · omega
    · omega
  have hln : (1 :: msgT m).length ≤ 40 := by
    have := jobT_len ok.j
    simp [msgT]; omega
  have h1 := uvs_len (1 :: msgT m) hall
  omega
theorem rwait0' {F : Nat → Prop} {H : Heap} {x : RD} (h : Res F H x) (hu : x.up = true) (hw : x.L0.waits = []) : Spc Tryz.prog 23 #[ptr x.p0] H fun r H' => Ext H H' ∧ r = .int .i64 0 :=
  (rwait0_spec h hu).mono fun r H' ⟨e, e2⟩ => ⟨e ▸ Kept.refl _ _, by rw [e2, hw]; rfl⟩
theorem rwait1' {F : Nat → Prop} {H : Heap} {x : RD} (h : Res F H x) (hu : x.up = true) (hw : x.L1.waits = []) : Spc Tryz.prog 23 #[ptr x.p1] H fun r H' => Ext H H' ∧ r = .int .i64 0 :=
  (rwait1_spec h hu).mono fun r H' ⟨e, e2⟩ => ⟨e ▸ Kept.refl _ _, by rw [e2, hw]; rfl⟩
attribute [local irreducible] Go.wpList Go.bodyPost Go.Code.wp Go.Exit.then Go.Exit.inBlock Go.Exit.noGoto Ev.wpAnyG Go.Oper.wp Ev.Back Ev.Left Ev.Spc Ev.At Ev.Pure Ev.Reads Ev.Runs Ev.Does Ev.Cell Ev.Am Ev.Has Ev.Kn Go.Code.rounds

set_option maxHeartbeats 4000000 in
theorem applyC0'_spec {H : Heap} {c cc rb rc ep recs : Nat} {sv : Value} {st since tok at_ f t n u : Int} (hc : Ro H c (copC sv st since tok at_)) (hsv : Sv H sv) (hr : Ro H rb (resvC f t n u)) :
    Spc Tryz.prog 27 #[.agg (stC 0 2 ep 0 recs (.slice (some ⟨c, 0, none⟩) 1 cc) (.slice (some ⟨rb, 0, none⟩) 1 rc)).toArray, nil0] H fun r H' => ∃ c' cc' g gc r' rc', r = .tuple #[.agg (stC 0 2 ep 0 recs (.slice (some ⟨c', 0, none⟩) 1 cc') (.slice (some ⟨r', 0, none⟩) 1 rc')).toArray, .int .i64 0] ∧ H.size ≤ c' ∧ H.size ≤ g ∧ 1 ≤ cc' ∧ Mem H [] [(g, [.int .i64 0, .int .i64 1]), (c', copC (.slice (some ⟨g, 0, none⟩) 2 gc) st since tok at_)] H' := by
  refine spec_of Tryz.func27 rfl Tryz.ntmps27 rfl (fun W => ?_)
  refine Am.on ((Mem.startR hc).andR hr) ?_
  repeat (first | refine codeM (k := ?_) | refine condM (k := ?_) | refine offM (k := ?_) | refine offMn (k := ?_) | refine pureM (k := ?_) | refine loadM (k := ?_) | refine loadB (k := ?_) | refine storeM (k := ?_) | refine storeB (k := ?_))
  refine boxM rfl rfl rfl rfl (fun s hs => ?_)
  refine allocM rfl rfl rfl (fun y hy => ?_)
  repeat (first | refine codeM (k := ?_) | refine condM (k := ?_) | refine offM (k := ?_) | refine offMn (k := ?_) | refine pureM (k := ?_) | refine loadM (k := ?_) | refine loadB (k := ?_) | refine storeM (k := ?_) | refine storeB (k := ?_))
  refine callM rfl rfl rfl rfl rfl (fun Hc hm => twinC_spec (hm.roOf (.r (.there .here))) (hsv.on (hm.toExt (by repeat (first | exact Pick.nil | refine Pick.keep ?_ | refine Pick.drop (by first | assumption | omega) ?_)))) (hm.roOf (.r .here))) ?_
  rintro Hc _ H1 hm ⟨c', cc', g, gc, r', rc', rfl, hc', hg, hcc, hr', hm1⟩
  have hc2 := Nat.le_trans hm.size hc'
  have hg2 := Nat.le_trans hm.size hg
  have hr2 := Nat.le_trans hm.size hr'
  refine Am.on (Mem.aft hm hm1 (.new (by first | assumption | omega) (.new (by first | assumption | omega) (.new (by first | assumption | omega) .nil)))) ?_
  repeat (first | refine codeM (k := ?_) | refine condM (k := ?_) | refine offM (k := ?_) | refine offMn (k := ?_) | refine pureM (k := ?_) | refine loadM (k := ?_) | refine loadB (k := ?_) | refine storeM (k := ?_) | refine storeB (k := ?_))
  exact retC2M rfl rfl rfl (.there (.there (.there .here))) rfl rfl (fun H hm => ⟨c', cc', g, gc, r', rc', rfl, hc2, hg2, hcc, ((hm.sel (.k (s := (.k (s := (by repeat (first | exact Sel.nil | refine Sel.drop (by first | assumption | omega) ?_))))))).noR)⟩)
theorem clock_spec {H : Heap} {n ep recs : Nat} {x : RD} {cv lv fv mv cs rs : Value} {clock quiet : Int} (hn : Ro H n (ndC x cv lv fv mv clock quiet ep recs cs rs)) : Spc Tryz.prog 9 #[ptr n] H fun r H' => Ext H H' ∧ r = .int .i64 clock := by
  refine spec_of Tryz.func9 rfl Tryz.ntmps9 rfl (fun W => ?_)
  refine Am.on (Mem.startR hn) ?_
  repeat (first | refine codeM (k := ?_) | refine condM (k := ?_) | refine offM (k := ?_) | refine offMn (k := ?_) | refine pureM (k := ?_) | refine loadM (k := ?_) | refine loadB (k := ?_) | refine storeM (k := ?_) | refine storeB (k := ?_))
  exact ret1M rfl rfl (fun H hm => ⟨hm.toExt (by repeat (first | exact Pick.nil | refine Pick.keep ?_ | refine Pick.drop (by first | assumption | omega) ?_)), rfl⟩)
theorem stateE_spec {H : Heap} {n ep recs : Nat} {x : RD} {cv lv fv mv : Value} {clock quiet : Int} (hn : Ro H n (ndC x cv lv fv mv clock quiet ep recs nil0 nil0)) : Spc Tryz.prog 7 #[ptr n] H fun r H' => Ext H H' ∧ r = .agg (stC 0 2 ep 0 recs nil0 nil0).toArray := by
  refine spec_of Tryz.func7 rfl Tryz.ntmps7 rfl (fun W => ?_)
  refine Am.on (Mem.startR hn) ?_
  repeat (first | refine codeM (k := ?_) | refine condM (k := ?_) | refine offM (k := ?_) | refine offMn (k := ?_) | refine pureM (k := ?_) | refine loadM (k := ?_) | refine loadB (k := ?_) | refine storeM (k := ?_) | refine storeB (k := ?_))
  refine allocM rfl rfl rfl (fun y hy => ?_)
  repeat (first | refine codeM (k := ?_) | refine condM (k := ?_) | refine offM (k := ?_) | refine offMn (k := ?_) | refine pureM (k := ?_) | refine loadM (k := ?_) | refine loadB (k := ?_) | refine storeM (k := ?_) | refine storeB (k := ?_))
  refine loadN (stC 0 2 ep 0 recs nil0 nil0) rfl (.r .here) rfl rfl rfl rfl rfl ?_
  repeat (first | refine codeM (k := ?_) | refine condM (k := ?_) | refine offM (k := ?_) | refine offMn (k := ?_) | refine pureM (k := ?_) | refine loadM (k := ?_) | refine loadB (k := ?_) | refine storeM (k := ?_) | refine storeB (k := ?_))
  refine callM rfl rfl rfl rfl rfl (fun Hc hm => apply0_spec Hc 0 2 ep 0 recs) ?_
  rintro Hc _ H1 hm ⟨x1, rfl⟩
  refine Am.on (hm.ext x1) ?_
  repeat (first | refine codeM (k := ?_) | refine condM (k := ?_) | refine offM (k := ?_) | refine offMn (k := ?_) | refine pureM (k := ?_) | refine loadM (k := ?_) | refine loadB (k := ?_) | refine storeM (k := ?_) | refine storeB (k := ?_))
  refine allocM rfl rfl rfl (fun s hs => ?_)
  repeat (first | refine codeM (k := ?_) | refine condM (k := ?_) | refine offM (k := ?_) | refine offMn (k := ?_) | refine pureM (k := ?_) | refine loadM (k := ?_) | refine loadB (k := ?_) | refine storeM (k := ?_) | refine storeB (k := ?_))
  exact retC1M rfl rfl (.there .here) rfl rfl (fun H hm => ⟨hm.toExt (by repeat (first | exact Pick.nil | refine Pick.keep ?_ | refine Pick.drop (by first | assumption | omega) ?_)), rfl⟩)
theorem stateB_spec {H : Heap} {n ep recs c cc : Nat} {x : RD} {cv lv fv mv sv : Value} {clock quiet since : Int} (hn : Ro H n (ndC x cv lv fv mv clock quiet ep recs (.slice (some ⟨c, 0, none⟩) 1 cc) nil0)) (hc : Ro H c (copC sv 1 since 0 0)) (hsv : Sv H sv) : Spc Tryz.prog 7 #[ptr n] H fun r H' => ∃ c' cc' g gc, r = .agg (stC 0 2 ep 0 recs (.slice (some ⟨c', 0, none⟩) 1 cc') nil0).toArray ∧ H.size ≤ c' ∧ Mem H [] [(c', copC (.slice (some ⟨g, 0, none⟩) 2 gc) 1 since 0 0)] H' := by
  refine spec_of Tryz.func7 rfl Tryz.ntmps7 rfl (fun W => ?_)
  refine Am.on ((Mem.startR hn).andR hc) ?_
  repeat (first | refine codeM (k := ?_) | refine condM (k := ?_) | refine offM (k := ?_) | refine offMn (k := ?_) | refine pureM (k := ?_) | refine loadM (k := ?_) | refine loadB (k := ?_) | refine storeM (k := ?_) | refine storeB (k := ?_))
  refine allocM rfl rfl rfl (fun y hy => ?_)
  repeat (first | refine codeM (k := ?_) | refine condM (k := ?_) | refine offM (k := ?_) | refine offMn (k := ?_) | refine pureM (k := ?_) | refine loadM (k := ?_) | refine loadB (k := ?_) | refine storeM (k := ?_) | refine storeB (k := ?_))
  refine loadN (stC 0 2 ep 0 recs (.slice (some ⟨c, 0, none⟩) 1 cc) nil0) rfl (.r (.there .here)) rfl rfl rfl rfl rfl ?_
  repeat (first | refine codeM (k := ?_) | refine condM (k := ?_) | refine offM (k := ?_) | refine offMn (k := ?_) | refine pureM (k := ?_) | refine loadM (k := ?_) | refine loadB (k := ?_) | refine storeM (k := ?_) | refine storeB (k := ?_))
  refine callM rfl rfl rfl rfl rfl (fun Hc hm => applyB0_spec (hm.roOf (.r .here)) (hsv.on (hm.toExt (by repeat (first | exact Pick.nil | refine Pick.keep ?_ | refine Pick.drop (by first | assumption | omega) ?_))))) ?_
  rintro Hc _ H1 hm ⟨c', cc', g, gc, rfl, hc', hg, hcc, hm1⟩
  have hc2 := Nat.le_trans hm.size hc'
  have hg2 := Nat.le_trans hm.size hg
  refine Am.on (Mem.aft hm hm1 (.new (by first | assumption | omega) (.new (by first | assumption | omega) .nil))) ?_
  repeat (first | refine codeM (k := ?_) | refine condM (k := ?_) | refine offM (k := ?_) | refine offMn (k := ?_) | refine pureM (k := ?_) | refine loadM (k := ?_) | refine loadB (k := ?_) | refine storeM (k := ?_) | refine storeB (k := ?_))
  refine allocM rfl rfl rfl (fun s hs => ?_)
  repeat (first | refine codeM (k := ?_) | refine condM (k := ?_) | refine offM (k := ?_) | refine offMn (k := ?_) | refine pureM (k := ?_) | refine loadM (k := ?_) | refine loadB (k := ?_) | refine storeM (k := ?_) | refine storeB (k := ?_))
  exact retC1M rfl rfl (.there (.there (.there .here))) rfl rfl (fun H hm => ⟨c', cc', g, gc, rfl, hc2, (hm.sel (.k (s := (by repeat (first | exact Sel.nil | refine Sel.drop (by first | assumption | omega) ?_))))).noR⟩)
theorem stateC_spec {H : Heap} {n ep recs c cc rb rc : Nat} {x : RD} {cv lv fv mv sv : Value} {clock quiet since t f u : Int} (hn : Ro H n (ndC x cv lv fv mv clock quiet ep recs (.slice (some ⟨c, 0, none⟩) 1 cc) (.slice (some ⟨rb, 0, none⟩) 1 rc))) (hc : Ro H c (copC sv 4 since 1 t)) (hsv : Sv H sv) (hr : Ro H rb (resvC t f 1 u)) : Spc Tryz.prog 7 #[ptr n] H fun r H' => ∃ c' cc' rv g gc, r = .agg (stC 0 2 ep 0 recs (.slice (some ⟨c', 0, none⟩) 1 cc') rv).toArray ∧ rv.cells = #[rv] ∧ rv.oneCell' = true ∧ H.size ≤ c' ∧ Mem H [] [(c', copC (.slice (some ⟨g, 0, none⟩) 2 gc) 4 since 1 t)] H' := by
  refine spec_of Tryz.func7 rfl Tryz.ntmps7 rfl (fun W => ?_)
  refine Am.on (((Mem.startR hn).andR hc).andR hr) ?_
  repeat (first | refine codeM (k := ?_) | refine condM (k := ?_) | refine offM (k := ?_) | refine offMn (k := ?_) | refine pureM (k := ?_) | refine loadM (k := ?_) | refine loadB (k := ?_) | refine storeM (k := ?_) | refine storeB (k := ?_))
  refine allocM rfl rfl rfl (fun y hy => ?_)
  repeat (first | refine codeM (k := ?_) | refine condM (k := ?_) | refine offM (k := ?_) | refine offMn (k := ?_) | refine pureM (k := ?_) | refine loadM (k := ?_) | refine loadB (k := ?_) | refine storeM (k := ?_) | refine storeB (k := ?_))
  refine loadN (stC 0 2 ep 0 recs (.slice (some ⟨c, 0, none⟩) 1 cc) (.slice (some ⟨rb, 0, none⟩) 1 rc)) rfl (.r (.there (.there .here))) rfl rfl rfl rfl rfl ?_
  repeat (first | refine codeM (k := ?_) | refine condM (k := ?_) | refine offM (k := ?_) | refine offMn (k := ?_) | refine pureM (k := ?_) | refine loadM (k := ?_) | refine loadB (k := ?_) | refine storeM (k := ?_) | refine storeB (k := ?_))
  refine callM rfl rfl rfl rfl rfl (fun Hc hm => applyC0'_spec (hm.roOf (.r (.there .here))) (hsv.on (hm.toExt (by repeat (first | exact Pick.nil | refine Pick.keep ?_ | refine Pick.drop (by first | assumption | omega) ?_)))) (hm.roOf (.r .here))) ?_
  rintro Hc _ H1 hm ⟨c', cc', g, gc, r', rc', rfl, hc', hg, hcc, hm1⟩
  have hc2 := Nat.le_trans hm.size hc'
  have hg2 := Nat.le_trans hm.size hg
  refine Am.on (Mem.aft hm hm1 (.new (by first | assumption | omega) (.new (by first | assumption | omega) .nil))) ?_
  repeat (first | refine codeM (k := ?_) | refine condM (k := ?_) | refine offM (k := ?_) | refine offMn (k := ?_) | refine pureM (k := ?_) | refine loadM (k := ?_) | refine loadB (k := ?_) | refine storeM (k := ?_) | refine storeB (k := ?_))
  refine allocM rfl rfl rfl (fun s hs => ?_)
  repeat (first | refine codeM (k := ?_) | refine condM (k := ?_) | refine offM (k := ?_) | refine offMn (k := ?_) | refine pureM (k := ?_) | refine loadM (k := ?_) | refine loadB (k := ?_) | refine storeM (k := ?_) | refine storeB (k := ?_))
  exact retC1M rfl rfl (.there (.there (.there .here))) rfl rfl (fun H hm => ⟨c', cc', _, g, gc, rfl, rfl, rfl, hc2, (hm.sel (.k (s := (by repeat (first | exact Sel.nil | refine Sel.drop (by first | assumption | omega) ?_))))).noR⟩)
theorem compact_spec {F : Nat → Prop} {H : Heap} {n ep recs : Nat} {x : RD} {cv lv fv mv cs rs : Value} {clock quiet : Int} (hn : Ro H n (ndC x cv lv fv mv clock quiet ep recs cs rs)) (hr : Res F H x) (h1 : x.recs.length < 64) (h2 : ∀ l ∈ x.recs, l.length ≤ 100000) :
    Spc Tryz.prog 22 #[ptr n, .agg (stC 0 2 ep 0 recs nil0 nil0).toArray] H fun r H' => Ext H H' ∧ r = .int .i64 0 := by
  refine spec_of Tryz.func22 rfl Tryz.ntmps22 rfl (fun W => ?_)
  refine Am.on (Mem.startR hn) ?_
  repeat (first | refine codeM (k := ?_) | refine condM (k := ?_) | refine offM (k := ?_) | refine offMn (k := ?_) | refine pureM (k := ?_) | refine loadM (k := ?_) | refine loadB (k := ?_) | refine storeM (k := ?_) | refine storeB (k := ?_))
  refine boxM rfl rfl rfl rfl (fun y hy => ?_)
  repeat (first | refine codeM (k := ?_) | refine condM (k := ?_) | refine offM (k := ?_) | refine offMn (k := ?_) | refine pureM (k := ?_) | refine loadM (k := ?_) | refine loadB (k := ?_) | refine storeM (k := ?_) | refine storeB (k := ?_))
  refine callM rfl rfl rfl rfl rfl (fun Hc hm => rrecs_spec (hr.keep (F' := F) (hm.toExt (by repeat (first | exact Pick.nil | refine Pick.keep ?_ | refine Pick.drop (by first | assumption | omega) ?_))) (fun b hb _ => ⟨fun f => f, hb⟩)) (by omega) h2) ?_
  rintro Hc _ H1 hm ⟨x1, g, rfl⟩
  refine Am.on (hm.ext x1) ?_
  repeat (first | refine codeM (k := ?_) | refine condM (k := ?_) | refine offM (k := ?_) | refine offMn (k := ?_) | refine pureM (k := ?_) | refine loadM (k := ?_) | refine loadB (k := ?_) | refine storeM (k := ?_) | refine storeB (k := ?_))
  exact ret1M rfl rfl (fun H hm => ⟨hm.toExt (by repeat (first | exact Pick.nil | refine Pick.keep ?_ | refine Pick.drop (by first | assumption | omega) ?_)), rfl⟩)
theorem send0_spec (H : Heap) (n l : Value) : Spc Tryz.prog 24 #[n, l, nil0] H fun r H' => Ext H H' ∧ r = .tuple #[] := by
  refine spec_of Tryz.func24 rfl Tryz.ntmps24 rfl (fun W => ?_)
  refine Am.new ?_
  repeat (first | refine codeM (k := ?_) | refine condM (k := ?_) | refine offM (k := ?_) | refine offMn (k := ?_) | refine pureM (k := ?_) | refine loadM (k := ?_) | refine loadB (k := ?_) | refine storeM (k := ?_) | refine storeB (k := ?_))
  exact ret0M rfl (.inr rfl) (fun H hm => ⟨hm.toExt (by repeat (first | exact Pick.nil | refine Pick.keep ?_ | refine Pick.drop (by first | assumption | omega) ?_)), rfl⟩)
theorem send1_spec {F : Nat → Prop} {H : Heap} {x : RD} {n : Value} {b c : Nat} (m : Ms) (ok : MsOk m) (hb : Ro H b (msgC m nilV)) (hc : 1 ≤ c) (hj : m.job.sites = []) (hr : Res F H x) (hu : x.up = true) (hF : ∀ b, F b → b < H.size) (hw : x.L1.waits.length < 4) (hs : -1000000000000 ≤ x.L1.sent ∧ x.L1.sent ≤ 1000000000000) :
    Spc Tryz.prog 24 #[n, ptr x.p1, .slice (some ⟨b, 0, none⟩) 1 c] H fun r H' => r = .tuple #[] ∧ Kept F H H' ∧ ∃ F' v1', Res F' H' { x with v1 := v1', L1 := sentL x.L1 (uvs (1 :: msgT m)) } ∧ ∀ b, F' b → (F b ∨ H.size ≤ b) ∧ b < H'.size := by
  have hml := msgT_bytes ok
  refine spec_of Tryz.func24 rfl Tryz.ntmps24 rfl (fun W => ?_)
  refine Am.on (Mem.startR hb) ?_
  repeat (first | refine codeM (k := ?_) | refine condM (k := ?_) | refine offM (k := ?_) | refine offMn (k := ?_) | refine pureM (k := ?_) | refine loadM (k := ?_) | refine loadB (k := ?_) | refine storeM (k := ?_) | refine storeB (k := ?_))
  refine pM (p_slice_hi (j := 1) rfl rfl hc) rfl rfl rfl ?_
  refine callM rfl rfl rfl rfl rfl (fun Hc hm => bundle1_spec (sv := nilV) m ok (by rw [hj]; exact Vs.nil nv Hc 0) (fun j u hj => by rw [show 0 + 0 * 18 + j = j by omega]; exact hm.cell (.r .here) hj)) ?_
  rintro Hc _ H1 hm ⟨x1, v, rfl, hv⟩
  obtain ⟨vq, vc, rfl⟩ := hv.form
  have hx0 : Ext H Hc := hm.toExt (by repeat (first | exact Pick.nil | refine Pick.keep ?_ | refine Pick.drop (by first | assumption | omega) ?_))
  have hxx : Ext H H1 := hx0.trans x1
  have hs0 := hm.size
  have hs1 := x1.size
  refine Am.on (Mem.start H1) ?_
  repeat (first | refine codeM (k := ?_) | refine condM (k := ?_) | refine offM (k := ?_) | refine offMn (k := ?_) | refine pureM (k := ?_) | refine loadM (k := ?_) | refine loadB (k := ?_) | refine storeM (k := ?_) | refine storeB (k := ?_))
  refine At_am ?_
  intro H2 hm2
  have x2 : Ext H1 H2 := hm2.toExt (by repeat (first | exact Pick.nil | refine Pick.keep ?_ | refine Pick.drop (by first | assumption | omega) ?_))
  have hx02 := hxx.trans x2
  have hs2 := x2.size
  have hr2 : Res F H2 x := hr.keep hx02 (fun b hb _ => ⟨fun f => f, hb⟩)
  refine At_wp (W_call rfl rfl (rsend1_spec hr2 hu (hv.keep (D' := fun b => Hc.size ≤ b) x2 (fun b hb _ => ⟨fun f => f, hb⟩)) (fun b hb e => by have := hF b e; omega) (by omega) hw hs) rfl rfl ?_) rfl
  rintro _ H3 ⟨rfl, k3, v1', hr3⟩
  have hs3 := k3.size
  refine Am.on (Mem.start H3) ?_
  repeat (first | refine codeM (k := ?_) | refine condM (k := ?_) | refine offM (k := ?_) | refine offMn (k := ?_) | refine pureM (k := ?_) | refine loadM (k := ?_) | refine loadB (k := ?_) | refine storeM (k := ?_) | refine storeB (k := ?_))
  refine ret0M rfl (.inl rfl) (fun H4 hm4 => ?_)
  have x4 : Ext H3 H4 := hm4.toExt (by repeat (first | exact Pick.nil | refine Pick.keep ?_ | refine Pick.drop (by first | assumption | omega) ?_))
  have hs4 := x4.size
  exact ⟨rfl, (Kept.trans hx02 k3 (fun _ f _ => f.elim) (fun b e _ => e)).then_ext x4, _, v1', hr3.keep (F' := fun b => F b ∨ (H2.size ≤ b ∧ b < H3.size)) x4 (fun b hb _ => ⟨fun f => f, hb⟩), fun b hb => by
    rcases hb with e | e
    · have := hF b e; exact ⟨.inl e, by omega⟩
    · exact ⟨.inr (by omega), by omega⟩⟩
end Go.Proofs.YtlaobecajieaaaaGreat
/- A node's tick without jobs. -/
namespace Go.Proofs.YtlaobecajieaaaaGreat
open Go Ev
set_option linter.unusedVariables false
set_option linter.unusedSimpArgs false
attribute [local irreducible] Go.wpList Go.bodyPost Go.Code.wp Go.Exit.then Go.Exit.inBlock Go.Exit.noGoto Ev.wpAnyG Go.Oper.wp Ev.Back Ev.Left Ev.Spc Ev.At Ev.Pure Ev.Reads Ev.Runs Ev.Does Ev.Cell Ev.Am Ev.Has Ev.Kn Go.Code.rounds

set_option maxHeartbeats 16000000 in
theorem ntick_spec {H0 H : Heap} {F0 F : Nat → Prop} {n lb lc ep recs : Nat} {x : RD} {cv fv mv : Value} {clock quiet : Int} (nm : Nm H0 F0 [(n, ndC x cv (.slice (some ⟨lb, 0, none⟩) 2 lc) fv mv clock quiet ep recs nil0 nil0), (lb, [ptr x.p0, ptr x.p1])] H F x) (hF : ∀ b, F b → b < H.size)
    (h0 : 0 ≤ clock) (h1 : clock + 1 ≤ 1099511627776) (hx1 : x.recs.length < 64) (hx2 : ∀ l ∈ x.recs, l.length ≤ 100000) (w0 : x.L0.waits = []) (w1 : x.L1.waits = []) (o0 : x.L0.owes = false) (o1 : x.L1.owes = false) (hu : x.up = true) :
    Spc Tryz.prog 6 #[ptr n] H fun r H' => (∃ v, r = .tuple #[v, .int .i64 0]) ∧ Nm H0 F0 [(n, ndC x cv (.slice (some ⟨lb, 0, none⟩) 2 lc) fv nil0 (clock + 1) quiet ep recs nil0 nil0), (lb, [ptr x.p0, ptr x.p1])] H' F x ∧ H.size ≤ H'.size := by
  refine spec_of Tryz.func6 rfl Tryz.ntmps6 rfl (fun W => ?_)
  refine Am.on nm.mem ?_
  repeat (first | refine codeM (k := ?_) | refine condM (k := ?_) | refine offM (k := ?_) | refine offMn (k := ?_) | refine pureM (k := ?_) | refine loadM (k := ?_) | refine loadB (k := ?_) | refine storeM (k := ?_) | refine storeB (k := ?_))
  refine callM rfl rfl rfl rfl rfl (fun Hc hm => off_spec (nm.seg hm (by intro b hb; simp only [keys, List.map_cons, List.map_nil, List.mem_cons, List.not_mem_nil, or_false] at hb ⊢; omega) hF (by intro b hb; simp only [keys, List.map_cons, List.map_nil, List.mem_cons, List.not_mem_nil, or_false] at hb ⊢; omega)).res) ?_
  rintro Hc _ H1 hm ⟨x1, rfl⟩
  refine Am.on (hm.ext x1) ?_
  repeat (first | refine codeM (k := ?_) | refine condM (k := ?_) | refine offM (k := ?_) | refine offMn (k := ?_) | refine pureM (k := ?_) | refine loadM (k := ?_) | refine loadB (k := ?_) | refine storeM (k := ?_) | refine storeB (k := ?_))
  refine callM rfl rfl rfl rfl rfl (fun Hc hm => tickAdd_spec Hc h0 (by decide) h1) ?_
  rintro Hc _ H1 hm ⟨rfl, rfl⟩
  refine Am.on hm ?_
  repeat (first | refine codeM (k := ?_) | refine condM (k := ?_) | refine offM (k := ?_) | refine offMn (k := ?_) | refine pureM (k := ?_) | refine loadM (k := ?_) | refine loadB (k := ?_) | refine storeM (k := ?_) | refine storeB (k := ?_))
  refine drawM [3, 7] Tryz.mixed ?_
  first | refine dpM 0 (k := ?_) | refine doffM 0 (k := ?_) | refine dldM 0 rfl (k := ?_) | refine doffNM 0 (k := ?_) | refine dldB 0 rfl (k := ?_)
  first | refine dpM 1 (k := ?_) | refine doffM 1 (k := ?_) | refine dldM 1 rfl (k := ?_) | refine doffNM 1 (k := ?_) | refine dldB 1 rfl (k := ?_)
  first | refine dpM 2 (k := ?_) | refine doffM 2 (k := ?_) | refine dldM 2 rfl (k := ?_) | refine doffNM 2 (k := ?_) | refine dldB 2 rfl (k := ?_)
  refine dldN 3 (stC 0 2 ep 0 recs nil0 nil0) rfl rfl (.l .here) rfl (k := ?_)
  first | refine dpM 4 (k := ?_) | refine doffM 4 (k := ?_) | refine dldM 4 rfl (k := ?_) | refine doffNM 4 (k := ?_) | refine dldB 4 rfl (k := ?_)
  first | refine dpM 5 (k := ?_) | refine doffM 5 (k := ?_) | refine dldM 5 rfl (k := ?_) | refine doffNM 5 (k := ?_) | refine dldB 5 rfl (k := ?_)
  first | refine dpM 6 (k := ?_) | refine doffM 6 (k := ?_) | refine dldM 6 rfl (k := ?_) | refine doffNM 6 (k := ?_) | refine dldB 6 rfl (k := ?_)
  first | refine dpM 7 (k := ?_) | refine doffM 7 (k := ?_) | refine dldM 7 rfl (k := ?_) | refine doffNM 7 (k := ?_) | refine dldB 7 rfl (k := ?_)
  refine dxL 8 rfl (by kernel_rfl) rfl (fun Hx => ?_)
  refine callW rfl rfl rfl rfl (fun Hc hm => ttick0 Hc (by omega) h1) ?_
  rintro Hc _ H1 hm ⟨x1, rfl⟩
  refine Am.on (hm.ext x1) ?_
  first | refine leftA (k := ?_) | refine leftF (by kernel_rfl) ?_
  first | refine dpM 9 (k := ?_) | refine doffM 9 (k := ?_) | refine dldM 9 rfl (k := ?_) | refine doffNM 9 (k := ?_) | refine dldB 9 rfl (k := ?_)
  refine ddoneM (by kernel_rfl) ?_
  repeat (first | refine codeM (k := ?_) | refine condM (k := ?_) | refine offM (k := ?_) | refine offMn (k := ?_) | refine pureM (k := ?_) | refine loadM (k := ?_) | refine loadB (k := ?_) | refine storeM (k := ?_) | refine storeB (k := ?_))
  refine callM rfl rfl rfl rfl rfl (fun Hc hm => jn0_spec (x := x) (cv := cv) (lv := .slice (some ⟨lb, 0, none⟩) 2 lc) (fv := fv) (mv := nil0) (clock := clock + 1) (quiet := quiet) (hm.has1 .here).ro) ?_
  rintro Hc _ H1 hm ⟨x1, rfl⟩
  refine Am.on (hm.ext x1) ?_
  repeat (first | refine codeM (k := ?_) | refine condM (k := ?_) | refine offM (k := ?_) | refine offMn (k := ?_) | refine pureM (k := ?_) | refine loadM (k := ?_) | refine loadB (k := ?_) | refine storeM (k := ?_) | refine storeB (k := ?_))
  refine allocM rfl rfl rfl (fun s hs => ?_)
  repeat (first | refine codeM (k := ?_) | refine condM (k := ?_) | refine offM (k := ?_) | refine offMn (k := ?_) | refine pureM (k := ?_) | refine loadM (k := ?_) | refine loadB (k := ?_) | refine storeM (k := ?_) | refine storeB (k := ?_))
  refine callM rfl rfl rfl rfl rfl (fun Hc hm => compact_spec (x := x) (cv := cv) (lv := .slice (some ⟨lb, 0, none⟩) 2 lc) (fv := fv) (mv := nil0) (clock := clock + 1) (quiet := quiet) (cs := nil0) (rs := nil0) (hm.has1 (.there .here)).ro (nm.seg hm (by intro b hb; simp only [keys, List.map_cons, List.map_nil, List.mem_cons, List.not_mem_nil, or_false] at hb ⊢; omega) hF (by intro b hb; simp only [keys, List.map_cons, List.map_nil, List.mem_cons, List.not_mem_nil, or_false] at hb ⊢; omega)).res hx1 hx2) ?_
  rintro Hc _ H1 hm ⟨x1, rfl⟩
  refine Am.on (hm.ext x1) ?_
  repeat (first | refine codeM (k := ?_) | refine condM (k := ?_) | refine offM (k := ?_) | refine offMn (k := ?_) | refine pureM (k := ?_) | refine loadM (k := ?_) | refine loadB (k := ?_) | refine storeM (k := ?_) | refine storeB (k := ?_))
  refine storeN (ndC x cv (.slice (some ⟨lb, 0, none⟩) 2 lc) fv nil0 (clock + 1) quiet ep recs nil0 nil0) rfl rfl rfl rfl rfl (.there .here) rfl rfl rfl ?_
  repeat (first | refine codeM (k := ?_) | refine condM (k := ?_) | refine offM (k := ?_) | refine offMn (k := ?_) | refine pureM (k := ?_) | refine loadM (k := ?_) | refine loadB (k := ?_) | refine storeM (k := ?_) | refine storeB (k := ?_))
  refine callM rfl rfl rfl rfl rfl (fun Hc hm => rwait0' (nm.seg hm (by intro b hb; simp only [keys, List.map_cons, List.map_nil, List.mem_cons, List.not_mem_nil, or_false] at hb ⊢; omega) hF (by intro b hb; simp only [keys, List.map_cons, List.map_nil, List.mem_cons, List.not_mem_nil, or_false] at hb ⊢; omega)).res hu w0) ?_
  rintro Hc _ H1 hm ⟨x1, rfl⟩
  refine Am.on (hm.ext x1) ?_
  repeat (first | refine codeM (k := ?_) | refine condM (k := ?_) | refine offM (k := ?_) | refine offMn (k := ?_) | refine pureM (k := ?_) | refine loadM (k := ?_) | refine loadB (k := ?_) | refine storeM (k := ?_) | refine storeB (k := ?_))
  refine drawM [5, 9] Tryz.mixed ?_
  first | refine dpM 0 (k := ?_) | refine doffM 0 (k := ?_) | refine dldM 0 rfl (k := ?_) | refine doffNM 0 (k := ?_) | refine dldB 0 rfl (k := ?_)
  first | refine dpM 1 (k := ?_) | refine doffM 1 (k := ?_) | refine dldM 1 rfl (k := ?_) | refine doffNM 1 (k := ?_) | refine dldB 1 rfl (k := ?_)
  first | refine dpM 2 (k := ?_) | refine doffM 2 (k := ?_) | refine dldM 2 rfl (k := ?_) | refine doffNM 2 (k := ?_) | refine dldB 2 rfl (k := ?_)
  first | refine dpM 3 (k := ?_) | refine doffM 3 (k := ?_) | refine dldM 3 rfl (k := ?_) | refine doffNM 3 (k := ?_) | refine dldB 3 rfl (k := ?_)
  first | refine dpM 4 (k := ?_) | refine doffM 4 (k := ?_) | refine dldM 4 rfl (k := ?_) | refine doffNM 4 (k := ?_) | refine dldB 4 rfl (k := ?_)
  refine dldN 5 (stC 0 2 ep 0 recs nil0 nil0) rfl rfl (.l (.there .here)) rfl (k := ?_)
  first | refine dpM 6 (k := ?_) | refine doffM 6 (k := ?_) | refine dldM 6 rfl (k := ?_) | refine doffNM 6 (k := ?_) | refine dldB 6 rfl (k := ?_)
  first | refine dpM 7 (k := ?_) | refine doffM 7 (k := ?_) | refine dldM 7 rfl (k := ?_) | refine doffNM 7 (k := ?_) | refine dldB 7 rfl (k := ?_)
  first | refine dpM 8 (k := ?_) | refine doffM 8 (k := ?_) | refine dldM 8 rfl (k := ?_) | refine doffNM 8 (k := ?_) | refine dldB 8 rfl (k := ?_)
  first | refine dpM 9 (k := ?_) | refine doffM 9 (k := ?_) | refine dldM 9 rfl (k := ?_) | refine doffNM 9 (k := ?_) | refine dldB 9 rfl (k := ?_)
  first | refine dpM 10 (k := ?_) | refine doffM 10 (k := ?_) | refine dldM 10 rfl (k := ?_) | refine doffNM 10 (k := ?_) | refine dldB 10 rfl (k := ?_)
  refine dxL 11 rfl (by kernel_rfl) rfl (fun Hx => ?_)
  refine callW rfl rfl rfl rfl (fun Hc hm => oweTo0 Hc ep recs _ _) ?_
  rintro Hc _ H1 hm ⟨x1, rfl⟩
  refine Am.on (hm.ext x1) ?_
  first | refine leftA (k := ?_) | refine leftF (by kernel_rfl) ?_
  refine dxL 12 rfl (by kernel_rfl) rfl (fun Hx => ?_)
  refine callW rfl rfl rfl rfl (fun Hc hm => send0_spec Hc _ _) ?_
  rintro Hc _ H1 hm ⟨x1, rfl⟩
  refine Am.on (hm.ext x1) ?_
  first | refine leftA (k := ?_) | refine leftF (by kernel_rfl) ?_
  refine ddoneM (by kernel_rfl) ?_
  repeat (first | refine codeM (k := ?_) | refine condM (k := ?_) | refine offM (k := ?_) | refine offMn (k := ?_) | refine pureM (k := ?_) | refine loadM (k := ?_) | refine loadB (k := ?_) | refine storeM (k := ?_) | refine storeB (k := ?_))
  refine At_am ?_
  intro H2 hm2
  have nm2 := nm.seg hm2 (by intro b hb; simp only [keys, List.map_cons, List.map_nil, List.mem_cons, List.not_mem_nil, or_false] at hb ⊢; omega) hF (by intro b hb; simp only [keys, List.map_cons, List.map_nil, List.mem_cons, List.not_mem_nil, or_false] at hb ⊢; omega)
  have hs2 := hm2.size
  refine At_wp (W_call rfl rfl (rframes0_spec nm2.res hu w0 o0) rfl rfl ?_) rfl
  rintro _ H3 ⟨⟨q0, c0, rfl⟩, k3, hr3⟩
  have nm3 := nm2.op k3 hr3 (fun b hb => .inl hb)
  have hs3 := k3.size
  refine Am.on nm3.mem ?_
  repeat (first | refine codeM (k := ?_) | refine condM (k := ?_) | refine offM (k := ?_) | refine offMn (k := ?_) | refine pureM (k := ?_) | refine loadM (k := ?_) | refine loadB (k := ?_) | refine storeM (k := ?_) | refine storeB (k := ?_))
  refine appNM rfl rfl (Nat.zero_le _) rfl rfl ?_
  repeat (first | refine codeM (k := ?_) | refine condM (k := ?_) | refine offM (k := ?_) | refine offMn (k := ?_) | refine pureM (k := ?_) | refine loadM (k := ?_) | refine loadB (k := ?_) | refine storeM (k := ?_) | refine storeB (k := ?_))
  refine callM rfl rfl rfl rfl rfl (fun Hc hm => rwait1' (nm3.seg hm (by intro b hb; simp only [keys, List.map_cons, List.map_nil, List.mem_cons, List.not_mem_nil, or_false] at hb ⊢; omega) (fun b hb => by have := hF b hb; omega) (by intro b hb; simp only [keys, List.map_cons, List.map_nil, List.mem_cons, List.not_mem_nil, or_false] at hb ⊢; omega)).res hu w1) ?_
  rintro Hc _ H1 hm ⟨x1, rfl⟩
  refine Am.on (hm.ext x1) ?_
  repeat (first | refine codeM (k := ?_) | refine condM (k := ?_) | refine offM (k := ?_) | refine offMn (k := ?_) | refine pureM (k := ?_) | refine loadM (k := ?_) | refine loadB (k := ?_) | refine storeM (k := ?_) | refine storeB (k := ?_))
  refine drawM [5, 9] Tryz.mixed ?_
  first | refine dpM 0 (k := ?_) | refine doffM 0 (k := ?_) | refine dldM 0 rfl (k := ?_) | refine doffNM 0 (k := ?_) | refine dldB 0 rfl (k := ?_)
  first | refine dpM 1 (k := ?_) | refine doffM 1 (k := ?_) | refine dldM 1 rfl (k := ?_) | refine doffNM 1 (k := ?_) | refine dldB 1 rfl (k := ?_)
  first | refine dpM 2 (k := ?_) | refine doffM 2 (k := ?_) | refine dldM 2 rfl (k := ?_) | refine doffNM 2 (k := ?_) | refine dldB 2 rfl (k := ?_)
  first | refine dpM 3 (k := ?_) | refine doffM 3 (k := ?_) | refine dldM 3 rfl (k := ?_) | refine doffNM 3 (k := ?_) | refine dldB 3 rfl (k := ?_)
  first | refine dpM 4 (k := ?_) | refine doffM 4 (k := ?_) | refine dldM 4 rfl (k := ?_) | refine doffNM 4 (k := ?_) | refine dldB 4 rfl (k := ?_)
  refine dldN 5 (stC 0 2 ep 0 recs nil0 nil0) rfl rfl (.l (.there .here)) rfl (k := ?_)
  first | refine dpM 6 (k := ?_) | refine doffM 6 (k := ?_) | refine dldM 6 rfl (k := ?_) | refine doffNM 6 (k := ?_) | refine dldB 6 rfl (k := ?_)
  first | refine dpM 7 (k := ?_) | refine doffM 7 (k := ?_) | refine dldM 7 rfl (k := ?_) | refine doffNM 7 (k := ?_) | refine dldB 7 rfl (k := ?_)
  first | refine dpM 8 (k := ?_) | refine doffM 8 (k := ?_) | refine dldM 8 rfl (k := ?_) | refine doffNM 8 (k := ?_) | refine dldB 8 rfl (k := ?_)
  first | refine dpM 9 (k := ?_) | refine doffM 9 (k := ?_) | refine dldM 9 rfl (k := ?_) | refine doffNM 9 (k := ?_) | refine dldB 9 rfl (k := ?_)
  first | refine dpM 10 (k := ?_) | refine doffM 10 (k := ?_) | refine dldM 10 rfl (k := ?_) | refine doffNM 10 (k := ?_) | refine dldB 10 rfl (k := ?_)
  refine dxL 11 rfl (by kernel_rfl) rfl (fun Hx => ?_)
  refine callW rfl rfl rfl rfl (fun Hc hm => oweTo0 Hc ep recs _ _) ?_
  rintro Hc _ H1 hm ⟨x1, rfl⟩
  refine Am.on (hm.ext x1) ?_
  first | refine leftA (k := ?_) | refine leftF (by kernel_rfl) ?_
  refine dxL 12 rfl (by kernel_rfl) rfl (fun Hx => ?_)
  refine callW rfl rfl rfl rfl (fun Hc hm => send0_spec Hc _ _) ?_
  rintro Hc _ H1 hm ⟨x1, rfl⟩
  refine Am.on (hm.ext x1) ?_
  first | refine leftA (k := ?_) | refine leftF (by kernel_rfl) ?_
  refine ddoneM (by kernel_rfl) ?_
  repeat (first | refine codeM (k := ?_) | refine condM (k := ?_) | refine offM (k := ?_) | refine offMn (k := ?_) | refine pureM (k := ?_) | refine loadM (k := ?_) | refine loadB (k := ?_) | refine storeM (k := ?_) | refine storeB (k := ?_))
  refine At_am ?_
  intro H4 hm4
  have nm4 := nm3.seg hm4 (by intro b hb; simp only [keys, List.map_cons, List.map_nil, List.mem_cons, List.not_mem_nil, or_false] at hb ⊢; omega) (fun b hb => by have := hF b hb; omega) (by intro b hb; simp only [keys, List.map_cons, List.map_nil, List.mem_cons, List.not_mem_nil, or_false] at hb ⊢; omega)
  have hs4 := hm4.size
  refine At_wp (W_call rfl rfl (rframes1_spec nm4.res hu w1 o1) rfl rfl ?_) rfl
  rintro _ H5 ⟨⟨q1, c1, rfl⟩, k5, hr5⟩
  have nm5 := nm4.op k5 hr5 (fun b hb => .inl hb)
  have hs5 := k5.size
  refine Am.on nm5.mem ?_
  repeat (first | refine codeM (k := ?_) | refine condM (k := ?_) | refine offM (k := ?_) | refine offMn (k := ?_) | refine pureM (k := ?_) | refine loadM (k := ?_) | refine loadB (k := ?_) | refine storeM (k := ?_) | refine storeB (k := ?_))
  refine appNM rfl rfl (Nat.zero_le _) rfl rfl ?_
  repeat (first | refine codeM (k := ?_) | refine condM (k := ?_) | refine offM (k := ?_) | refine offMn (k := ?_) | refine pureM (k := ?_) | refine loadM (k := ?_) | refine loadB (k := ?_) | refine storeM (k := ?_) | refine storeB (k := ?_))
  refine ret2M rfl rfl rfl (fun H6 hm6 => ?_)
  have nm6 := nm5.seg hm6 (by intro b hb; simp only [keys, List.map_cons, List.map_nil, List.mem_cons, List.not_mem_nil, or_false] at hb ⊢; omega) (fun b hb => by have := hF b hb; omega) (by intro b hb; simp only [keys, List.map_cons, List.map_nil, List.mem_cons, List.not_mem_nil, or_false] at hb ⊢; omega)
  have hs6 := hm6.size
  have hs0 := nm.kept.size
  exact ⟨⟨_, rfl⟩, nm6.sel (.drop (by omega) (.k (s := (.k (s := (by repeat (first | exact Sel.nil | refine Sel.drop (by first | assumption | omega) ?_))))))), by omega⟩
end Go.Proofs.YtlaobecajieaaaaGreat
/- An epoch's record applied, whatever slice of no sites it bears. -/
namespace Go.Proofs.YtlaobecajieaaaaGreat
open Go Ev
set_option linter.unusedVariables false
set_option linter.unusedSimpArgs false
attribute [local irreducible] Go.wpList Go.bodyPost Go.Code.wp Go.Exit.then Go.Exit.inBlock Go.Exit.noGoto Ev.wpAnyG Go.Oper.wp Ev.Back Ev.Left Ev.Spc Ev.At Ev.Pure Ev.Reads Ev.Runs Ev.Does Ev.Cell

set_option maxHeartbeats 2000000 in
theorem stateRecEG_spec {sq : Option Addr} {sn sc : Nat} {H : Heap} {s me cap epoch next recs : Nat} {cv rv : Value} (hb : H[s]? = some (.cells (stC me cap epoch next recs cv rv).toArray 44 (0, 0))) (he : epoch < 1000000) :
    Spc Tryz.prog 118 #[.pointer (some ⟨s, 0, none⟩), .agg (recC (epochR (epoch + 1)) (.slice sq sn sc)).toArray] H fun r H' => r = .bool true ∧ Kept (· = s) H H' ∧ H'[s]? = some (.cells (stC me cap (epoch + 1) next recs cv rv).toArray 44 (0, 0)) := by
  have hsl := lt_of_heap hb
  refine spec_of Tryz.func118 rfl Tryz.ntmps118 rfl (fun W => ?_)
  repeat (first | refine codeA (k := ?_) | refine condA (k := ?_) | refine offA (k := ?_) | refine pureA (k := ?_) | refine readA (k := ?_))
  refine At_wp (W_box (cs := (recC (epochR (epoch + 1)) (.slice sq sn sc)).toArray) rfl rfl rfl ?_) rfl
  intro y H1 n1
  have e1 := n1.blk
  have hy := n1.at_
  have hb1 := n1.ext.keep hb (fun f => f)
  repeat (first | refine codeA (k := ?_) | refine condA (k := ?_) | refine offA (k := ?_) | refine pureA (k := ?_) | refine readA (k := ?_))
  refine At_read (r_load (v := .int .i64 29) rfl rfl (Cell.of hy rfl)) rfl rfl rfl ?_
  repeat (first | refine codeA (k := ?_) | refine condA (k := ?_) | refine offA (k := ?_) | refine pureA (k := ?_) | refine readA (k := ?_) | refine At_block ?_)
  have hx0 : Ext H1 H1 := Kept.refl _ _
  refine At_draw [1, 5] (fun H' => Ext H1 H') Tryz.mixed ?_
  first | refine gA 0 (k := ?_) | refine goffA 0 (k := ?_)
  refine grA 1 hx0 (fun H' hS' => r_load rfl rfl ((Cell.of (hS'.keep hy (fun f => f)) (show _ = some (Value.int .i64 ((epoch + 1 : Nat) : Int)) from rfl)))) (k := ?_)
  first | refine gA 2 (k := ?_) | refine goffA 2 (k := ?_)
  first | refine gA 3 (k := ?_) | refine goffA 3 (k := ?_)
  first | refine gA 4 (k := ?_) | refine goffA 4 (k := ?_)
  refine grA 5 hx0 (fun H' hS' => r_load rfl rfl ((Cell.of (hS'.keep hb1 (fun f => f)) (show _ = some (Value.int .i64 ((epoch : Nat) : Int)) from rfl)))) (k := ?_)
  first | refine gA 6 (k := ?_) | refine goffA 6 (k := ?_)
  first | refine gA 7 (k := ?_) | refine goffA 7 (k := ?_)
  refine G_done (by kernel_rfl) ?_
  repeat (first | refine codeA (k := ?_) | refine condA (k := ?_) | refine offA (k := ?_) | refine pureA (k := ?_) | refine readA (k := ?_))
  refine At_read (r_load (v := .int .i64 (epoch + 1 : Nat)) rfl rfl (Cell.of hy rfl)) rfl rfl rfl ?_
  repeat (first | refine codeA (k := ?_) | refine condA (k := ?_) | refine offA (k := ?_) | refine pureA (k := ?_) | refine readA (k := ?_))
  refine At_wp (W_store rfl rfl hb1 rfl rfl rfl rfl ?_) rfl
  intro H2 p2
  repeat (first | refine codeA (k := ?_) | refine condA (k := ?_) | refine offA (k := ?_) | refine pureA (k := ?_) | refine readA (k := ?_))
  exact At_ret1 rfl rfl ⟨rfl, Kept.trans n1.ext p2.kept (fun _ f _ => f.elim) (fun b e _ => e), p2.at_⟩
theorem applyEG_spec {sq : Option Addr} {sn sc : Nat} {H : Heap} {s me cap epoch next recs : Nat} {cv rv : Value} (hb : H[s]? = some (.cells (stC me cap epoch next recs cv rv).toArray 44 (0, 0))) (he : epoch < 1000000) :
    Spc Tryz.prog 61 #[.pointer (some ⟨s, 0, none⟩), .agg (recC (epochR (epoch + 1)) (.slice sq sn sc)).toArray] H fun r H' => r = .bool true ∧ Kept (· = s) H H' ∧ H'[s]? = some (.cells (stC me cap (epoch + 1) next recs cv rv).toArray 44 (0, 0)) := by
  have hsl := lt_of_heap hb
  refine spec_of Tryz.func61 rfl Tryz.ntmps61 rfl (fun W => ?_)
  repeat (first | refine codeA (k := ?_) | refine condA (k := ?_) | refine offA (k := ?_) | refine pureA (k := ?_) | refine readA (k := ?_))
  refine At_wp (W_box (cs := (recC (epochR (epoch + 1)) (.slice sq sn sc)).toArray) rfl rfl rfl ?_) rfl
  intro y H1 n1
  have e1 := n1.blk
  have hy := n1.at_
  have hb1 := n1.ext.keep hb (fun f => f)
  repeat (first | refine codeA (k := ?_) | refine condA (k := ?_) | refine offA (k := ?_) | refine pureA (k := ?_) | refine readA (k := ?_))
  refine At_read (r_load (v := .int .i64 29) rfl rfl (Cell.of hy rfl)) rfl rfl rfl ?_
  repeat (first | refine codeA (k := ?_) | refine condA (k := ?_) | refine offA (k := ?_) | refine pureA (k := ?_) | refine readA (k := ?_) | refine At_block ?_)
  refine At_read (r_loadB rfl hy rfl rfl) rfl rfl rfl ?_
  refine At_wp (W_call rfl rfl (stateRecEG_spec hb1 he) rfl rfl ?_) rfl
  rintro _ H2 ⟨rfl, k2, hb2⟩
  repeat (first | refine codeA (k := ?_) | refine condA (k := ?_) | refine offA (k := ?_) | refine pureA (k := ?_) | refine readA (k := ?_))
  exact At_ret1 rfl rfl ⟨rfl, Kept.trans n1.ext k2 (fun _ f _ => f.elim) (fun b e _ => e), hb2⟩

set_option maxHeartbeats 4000000 in
theorem applyE1G_spec {sq : Option Addr} {sn sc : Nat} {H : Heap} {rb rc : Nat} (me cap epoch next recs : Nat) (he : epoch < 1000000) (hr : recs < 1000000) (hrb : ∀ (j : Nat) (u : Value), (recC (epochR (epoch + 1)) (.slice sq sn sc))[j]? = some u → Cell H rb (0 + 0 * 24 + j) u) :
    Spc Tryz.prog 27 #[.agg (stC me cap epoch next recs nilV nilV).toArray, .slice (some ⟨rb, 0, none⟩) 1 rc] H fun r H' => Ext H H' ∧ r = .tuple #[.agg (stC me cap (epoch + 1) next (recs + 1) nilV nilV).toArray, .int .i64 0] := by
  refine spec_of Tryz.func27 rfl Tryz.ntmps27 rfl (fun W => ?_)
  repeat (first | refine codeA (k := ?_) | refine condA (k := ?_) | refine offA (k := ?_) | refine pureA (k := ?_) | refine readA (k := ?_))
  refine At_wp (W_box (cs := (stC me cap epoch next recs nilV nilV).toArray) rfl rfl rfl ?_) rfl
  intro s H1 n1
  refine At_wp (W_alloc rfl rfl ?_) rfl
  intro y H2 n2
  have e1 := n1.blk
  have q1 := n1.size
  have e2 := n2.blk
  have q2 := n2.size
  have hs := n2.ext.keep n1.at_ (fun f => f)
  repeat (first | refine codeA (k := ?_) | refine condA (k := ?_) | refine offA (k := ?_) | refine pureA (k := ?_) | refine readA (k := ?_))
  refine At_read (r_loadB rfl hs rfl rfl) rfl rfl rfl ?_
  refine At_wp (W_call rfl rfl (twin0_spec H2 me cap epoch next recs) rfl rfl ?_) rfl
  rintro _ H3 ⟨x3, rfl⟩
  have hs3 := x3.keep hs (fun f => f)
  have hy3 := x3.keep n2.at_ (fun f => f)
  have q3 := x3.size
  refine At_wp (W_storeB (cs' := (stC me cap epoch next recs nilV nilV).toArray) rfl rfl hs3 rfl rfl rfl rfl ?_) rfl
  intro H4 p4
  have q4 := p4.size
  have hy4 := p4.kept.keep hy3 (fun (e : y = s) => by omega)
  have x4 : Ext H H4 := Kept.trans ((n1.ext.trans n2.ext).trans x3) p4.kept (fun _ f _ => f) (fun b e hb => by omega)
  repeat (first | refine codeA (k := ?_) | refine condA (k := ?_) | refine offA (k := ?_) | refine pureA (k := ?_) | refine readA (k := ?_))
  refine At_block ?_
  refine At_loop (fun (i : Bool) => [(2, .pointer (some ⟨s, 0, none⟩)), (4, .pointer (some ⟨y, 0, none⟩)), (5, .int .i64 0), (10, .slice (some ⟨rb, 0, none⟩) 1 rc), (11, .int .i64 (1 : Nat)), (12, .int .i64 (if i then 1 else 0 : Nat))]) (fun i H' => Ext H H' ∧ H4.size ≤ H'.size ∧ H'[y]? = H4[y]? ∧ H'[s]? = some (.cells (stC me cap (if i then epoch + 1 else epoch) next (if i then recs + 1 else recs) nilV nilV).toArray 44 (0, 0))) (fun i => if i then 0 else 1) false ?_ ⟨x4, Nat.le_refl _, rfl, p4.at_⟩ ?_
  · (repeat (first | exact Sub.nil | refine Sub.cons rfl ?_))
  rintro i H5 ⟨x5, q5, hy5, hs5⟩
  rw [hy4] at hy5
  cases i with
  | true =>
    simp only [if_true] at hs5 ⊢
    repeat (first | refine codeA (k := ?_) | refine condA (k := ?_) | refine offA (k := ?_) | refine pureA (k := ?_) | refine readA (k := ?_))
    refine At_read (r_loadB rfl hs5 rfl rfl) rfl rfl rfl ?_
    refine At_wp (W_storeB (cs' := (stC me cap (epoch + 1) next (recs + 1) nilV nilV).toArray) rfl rfl hy5 rfl rfl rfl rfl ?_) rfl
    intro H6 p6
    repeat (first | refine codeA (k := ?_) | refine condA (k := ?_) | refine offA (k := ?_) | refine pureA (k := ?_) | refine readA (k := ?_))
    exact At_retC2 rfl rfl p6.at_ rfl rfl rfl ⟨Kept.trans x5 p6.kept (fun _ f _ => f) (fun b e hb => by omega), rfl⟩
  | false =>
    simp only [Bool.false_eq_true, if_false] at hs5 ⊢
    repeat (first | refine codeA (k := ?_) | refine condA (k := ?_) | refine offA (k := ?_) | refine pureA (k := ?_) | refine readA (k := ?_) | refine At_block ?_)
    refine At_read (r_loadN (b := rb) (o := 0 + 0 * 24) (cs := recC (epochR (epoch + 1)) (.slice sq sn sc)) rfl rfl rfl (fun j u hj => (hrb j u hj).keep x5 (fun f => f))) rfl rfl rfl ?_
    refine At_wp (W_alloc rfl rfl ?_) rfl
    intro z H6 n6
    have e6 := n6.blk
    have q6 := n6.size
    have hsl := lt_of_heap hs5
    have hyl := lt_of_heap hy5
    refine At_wp (W_storeB (cs' := (recC (epochR (epoch + 1)) (.slice sq sn sc)).toArray) rfl rfl n6.at_ rfl rfl rfl rfl ?_) rfl
    intro H7 p7
    have q7 := p7.size
    have hs7 := p7.kept.keep (n6.ext.keep hs5 (fun f => f)) (fun (e : s = z) => by omega)
    have hy7 := p7.kept.keep (n6.ext.keep hy5 (fun f => f)) (fun (e : y = z) => by omega)
    repeat (first | refine codeA (k := ?_) | refine condA (k := ?_) | refine offA (k := ?_) | refine pureA (k := ?_) | refine readA (k := ?_))
    refine At_read (r_loadB rfl p7.at_ rfl rfl) rfl rfl rfl ?_
    refine At_wp (W_call rfl rfl (applyEG_spec hs7 he) rfl rfl ?_) rfl
    rintro _ H8 ⟨rfl, k8, hs8⟩
    have q8 := k8.size
    have hy8 := k8.keep hy7 (fun (e : y = s) => by omega)
    repeat (first | refine codeA (k := ?_) | refine condA (k := ?_) | refine offA (k := ?_) | refine pureA (k := ?_) | refine readA (k := ?_))
    refine At_read (r_load (v := .int .i64 (recs : Nat)) rfl rfl (Cell.of hs8 rfl)) rfl rfl rfl ?_
    repeat (first | refine codeA (k := ?_) | refine condA (k := ?_) | refine offA (k := ?_) | refine pureA (k := ?_) | refine readA (k := ?_))
    refine At_wp (W_store rfl rfl hs8 rfl rfl rfl rfl ?_) rfl
    intro H9 p9
    have q9 := p9.size
    have hy9 := p9.kept.keep hy8 (fun (e : y = s) => by omega)
    have hs9 : H9[s]? = some (.cells (stC me cap (epoch + 1) next (recs + 1) nilV nilV).toArray 44 (0, 0)) := p9.at_
    have x7 : Ext H H7 := Kept.trans (x5.trans n6.ext) p7.kept (fun _ f _ => f) (fun b e hb => by have := x5.size; omega)
    have x8 : Ext H H8 := Kept.trans x7 k8 (fun _ f _ => f) (fun b e hb => by omega)
    have x9 : Ext H H9 := Kept.trans x8 p9.kept (fun _ f _ => f) (fun b e hb => by omega)
    repeat (first | refine codeA (k := ?_) | refine condA (k := ?_) | refine offA (k := ?_) | refine pureA (k := ?_) | refine readA (k := ?_))
    refine At_tell 12 (.int .i64 (1 : Nat)) rfl rfl ?_
    refine At_back true ?_ ⟨x9, by omega, by rw [hy9, hy4], hs9⟩ (by decide)
    (repeat (first | exact Sub.nil | refine Sub.cons rfl ?_))
end Go.Proofs.YtlaobecajieaaaaGreat
/- The state read out of a journal: of no record, of one. -/
namespace Go.Proofs.YtlaobecajieaaaaGreat
open Go Ev
set_option linter.unusedVariables false
set_option linter.unusedSimpArgs false
def rec1 : List UInt8 := uvs (recT (epochR 1))
theorem p_neq2 {n : Nat} {env : Env} {ds : Option Tmp} {ty : TypeId} {pos : String} {af : Array Edge} {gd : Option (Nat × Bool)} {x y : Operand} {t2 : TypeId} (hx : ev env x = some (amt 2)) (hy : ev env y = some (amt 2)) :
    Ev.Pure Tryz.prog n env ⟨ds, .binOp .neq 24 x y t2, ty, pos, af, gd⟩ (.bool false) := p_binC (.bool false) hx hy rfl (by kernel_rfl)
theorem Lg.on {F : Nat → Prop} {H H' : Heap} {lg d : Nat} {recs : List (List UInt8)} {bs : List UInt8} (h : Lg F H lg d recs bs) (hx : Ext H H') : Lg F H' lg d recs bs := h.keep hx (fun b hb _ => ⟨fun f => f, hb⟩)
theorem retC3M {P : Program} {n : Nat} {W : World} {env : Env} {H0 : Heap} {R L : Bks} {fn : Func} {S : Value → Heap → Prop} {t t2 t3 : Tmp} {ty' : TypeId} {d : TypeDesc} {sz sb : Nat} {z v2 v3 : Value} {b : Nat} {xs : List Value} [hT : Ty P ty' d sz sb z] (hr : fn.results = #[.cell t ty', .tmp t2, .tmp t3]) (hv : env.get t = some (.pointer (some ⟨b, 0, none⟩))) (hv2 : env.get t2 = some v2) (hv3 : env.get t3 = some v3)
    (hl : Look L b xs) (hd : isAggD d = true) (hs : Nat.beq xs.length sz = true) (h : ∀ H, Mem H0 R L H → S (.tuple #[.agg xs.toArray, v2, v3]) H) : Am n W env H0 R L (Post P fn W S .ret) := fun H hm a w f eq l => by
  subst eq
  have hg : a.tmps.getD t undef = .pointer (some ⟨b, 0, none⟩) := f.ev (x := .tmp t) hv
  have hg2 : a.tmps.getD t2 undef = v2 := f.ev (x := .tmp t2) hv2
  have hg3 : a.tmps.getD t3 undef = v3 := f.ev (x := .tmp t3) hv3
  have : (results fn a.tmps).run P w = .ok (.tuple #[.agg xs.toArray, v2, v3]) w := by simp [results, hr, -Array.getD_eq_getD_getElem?, hg, hg2, hg3, asAddr, run_loadVar_has (P := P) (t := ty') (hm.has _ hl.mem) hd hs]
  exact ⟨f.defers, _, this, l, h _ hm⟩
theorem epRC_one {q : Option Addr} {n c e : Nat} : (recC (epochR e) (.slice q n c)).all (·.oneCell') = true := rfl
attribute [local irreducible] Go.wpList Go.bodyPost Go.Code.wp Go.Exit.then Go.Exit.inBlock Go.Exit.noGoto Ev.wpAnyG Go.Oper.wp Ev.Back Ev.Left Ev.Spc Ev.At Ev.Pure Ev.Reads Ev.Runs Ev.Does Ev.Cell Ev.Am Ev.Has Ev.Kn Go.Code.rounds

set_option maxHeartbeats 4000000 in
theorem nread0_spec {F : Nat → Prop} {H : Heap} {lg d : Nat} {bs : List UInt8} (h : Lg F H lg d [] bs) : Spc Tryz.prog 15 #[ptr lg, .int .i64 0, amt 2] H fun r H' => Ext H H' ∧ r = .tuple #[.agg (stC 0 2 0 0 0 nil0 nil0).toArray, nil0, .int .i64 0] := by
  refine spec_of Tryz.func15 rfl Tryz.ntmps15 rfl (fun W => ?_)
  refine Am.new ?_
  repeat (first | refine codeM (k := ?_) | refine condM (k := ?_) | refine offM (k := ?_) | refine offMn (k := ?_) | refine pureM (k := ?_) | refine loadM (k := ?_) | refine loadB (k := ?_) | refine storeM (k := ?_) | refine storeB (k := ?_))
  refine allocM rfl rfl rfl (fun y hy => ?_)
  repeat (first | refine codeM (k := ?_) | refine condM (k := ?_) | refine offM (k := ?_) | refine offMn (k := ?_) | refine pureM (k := ?_) | refine loadM (k := ?_) | refine loadB (k := ?_) | refine storeM (k := ?_) | refine storeB (k := ?_))
  refine callM rfl rfl rfl rfl rfl (fun Hc hm => bnew_spec Hc 0 2 (by decide) (by decide)) ?_
  rintro Hc _ H1 hm ⟨x1, rfl⟩
  refine Am.on (hm.ext x1) ?_
  repeat (first | refine codeM (k := ?_) | refine condM (k := ?_) | refine offM (k := ?_) | refine offMn (k := ?_) | refine pureM (k := ?_) | refine loadM (k := ?_) | refine loadB (k := ?_) | refine storeM (k := ?_) | refine storeB (k := ?_))
  refine allocM rfl rfl rfl (fun s hs => ?_)
  repeat (first | refine codeM (k := ?_) | refine condM (k := ?_) | refine offM (k := ?_) | refine offMn (k := ?_) | refine pureM (k := ?_) | refine loadM (k := ?_) | refine loadB (k := ?_) | refine storeM (k := ?_) | refine storeB (k := ?_))
  refine callM rfl rfl rfl rfl rfl (fun Hc hm => lsnap_spec (h.on (hm.toExt (by repeat (first | exact Pick.nil | refine Pick.keep ?_ | refine Pick.drop (by first | assumption | omega) ?_))))) ?_
  rintro Hc _ H1 hm ⟨x1, sq, sc, rfl⟩
  refine Am.on (hm.ext x1) ?_
  repeat (first | refine pX (p_neq2 rfl rfl) rfl rfl rfl ?_ | refine codeM (k := ?_) | refine condM (k := ?_) | refine offM (k := ?_) | refine offMn (k := ?_) | refine pureM (k := ?_) | refine loadM (k := ?_) | refine loadB (k := ?_) | refine storeM (k := ?_) | refine storeB (k := ?_))
  refine callM rfl rfl rfl rfl rfl (S := fun H r H' => Ext H H' ∧ ∃ g, r = .slice (some ⟨g, 0, none⟩) 0 0) (fun Hc hm => by
    obtain ⟨Fd, Fl, _, h3, _⟩ := h.on (hm.toExt (by repeat (first | exact Pick.nil | refine Pick.keep ?_ | refine Pick.drop (by first | assumption | omega) ?_)))
    exact (lrecs_spec h3 (by simp) (by simp)).mono (fun r H' ⟨a, g, b, _⟩ => ⟨a, g, b⟩)) ?_
  rintro Hc _ H1 hm ⟨x1, g, rfl⟩
  refine Am.on (hm.ext x1) ?_
  repeat (first | refine codeM (k := ?_) | refine condM (k := ?_) | refine offM (k := ?_) | refine offMn (k := ?_) | refine pureM (k := ?_) | refine loadM (k := ?_) | refine loadB (k := ?_) | refine storeM (k := ?_) | refine storeB (k := ?_))
  refine callM rfl rfl rfl rfl rfl (fun Hc hm => apply0_spec Hc 0 2 0 0 0) ?_
  rintro Hc _ H1 hm ⟨x1, rfl⟩
  refine Am.on (hm.ext x1) ?_
  repeat (first | refine codeM (k := ?_) | refine condM (k := ?_) | refine offM (k := ?_) | refine offMn (k := ?_) | refine pureM (k := ?_) | refine loadM (k := ?_) | refine loadB (k := ?_) | refine storeM (k := ?_) | refine storeB (k := ?_))
  exact retC3M rfl rfl rfl rfl (.there .here) rfl rfl (fun H hm => ⟨hm.toExt (by repeat (first | exact Pick.nil | refine Pick.keep ?_ | refine Pick.drop (by first | assumption | omega) ?_)), rfl⟩)
set_option maxHeartbeats 8000000 in
theorem nread1_spec {F : Nat → Prop} {H : Heap} {lg d : Nat} {bs : List UInt8} (h : Lg F H lg d [rec1] bs) : Spc Tryz.prog 15 #[ptr lg, .int .i64 0, amt 2] H fun r H' => Ext H H' ∧ ∃ e ec, r = .tuple #[.agg (stC 0 2 1 0 1 nil0 nil0).toArray, .slice (some ⟨e, 0, none⟩) 1 ec, .int .i64 0] := by
  have hq := recT_bytes (epochR_ok 1 (by decide))
  refine spec_of Tryz.func15 rfl Tryz.ntmps15 rfl (fun W => ?_)
  refine Am.new ?_
  repeat (first | refine codeM (k := ?_) | refine condM (k := ?_) | refine offM (k := ?_) | refine offMn (k := ?_) | refine pureM (k := ?_) | refine loadM (k := ?_) | refine loadB (k := ?_) | refine storeM (k := ?_) | refine storeB (k := ?_))
  refine allocM rfl rfl rfl (fun y hy => ?_)
  repeat (first | refine codeM (k := ?_) | refine condM (k := ?_) | refine offM (k := ?_) | refine offMn (k := ?_) | refine pureM (k := ?_) | refine loadM (k := ?_) | refine loadB (k := ?_) | refine storeM (k := ?_) | refine storeB (k := ?_))
  refine callM rfl rfl rfl rfl rfl (fun Hc hm => bnew_spec Hc 0 2 (by decide) (by decide)) ?_
  rintro Hc _ H1 hm ⟨x1, rfl⟩
  refine Am.on (hm.ext x1) ?_
  repeat (first | refine codeM (k := ?_) | refine condM (k := ?_) | refine offM (k := ?_) | refine offMn (k := ?_) | refine pureM (k := ?_) | refine loadM (k := ?_) | refine loadB (k := ?_) | refine storeM (k := ?_) | refine storeB (k := ?_))
  refine allocM rfl rfl rfl (fun s hs => ?_)
  repeat (first | refine codeM (k := ?_) | refine condM (k := ?_) | refine offM (k := ?_) | refine offMn (k := ?_) | refine pureM (k := ?_) | refine loadM (k := ?_) | refine loadB (k := ?_) | refine storeM (k := ?_) | refine storeB (k := ?_))
  refine callM rfl rfl rfl rfl rfl (fun Hc hm => lsnap_spec (h.on (hm.toExt (by repeat (first | exact Pick.nil | refine Pick.keep ?_ | refine Pick.drop (by first | assumption | omega) ?_))))) ?_
  rintro Hc _ H1 hm ⟨x1, sq, sc, rfl⟩
  refine Am.on (hm.ext x1) ?_
  repeat (first | refine pX (p_neq2 rfl rfl) rfl rfl rfl ?_ | refine codeM (k := ?_) | refine condM (k := ?_) | refine offM (k := ?_) | refine offMn (k := ?_) | refine pureM (k := ?_) | refine loadM (k := ?_) | refine loadB (k := ?_) | refine storeM (k := ?_) | refine storeB (k := ?_))
  refine callM rfl rfl rfl rfl rfl (S := fun H r H' => Ext H H' ∧ ∃ g w, r = .slice (some ⟨g, 0, none⟩) 1 1 ∧ Cell H' g 0 w ∧ BytesAt (fun b => H.size ≤ b) H' w rec1) (fun Hc hm => by
    obtain ⟨Fd, Fl, _, h3, _⟩ := h.on (hm.toExt (by repeat (first | exact Pick.nil | refine Pick.keep ?_ | refine Pick.drop (by first | assumption | omega) ?_)))
    exact (lrecs_spec h3 (by simp) (by intro l hl; rw [List.mem_singleton.1 hl]; exact Nat.le_trans hq.2 (by decide))).mono (fun r H' ⟨a, g, b, c⟩ => by
      obtain ⟨w, hw, hb⟩ := c 0 rec1 rfl
      exact ⟨a, g, w, b, hw, hb⟩)) ?_
  rintro Hc _ H1 hm ⟨x1, g, w, rfl, hw, hb⟩
  obtain ⟨wq, wc, rfl⟩ := hb.form
  have hsl0 := (hm.has1 .here).lt
  have hyl0 := (hm.has1 (.there .here)).lt
  have hm1 := hm.ext x1
  have hgs : g ≠ s := fun e => by
    have h1 := (hm1.has1 .here).cell (o := 0) rfl
    rw [← e] at h1
    have := h1.inj hw
    cases this
  have hgy : g ≠ y := fun e => by
    have h1 := (hm1.has1 (.there .here)).cell (o := 0) rfl
    rw [← e] at h1
    have := h1.inj hw
    cases this
  have hxh : Ext H H1 := hm1.toExt (by repeat (first | exact Pick.nil | refine Pick.keep ?_ | refine Pick.drop (by first | assumption | omega) ?_))
  have hsz := hxh.size
  have hyl := (hm1.has1 (.there .here)).lt
  have hsl := (hm1.has1 .here).lt
  refine Am.on (show Mem H1 [(g, [.slice wq rec1.length wc])] [(s, stC 0 2 0 0 0 nil0 nil0), (y, _)] H1 from ⟨hm1.has, fun p hp => by
    rw [List.mem_singleton.1 hp]
    exact ⟨hw.lt, fun o v hv => by
      match o with
      | 0 => simp at hv; subst hv; exact hw
      | o + 1 => simp at hv⟩, hm1.nd, fun p hp => by
    rw [List.mem_singleton.1 hp]
    simp [keys]
    exact ⟨hgs, hgy⟩, Kept.refl _ _⟩) ?_
  repeat (first | refine codeM (k := ?_) | refine condM (k := ?_) | refine offM (k := ?_) | refine offMn (k := ?_) | refine pureM (k := ?_) | refine loadM (k := ?_) | refine loadB (k := ?_) | refine storeM (k := ?_) | refine storeB (k := ?_))
  refine callM rfl rfl rfl rfl rfl (S := fun H r H' => Ext H H' ∧ ∃ sq n c, r = .tuple #[.agg (recC (epochR 1) (.slice sq n c)).toArray, .int .i64 0]) (fun Hd hm => (readRec_spec (D := fun _ => True) (epochR 1) (epochR_ok 1 (by decide)) (hb.keep hm.kept (fun b hb2 hl => ⟨fun e => by
    simp only [keys, List.map_cons, List.map_nil, List.mem_cons, List.not_mem_nil, or_false] at e
    rcases e with rfl | rfl <;> omega, trivial⟩))).mono (fun r H' ⟨a, q, n, c, b, _⟩ => ⟨a, q, n, c, b⟩)) ?_
  rintro Hc _ H1 hm ⟨x1, sq, sn, sc, rfl⟩
  refine Am.on (hm.ext x1) ?_
  repeat (first | refine codeM (k := ?_) | refine condM (k := ?_) | refine offM (k := ?_) | refine offMn (k := ?_) | refine pureM (k := ?_) | refine loadM (k := ?_) | refine loadB (k := ?_) | refine storeM (k := ?_) | refine storeB (k := ?_))
  refine allocM rfl rfl rfl (fun z hz => ?_)
  repeat (first | refine codeM (k := ?_) | refine condM (k := ?_) | refine offM (k := ?_) | refine offMn (k := ?_) | refine pureM (k := ?_) | refine loadM (k := ?_) | refine loadB (k := ?_) | refine storeM (k := ?_) | refine storeB (k := ?_))
  refine bs1M rfl rfl rfl (by decide) rfl rfl (fun v hv => ?_)
  refine app0M (recC (epochR 1) (.slice sq sn sc)) rfl rfl (.l .here) rfl (by rfl) epRC_one (by rfl) (by rfl) rfl rfl (by rfl) rfl rfl (fun e ec he hec => ?_)
  repeat (first | refine codeM (k := ?_) | refine condM (k := ?_) | refine offM (k := ?_) | refine offMn (k := ?_) | refine pureM (k := ?_) | refine loadM (k := ?_) | refine loadB (k := ?_) | refine storeM (k := ?_) | refine storeB (k := ?_))
  refine callM rfl rfl rfl rfl rfl (fun Hc hm => applyE1G_spec (sq := sq) (sn := sn) (sc := sc) 0 2 0 0 0 (by decide) (by decide) (fun j u hj => by rw [show 0 + 0 * 24 + j = j by omega]; exact hm.cell (.l .here) hj)) ?_
  rintro Hc _ H1 hm ⟨x1, rfl⟩
  refine Am.on (hm.ext x1) ?_
  repeat (first | refine codeM (k := ?_) | refine condM (k := ?_) | refine offM (k := ?_) | refine offMn (k := ?_) | refine pureM (k := ?_) | refine loadM (k := ?_) | refine loadB (k := ?_) | refine storeM (k := ?_) | refine storeB (k := ?_))
  exact retC3M rfl rfl rfl rfl (.there (.there (.there (.there .here)))) rfl rfl (fun H2 hm2 => ⟨Kept.trans hxh hm2.kept (fun _ f _ => f) (fun i e hi => by
    simp only [keys, List.map_cons, List.map_nil, List.mem_cons, List.not_mem_nil, or_false] at e
    omega), e, ec, rfl⟩)
end Go.Proofs.YtlaobecajieaaaaGreat
