/- A node's hidden parts: its journal, its links; known blocks beside them. -/
import Derived.Test.YtlaobecajieaaaaGreatG22
import Derived.Test.YtlaobecajieaaaaGreatG15
import Derived.Test.YtlaobecajieaaaaGreatG14
import Derived.Test.YtlaobecajieaaaaGreatG09
namespace Go.Proofs.YtlaobecajieaaaaGreat
open Go Ev
set_option linter.unusedVariables false
set_option linter.unusedSimpArgs false
structure RD where
  up : Bool
  lg : Nat
  d : Nat
  recs : List (List UInt8)
  bs : List UInt8
  p0 : Nat
  v0 : Value
  L0 : Lk
  p1 : Nat
  v1 : Value
  L1 : Lk
/-- a link's blocks, and its bodies' -/
def Gk (up : Bool) (p : Nat) (v : Value) (D : Nat → Prop) (b : Nat) : Prop := up = true ∧ (Ft p v b ∨ D b)
structure ResX (F : Nat → Prop) (H : Heap) (x : RD) (Fl D0 D1 : Nat → Prop) : Prop where
  log : Lg Fl H x.lg x.d x.recs x.bs
  l0 : x.up = true → LinkD D0 H x.p0 x.v0 x.L0
  l1 : x.up = true → LinkD D1 H x.p1 x.v1 x.L1
  fl : ∀ b, Fl b → F b ∧ b < H.size ∧ ¬ Gk x.up x.p0 x.v0 D0 b ∧ ¬ Gk x.up x.p1 x.v1 D1 b
  f0 : ∀ b, Gk x.up x.p0 x.v0 D0 b → F b ∧ b < H.size ∧ ¬ Gk x.up x.p1 x.v1 D1 b
  f1 : ∀ b, Gk x.up x.p1 x.v1 D1 b → F b ∧ b < H.size
def Res (F : Nat → Prop) (H : Heap) (x : RD) : Prop := ∃ Fl D0 D1, ResX F H x Fl D0 D1
theorem LinkD.keepG {D S : Nat → Prop} {H H' : Heap} {p : Nat} {v : Value} {L : Lk} (h : LinkD D H p v L) (hk : Kept S H H') (hS : ∀ b, (Ft p v b ∨ D b) → ¬ S b) : LinkD D H' p v L :=
  h.keep hk (hS p (.inl (.inl rfl))) (fun g e => hS g (.inl (.inr e))) (fun b hb _ => ⟨hS b (.inr hb), hb⟩) h.dis
theorem Res.keep {F F' S : Nat → Prop} {H H' : Heap} {x : RD} (h : Res F H x) (hk : Kept S H H') (hS : ∀ b, F b → b < H.size → ¬ S b ∧ F' b) : Res F' H' x := by
  obtain ⟨Fl, D0, D1, h⟩ := h
  have hs := hk.size
  exact ⟨Fl, D0, D1, h.log.keep hk (fun b hb hl => ⟨(hS b (h.fl b hb).1 hl).1, hb⟩), fun hu => (h.l0 hu).keepG hk (fun b hb => (hS b (h.f0 b ⟨hu, hb⟩).1 (h.f0 b ⟨hu, hb⟩).2.1).1), fun hu => (h.l1 hu).keepG hk (fun b hb => (hS b (h.f1 b ⟨hu, hb⟩).1 (h.f1 b ⟨hu, hb⟩).2).1),
    fun b hb => ⟨(hS b (h.fl b hb).1 (h.fl b hb).2.1).2, by have := (h.fl b hb).2.1; omega, (h.fl b hb).2.2⟩, fun b hb => ⟨(hS b (h.f0 b hb).1 (h.f0 b hb).2.1).2, by have := (h.f0 b hb).2.1; omega, (h.f0 b hb).2.2⟩,
    fun b hb => ⟨(hS b (h.f1 b hb).1 (h.f1 b hb).2).2, by have := (h.f1 b hb).2; omega⟩⟩
/-- known blocks, and hidden parts; nothing else that is old has turned -/
structure Nm (H0 : Heap) (F0 : Nat → Prop) (L : Bks) (H : Heap) (F : Nat → Prop) (x : RD) : Prop where
  has : ∀ p ∈ L, Has H p.1 p.2
  nd : (keys L).Nodup
  res : Res F H x
  dis : ∀ b ∈ keys L, ¬ F b
  frs : ∀ b, F b → F0 b ∨ H0.size ≤ b
  kept : Kept (fun b => b ∈ keys L ∨ F0 b) H0 H
section
variable {H0 H H1 : Heap} {F0 F F1 : Nat → Prop} {L L' L1 : Bks} {x x1 : RD}
theorem Nm.mem (h : Nm H0 F0 L H F x) : Mem H [] L H := ⟨h.has, by simp, h.nd, by simp, Kept.refl _ _⟩
theorem Nm.lt (h : Nm H0 F0 L H F x) : ∀ b ∈ keys L, b < H.size := fun b hb => by
  obtain ⟨p, hp, rfl⟩ := List.mem_map.1 hb
  exact (h.has p hp).lt
theorem Nm.start {n : Nat} {xs : List Value} (hn : Has H n xs) (hr : Res F H x) (hd : ¬ F n) : Nm H F [(n, xs)] H F x :=
  ⟨fun p hp => by rw [List.mem_singleton.1 hp]; exact hn, by simp [keys], hr, fun b hb => by rw [show b = n by simpa [keys] using hb]; exact hd, fun b hb => .inl hb, Kept.refl _ _⟩
theorem Nm.seg (h : Nm H0 F0 L H F x) (hm : Mem H [] L' H1) (hk : ∀ b ∈ keys L', b ∈ keys L ∨ H.size ≤ b) (hF : ∀ b, F b → b < H.size) (hL : ∀ b ∈ keys L, b ∈ keys L') : Nm H0 F0 L' H1 F x := by
  have hd : ∀ b ∈ keys L', ¬ F b := fun b hb hf => by
    rcases hk b hb with e | e
    · exact h.dis b e hf
    · have := hF b hf; omega
  refine ⟨hm.has, hm.nd, h.res.keep hm.kept (fun b hb _ => ⟨fun e => hd b e hb, hb⟩), hd, h.frs, Kept.trans h.kept hm.kept (fun i s _ => ?_) (fun i s _ => .inl s)⟩
  rcases s with s | s
  · exact .inl (hL i s)
  · exact .inr s
theorem Nm.op (h : Nm H0 F0 L H F x) (hk : Kept F H H1) (hr : Res F1 H1 x1) (hf : ∀ b, F1 b → F b ∨ H.size ≤ b) : Nm H0 F0 L H1 F1 x1 := by
  have hs := h.kept.size
  refine ⟨fun p hp => (h.has p hp).keep hk (h.dis _ (key_of hp)), h.nd, hr, fun b hb e => ?_, fun b hb => ?_, Kept.trans h.kept hk (fun i s _ => s) (fun i s hi => ?_)⟩
  · rcases hf b e with e | e
    · exact h.dis b hb e
    · have := h.lt b hb; omega
  · rcases hf b hb with e | e
    · exact h.frs b e
    · exact .inr (by omega)
  · rcases h.frs i s with e | e
    · exact .inr e
    · omega
theorem Nm.aft (h : Nm H0 F0 L H F x) (h1 : Nm H F L1 H1 F1 x1) (mg : Mg H.size L L1 L') : Nm H0 F0 L' H1 F1 x1 := by
  obtain ⟨a1, a2, a3, a4, a5⟩ := mg.facts h.nd h1.nd (fun p hp => .inl ((h.has p hp).lt))
  have hs := h.kept.size
  refine ⟨fun p hp => ?_, a1, h1.res, fun b hb e => ?_, fun b hb => ?_, ?_⟩
  · rcases a2 p hp with e | ⟨e, e2⟩
    · exact h1.has p e
    · refine (h.has p e).keep h1.kept (fun e3 => ?_)
      rcases e3 with e3 | e3
      · exact e2 e3
      · exact h.dis _ (key_of e) e3
  · obtain ⟨p, hp, rfl⟩ := List.mem_map.1 hb
    rcases a2 p hp with e2 | ⟨e2, e3⟩
    · exact h1.dis _ (key_of e2) e
    · rcases h1.frs _ e with e4 | e4
      · exact h.dis _ (key_of e2) e4
      · have := (h.has p e2).lt; omega
  · rcases h1.frs b hb with e | e
    · exact h.frs b e
    · exact .inr (by omega)
  · refine Kept.trans h.kept h1.kept (fun i s _ => ?_) (fun i s hi => ?_)
    · rcases s with s | s
      · exact .inl (a3 i s)
      · exact .inr s
    · rcases s with s | s
      · exact .inl (a4 i s)
      · rcases h.frs i s with e | e
        · exact .inr e
        · omega
theorem Nm.sel (h : Nm H0 F0 L H F x) (hs : Sel H0.size L L') : Nm H0 F0 L' H F x := by
  obtain ⟨D, h1, h2⟩ := hs.perm
  have hk := h1.map Prod.fst
  have hn : (keys (L' ++ D)).Nodup := hk.nodup_iff.1 h.nd
  rw [keys, List.map_append] at hn
  have hin : ∀ b ∈ keys L', b ∈ keys L := fun b hb => hk.mem_iff.2 (by rw [List.map_append]; exact List.mem_append_left _ hb)
  refine ⟨fun p hp => h.has p (h1.mem_iff.2 (List.mem_append_left _ hp)), (List.nodup_append.1 hn).1, h.res, fun b hb => h.dis b (hin b hb), h.frs, ⟨h.kept.size, fun k hk' hS => h.kept.block k hk' (fun e => ?_)⟩⟩
  rcases e with e | e
  · have := hk.mem_iff.1 e
    rw [List.map_append] at this
    rcases List.mem_append.1 this with e | e
    · exact hS (.inl e)
    · obtain ⟨p, hp, rfl⟩ := List.mem_map.1 e
      have := h2 p hp
      omega
  · exact hS (.inr e)
/-- hidden parts never go beyond the memory's end -/
theorem Nm.bound (h : Nm H0 F0 L H F x) : Nm H0 F0 L H (fun b => F b ∧ b < H.size) x :=
  ⟨h.has, h.nd, h.res.keep (Kept.refl (fun _ => False) H) (fun b hb hl => ⟨fun f => f, hb, hl⟩), fun b hb e => h.dis b hb e.1, fun b hb => h.frs b hb.1, h.kept⟩
end
/-- the links come -/
theorem Res.rise {F : Nat → Prop} {H : Heap} {x : RD} {p0 p1 : Nat} {L0 L1 : Lk} (h : Res F H x) (hF : ∀ b, F b → b < H.size) (hd : x.up = false) (h0 : LinkD (fun _ => False) H p0 nil0 L0) (h1 : LinkD (fun _ => False) H p1 nil0 L1) (n0 : ¬ F p0) (n1 : ¬ F p1) (hne : p0 ≠ p1) :
    Res (fun b => F b ∨ b = p0 ∨ b = p1) H { x with up := true, p0 := p0, v0 := nil0, L0 := L0, p1 := p1, v1 := nil0, L1 := L1 } := by
  obtain ⟨Fl, D0, D1, h⟩ := h
  have hG : ∀ p b, Gk true p nil0 (fun _ => False) b → b = p := fun p b hb => by
    rcases hb with ⟨_, (e | e) | e⟩
    · exact e
    · cases e
    · exact e.elim
  refine ⟨Fl, _, _, h.log, fun _ => h0, fun _ => h1, fun b hb => ⟨.inl (h.fl b hb).1, (h.fl b hb).2.1, fun g => ?_, fun g => ?_⟩, fun b hb => ?_, fun b hb => ?_⟩
  · have := hG _ b g; subst this; exact n0 (h.fl _ hb).1
  · have := hG _ b g; subst this; exact n1 (h.fl _ hb).1
  · have := hG _ b hb; subst this; exact ⟨.inr (.inl rfl), lt_of_heap h0.blk, fun g => hne (hG _ _ g)⟩
  · have := hG _ b hb; subst this; exact ⟨.inr (.inr rfl), lt_of_heap h1.blk⟩
attribute [local irreducible] Go.wpList Go.bodyPost Go.Code.wp Go.Exit.then Go.Exit.inBlock Go.Exit.noGoto Ev.wpAnyG Go.Oper.wp Ev.Back Ev.Left Ev.Spc Ev.At Ev.Pure Ev.Reads Ev.Runs Ev.Does Ev.Cell Ev.Am Ev.Has Ev.Kn Go.Code.rounds

theorem off_spec {F : Nat → Prop} {H : Heap} {x : RD} (h : Res F H x) : Spc Tryz.prog 19 #[ptr x.d] H fun r H' => Ext H H' ∧ r = .bool false := by
  obtain ⟨Fl, D0, D1, h⟩ := h
  obtain ⟨Fd, Fw, h2, _⟩ := h.log
  obtain ⟨bv, sy, hb, _⟩ := h2.blk
  have hb' : Ro H x.d [bv, .int .i64 sy, .bool false, .bool false, .int .i64 0] := Ro.of hb rfl
  refine spec_of Tryz.func19 rfl Tryz.ntmps19 rfl (fun W => ?_)
  refine Am.on (Mem.startR hb') ?_
  repeat (first | refine codeM (k := ?_) | refine condM (k := ?_) | refine offM (k := ?_) | refine offMn (k := ?_) | refine pureM (k := ?_) | refine loadM (k := ?_) | refine loadB (k := ?_) | refine storeM (k := ?_) | refine storeB (k := ?_))
  exact ret1M rfl rfl (fun H hm => ⟨hm.toExt (by repeat (first | exact Pick.nil | refine Pick.keep ?_ | refine Pick.drop (by first | assumption | omega) ?_)), rfl⟩)
theorem rappend_spec {F D : Nat → Prop} {H : Heap} {x : RD} {v : Value} {l : List UInt8} (h : Res F H x) (hv : BytesAt D H v l) (h0 : 0 < l.length) (hl : l.length ≤ 10000) (hr : x.recs.length ≤ 1000) (hbs : x.bs.length ≤ 100000000) :
    Spc Tryz.prog 42 #[ptr x.lg, v] H fun r H' => r = .int .i64 0 ∧ Kept F H H' ∧ Res (fun b => F b ∨ (H.size ≤ b ∧ b < H'.size)) H' { x with recs := x.recs ++ [l], bs := x.bs ++ sealB (82 :: l) } := by
  obtain ⟨Fl, D0, D1, h⟩ := h
  refine (lappend_spec h.log hv h0 hl hr hbs).mono ?_
  rintro r H' ⟨rfl, hk, hl'⟩
  have hs := hk.size
  refine ⟨rfl, hk.mono (fun b hb _ => (h.fl b hb).1), fun b => (Fl b ∨ H.size ≤ b) ∧ b < H'.size, D0, D1, ?_, fun hu => (h.l0 hu).keepG hk (fun b hb e => (h.fl b e).2.2.1 ⟨hu, hb⟩), fun hu => (h.l1 hu).keepG hk (fun b hb e => (h.fl b e).2.2.2 ⟨hu, hb⟩), fun b hb => ?_, fun b hb => ?_, fun b hb => ?_⟩
  · exact hl'.keep (Kept.refl (fun _ => False) H') (fun b hb hl => ⟨fun f => f, hb, hl⟩)
  · rcases hb.1 with e | e
    · exact ⟨.inl (h.fl b e).1, hb.2, (h.fl b e).2.2⟩
    · exact ⟨.inr ⟨e, hb.2⟩, hb.2, fun g => by have := (h.f0 b g).2.1; omega, fun g => by have := (h.f1 b g).2; omega⟩
  · have := h.f0 b hb
    exact ⟨.inl this.1, by omega, this.2.2⟩
  · have := h.f1 b hb
    exact ⟨.inl this.1, by omega⟩
theorem rsync_spec {F : Nat → Prop} {H : Heap} {x : RD} (h : Res F H x) :
    Spc Tryz.prog 43 #[ptr x.lg] H fun r H' => r = .int .i64 0 ∧ Kept F H H' ∧ Res F H' x := by
  obtain ⟨Fl, D0, D1, h⟩ := h
  refine (lsync_spec h.log).mono ?_
  rintro r H' ⟨rfl, hk, hl'⟩
  have hs := hk.size
  exact ⟨rfl, hk.mono (fun b hb _ => (h.fl b hb).1), Fl, D0, D1, hl', fun hu => (h.l0 hu).keepG hk (fun b hb e => (h.fl b e).2.2.1 ⟨hu, hb⟩), fun hu => (h.l1 hu).keepG hk (fun b hb e => (h.fl b e).2.2.2 ⟨hu, hb⟩), fun b hb => by have := h.fl b hb; exact ⟨this.1, by omega, this.2.2⟩, fun b hb => by have := h.f0 b hb; exact ⟨this.1, by omega, this.2.2⟩, fun b hb => by have := h.f1 b hb; exact ⟨this.1, by omega⟩⟩
theorem rrecs_spec {F : Nat → Prop} {H : Heap} {x : RD} (h : Res F H x) (hr : x.recs.length ≤ 1000) (hl : ∀ l ∈ x.recs, l.length ≤ 100000) :
    Spc Tryz.prog 39 #[ptr x.lg] H fun r H' => Ext H H' ∧ ∃ g, r = .slice (some ⟨g, 0, none⟩) x.recs.length x.recs.length := by
  obtain ⟨Fl, D0, D1, h⟩ := h
  obtain ⟨Fd, Fw, _, h3, _⟩ := h.log
  exact (lrecs_spec h3 hr hl).mono (fun r H' ⟨a, g, b, _⟩ => ⟨a, g, b⟩)
theorem rwait0_spec {F : Nat → Prop} {H : Heap} {x : RD} (h : Res F H x) (hu : x.up = true) : Spc Tryz.prog 23 #[ptr x.p0] H fun r H' => H = H' ∧ r = .int .i64 x.L0.waits.length := by
  obtain ⟨Fl, D0, D1, h⟩ := h
  exact waiting_spec (h.l0 hu).lnk
theorem rwait1_spec {F : Nat → Prop} {H : Heap} {x : RD} (h : Res F H x) (hu : x.up = true) : Spc Tryz.prog 23 #[ptr x.p1] H fun r H' => H = H' ∧ r = .int .i64 x.L1.waits.length := by
  obtain ⟨Fl, D0, D1, h⟩ := h
  exact waiting_spec (h.l1 hu).lnk
theorem frames_nil {L : Lk} (hw : L.waits = []) (ho : L.owes = false) : framesOf L = [] ∧ { L with owes := false } = L := by
  cases L
  simp only at hw ho
  subst hw; subst ho
  exact ⟨rfl, rfl⟩
theorem rframes0_spec {F : Nat → Prop} {H : Heap} {x : RD} (h : Res F H x) (hu : x.up = true) (hw : x.L0.waits = []) (ho : x.L0.owes = false) : Spc Tryz.prog 26 #[ptr x.p0] H fun r H' => (∃ q c, r = .slice q 0 c) ∧ Kept F H H' ∧ Res F H' x := by
  obtain ⟨Fl, D0, D1, h⟩ := h
  refine (frames_specD (h.l0 hu) (by rw [hw]; simp) (by rw [hw]; simp)).mono ?_
  rintro r H' ⟨h1, hk, h3, h4⟩
  have hs := hk.size
  obtain ⟨e1, e2⟩ := frames_nil hw ho
  rw [e1] at h3
  rw [e2] at h1
  have hp := h.f0 x.p0 ⟨hu, .inl (.inl rfl)⟩
  refine ⟨?_, hk.mono (fun b e _ => by rw [e]; exact hp.1), Fl, D0, D1, h.log.keep hk (fun b hb hl => ⟨fun e => (h.fl b hb).2.2.1 ⟨hu, .inl (.inl e)⟩, hb⟩), fun _ => h1, fun _ => (h.l1 hu).keepG hk (fun b hb e => by rw [e] at hb; exact hp.2.2 ⟨hu, hb⟩), fun b hb => by have := h.fl b hb; exact ⟨this.1, by omega, this.2.2⟩, fun b hb => by have := h.f0 b hb; exact ⟨this.1, by omega, this.2.2⟩, fun b hb => by have := h.f1 b hb; exact ⟨this.1, by omega⟩⟩
  rcases h3.form with ⟨e, _⟩ | ⟨g, c, e, _⟩
  · exact ⟨_, _, e⟩
  · exact ⟨_, _, e⟩
theorem rframes1_spec {F : Nat → Prop} {H : Heap} {x : RD} (h : Res F H x) (hu : x.up = true) (hw : x.L1.waits = []) (ho : x.L1.owes = false) : Spc Tryz.prog 26 #[ptr x.p1] H fun r H' => (∃ q c, r = .slice q 0 c) ∧ Kept F H H' ∧ Res F H' x := by
  obtain ⟨Fl, D0, D1, h⟩ := h
  refine (frames_specD (h.l1 hu) (by rw [hw]; simp) (by rw [hw]; simp)).mono ?_
  rintro r H' ⟨h1, hk, h3, h4⟩
  have hs := hk.size
  obtain ⟨e1, e2⟩ := frames_nil hw ho
  rw [e1] at h3
  rw [e2] at h1
  have hp := h.f1 x.p1 ⟨hu, .inl (.inl rfl)⟩
  refine ⟨?_, hk.mono (fun b e _ => by rw [e]; exact hp.1), Fl, D0, D1, h.log.keep hk (fun b hb hl => ⟨fun e => (h.fl b hb).2.2.2 ⟨hu, .inl (.inl e)⟩, hb⟩), fun _ => (h.l0 hu).keepG hk (fun b hb e => by rw [e] at hb; exact (h.f0 _ ⟨hu, hb⟩).2.2 ⟨hu, .inl (.inl rfl)⟩), fun _ => h1, fun b hb => by have := h.fl b hb; exact ⟨this.1, by omega, this.2.2⟩, fun b hb => by have := h.f0 b hb; exact ⟨this.1, by omega, this.2.2⟩, fun b hb => by have := h.f1 b hb; exact ⟨this.1, by omega⟩⟩
  rcases h3.form with ⟨e, _⟩ | ⟨g, c, e, _⟩
  · exact ⟨_, _, e⟩
  · exact ⟨_, _, e⟩
/-- a frame taken: the body is fresh -/
theorem rtake1_spec {F : Nat → Prop} {H : Heap} {x : RD} {f : Fr} {bv : Value} {l : List UInt8} (h : Res F H x) (hu : x.up = true) (hb : BytesAt (fun b => bv.ownBlock = some b) H bv f.body) (hn : ∀ b, bv.ownBlock = some b → ¬ F b) (hm : MayB x.L1 f) (hc : 0 ≤ x.L1.came ∧ x.L1.came ≤ 1000000000000) (ht : (takeL x.L1 f).2 = some l) :
    Spc Tryz.prog 65 #[ptr x.p1, .agg (frCells f bv).toArray] H fun r H' => ∃ bv' v1', r = .tuple #[bv', .bool true, .int .i64 0] ∧ BytesAt (fun b => H.size ≤ b) H' bv' l ∧ Kept F H H' ∧ Res (fun b => F b ∨ (bv.ownBlock = some b ∧ b < H.size)) H' { x with v1 := v1', L1 := (takeL x.L1 f).1 } := by
  obtain ⟨Fl, D0, D1, h⟩ := h
  have h1 : LinkD (fun b => D1 b ∨ (bv.ownBlock = some b ∧ b < H.size)) H x.p1 x.v1 x.L1 := (h.l1 hu).keep (Kept.refl (fun _ => False) H) (fun f => f) (fun _ _ f => f) (fun b hb _ => ⟨fun f => f, .inl hb⟩) (fun b hb e => by
    rcases hb with hb | hb
    · exact (h.l1 hu).dis b hb e
    · exact hn b hb.1 (h.f1 b ⟨hu, .inl e⟩).1)
  refine (take_spec h1 (hb.mono (fun b hb hl => .inr ⟨hb, hl⟩)) hm hc).mono ?_
  rintro r H' ⟨⟨bv', v1', rfl, hbv, hl1, hv1⟩, hk⟩
  have hs := hk.size
  rw [ht] at hbv ⊢
  have hG : ∀ b, Gk x.up x.p1 v1' (fun b => D1 b ∨ (bv.ownBlock = some b ∧ b < H.size)) b → Gk x.up x.p1 x.v1 D1 b ∨ (bv.ownBlock = some b ∧ b < H.size) := fun b hb => by
    rcases hb with ⟨_, (e | e) | e | e⟩
    · exact .inl ⟨hu, .inl (.inl e)⟩
    · exact .inl ⟨hu, .inl (.inr (hv1 b e))⟩
    · exact .inl ⟨hu, .inr e⟩
    · exact .inr e
  refine ⟨bv', v1', rfl, hbv, hk.mono (fun b hb _ => (h.f1 b ⟨hu, .inl hb⟩).1), Fl, D0, _, h.log.keep hk (fun b hb hl => ⟨fun e => (h.fl b hb).2.2.2 ⟨hu, .inl e⟩, hb⟩), fun _ => (h.l0 hu).keepG hk (fun b hb e => (h.f0 b ⟨hu, hb⟩).2.2 ⟨hu, .inl e⟩), fun _ => hl1, fun b hb => ?_, fun b hb => ?_, fun b hb => ?_⟩
  · have := h.fl b hb
    refine ⟨.inl this.1, by omega, this.2.2.1, fun g => ?_⟩
    rcases hG b g with g | g
    · exact this.2.2.2 g
    · exact hn b g.1 this.1
  · have := h.f0 b hb
    refine ⟨.inl this.1, by omega, fun g => ?_⟩
    rcases hG b g with g | g
    · exact this.2.2 g
    · exact hn b g.1 this.1
  · rcases hG b hb with g | g
    · have := h.f1 b g
      exact ⟨.inl this.1, by omega⟩
    · exact ⟨.inr g, by omega⟩
theorem rsend1_spec {F D : Nat → Prop} {H : Heap} {x : RD} {v : Value} {l : List UInt8} (h : Res F H x) (hu : x.up = true) (hb : BytesAt D H v l) (hD : ∀ b, D b → ¬ F b) (hl : l.length ≤ 131072) (hw : x.L1.waits.length < 4) (hs : -1000000000000 ≤ x.L1.sent ∧ x.L1.sent ≤ 1000000000000) :
    Spc Tryz.prog 53 #[ptr x.p1, v] H fun r H' => r = .int .i64 0 ∧ Kept F H H' ∧ ∃ v1', Res (fun b => F b ∨ (H.size ≤ b ∧ b < H'.size)) H' { x with v1 := v1', L1 := sentL x.L1 l } := by
  obtain ⟨Fl, D0, D1, h⟩ := h
  refine (send_okD (h.l1 hu) (hb.mono (fun b hb _ e => hD b hb (by rw [e]; exact (h.f1 _ ⟨hu, .inl (.inl rfl)⟩).1))) hl hw hs).mono ?_
  rintro r H' ⟨rfl, hk, v1', hl1, hv1⟩
  have hs := hk.size
  have hvlt : ∀ g, v1'.ownBlock = some g → g < H'.size := fun g e => by
    obtain ⟨q, c, e2⟩ := hl1.lnk.vw
    rcases hl1.own.form with ⟨e3, _⟩ | ⟨g', c', e3, hg, _⟩
    · rw [e3] at e; cases e
    · rw [e3] at e; simp only [Value.ownBlock, Option.some.injEq] at e; omega
  have hl2 : LinkD (fun b => NuD D1 H v1' b ∧ b < H'.size) H' x.p1 v1' (sentL x.L1 l) := hl1.keep (Kept.refl (fun _ => False) H') (fun f => f) (fun _ _ f => f) (fun b hb hl => ⟨fun f => f, hb, hl⟩) (fun b hb => hl1.dis b hb.1)
  have hG : ∀ b, Gk x.up x.p1 v1' (fun b => NuD D1 H v1' b ∧ b < H'.size) b → Gk x.up x.p1 x.v1 D1 b ∨ (H.size ≤ b ∧ b < H'.size) := fun b hb => by
    rcases hb with ⟨_, (e | e) | ⟨e, e2⟩⟩
    · exact .inl ⟨hu, .inl (.inl e)⟩
    · rcases hv1 b e with e2 | e2
      · exact .inl ⟨hu, .inl (.inr e2)⟩
      · exact .inr ⟨e2, hvlt b e⟩
    · rcases e with e | e
      · exact .inl ⟨hu, .inr e.1⟩
      · exact .inr ⟨e.1, e2⟩
  refine ⟨rfl, hk.mono (fun b hb _ => (h.f1 b ⟨hu, .inl hb⟩).1), v1', Fl, D0, _, h.log.keep hk (fun b hb hl => ⟨fun e => (h.fl b hb).2.2.2 ⟨hu, .inl e⟩, hb⟩), fun _ => (h.l0 hu).keepG hk (fun b hb e => (h.f0 b ⟨hu, hb⟩).2.2 ⟨hu, .inl e⟩), fun _ => hl2, fun b hb => ?_, fun b hb => ?_, fun b hb => ?_⟩
  · have := h.fl b hb
    refine ⟨.inl this.1, by omega, this.2.2.1, fun g => ?_⟩
    rcases hG b g with g | g
    · exact this.2.2.2 g
    · omega
  · have := h.f0 b hb
    refine ⟨.inl this.1, by omega, fun g => ?_⟩
    rcases hG b g with g | g
    · exact this.2.2 g
    · omega
  · rcases hG b hb with g | g
    · have := h.f1 b g
      exact ⟨.inl this.1, by omega⟩
    · exact ⟨.inr g, g.2⟩
end Go.Proofs.YtlaobecajieaaaaGreat
