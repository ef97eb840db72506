/- Frames and byte slices; a network in memory: its small functions. -/
import Derived.Test.YtjgbbegfenmhaaaTab
import Derived.Test.YtjgbbegfenmhaaaEvMore
namespace Go.Proofs.Ytjgbbegfenmhaaa
open Go Ev
set_option linter.unusedVariables false
set_option linter.unusedSimpArgs false
attribute [local irreducible] Go.wpList Go.bodyPost Go.Code.wp Go.Exit.then Go.Exit.inBlock Go.Exit.noGoto Ev.wpAnyG Go.Oper.wp Ev.Back Ev.Left Ev.Spc Ev.At Ev.Pure Ev.Reads Ev.Runs Ev.Does Ev.Cell

/-- a block that may be written -/
def Soft (H : Heap) (b : Nat) : Prop := ∃ cs t, H[b]? = some (.cells cs t (0, 0))
theorem Soft.keep {S : Nat → Prop} {H H' : Heap} {b : Nat} (h : Soft H b) (hk : Kept S H H') (hS : ¬ S b) : Soft H' b := by
  obtain ⟨cs, t, e⟩ := h
  exact ⟨cs, t, hk.keep e hS⟩
theorem own_soft {H : Heap} {base : Nat} {e : TypeId} {size nn g c l : Nat} {xs : List Value} (h : Own H base e size (.slice (some ⟨g, 0, none⟩) l c) nn xs) : Soft H g := by
  rcases h.2 with ⟨e, _⟩ | ⟨g', cap, cur, e, _, h3, _⟩
  · cases e
  · simp only [Value.slice.injEq, Option.some.injEq, Addr.mk.injEq] at e
    obtain ⟨⟨rfl, _⟩, _⟩ := e
    exact ⟨_, _, h3⟩
theorem clone_soft {D : Nat → Prop} {H : Heap} {v : Value} {l : List UInt8} (hb : BytesAt D H v l) (hl : l.length ≤ 70368744177664) :
    Spc Try.prog 31 #[v] H fun v' H' => Ext H H' ∧ BytesAt (fun b => H.size ≤ b ∧ Soft H' b) H' v' l := by
  refine spec_of Try.func31 rfl Try.ntmps31 rfl (fun W => ?_)
  obtain ⟨p, c, rfl⟩ := hb.form
  obtain ⟨_, hc0, hcm, hpn⟩ : ∃ u : Unit, l.length ≤ c ∧ c ≤ maxLen ∧ (p = none → c = 0) := by
    obtain ⟨p', c', e, h1, h2, h3, _⟩ := hb
    cases e
    exact ⟨(), h1, h2, h3⟩
  cases p with
  | none =>
    have hl0 : l = [] := List.eq_nil_of_length_eq_zero (by have := hpn rfl; omega)
    subst hl0
    repeat (first | refine codeA (k := ?_) | refine condA (k := ?_) | refine offA (k := ?_) | refine pureA (k := ?_) | refine readA (k := ?_))
    exact At_ret1 rfl rfl ⟨Kept.refl _ _, BytesAt.nil _ _⟩
  | some ad =>
    repeat (first | refine codeA (k := ?_) | refine condA (k := ?_) | refine offA (k := ?_) | refine pureA (k := ?_) | refine readA (k := ?_))
    refine At_wp (W_buildSlice0 rfl ?_) rfl
    intro g H1 hn
    repeat (first | refine codeA (k := ?_) | refine condA (k := ?_) | refine offA (k := ?_) | refine pureA (k := ?_) | refine readA (k := ?_))
    rcases Nat.eq_zero_or_pos l.length with h0 | hp
    · have hl0 : l = [] := List.eq_nil_of_length_eq_zero h0
      subst hl0
      refine At_read (r_append0 rfl rfl (Nat.le_refl _)) rfl rfl rfl ?_
      repeat (first | refine codeA (k := ?_) | refine condA (k := ?_) | refine offA (k := ?_) | refine pureA (k := ?_) | refine readA (k := ?_))
      refine At_ret1 rfl rfl ⟨hn.ext, BytesAt.mk (l := []) (Nat.le_refl _) (by simp [maxLen]) ⟨by have := hn.blk; omega, _, _, hn.at_⟩ (fun i x h => by simp at h)⟩
    · obtain ⟨b, o, e, _, h3, h5⟩ := hb.some hp
      simp only [Option.some.injEq] at e
      subst e
      have hgb : g ≠ b := by have := hn.blk; omega
      have hown : Own H1 0 5 1 (.slice (some ⟨g, 0, none⟩) 0 0) 0 [] := ⟨by simp, .inr ⟨g, 0, #[], rfl, Nat.zero_le _, hn.at_, Nat.le_refl _, by simp [maxLen], by simp, by simp⟩⟩
      refine At_wp (W_append (news := l.map fun x => .int .u8 x.toNat) rfl rfl hown ?_ ?_ ?_ (Nat.zero_le _) rfl (by decide) hp ?_ ?_ rfl ?_) rfl
      · simp
      · intro j u hj
        simp only [List.getElem?_map, Option.map_eq_some_iff] at hj
        obtain ⟨x, hx, rfl⟩ := hj
        exact (h5 j x hx).keep hn.ext (fun f => f)
      · intro u hu
        simp only [List.mem_map] at hu
        obtain ⟨x, _, rfl⟩ := hu
        rfl
      · simp only [maxLen]; omega
      · omega
      intro g2 c2 H2 hown2 hk2 hg2
      rw [List.nil_append, Nat.zero_add] at hown2
      repeat (first | refine codeA (k := ?_) | refine condA (k := ?_) | refine offA (k := ?_) | refine pureA (k := ?_) | refine readA (k := ?_))
      have hb2 := hn.blk
      have hs2 := hn.size
      have hk2s := hk2.size
      have hb3 : BytesAt (fun b => H.size ≤ b ∧ Soft H2 b) H2 (.slice (some ⟨g2, 0, none⟩) l.length c2) l := by
        rcases hown2.form with ⟨h, _⟩ | ⟨g3, c3, h, _, _, h6, h7⟩
        · cases h
        · simp only [Value.slice.injEq, true_and] at h
          refine BytesAt.mk (by omega) (by omega) ?_ (fun i x hx => ?_)
          · simp only [Value.ownBlock, Option.some.injEq] at hg2
            exact ⟨by omega, own_soft hown2⟩
          · rw [Nat.zero_add]
            exact hown2.cell (by simp [hx])
      refine At_ret1 rfl rfl ⟨Kept.trans hn.ext hk2 (fun _ f _ => f) (fun i hi hlt => ?_), ?_⟩
      · simp only [Value.ownBlock, Option.some.injEq] at hi
        omega
      · rw [Nat.zero_add]
        exact hb3

theorem clone_spec {D : Nat → Prop} {H : Heap} {v : Value} {l : List UInt8} (hb : BytesAt D H v l) (hl : l.length ≤ 70368744177664) :
    Spc Try.prog 31 #[v] H fun v' H' => Ext H H' ∧ BytesAt (fun b => H.size ≤ b) H' v' l :=
  (clone_soft hb hl).mono fun _ _ h => ⟨h.1, h.2.mono fun _ h _ => h.1⟩

theorem bytes_spec {D D' : Nat → Prop} {H : Heap} {v v' : Value} {l l' : List UInt8} (h1 : BytesAt D H v l) (h2 : BytesAt D' H v' l') :
    Spc Try.prog 24 #[v, v'] H fun r H' => H = H' ∧ r = .bool (decide (l = l')) := by
  refine spec_of Try.func24 rfl Try.ntmps24 rfl (fun W => ?_)
  repeat (first | refine codeA (k := ?_) | refine condA (k := ?_) | refine offA (k := ?_) | refine pureA (k := ?_) | refine readA (k := ?_))
  refine At_read (r_bytesStr rfl h1) rfl rfl rfl ?_
  repeat (first | refine codeA (k := ?_) | refine condA (k := ?_) | refine offA (k := ?_) | refine pureA (k := ?_) | refine readA (k := ?_))
  refine At_read (r_bytesStr rfl h2) rfl rfl rfl ?_
  refine At_pure (p_eql_string rfl rfl) rfl rfl rfl ?_
  repeat (first | refine codeA (k := ?_) | refine condA (k := ?_) | refine offA (k := ?_) | refine pureA (k := ?_) | refine readA (k := ?_))
  exact At_ret1 rfl rfl ⟨rfl, rfl⟩

/-- a frame -/
structure Fr where
  frm : Int
  to : Int
  epoch : Int
  peer : Int
  seq : Int
  ack : Int
  body : List UInt8
def frCells (f : Fr) (bv : Value) : List Value := [.int .i64 f.frm, .int .i64 f.to, .int .i64 f.epoch, .int .i64 f.peer, .int .i64 f.seq, .int .i64 f.ack, bv]
def FRow (D : Nat → Prop) (H : Heap) (f : Fr) (row : List Value) : Prop := ∃ bv, row = frCells f bv ∧ BytesAt D H bv f.body
set_option maxHeartbeats 1000000 in
theorem frame_eq {D D' : Nat → Prop} {H : Heap} {f : Fr} {bv bv' : Value} (h1 : BytesAt D H bv f.body) (h2 : BytesAt D' H bv' f.body) :
    Spc Try.prog 11 #[.agg (frCells f bv).toArray, .agg (frCells f bv').toArray] H fun r H' => Ext H H' ∧ r = .bool true := by
  obtain ⟨q, c, rfl⟩ := h1.form
  obtain ⟨q', c', rfl⟩ := h2.form
  refine spec_of Try.func11 rfl Try.ntmps11 rfl (fun W => ?_)
  repeat (first | refine codeA (k := ?_) | refine condA (k := ?_) | refine offA (k := ?_) | refine pureA (k := ?_) | refine readA (k := ?_))
  refine At_wp (W_box (cs := #[.int .i64 f.frm, .int .i64 f.to, .int .i64 f.epoch, .int .i64 f.peer, .int .i64 f.seq, .int .i64 f.ack, .slice q f.body.length c]) rfl rfl rfl ?_) rfl
  intro b1 H1 hn1
  refine At_wp (W_box (cs := #[.int .i64 f.frm, .int .i64 f.to, .int .i64 f.epoch, .int .i64 f.peer, .int .i64 f.seq, .int .i64 f.ack, .slice q' f.body.length c']) rfl rfl rfl ?_) rfl
  intro b2 H2 hn2
  have hx := hn1.ext.trans hn2.ext
  have ha := hn2.ext.keep hn1.at_ (fun f => f)
  have hb := hn2.at_
  have c0 : Cell H2 b1 (0 + 0) (.int .i64 f.frm) := Cell.of ha rfl
  have c1 : Cell H2 b1 (0 + 1) (.int .i64 f.to) := Cell.of ha rfl
  have c2 : Cell H2 b1 (0 + 2) (.int .i64 f.epoch) := Cell.of ha rfl
  have c3 : Cell H2 b1 (0 + 3) (.int .i64 f.peer) := Cell.of ha rfl
  have c4 : Cell H2 b1 (0 + 4) (.int .i64 f.seq) := Cell.of ha rfl
  have c5 : Cell H2 b1 (0 + 5) (.int .i64 f.ack) := Cell.of ha rfl
  have c6 : Cell H2 b1 (0 + 6) (.slice q f.body.length c) := Cell.of ha rfl
  have d0 : Cell H2 b2 (0 + 0) (.int .i64 f.frm) := Cell.of hb rfl
  have d1 : Cell H2 b2 (0 + 1) (.int .i64 f.to) := Cell.of hb rfl
  have d2 : Cell H2 b2 (0 + 2) (.int .i64 f.epoch) := Cell.of hb rfl
  have d3 : Cell H2 b2 (0 + 3) (.int .i64 f.peer) := Cell.of hb rfl
  have d4 : Cell H2 b2 (0 + 4) (.int .i64 f.seq) := Cell.of hb rfl
  have d5 : Cell H2 b2 (0 + 5) (.int .i64 f.ack) := Cell.of hb rfl
  have d6 : Cell H2 b2 (0 + 6) (.slice q' f.body.length c') := Cell.of hb rfl
  have e1 := h1.keep hx (fun b hb _ => ⟨fun f => f, hb⟩)
  have e2 := h2.keep hx (fun b hb _ => ⟨fun f => f, hb⟩)
  repeat (first | refine codeA (k := ?_) | refine condA (k := ?_) | refine offA (k := ?_) | refine pureA (k := ?_) | refine readA (k := ?_))
  refine At_wp (W_call rfl rfl (bytes_spec e1 e2) rfl rfl ?_) rfl
  rintro _ _ ⟨rfl, rfl⟩
  rw [decide_eq_true (rfl : f.body = f.body)]
  repeat (first | refine codeA (k := ?_) | refine condA (k := ?_) | refine offA (k := ?_) | refine pureA (k := ?_) | refine readA (k := ?_))
  exact At_ret1 rfl rfl ⟨hx, rfl⟩

set_option maxHeartbeats 1000000 in
theorem hkframes_eq {D D' : Nat → Prop} {H : Heap} {fs : List Fr} {v v' : Value} (h1 : OwnL H 30 7 (FRow D H) v fs) (h2 : OwnL H 30 7 (FRow D' H) v' fs) :
    Spc Try.prog 17 #[v, v'] H fun r H' => Ext H H' ∧ r = .bool true := by
  have hlen := h1.len_le
  simp only [maxLen] at hlen
  obtain ⟨q, c, hv⟩ : ∃ q c, v = .slice q fs.length c := by
    rcases h1.form with ⟨e1, e2⟩ | ⟨g, c, e1, _⟩
    · exact ⟨none, 0, by rw [e1, e2]; rfl⟩
    · exact ⟨_, _, e1⟩
  obtain ⟨q', c', hv'⟩ : ∃ q c, v' = .slice q fs.length c := by
    rcases h2.form with ⟨e1, e2⟩ | ⟨g, c, e1, _⟩
    · exact ⟨none, 0, by rw [e1, e2]; rfl⟩
    · exact ⟨_, _, e1⟩
  subst hv
  subst hv'
  refine spec_of Try.func17 rfl Try.ntmps17 rfl (fun W => ?_)
  repeat (first | refine codeA (k := ?_) | refine condA (k := ?_) | refine offA (k := ?_) | refine pureA (k := ?_) | refine readA (k := ?_) | refine At_block ?_)
  refine At_loop (fun (s : Nat) => [(0, .slice q fs.length c), (1, .slice q' fs.length c'), (5, .int .i64 s)]) (fun s H' => s ≤ fs.length ∧ Ext H H') (fun s => fs.length - s) 0 ?_ ⟨Nat.zero_le _, Kept.refl _ _⟩ ?_
  · (repeat (first | exact Sub.nil | refine Sub.cons rfl ?_))
  rintro k H1 ⟨hle, hx1⟩
  by_cases hk : k < fs.length
  · have hx : fs[k]? = some fs[k] := by simp [hk]
    generalize fs[k] = f at hx
    obtain ⟨g, rfl⟩ : ∃ g, q = some ⟨g, 0, none⟩ := by
      rcases h1.form with ⟨e1, e2⟩ | ⟨g, c, e1, _⟩
      · rw [e2] at hk; simp at hk
      · simp only [Value.slice.injEq] at e1
        exact ⟨g, e1.1⟩
    obtain ⟨g', rfl⟩ : ∃ g, q' = some ⟨g, 0, none⟩ := by
      rcases h2.form with ⟨e1, e2⟩ | ⟨g, c, e1, _⟩
      · rw [e2] at hk; simp at hk
      · simp only [Value.slice.injEq] at e1
        exact ⟨g, e1.1⟩
    obtain ⟨row, ⟨bv, e1, e2⟩, e3, e4⟩ := h1.cells hx
    obtain ⟨row', ⟨bv', e1', e2'⟩, e3', e4'⟩ := h2.cells hx
    subst e1
    subst e1'
    obtain ⟨p, pc, rfl⟩ := e2.form
    obtain ⟨p', pc', rfl⟩ := e2'.form
    repeat (first | refine codeA (k := ?_) | refine condA (k := ?_) | refine offA (k := ?_) | refine pureA (k := ?_) | refine readA (k := ?_) | refine At_block ?_)
    refine At_draw [3, 7] (fun H' => Ext H H') Try.mixed ?_
    first | refine gA 0 (k := ?_) | refine goffA 0 (k := ?_)
    first | refine gA 1 (k := ?_) | refine goffA 1 (k := ?_)
    first | refine gA 2 (k := ?_) | refine goffA 2 (k := ?_)
    refine grA 3 hx1 (fun H' hS' => r_loadN (b := g) (o := 0 + k * 7) (cs := frCells f (.slice p f.body.length pc)) rfl rfl rfl (fun j u hj => by rw [Nat.zero_add]; exact (e4 j u hj).keep hS' (fun f => f))) (k := ?_)
    first | refine gA 4 (k := ?_) | refine goffA 4 (k := ?_)
    first | refine gA 5 (k := ?_) | refine goffA 5 (k := ?_)
    first | refine gA 6 (k := ?_) | refine goffA 6 (k := ?_)
    refine grA 7 hx1 (fun H' hS' => r_loadN (b := g') (o := 0 + k * 7) (cs := frCells f (.slice p' f.body.length pc')) rfl rfl rfl (fun j u hj => by rw [Nat.zero_add]; exact (e4' j u hj).keep hS' (fun f => f))) (k := ?_)
    refine G_op 8 rfl (by kernel_rfl) rfl (W_call rfl rfl (frame_eq (e2.keep hx1 (fun b hb _ => ⟨fun f => f, hb⟩)) (e2'.keep hx1 (fun b hb _ => ⟨fun f => f, hb⟩))) rfl rfl ?_) 
    rintro _ H2 ⟨hx2, rfl⟩
    refine G_next (fun _ s => s.trans hx2) ?_
    first | refine gA 9 (k := ?_) | refine goffA 9 (k := ?_)
    refine G_done (by kernel_rfl) ?_
    repeat (first | refine codeA (k := ?_) | refine condA (k := ?_) | refine offA (k := ?_) | refine pureA (k := ?_) | refine readA (k := ?_))
    refine At_back (k + 1) ?_ ⟨by omega, hx1.trans hx2⟩ (by omega)
    (repeat (first | exact Sub.nil | refine Sub.cons rfl ?_))
  · obtain rfl : k = fs.length := by omega
    repeat (first | refine codeA (k := ?_) | refine condA (k := ?_) | refine offA (k := ?_) | refine pureA (k := ?_) | refine readA (k := ?_))
    exact At_ret1 rfl rfl ⟨hx1, rfl⟩


theorem FRow.keep {D D' S : Nat → Prop} {H H' : Heap} {f : Fr} {row : List Value} (hr : FRow D H f row) (hk : Kept S H H') (h1 : ∀ b, D b → b < H.size → ¬ S b ∧ D' b) : FRow D' H' f row := by
  obtain ⟨bv, e1, e2⟩ := hr
  exact ⟨bv, e1, e2.keep hk h1⟩
theorem FRow.one {D : Nat → Prop} {H : Heap} {f : Fr} {row : List Value} (hr : FRow D H f row) : ∀ u ∈ row, u.oneCell' = true := by
  obtain ⟨bv, rfl, e2⟩ := hr
  intro u hu
  simp only [frCells, List.mem_cons, List.not_mem_nil, or_false] at hu
  rcases hu with rfl | rfl | rfl | rfl | rfl | rfl | rfl
  any_goals rfl
  exact e2.one.2

/-- a network -/
structure Nt where
  n : Int
  row : List Fr
  cut : Nat → Nat → Bool
/-- .. in memory: the frames' bodies lie in blocks that D lets -/
structure NetD (D : Nat → Prop) (H : Heap) (p : Nat) (vr : Value) (N : Nt) : Prop where
  blk : ∃ cs : List Value, H[p]? = some (.cells (.int .i64 N.n :: vr :: cs).toArray 57 (0, 0)) ∧ cs.length = 4096 ∧ ∀ a b, a < 64 → b < 64 → cs[a * 64 + b]? = some (.bool (N.cut a b))
  own : OwnL H 30 7 (FRow D H) vr N.row
  ne : vr.ownBlock ≠ some p
  dis : ∀ b, D b → b ≠ p ∧ vr.ownBlock ≠ some b
theorem NetD.vr {D : Nat → Prop} {H : Heap} {p : Nat} {vr : Value} {N : Nt} (h : NetD D H p vr N) : ∃ q c, vr = .slice q N.row.length c := by
  rcases h.own.form with ⟨h1, h2⟩ | ⟨g, c, h1, _⟩
  · exact ⟨none, 0, by rw [h1, h2]; rfl⟩
  · exact ⟨_, c, h1⟩
theorem NetD.lt {D : Nat → Prop} {H : Heap} {p : Nat} {vr : Value} {N : Nt} (h : NetD D H p vr N) : p < H.size := by
  obtain ⟨cs, h1, _⟩ := h.blk
  exact lt_of_heap h1
theorem NetD.keep {D D' S : Nat → Prop} {H H' : Heap} {p : Nat} {vr : Value} {N : Nt} (h : NetD D H p vr N) (hk : Kept S H H') (hp : ¬ S p) (hv : ∀ g, vr.ownBlock = some g → ¬ S g) (h1 : ∀ b, D b → b < H.size → ¬ S b ∧ D' b) (hd : ∀ b, D' b → b ≠ p ∧ vr.ownBlock ≠ some b) : NetD D' H' p vr N := by
  obtain ⟨cs, c1, c2⟩ := h.blk
  exact ⟨⟨cs, hk.keep c1 hp, c2⟩, h.own.keep hk hv (fun x row _ hr => hr.keep hk h1), h.ne, hd⟩
theorem NetD.ext {D : Nat → Prop} {H H' : Heap} {p : Nat} {vr : Value} {N : Nt} (h : NetD D H p vr N) (hk : Ext H H') : NetD D H' p vr N :=
  h.keep hk (fun f => f) (fun _ _ f => f) (fun b hb _ => ⟨fun f => f, hb⟩) h.dis
theorem NetD.c0 {D : Nat → Prop} {H : Heap} {p : Nat} {vr : Value} {N : Nt} (h : NetD D H p vr N) : Cell H p (0 + 0) (.int .i64 N.n) := by
  obtain ⟨cs, c1, _⟩ := h.blk
  exact Cell.of c1 (by simp)
theorem NetD.c1 {D : Nat → Prop} {H : Heap} {p : Nat} {vr : Value} {N : Nt} (h : NetD D H p vr N) : Cell H p (0 + 1) vr := by
  obtain ⟨cs, c1, _⟩ := h.blk
  exact Cell.of c1 (by simp)
theorem NetD.cc {D : Nat → Prop} {H : Heap} {p : Nat} {vr : Value} {N : Nt} (h : NetD D H p vr N) {a b : Nat} (ha : a < 64) (hb : b < 64) : Cell H p (0 + 2 + a * 64 + b * 1) (.bool (N.cut a b)) := by
  obtain ⟨cs, c1, _, c3⟩ := h.blk
  refine Cell.of c1 ?_
  have e : 0 + 2 + a * 64 + b * 1 = a * 64 + b + 1 + 1 := by omega
  rw [e]
  simpa using c3 a b ha hb

theorem is_spec {D : Nat → Prop} {H : Heap} {p : Nat} {vr : Value} {N : Nt} (h : NetD D H p vr N) (i : Int) :
    Spc Try.prog 20 #[.pointer (some ⟨p, 0, none⟩), .int .i64 i] H fun r H' => H = H' ∧ r = .bool (decide (0 ≤ i ∧ i < N.n)) := by
  have c0 := h.c0
  refine spec_of Try.func20 rfl Try.ntmps20 rfl (fun W => ?_)
  by_cases h1 : 0 ≤ i
  · by_cases h2 : i < N.n
    · repeat (first | refine codeA (k := ?_) | refine condA (k := ?_) | refine offA (k := ?_) | refine pureA (k := ?_) | refine readA (k := ?_))
      exact At_ret1 rfl rfl ⟨rfl, by simp [h1, h2]⟩
    · repeat (first | refine codeA (k := ?_) | refine condA (k := ?_) | refine offA (k := ?_) | refine pureA (k := ?_) | refine readA (k := ?_))
      exact At_ret1 rfl rfl ⟨rfl, by simp [h2]⟩
  · repeat (first | refine codeA (k := ?_) | refine condA (k := ?_) | refine offA (k := ?_) | refine pureA (k := ?_) | refine readA (k := ?_))
    exact At_ret1 rfl rfl ⟨rfl, by simp [h1]⟩
theorem place_spec {D : Nat → Prop} {H : Heap} {p : Nat} {vr : Value} {N : Nt} (h : NetD D H p vr N) (i : Int) :
    Spc Try.prog 22 #[.pointer (some ⟨p, 0, none⟩), .int .i64 i] H fun r H' => H = H' ∧ r = .bool (decide (0 ≤ i ∧ i < N.row.length)) := by
  obtain ⟨q, c, rfl⟩ := h.vr
  have c1 := h.c1
  refine spec_of Try.func22 rfl Try.ntmps22 rfl (fun W => ?_)
  by_cases h1 : 0 ≤ i
  · by_cases h2 : i < N.row.length
    · repeat (first | refine codeA (k := ?_) | refine condA (k := ?_) | refine offA (k := ?_) | refine pureA (k := ?_) | refine readA (k := ?_))
      exact At_ret1 rfl rfl ⟨rfl, by simp [h1, h2]⟩
    · repeat (first | refine codeA (k := ?_) | refine condA (k := ?_) | refine offA (k := ?_) | refine pureA (k := ?_) | refine readA (k := ?_))
      exact At_ret1 rfl rfl ⟨rfl, by simp [h2]⟩
  · repeat (first | refine codeA (k := ?_) | refine condA (k := ?_) | refine offA (k := ?_) | refine pureA (k := ?_) | refine readA (k := ?_))
    exact At_ret1 rfl rfl ⟨rfl, by simp [h1]⟩

set_option maxHeartbeats 1000000 in
theorem twin_soft {D : Nat → Prop} {H : Heap} {bv : Value} {f : Fr} (hb : BytesAt D H bv f.body) (hl : f.body.length ≤ 70368744177664) :
    Spc Try.prog 21 #[.agg (frCells f bv).toArray] H fun r H' => ∃ bv', r = .agg (frCells f bv').toArray ∧ Ext H H' ∧ BytesAt (fun b => H.size ≤ b ∧ Soft H' b) H' bv' f.body := by
  obtain ⟨q, c, rfl⟩ := hb.form
  refine spec_of Try.func21 rfl Try.ntmps21 rfl (fun W => ?_)
  repeat (first | refine codeA (k := ?_) | refine condA (k := ?_) | refine offA (k := ?_) | refine pureA (k := ?_) | refine readA (k := ?_))
  refine At_wp (W_box (cs := #[.int .i64 f.frm, .int .i64 f.to, .int .i64 f.epoch, .int .i64 f.peer, .int .i64 f.seq, .int .i64 f.ack, .slice q f.body.length c]) rfl rfl rfl ?_) rfl
  intro b1 H1 hn1
  refine At_wp (W_alloc rfl rfl ?_) rfl
  intro b2 H2 hn2
  have hx := hn1.ext.trans hn2.ext
  have ha := hn2.ext.keep hn1.at_ (fun f => f)
  have c6 : Cell H2 b1 (0 + 6) (.slice q f.body.length c) := Cell.of ha rfl
  repeat (first | refine codeA (k := ?_) | refine condA (k := ?_) | refine offA (k := ?_) | refine pureA (k := ?_) | refine readA (k := ?_))
  refine At_wp (W_call rfl rfl (clone_soft (hb.keep hx (fun b hb _ => ⟨fun f => f, hb⟩)) hl) rfl rfl ?_) rfl
  rintro vb H3 ⟨hx3, hb3⟩
  obtain ⟨q', c', rfl⟩ := hb3.form
  have ha3 := hx3.keep ha (fun f => f)
  have hc3 := hx3.keep hn2.at_ (fun f => f)
  have e1 := hn1.blk
  have e2 := hn2.blk
  have s1 := hn1.size
  have s2 := hn2.size
  have s3 := hx3.size
  repeat (first | refine codeA (k := ?_) | refine condA (k := ?_) | refine offA (k := ?_) | refine pureA (k := ?_) | refine readA (k := ?_))
  refine At_wp (W_store rfl rfl ha3 rfl rfl rfl rfl ?_) rfl
  intro H4 p4
  have hc4 := p4.kept.keep hc3 (fun e => by omega)
  have s4 := p4.size
  have ha4 := p4.at_
  repeat (first | refine codeA (k := ?_) | refine condA (k := ?_) | refine offA (k := ?_) | refine pureA (k := ?_) | refine readA (k := ?_))
  refine At_read (r_loadB rfl ha4 rfl rfl) rfl rfl rfl ?_
  refine At_wp (W_storeB rfl rfl hc4 rfl rfl rfl rfl ?_) rfl
  intro H5 p5
  repeat (first | refine codeA (k := ?_) | refine condA (k := ?_) | refine offA (k := ?_) | refine pureA (k := ?_) | refine readA (k := ?_))
  refine At_retC1 rfl rfl p5.at_ rfl rfl ⟨.slice q' f.body.length c', rfl, ?_, ?_⟩
  · have a1 : Ext H H3 := hx.trans hx3
    have a2 : Ext H H4 := Kept.trans a1 p4.kept (fun _ f _ => f) (fun i e hl => by omega)
    exact Kept.trans a2 p5.kept (fun _ f _ => f) (fun i e hl => by omega)
  · have a1 := hb3.keep p4.kept (fun b hb hl => ⟨fun e => by omega, (⟨by omega, hb.2.keep p4.kept (fun e => by omega)⟩ : H2.size ≤ b ∧ Soft H4 b)⟩)
    exact a1.keep p5.kept (fun b hb hl => ⟨fun e => by omega, by omega, hb.2.keep p5.kept (fun e => by omega)⟩)
theorem twin_spec {D : Nat → Prop} {H : Heap} {bv : Value} {f : Fr} (hb : BytesAt D H bv f.body) (hl : f.body.length ≤ 70368744177664) :
    Spc Try.prog 21 #[.agg (frCells f bv).toArray] H fun r H' => ∃ bv', r = .agg (frCells f bv').toArray ∧ Ext H H' ∧ BytesAt (fun b => H.size ≤ b) H' bv' f.body :=
  (twin_soft hb hl).mono fun _ _ ⟨b, h1, h2, h3⟩ => ⟨b, h1, h2, h3.mono fun _ h _ => h.1⟩
end Go.Proofs.Ytjgbbegfenmhaaa
