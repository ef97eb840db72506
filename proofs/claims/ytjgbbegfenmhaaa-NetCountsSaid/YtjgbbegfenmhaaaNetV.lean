/- The walk of NetCounts. -/
import Derived.Test.YtjgbbegfenmhaaaNetU
import Derived.Test.YtjgbbegfenmhaaaNetS
namespace Go.Proofs.Ytjgbbegfenmhaaa
open Go Ev
set_option linter.unusedVariables false
set_option linter.unusedSimpArgs false
attribute [local irreducible] Go.wpList Go.bodyPost Go.Code.wp Go.Exit.then Go.Exit.inBlock Go.Exit.noGoto Ev.wpAnyG Go.Oper.wp Ev.Back Ev.Left Ev.Spc Ev.At Ev.Pure Ev.Reads Ev.Runs Ev.Does Ev.Cell

structure NC (Hb : Heap) (p : Nat) (vr : Value) (N : Nt) (H' : Heap) : Prop where
  net : NetD (fun i => Hb.size ≤ i ∧ i ≠ p ∧ vr.ownBlock ≠ some i) H' p vr N
  ext : Ext Hb H'
  hp : Hb.size ≤ p
  ovr : ∀ g, vr.ownBlock = some g → Hb.size ≤ g
section
variable {Hb H1 H2 : Heap} {p : Nat} {vr vr' : Value} {N N' : Nt}
theorem NC.on (h : NC Hb p vr N H1) (hk : Ext H1 H2) : NC Hb p vr N H2 := ⟨h.net.ext hk, h.ext.trans hk, h.hp, h.ovr⟩
theorem NC.step (h : NC Hb p vr N H1) (hk : Kept (Fn p vr) H1 H2) {D' : Nat → Prop} (hn : NetD D' H2 p vr' N') (hD : ∀ b, D' b → Hb.size ≤ b) (hv : ∀ g, vr'.ownBlock = some g → vr.ownBlock = some g ∨ H1.size ≤ g) : NC Hb p vr' N' H2 := by
  have hs := h.ext.size
  refine ⟨hn.to (fun b hb _ => ⟨hD b hb, hn.dis b hb⟩) (fun b hb => hb.2), Kept.trans h.ext hk (fun _ f _ => f) (fun b e hl => ?_), h.hp, fun g hg => ?_⟩
  · rcases e with e | e
    · have := h.hp; omega
    · have := h.ovr b e; omega
  · rcases hv g hg with e | e
    · exact h.ovr g e
    · omega
theorem NC.nF (h : NC Hb p vr N H1) {b : Nat} (hb : b < Hb.size ∨ H1.size ≤ b) : ¬ Fn p vr b := by
  have hs := h.ext.size
  have hp := h.hp
  have hl := h.net.lt
  rintro (e | e)
  · omega
  · have := h.ovr b e
    have := own_lt h.net.own e
    omega
end
def Cst (Hb : Heap) (p : Nat) (f : Fr) (i came all : Nat) (H' : Heap) : Prop := ∃ vr row c, NC Hb p vr ⟨4, row, c⟩ H' ∧ (∀ g ∈ row, OkE 4 g) ∧ row.length ≤ i ∧ came + cnt f row ≤ all ∧ all ≤ i

set_option maxHeartbeats 8000000 in
theorem netCounts_walk {H : Heap} {v bf : Value} {acts : List Ac} {f : Fr} (hs : SliceAt (fun _ => True) H 10 (ARow (fun _ => True) H) v acts) (hbf : BytesAt (fun _ => True) H bf f.body) :
    Spc Try.prog 6 #[v, .agg (frCells f bf).toArray] H fun r H' => Ext H H' ∧ r = .bool true := by
  have hlen := hs.len_le
  simp only [maxLen] at hlen
  obtain ⟨qa, c, rfl⟩ := hs.form
  obtain ⟨qf, cf, rfl⟩ := hbf.form
  refine spec_of Try.func6 rfl Try.ntmps6 rfl (fun W => ?_)
  repeat (first | refine codeA (k := ?_) | refine condA (k := ?_) | refine offA (k := ?_) | refine pureA (k := ?_) | refine readA (k := ?_))
  refine At_wp (W_box (cs := (frCells f (.slice qf f.body.length cf)).toArray) rfl rfl rfl ?_) rfl
  intro b3 Hb hnb
  have hxb := hnb.ext
  have qb := hnb.at_
  have hsb := hs.keep (D' := fun _ => True) (R' := ARow (fun _ => True) Hb) hxb (fun b _ _ => ⟨fun f => f, trivial⟩) (fun x row _ hr => by
    obtain ⟨bv, e1, e2⟩ := hr
    exact ⟨bv, e1, e2.keep hxb (fun b _ _ => ⟨fun f => f, trivial⟩)⟩)
  have hbf1 : BytesAt (fun b => b < Hb.size) Hb (.slice qf f.body.length cf) f.body := (hbf.keep (D' := fun _ => True) hxb (fun b _ _ => ⟨fun f => f, trivial⟩)).mono (fun b _ hl => hl)
  have c3 : Cell Hb b3 (0 + 6) (.slice qf f.body.length cf) := Cell.of qb rfl
  have b3l : b3 < Hb.size := lt_of_heap qb
  repeat (first | refine codeA (k := ?_) | refine condA (k := ?_) | refine offA (k := ?_) | refine pureA (k := ?_) | refine readA (k := ?_))
  refine At_wp (W_call rfl rfl (heavy_spec hsb) rfl rfl ?_) rfl
  rintro _ _ ⟨rfl, hv, rfl, hh⟩
  cases hv
  rotate_left
  · repeat (first | refine codeA (k := ?_) | refine condA (k := ?_) | refine offA (k := ?_) | refine pureA (k := ?_) | refine readA (k := ?_))
    exact At_ret1 rfl rfl ⟨hxb, rfl⟩
  obtain ⟨hal, hbody⟩ := hh rfl
  by_cases hfl : f.body.length > 1000
  · repeat (first | refine codeA (k := ?_) | refine condA (k := ?_) | refine offA (k := ?_) | refine pureA (k := ?_) | refine readA (k := ?_))
    exact At_ret1 rfl rfl ⟨hxb, rfl⟩
  rename_i Hb
  repeat (first | refine codeA (k := ?_) | refine condA (k := ?_) | refine offA (k := ?_) | refine pureA (k := ?_) | refine readA (k := ?_))
  refine At_wp (W_call rfl rfl (new_spec 4 Hb (by decide) (by decide)) rfl rfl ?_) rfl
  rintro _ H1 ⟨p, rfl, hp, hx1, hD1⟩
  have st : Cst Hb p f 0 0 0 H1 := ⟨_, [], _, ⟨hD1 _ (fun i hi => hi.2.1), hx1, by omega, (fun g e => by cases e)⟩, (fun g hg => by simp at hg), Nat.le_refl _, Nat.le_refl _, Nat.le_refl _⟩
  repeat (first | refine codeA (k := ?_) | refine condA (k := ?_) | refine offA (k := ?_) | refine pureA (k := ?_) | refine readA (k := ?_))
  refine At_cut (fun (s : Unit) => []) (fun s H' => Ext H H') ?_ ?_
  rotate_left
  · rintro _ H2 hx2
    repeat (first | refine codeA (k := ?_) | refine condA (k := ?_) | refine offA (k := ?_) | refine pureA (k := ?_) | refine readA (k := ?_))
    refine At_wp (W_call rfl rfl (wakes_spec H2) rfl rfl ?_) rfl
    rintro _ H5 ⟨hx5, rfl⟩
    repeat (first | refine codeA (k := ?_) | refine condA (k := ?_) | refine offA (k := ?_) | refine pureA (k := ?_) | refine readA (k := ?_))
    exact At_ret1 rfl rfl ⟨hx2.trans hx5, rfl⟩
  refine At_block ?_
  refine At_loop (fun (s : Nat × Nat × Nat) => [(0, .slice qa acts.length c), (3, .pointer (some ⟨b3, 0, none⟩)), (5, .pointer (some ⟨p, 0, none⟩)), (7, .int .i64 s.2.2), (8, .int .i64 s.2.1), (9, .int .i64 s.1)])
    (fun s H' => s.1 ≤ acts.length ∧ s.1 ≤ 80 ∧ Cst Hb p f s.1 s.2.1 s.2.2 H') (fun s => acts.length - s.1) (0, 0, 0) ?_ ⟨Nat.zero_le _, Nat.zero_le _, st⟩ ?_
  · (repeat (first | exact Sub.nil | refine Sub.cons rfl ?_))
  rintro ⟨i, came, all⟩ H2 ⟨hi, hi8, vr, row, cut, nc, hok, hrl, hca, hali⟩
  dsimp only at hi hi8 hrl hca hali
  have hxx := hxb.trans nc.ext
  by_cases hil : i < acts.length
  rotate_left
  · repeat (first | refine codeA (k := ?_) | refine condA (k := ?_) | refine offA (k := ?_) | refine pureA (k := ?_) | refine readA (k := ?_))
    refine At_meet (E := fun (s : Unit) => []) (J := fun s H' => Ext H H') () Sub.nil hxx
  by_cases hi80 : i < 80
  rotate_left
  · repeat (first | refine codeA (k := ?_) | refine condA (k := ?_) | refine offA (k := ?_) | refine pureA (k := ?_) | refine readA (k := ?_))
    refine At_meet (E := fun (s : Unit) => []) (J := fun s H' => Ext H H') () Sub.nil hxx
  have hx : acts[i]? = some acts[i] := by simp [hil]
  generalize acts[i] = k at hx
  obtain ⟨bb, o, arow, hq, _, hbb, ⟨bv, e1, e2⟩, e3, e4⟩ := hsb.at_ hx
  subst hq
  subst e1
  obtain ⟨pb, pc, rfl⟩ := e2.form
  have hkl := hbody i k hi80 hx
  refine At_sub (e' := [(0, .slice (some ⟨bb, o, none⟩) acts.length c), (3, .pointer (some ⟨b3, 0, none⟩)), (5, .pointer (some ⟨p, 0, none⟩)), (7, .int .i64 all), (8, .int .i64 came), (9, .int .i64 i)]) ?_ ?_
  · (repeat (first | exact Sub.nil | refine Sub.cons rfl ?_))
  repeat (first | refine codeA (k := ?_) | refine condA (k := ?_) | refine offA (k := ?_) | refine pureA (k := ?_) | refine readA (k := ?_) | refine At_block ?_)
  refine At_read (r_loadN (b := bb) (o := o + i * 10) (cs := acCells k (.slice pb k.f.body.length pc)) rfl rfl rfl (fun j u hu => (e4 j u hu).keep nc.ext (fun f => f))) rfl rfl rfl ?_
  refine At_wp (W_alloc rfl rfl ?_) rfl
  intro b10 H3 hn3
  refine At_wp (W_storeB (cs' := (acCells k (.slice pb k.f.body.length pc)).toArray) rfl rfl hn3.at_ rfl rfl rfl rfl ?_) rfl
  intro H4 p4
  have b10' := hn3.blk
  have hx4 : Ext H2 H4 := Kept.trans hn3.ext p4.kept (fun _ f _ => f) (fun j e hl => by omega)
  have nc4 := nc.on hx4
  have q4 := p4.at_
  repeat (first | refine codeA (k := ?_) | refine condA (k := ?_) | refine offA (k := ?_) | refine pureA (k := ?_) | refine readA (k := ?_))
  refine At_wp (W_call rfl rfl (list_spec nc4.net (by dsimp only; omega) (fun f hf => by have := (hok f hf).2.2.2.2; omega)) rfl rfl ?_) rfl
  rintro vl H5 ⟨hx5, ho5, hg5⟩
  have nc5 := nc4.on hx5
  have q5 := hx5.keep q4 (fun f => f)
  obtain ⟨ql, cl, hvl⟩ : ∃ q c, vl = .slice q row.length c := by
    rcases ho5.form with ⟨e1, e2⟩ | ⟨g, c, e1, _⟩
    · have e2' : row = [] := e2
      exact ⟨none, 0, by rw [e1, e2']; rfl⟩
    · exact ⟨_, c, e1⟩
  have m0 : Cell H5 b10 (0 + 0) (.int .i64 k.doo) := Cell.of q5 rfl
  have m1 : Cell H5 b10 (0 + 1) (.int .i64 k.a) := Cell.of q5 rfl
  have m2 : Cell H5 b10 (0 + 2) (.int .i64 k.b) := Cell.of q5 rfl
  have qf5 := nc5.ext.keep qb (fun f => f)
  have hbf5 := hbf1.keep (D' := fun b => b < Hb.size) nc5.ext (fun b hb _ => ⟨fun f => f, hb⟩)
  have s24 := hx4.size
  have s45 := hx5.size
  obtain ⟨m, hme⟩ : ∃ m, IntKind.u64.wrap k.doo % 8 = m := ⟨_, rfl⟩
  repeat (first | refine codeA (k := ?_) | refine condA (k := ?_) | refine offA (k := ?_) | refine pureA (k := ?_) | refine readA (k := ?_))
  refine At_pure (p_convInt rfl) rfl rfl rfl ?_
  refine At_pure (p_rem rfl rfl (u64_nonneg _) (by decide)) rfl rfl rfl ?_
  rw [hme]
  repeat (first | refine codeA (k := ?_) | refine condA (k := ?_) | refine offA (k := ?_) | refine pureA (k := ?_) | refine readA (k := ?_))
  refine At_cut (fun (s : Nat × Nat) => [(0, .slice (some ⟨bb, o, none⟩) acts.length c), (3, .pointer (some ⟨b3, 0, none⟩)), (5, .pointer (some ⟨p, 0, none⟩)), (7, .int .i64 s.2), (8, .int .i64 s.1), (9, .int .i64 i)]) (fun s H' => Cst Hb p f (i + 1) s.1 s.2 H') ?_ ?_
  rotate_left
  · rintro ⟨came, all⟩ H6 ⟨vr6, row6, cut6, nc6, hok6, hrl6, hca6, hali6⟩
    dsimp only at hrl6 hca6 hali6
    repeat (first | refine codeA (k := ?_) | refine condA (k := ?_) | refine offA (k := ?_) | refine pureA (k := ?_) | refine readA (k := ?_))
    refine At_back (i + 1, came, all) ?_ ⟨by dsimp only; omega, by dsimp only; omega, vr6, row6, cut6, nc6, hok6, hrl6, hca6, hali6⟩ (by dsimp only; omega)
    (repeat (first | exact Sub.nil | refine Sub.cons rfl ?_))
  refine At_block ?_
  by_cases hm3 : m = 3
  · -- Carry
    repeat (first | refine codeA (k := ?_) | refine condA (k := ?_) | refine offA (k := ?_) | refine pureA (k := ?_) | refine readA (k := ?_))
    by_cases hia : 0 ≤ k.a ∧ k.a < row.length
    · obtain ⟨j, hja⟩ : ∃ j : Nat, k.a = j := ⟨k.a.toNat, by omega⟩
      have hjl : j < row.length := by omega
      have hxj : row[j]? = some row[j] := by simp [hjl]
      generalize row[j] = fj at hxj
      have hfj := hok fj (List.mem_of_getElem? hxj)
      have good : Good ⟨4, row, cut⟩ := ⟨by show (4 : Int) ≤ 64; decide, by dsimp only; omega, fun f hf => ⟨(hok f hf).1, (hok f hf).2.1, (hok f hf).2.2.1, (hok f hf).2.2.2.1, by have := (hok f hf).2.2.2.2; omega⟩⟩
      have hcs := carry_hit (i := j) (f := fj) nc5.net good hxj
      have hFw : carC ⟨4, row, cut⟩ fj = false → carF ⟨4, row, cut⟩ fj = fj := fun e => by unfold carF; rw [e]; rfl
      generalize carF ⟨4, row, cut⟩ fj = F at hcs hFw
      generalize carC ⟨4, row, cut⟩ fj = w at hcs hFw
      refine At_tell 78 (.int .i64 j) rfl (by rw [hja]) ?_
      refine At_wp (W_call rfl rfl hcs rfl rfl ?_) rfl
      rintro _ H6 ⟨hk6, ⟨bw, rfl, hb6⟩, vr6, n6, hv6⟩
      have nc6 := nc5.step hk6 n6 (fun b hb => hb.1) (fun g hg => .inl (by rw [← hv6]; exact hg))
      obtain ⟨qw, cw, rfl⟩ := hb6.form
      have hcn := cnt_erase f fj row j hxj
      have hel := List.length_eraseIdx_le row j
      have nF6 : ∀ b, H2.size ≤ b → ¬ Fn p vr b := fun b hb => nc.nF (.inr hb)
      repeat (first | refine codeA (k := ?_) | refine condA (k := ?_) | refine offA (k := ?_) | refine pureA (k := ?_) | refine readA (k := ?_))
      refine At_wp (W_alloc rfl rfl ?_) rfl
      intro b12 H7 hn7
      refine At_wp (W_storeB (cs' := (frCells F (.slice qw F.body.length cw)).toArray) rfl rfl hn7.at_ rfl rfl rfl rfl ?_) rfl
      intro H8 p8
      have b12' := hn7.blk
      have hx8 : Ext H6 H8 := Kept.trans hn7.ext p8.kept (fun _ f _ => f) (fun j e hl => by omega)
      have nc8 := nc6.on hx8
      have q12 := p8.at_
      have q8 := hx8.keep (hk6.keep q5 (nF6 b10 (by omega))) (fun f => f)
      have m8 : Cell H8 b10 (0 + 1) (.int .i64 j) := Cell.of q8 (by rw [← hja]; rfl)
      have hb8 := hb6.keep (D' := fun _ => True) hx8 (fun b _ _ => ⟨fun f => f, trivial⟩)
      have qf8 := nc8.ext.keep qb (fun f => f)
      have hbf8 := hbf1.keep (D' := fun b => b < Hb.size) nc8.ext (fun b hb _ => ⟨fun f => f, hb⟩)
      have hxr : Ext H8 H8 := Kept.refl _ _
      have fin : ∀ H9, Ext H8 H9 → Cst Hb p f (i + 1) came all H9 := fun H9 hx9 => ⟨vr6, row.eraseIdx j, cut, nc8.on hx9, fun g hg => hok g (List.mem_of_mem_eraseIdx hg), by omega, by omega, by omega⟩
      cases w
      · obtain rfl : F = fj := hFw rfl
        obtain ⟨gl, rfl⟩ : ∃ g, ql = some ⟨g, 0, none⟩ := by
          rcases ho5.form with ⟨e1, e2⟩ | ⟨g, c, e1, _⟩
          · have e2' : row = [] := e2
            rw [e2'] at hjl; simp at hjl
          · rw [hvl] at e1
            simp only [Value.slice.injEq] at e1
            exact ⟨g, e1.1⟩
        subst hvl
        obtain ⟨rw5, ⟨by5, f1, f2⟩, f3, f4⟩ := ho5.cells hxj
        subst f1
        obtain ⟨py, cy, rfl⟩ := f2.form
        have glH : H4.size ≤ gl := hg5 gl rfl
        have f48 : ∀ (jj : Nat) (u : Value), (frCells F (.slice py F.body.length cy))[jj]? = some u → Cell H8 gl (0 + j * 7 + jj) u := fun jj u hu => by
          rw [Nat.zero_add]
          exact ((f4 jj u hu).keep hk6 (nF6 gl (by omega))).keep hx8 (fun f => f)
        have f28 : BytesAt (fun _ => True) H8 (.slice py F.body.length cy) F.body := (f2.keep (D' := fun _ => True) hk6 (fun b hb _ => ⟨nF6 b (by omega), trivial⟩)).keep hx8 (fun b _ _ => ⟨fun f => f, trivial⟩)
        repeat (first | refine codeA (k := ?_) | refine condA (k := ?_) | refine offA (k := ?_) | refine pureA (k := ?_) | refine readA (k := ?_))
        refine At_draw [5, 8, 10] (fun H' => Ext H8 H') Try.mixed ?_
        first | refine gA 0 (k := ?_) | refine goffA 0 (k := ?_)
        first | refine gA 1 (k := ?_) | refine goffA 1 (k := ?_)
        first | refine gA 2 (k := ?_) | refine goffA 2 (k := ?_)
        first | refine gA 3 (k := ?_) | refine goffA 3 (k := ?_)
        first | refine gA 4 (k := ?_) | refine goffA 4 (k := ?_)
        refine grA 5 hxr (fun H' hS' => r_loadB rfl (hS'.keep q12 (fun f => f)) rfl rfl) (k := ?_)
        first | refine gA 6 (k := ?_) | refine goffA 6 (k := ?_)
        first | refine gA 7 (k := ?_) | refine goffA 7 (k := ?_)
        refine grA 8 hxr (fun H' hS' => r_load rfl rfl (m8.keep hS' (fun f => f))) (k := ?_)
        first | refine gA 9 (k := ?_) | refine goffA 9 (k := ?_)
        refine grA 10 hxr (fun H' hS' => r_loadN (b := gl) (o := 0 + j * 7) (cs := frCells F (.slice py F.body.length cy)) rfl rfl rfl (fun jj u hj => (f48 jj u hj).keep hS' (fun f => f))) (k := ?_)
        refine G_op 11 rfl (by kernel_rfl) rfl (W_call rfl rfl (frame_spec (f := F) (g := F) hb8 f28) rfl rfl ?_) 
        rintro _ H9 ⟨hx9, rfl⟩
        rw [sameF_self]
        refine G_next (fun _ s => s.trans hx9) ?_
        first | refine gA 12 (k := ?_) | refine goffA 12 (k := ?_)
        first | refine gA 13 (k := ?_) | refine goffA 13 (k := ?_)
        first | refine gA 14 (k := ?_) | refine goffA 14 (k := ?_)
        refine G_done (by kernel_rfl) ?_
        repeat (first | refine codeA (k := ?_) | refine condA (k := ?_) | refine offA (k := ?_) | refine pureA (k := ?_) | refine readA (k := ?_))
        refine At_read (r_loadB rfl (hx9.keep q12 (fun f => f)) rfl rfl) rfl rfl rfl ?_
        refine At_read (r_loadB rfl (hx9.keep qf8 (fun f => f)) rfl rfl) rfl rfl rfl ?_
        refine At_wp (W_call rfl rfl (frame_spec (f := F) (g := f) (hb8.keep (D' := fun _ => True) hx9 (fun b _ _ => ⟨fun f => f, trivial⟩)) (hbf8.keep (D' := fun _ => True) hx9 (fun b _ _ => ⟨fun f => f, trivial⟩))) rfl rfl ?_) rfl
        rintro _ H10 ⟨hx10, rfl⟩
        repeat (first | refine codeA (k := ?_) | refine condA (k := ?_) | refine offA (k := ?_) | refine pureA (k := ?_) | refine readA (k := ?_))
        cases hsf : sameF F f
        · repeat (first | refine codeA (k := ?_) | refine condA (k := ?_) | refine offA (k := ?_) | refine pureA (k := ?_) | refine readA (k := ?_))
          refine At_meet (J := fun (s : Nat × Nat) H' => Cst Hb p f (i + 1) s.1 s.2 H') (came, all) ?_ (fin H10 (hx9.trans hx10))
          (repeat (first | exact Sub.nil | refine Sub.cons rfl ?_))
        · rw [hsf] at hcn
          repeat (first | refine codeA (k := ?_) | refine condA (k := ?_) | refine offA (k := ?_) | refine pureA (k := ?_) | refine readA (k := ?_))
          refine At_meet (J := fun (s : Nat × Nat) H' => Cst Hb p f (i + 1) s.1 s.2 H') (came + 1, all) ?_ ⟨vr6, row.eraseIdx j, cut, nc8.on (hx9.trans hx10), fun g hg => hok g (List.mem_of_mem_eraseIdx hg), by omega, by simp only [if_true] at hcn; omega, by omega⟩
          (repeat (first | exact Sub.nil | refine Sub.cons rfl ?_))
      · subst hvl
        repeat (first | refine codeA (k := ?_) | refine condA (k := ?_) | refine offA (k := ?_) | refine pureA (k := ?_) | refine readA (k := ?_))
        refine At_draw [5, 8, 10] (fun H' => Ext H8 H') Try.mixed ?_
        first | refine gA 0 (k := ?_) | refine goffA 0 (k := ?_)
        first | refine gA 1 (k := ?_) | refine goffA 1 (k := ?_)
        first | refine gA 2 (k := ?_) | refine goffA 2 (k := ?_)
        first | refine gA 3 (k := ?_) | refine goffA 3 (k := ?_)
        first | refine gA 4 (k := ?_) | refine goffA 4 (k := ?_)
        refine goffN 5 hxr (k := ?_)
        first | refine gA 6 (k := ?_) | refine goffA 6 (k := ?_)
        first | refine gA 7 (k := ?_) | refine goffA 7 (k := ?_)
        refine goffN 8 hxr (k := ?_)
        first | refine gA 9 (k := ?_) | refine goffA 9 (k := ?_)
        refine goffN 10 hxr (k := ?_)
        first | refine gA 11 (k := ?_) | refine goffA 11 (k := ?_)
        first | refine gA 12 (k := ?_) | refine goffA 12 (k := ?_)
        first | refine gA 13 (k := ?_) | refine goffA 13 (k := ?_)
        first | refine gA 14 (k := ?_) | refine goffA 14 (k := ?_)
        refine G_done (by kernel_rfl) ?_
        repeat (first | refine codeA (k := ?_) | refine condA (k := ?_) | refine offA (k := ?_) | refine pureA (k := ?_) | refine readA (k := ?_))
        refine At_meet (J := fun (s : Nat × Nat) H' => Cst Hb p f (i + 1) s.1 s.2 H') (came, all) ?_ (fin H8 hxr)
        (repeat (first | exact Sub.nil | refine Sub.cons rfl ?_))
    · refine At_wp (W_call rfl rfl (carry_miss nc5.net hia) rfl rfl ?_) rfl
      rintro _ H6 ⟨hx6, rfl⟩
      have nc6 := nc5.on hx6
      repeat (first | refine codeA (k := ?_) | refine condA (k := ?_) | refine offA (k := ?_) | refine pureA (k := ?_) | refine readA (k := ?_))
      refine At_wp (W_alloc rfl rfl ?_) rfl
      intro b12 H7 hn7
      refine At_wp (W_storeB (cs' := (frCells fr0 (.slice none 0 0)).toArray) rfl rfl hn7.at_ rfl rfl rfl rfl ?_) rfl
      intro H8 p8
      have b12' := hn7.blk
      have hx8 : Ext H6 H8 := Kept.trans hn7.ext p8.kept (fun _ f _ => f) (fun j e hl => by omega)
      have nc8 := nc6.on hx8
      have hxr : Ext H8 H8 := Kept.refl _ _
      subst hvl
      repeat (first | refine codeA (k := ?_) | refine condA (k := ?_) | refine offA (k := ?_) | refine pureA (k := ?_) | refine readA (k := ?_))
      refine At_draw [5, 8, 10] (fun H' => Ext H8 H') Try.mixed ?_
      first | refine gA 0 (k := ?_) | refine goffA 0 (k := ?_)
      first | refine gA 1 (k := ?_) | refine goffA 1 (k := ?_)
      first | refine gA 2 (k := ?_) | refine goffA 2 (k := ?_)
      first | refine gA 3 (k := ?_) | refine goffA 3 (k := ?_)
      first | refine gA 4 (k := ?_) | refine goffA 4 (k := ?_)
      refine goffN 5 hxr (k := ?_)
      first | refine gA 6 (k := ?_) | refine goffA 6 (k := ?_)
      first | refine gA 7 (k := ?_) | refine goffA 7 (k := ?_)
      refine goffN 8 hxr (k := ?_)
      first | refine gA 9 (k := ?_) | refine goffA 9 (k := ?_)
      refine goffN 10 hxr (k := ?_)
      first | refine gA 11 (k := ?_) | refine goffA 11 (k := ?_)
      first | refine gA 12 (k := ?_) | refine goffA 12 (k := ?_)
      first | refine gA 13 (k := ?_) | refine goffA 13 (k := ?_)
      first | refine gA 14 (k := ?_) | refine goffA 14 (k := ?_)
      refine G_done (by kernel_rfl) ?_
      repeat (first | refine codeA (k := ?_) | refine condA (k := ?_) | refine offA (k := ?_) | refine pureA (k := ?_) | refine readA (k := ?_))
      refine At_meet (J := fun (s : Nat × Nat) H' => Cst Hb p f (i + 1) s.1 s.2 H') (came, all) ?_ ⟨vr, row, cut, nc8, hok, by omega, by omega, by omega⟩
      (repeat (first | exact Sub.nil | refine Sub.cons rfl ?_))
  by_cases hm4 : m = 4
  · -- Lose
    repeat (first | refine codeA (k := ?_) | refine condA (k := ?_) | refine offA (k := ?_) | refine pureA (k := ?_) | refine readA (k := ?_))
    by_cases hia : 0 ≤ k.a ∧ k.a < row.length
    · obtain ⟨j, hja⟩ : ∃ j : Nat, k.a = j := ⟨k.a.toNat, by omega⟩
      have hjl : j < row.length := by omega
      have hxj : row[j]? = some row[j] := by simp [hjl]
      have hcn := cnt_erase f row[j] row j hxj
      have hel := List.length_eraseIdx_le row j
      refine At_tell 110 (.int .i64 j) rfl (by rw [hja]) ?_
      refine At_wp (W_call rfl rfl (lose_hit (i := j) nc5.net (by dsimp only; omega) hjl) rfl rfl ?_) rfl
      rintro _ H6 ⟨rfl, hk6, vr6, n6, hv6⟩
      have nc6 := nc5.step hk6 n6 (fun b hb => hb.1) (fun g hg => .inl (by rw [← hv6]; exact hg))
      repeat (first | refine codeA (k := ?_) | refine condA (k := ?_) | refine offA (k := ?_) | refine pureA (k := ?_) | refine readA (k := ?_))
      refine At_meet (J := fun (s : Nat × Nat) H' => Cst Hb p f (i + 1) s.1 s.2 H') (came, all) ?_ ⟨vr6, row.eraseIdx j, cut, nc6, fun g hg => hok g (List.mem_of_mem_eraseIdx hg), by omega, by omega, by omega⟩
      (repeat (first | exact Sub.nil | refine Sub.cons rfl ?_))
    · refine At_wp (W_call rfl rfl (lose_miss nc5.net hia) rfl rfl ?_) rfl
      rintro _ H6 ⟨rfl, rfl⟩
      repeat (first | refine codeA (k := ?_) | refine condA (k := ?_) | refine offA (k := ?_) | refine pureA (k := ?_) | refine readA (k := ?_))
      refine At_meet (J := fun (s : Nat × Nat) H' => Cst Hb p f (i + 1) s.1 s.2 H') (came, all) ?_ ⟨vr, row, cut, nc5, hok, by omega, by omega, by omega⟩
      (repeat (first | exact Sub.nil | refine Sub.cons rfl ?_))
  by_cases hm5 : m = 5
  · -- Twice
    repeat (first | refine codeA (k := ?_) | refine condA (k := ?_) | refine offA (k := ?_) | refine pureA (k := ?_) | refine readA (k := ?_))
    by_cases hia : 0 ≤ k.a ∧ k.a < row.length
    · obtain ⟨j, hja⟩ : ∃ j : Nat, k.a = j := ⟨k.a.toNat, by omega⟩
      have hjl : j < row.length := by omega
      have hxj : row[j]? = some row[j] := by simp [hjl]
      generalize row[j] = fj at hxj
      have hfj := hok fj (List.mem_of_getElem? hxj)
      obtain ⟨gl, rfl⟩ : ∃ g, ql = some ⟨g, 0, none⟩ := by
        rcases ho5.form with ⟨e1, e2⟩ | ⟨g, c, e1, _⟩
        · have e2' : row = [] := e2
          rw [e2'] at hjl; simp at hjl
        · rw [hvl] at e1
          simp only [Value.slice.injEq] at e1
          exact ⟨g, e1.1⟩
      subst hvl
      obtain ⟨rw5, ⟨by5, f1, f2⟩, f3, f4⟩ := ho5.cells hxj
      subst f1
      obtain ⟨py, cy, rfl⟩ := f2.form
      have glH : H4.size ≤ gl := hg5 gl rfl
      have nF : ∀ b, H2.size ≤ b → ¬ Fn p vr b := fun b hb => nc.nF (.inr hb)
      have nFb : ∀ b, b < Hb.size → ¬ Fn p vr b := fun b hb => nc.nF (.inl hb)
      have m1' : Cell H5 b10 (0 + 1) (.int .i64 j) := by rw [← hja]; exact m1
      have hxr : Kept (Fn p vr) H5 H5 := Kept.refl _ _
      have f45 : ∀ (jj : Nat) (u : Value), (frCells fj (.slice py fj.body.length cy))[jj]? = some u → Cell H5 gl (0 + j * 7 + jj) u := fun jj u hu => by
        rw [Nat.zero_add]
        exact f4 jj u hu
      refine At_draw [2, 8, 10, 11] (fun H' => Kept (Fn p vr) H5 H') Try.mixed ?_
      first | refine gA 0 (k := ?_) | refine goffA 0 (k := ?_)
      first | refine gA 1 (k := ?_) | refine goffA 1 (k := ?_)
      refine grA 2 hxr (fun H' hS' => r_load rfl rfl (m1'.keep hS' (nF b10 (by omega)))) (k := ?_)
      refine G_op 3 rfl (by kernel_rfl) rfl (W_call rfl rfl (twice_spec (i := j) (f := fj) nc5.net hxj (by have := hfj.2.2.2.2; omega) (by dsimp only; omega)) rfl rfl ?_) 
      rintro _ H6 ⟨rfl, hk6, vr6, n6, hv6⟩
      have nc6 := nc5.step hk6 n6 (fun b hb => by
        rcases hb with ⟨_, hb⟩ | ⟨hb, _⟩
        · exact hb.1
        · have := nc5.ext.size; omega) hv6
      refine G_next (fun _ s => Kept.trans s hk6 (fun _ e _ => e) (fun _ e _ => e)) ?_
      first | refine gA 4 (k := ?_) | refine goffA 4 (k := ?_)
      first | refine gA 5 (k := ?_) | refine goffA 5 (k := ?_)
      first | refine gA 6 (k := ?_) | refine goffA 6 (k := ?_)
      first | refine gA 7 (k := ?_) | refine goffA 7 (k := ?_)
      refine grA 8 hk6 (fun H' hS' => r_load rfl rfl (m1'.keep hS' (nF b10 (by omega)))) (k := ?_)
      first | refine gA 9 (k := ?_) | refine goffA 9 (k := ?_)
      refine grA 10 hk6 (fun H' hS' => r_loadN (b := gl) (o := 0 + j * 7) (cs := frCells fj (.slice py fj.body.length cy)) rfl rfl rfl (fun jj u hj => (f45 jj u hj).keep hS' (nF gl (by omega)))) (k := ?_)
      refine grA 11 hk6 (fun H' hS' => r_loadB rfl (hS'.keep qf5 (nFb b3 b3l)) rfl rfl) (k := ?_)
      refine G_op 12 rfl (by kernel_rfl) rfl (W_call rfl rfl (frame_spec (f := fj) (g := f) (f2.keep (D' := fun _ => True) hk6 (fun b hb _ => ⟨nF b (by omega), trivial⟩)) (hbf5.keep (D' := fun _ => True) hk6 (fun b hb _ => ⟨nFb b hb, trivial⟩))) rfl rfl ?_) 
      rintro _ H7 ⟨hx7, rfl⟩
      refine G_next (fun _ s => s.then_ext hx7) ?_
      first | refine gA 13 (k := ?_) | refine goffA 13 (k := ?_)
      refine G_done (by kernel_rfl) ?_
      repeat (first | refine codeA (k := ?_) | refine condA (k := ?_) | refine offA (k := ?_) | refine pureA (k := ?_) | refine readA (k := ?_))
      have hcn := cnt_snoc f fj row
      have hok' : ∀ g ∈ row ++ [fj], OkE 4 g := fun g hg => by
        rcases List.mem_append.1 hg with hg | hg
        · exact hok g hg
        · rw [List.mem_singleton.1 hg]; exact hfj
      cases hsf : sameF fj f
      · rw [hsf] at hcn
        simp only [Bool.false_eq_true, if_false] at hcn
        repeat (first | refine codeA (k := ?_) | refine condA (k := ?_) | refine offA (k := ?_) | refine pureA (k := ?_) | refine readA (k := ?_))
        refine At_meet (J := fun (s : Nat × Nat) H' => Cst Hb p f (i + 1) s.1 s.2 H') (came, all) ?_ ⟨vr6, row ++ [fj], cut, nc6.on hx7, hok', by simp; omega, by omega, by omega⟩
        (repeat (first | exact Sub.nil | refine Sub.cons rfl ?_))
      · rw [hsf] at hcn
        simp only [if_true] at hcn
        repeat (first | refine codeA (k := ?_) | refine condA (k := ?_) | refine offA (k := ?_) | refine pureA (k := ?_) | refine readA (k := ?_))
        refine At_meet (J := fun (s : Nat × Nat) H' => Cst Hb p f (i + 1) s.1 s.2 H') (came, all + 1) ?_ ⟨vr6, row ++ [fj], cut, nc6.on hx7, hok', by simp; omega, by omega, by omega⟩
        (repeat (first | exact Sub.nil | refine Sub.cons rfl ?_))
    · have hxr : Ext H5 H5 := Kept.refl _ _
      subst hvl
      refine At_draw [2, 8, 10, 11] (fun H' => Ext H5 H') Try.mixed ?_
      first | refine gA 0 (k := ?_) | refine goffA 0 (k := ?_)
      first | refine gA 1 (k := ?_) | refine goffA 1 (k := ?_)
      refine grA 2 hxr (fun H' hS' => r_load rfl rfl (m1.keep hS' (fun f => f))) (k := ?_)
      refine G_op 3 rfl (by kernel_rfl) rfl (W_call rfl rfl (twice_miss nc5.net hia) rfl rfl ?_) 
      rintro _ H6 ⟨rfl, rfl⟩
      refine G_next (fun _ s => s) ?_
      first | refine gA 4 (k := ?_) | refine goffA 4 (k := ?_)
      first | refine gA 5 (k := ?_) | refine goffA 5 (k := ?_)
      first | refine gA 6 (k := ?_) | refine goffA 6 (k := ?_)
      first | refine gA 7 (k := ?_) | refine goffA 7 (k := ?_)
      refine goffN 8 hxr (k := ?_)
      first | refine gA 9 (k := ?_) | refine goffA 9 (k := ?_)
      refine goffN 10 hxr (k := ?_)
      refine goffN 11 hxr (k := ?_)
      first | refine gA 12 (k := ?_) | refine goffA 12 (k := ?_)
      first | refine gA 13 (k := ?_) | refine goffA 13 (k := ?_)
      refine G_done (by kernel_rfl) ?_
      repeat (first | refine codeA (k := ?_) | refine condA (k := ?_) | refine offA (k := ?_) | refine pureA (k := ?_) | refine readA (k := ?_))
      refine At_meet (J := fun (s : Nat × Nat) H' => Cst Hb p f (i + 1) s.1 s.2 H') (came, all) ?_ ⟨vr, row, cut, nc5, hok, by omega, by omega, by omega⟩
      (repeat (first | exact Sub.nil | refine Sub.cons rfl ?_))
  by_cases hm67 : m = 6 ∨ m = 7
  · -- Cut
    repeat (first | refine codeA (k := ?_) | refine condA (k := ?_) | refine offA (k := ?_) | refine pureA (k := ?_) | refine readA (k := ?_))
    refine undA (k := ?_)
    repeat (first | refine codeA (k := ?_) | refine condA (k := ?_) | refine offA (k := ?_) | refine pureA (k := ?_) | refine readA (k := ?_))
    refine At_cut (fun (s : Unit) => [(0, .slice (some ⟨bb, o, none⟩) acts.length c), (3, .pointer (some ⟨b3, 0, none⟩)), (5, .pointer (some ⟨p, 0, none⟩)), (7, .int .i64 all), (8, .int .i64 came), (9, .int .i64 i), (10, .pointer (some ⟨b10, 0, none⟩)), (130, .bool true)]) (fun s H' => H' = H5) ?_ ?_
    · refine At_cond_dec rfl (fun h6 => ?_) (fun h6 => ?_)
      · repeat (first | refine codeA (k := ?_) | refine condA (k := ?_) | refine offA (k := ?_) | refine pureA (k := ?_) | refine readA (k := ?_))
        refine At_tell 130 (.bool true) rfl (by rw [decide_eq_true h6]) ?_
        refine At_meet (E := fun (s : Unit) => _) (J := fun s H' => H' = H5) () ?_ rfl
        (repeat (first | exact Sub.nil | refine Sub.cons rfl ?_))
      · repeat (first | refine codeA (k := ?_) | refine condA (k := ?_) | refine offA (k := ?_) | refine pureA (k := ?_) | refine readA (k := ?_))
        refine At_meet (E := fun (s : Unit) => _) (J := fun s H' => H' = H5) () ?_ rfl
        (repeat (first | exact Sub.nil | refine Sub.cons rfl ?_))
    rintro _ H5' rfl
    repeat (first | refine codeA (k := ?_) | refine condA (k := ?_) | refine offA (k := ?_) | refine pureA (k := ?_) | refine readA (k := ?_))
    refine At_pure (p_convInt rfl) rfl rfl rfl ?_
    refine At_pure (p_rem rfl rfl (u64_nonneg _) (by decide)) rfl rfl rfl ?_
    rw [hme]
    refine undA (k := ?_)
    generalize hon : decide (m = 6) = on
    by_cases hia : 0 ≤ k.a ∧ k.a < 4 ∧ 0 ≤ k.b ∧ k.b < 4
    · obtain ⟨a, haa⟩ : ∃ i : Nat, k.a = i := ⟨k.a.toNat, by omega⟩
      obtain ⟨b, hbb'⟩ : ∃ i : Nat, k.b = i := ⟨k.b.toNat, by omega⟩
      refine At_tell 135 (.int .i64 a) rfl (by rw [haa]) ?_
      refine At_tell 137 (.int .i64 b) rfl (by rw [hbb']) ?_
      refine At_wp (W_call rfl rfl (cut_spec nc5.net a b on (by dsimp only; omega) (by dsimp only; omega) (by show (4 : Int) ≤ 64; decide)) rfl rfl ?_) rfl
      rintro _ H6 ⟨rfl, hk6, _, n6⟩
      have nc6 := nc5.step (hk6.mono (fun b e _ => .inl e)) n6 (fun b hb => hb.1) (fun g hg => .inl hg)
      repeat (first | refine codeA (k := ?_) | refine condA (k := ?_) | refine offA (k := ?_) | refine pureA (k := ?_) | refine readA (k := ?_))
      refine At_meet (J := fun (s : Nat × Nat) H' => Cst Hb p f (i + 1) s.1 s.2 H') (came, all) ?_ ⟨vr, row, _, nc6, hok, by omega, by omega, by omega⟩
      (repeat (first | exact Sub.nil | refine Sub.cons rfl ?_))
    · refine At_wp (W_call rfl rfl (cut_miss (on := on) nc5.net hia) rfl rfl ?_) rfl
      rintro _ H6 ⟨rfl, rfl⟩
      repeat (first | refine codeA (k := ?_) | refine condA (k := ?_) | refine offA (k := ?_) | refine pureA (k := ?_) | refine readA (k := ?_))
      refine At_meet (J := fun (s : Nat × Nat) H' => Cst Hb p f (i + 1) s.1 s.2 H') (came, all) ?_ ⟨vr, row, cut, nc5, hok, by omega, by omega, by omega⟩
      (repeat (first | exact Sub.nil | refine Sub.cons rfl ?_))
  -- Put
  have fcell : ∀ (j : Nat) (u : Value), (frCells k.f (.slice pb k.f.body.length pc))[j]? = some u → Cell H5 b10 (0 + 3 + j) u := fun j u hu => by
    refine Cell.of q5 ?_
    have e : 0 + 3 + j = j + 1 + 1 + 1 := by omega
    rw [e]
    simpa [acCells] using hu
  have hbk5 := e2.keep (D' := fun b => b < Hb.size) nc5.ext (fun b _ hl => ⟨fun f => f, hl⟩)
  repeat (first | refine codeA (k := ?_) | refine condA (k := ?_) | refine offA (k := ?_) | refine pureA (k := ?_) | refine readA (k := ?_))
  refine At_read (r_loadN (b := b10) (o := 0 + 3) (cs := frCells k.f (.slice pb k.f.body.length pc)) rfl rfl rfl fcell) rfl rfl rfl ?_
  refine At_wp (W_alloc rfl rfl ?_) rfl
  intro b15 H6 hn6
  refine At_wp (W_storeB (cs' := (frCells k.f (.slice pb k.f.body.length pc)).toArray) rfl rfl hn6.at_ rfl rfl rfl rfl ?_) rfl
  intro H7 p7
  have b15' := hn6.blk
  have hx7 : Ext H5 H7 := Kept.trans hn6.ext p7.kept (fun _ f _ => f) (fun j e hl => by omega)
  have m07 := m0.keep hx7 (fun f => f)
  have q7 := p7.at_
  repeat (first | refine codeA (k := ?_) | refine condA (k := ?_) | refine offA (k := ?_) | refine pureA (k := ?_) | refine readA (k := ?_))
  refine At_pure (p_convInt rfl) rfl rfl rfl ?_
  refine At_pure (p_rem rfl rfl (u64_nonneg _) (by decide)) rfl rfl rfl ?_
  rw [hme]
  refine undA (k := ?_)
  repeat (first | refine codeA (k := ?_) | refine condA (k := ?_) | refine offA (k := ?_) | refine pureA (k := ?_) | refine readA (k := ?_))
  refine At_cut (fun (s : Fr × Value) => [(0, .slice (some ⟨bb, o, none⟩) acts.length c), (3, .pointer (some ⟨b3, 0, none⟩)), (5, .pointer (some ⟨p, 0, none⟩)), (7, .int .i64 all), (8, .int .i64 came), (9, .int .i64 i), (15, .pointer (some ⟨b15, 0, none⟩))])
    (fun s H' => Ext H5 H' ∧ H'[b15]? = some (.cells (frCells s.1 s.2).toArray 30 (0, 0)) ∧ BytesAt (fun b => b < Hb.size) H' s.2 s.1.body ∧ s.1.body.length ≤ 1000) ?_ ?_
  · refine At_cond_dec rfl (fun h0 => ?_) (fun h0 => ?_)
    · repeat (first | refine codeA (k := ?_) | refine condA (k := ?_) | refine offA (k := ?_) | refine pureA (k := ?_) | refine readA (k := ?_))
      refine At_read (r_loadB rfl (hx7.keep qf5 (fun f => f)) rfl rfl) rfl rfl rfl ?_
      refine At_wp (W_storeB (cs' := (frCells f (.slice qf f.body.length cf)).toArray) rfl rfl q7 rfl rfl rfl rfl ?_) rfl
      intro H8 p8
      have hx8 : Ext H5 H8 := Kept.trans hx7 p8.kept (fun _ f _ => f) (fun j e hl => by omega)
      repeat (first | refine codeA (k := ?_) | refine condA (k := ?_) | refine offA (k := ?_) | refine pureA (k := ?_) | refine readA (k := ?_))
      refine At_meet (J := fun (s : Fr × Value) H' => Ext H5 H' ∧ H'[b15]? = some (.cells (frCells s.1 s.2).toArray 30 (0, 0)) ∧ BytesAt (fun b => b < Hb.size) H' s.2 s.1.body ∧ s.1.body.length ≤ 1000) (f, .slice qf f.body.length cf) ?_ ⟨hx8, p8.at_, hbf5.keep (D' := fun b => b < Hb.size) hx8 (fun b hb _ => ⟨fun f => f, hb⟩), by dsimp only; omega⟩
      (repeat (first | exact Sub.nil | refine Sub.cons rfl ?_))
    · repeat (first | refine codeA (k := ?_) | refine condA (k := ?_) | refine offA (k := ?_) | refine pureA (k := ?_) | refine readA (k := ?_))
      refine At_meet (J := fun (s : Fr × Value) H' => Ext H5 H' ∧ H'[b15]? = some (.cells (frCells s.1 s.2).toArray 30 (0, 0)) ∧ BytesAt (fun b => b < Hb.size) H' s.2 s.1.body ∧ s.1.body.length ≤ 1000) (k.f, .slice pb k.f.body.length pc) ?_ ⟨hx7, q7, hbk5.keep (D' := fun b => b < Hb.size) hx7 (fun b hb _ => ⟨fun f => f, hb⟩), hkl⟩
      (repeat (first | exact Sub.nil | refine Sub.cons rfl ?_))
  rintro ⟨g, bg⟩ H8 ⟨hx8, q8, hbg, hgl⟩
  dsimp only at q8 hbg hgl
  obtain ⟨qg, cg, rfl⟩ := hbg.form
  have nc8 := nc5.on hx8
  have s58 := hx8.size
  have qf8 := nc8.ext.keep qb (fun f => f)
  have hbf8 := hbf1.keep (D' := fun b => b < Hb.size) nc8.ext (fun b hb _ => ⟨fun f => f, hb⟩)
  repeat (first | refine codeA (k := ?_) | refine condA (k := ?_) | refine offA (k := ?_) | refine pureA (k := ?_) | refine readA (k := ?_))
  refine At_read (r_loadB rfl q8 rfl rfl) rfl rfl rfl ?_
  refine At_wp (W_call rfl rfl (put_spec (f := g) nc8.net hbg (by omega) (by dsimp only; omega)) rfl rfl ?_) rfl
  rintro _ H9 ⟨rfl, hk9, vr9, n9, hv9⟩
  have nF : ∀ b, H5.size ≤ b → ¬ Fn p vr b := fun b hb => nc5.nF (.inr hb)
  have nFb : ∀ b, b < Hb.size → ¬ Fn p vr b := fun b hb => nc5.nF (.inl hb)
  by_cases hE : putE ⟨4, row, cut⟩ g = 0
  rotate_left
  · have eN : putN ⟨4, row, cut⟩ g = ⟨4, row, cut⟩ := by unfold putN; rw [if_neg hE]
    rw [eN] at n9
    have nc9 := nc8.step hk9 n9 (fun b hb => by
      rcases hb with ⟨_, hb⟩ | ⟨hb, _⟩
      · exact hb.1
      · have := nc8.ext.size; omega) hv9
    repeat (first | refine codeA (k := ?_) | refine condA (k := ?_) | refine offA (k := ?_) | refine pureA (k := ?_) | refine readA (k := ?_))
    refine At_meet (J := fun (s : Nat × Nat) H' => Cst Hb p f (i + 1) s.1 s.2 H') (came, all) ?_ ⟨vr9, row, cut, nc9, hok, by omega, by omega, by omega⟩
    (repeat (first | exact Sub.nil | refine Sub.cons rfl ?_))
  have eN : putN ⟨4, row, cut⟩ g = ⟨4, row ++ [g], cut⟩ := by unfold putN; rw [if_pos hE]
  rw [eN] at n9
  have nc9 := nc8.step hk9 n9 (fun b hb => by
    rcases hb with ⟨_, hb⟩ | ⟨hb, _⟩
    · exact hb.1
    · have := nc8.ext.size; omega) hv9
  obtain ⟨g1, g2, g3, g4⟩ := putE_zero hE
  have hok' : ∀ x ∈ row ++ [g], OkE 4 x := fun x hx => by
    rcases List.mem_append.1 hx with hx | hx
    · exact hok x hx
    · rw [List.mem_singleton.1 hx]; exact ⟨g1, g2, g3, g4, hgl⟩
  have hcn := cnt_snoc f g row
  rw [hE]
  repeat (first | refine codeA (k := ?_) | refine condA (k := ?_) | refine offA (k := ?_) | refine pureA (k := ?_) | refine readA (k := ?_))
  refine At_read (r_loadB rfl (hk9.keep q8 (nF b15 (by omega))) rfl rfl) rfl rfl rfl ?_
  refine At_read (r_loadB rfl (hk9.keep qf8 (nFb b3 b3l)) rfl rfl) rfl rfl rfl ?_
  refine At_wp (W_call rfl rfl (frame_spec (f := g) (g := f) (hbg.keep (D' := fun _ => True) hk9 (fun b hb _ => ⟨nFb b hb, trivial⟩)) (hbf8.keep (D' := fun _ => True) hk9 (fun b hb _ => ⟨nFb b hb, trivial⟩))) rfl rfl ?_) rfl
  rintro _ H10 ⟨hx10, rfl⟩
  repeat (first | refine codeA (k := ?_) | refine condA (k := ?_) | refine offA (k := ?_) | refine pureA (k := ?_) | refine readA (k := ?_))
  cases hsf : sameF g f
  · rw [hsf] at hcn
    simp only [Bool.false_eq_true, if_false] at hcn
    repeat (first | refine codeA (k := ?_) | refine condA (k := ?_) | refine offA (k := ?_) | refine pureA (k := ?_) | refine readA (k := ?_))
    refine At_meet (J := fun (s : Nat × Nat) H' => Cst Hb p f (i + 1) s.1 s.2 H') (came, all) ?_ ⟨vr9, row ++ [g], cut, nc9.on hx10, hok', by simp; omega, by omega, by omega⟩
    (repeat (first | exact Sub.nil | refine Sub.cons rfl ?_))
  · rw [hsf] at hcn
    simp only [if_true] at hcn
    repeat (first | refine codeA (k := ?_) | refine condA (k := ?_) | refine offA (k := ?_) | refine pureA (k := ?_) | refine readA (k := ?_))
    refine At_meet (J := fun (s : Nat × Nat) H' => Cst Hb p f (i + 1) s.1 s.2 H') (came, all + 1) ?_ ⟨vr9, row ++ [g], cut, nc9.on hx10, hok', by simp; omega, by omega, by omega⟩
    (repeat (first | exact Sub.nil | refine Sub.cons rfl ?_))
end Go.Proofs.Ytjgbbegfenmhaaa
