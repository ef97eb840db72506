/- One act on the network and on the page's: the same answer. -/
import Derived.Test.YtjgbbegfenmhaaaNetP
namespace Go.Proofs.Ytjgbbegfenmhaaa
open Go Ev
set_option linter.unusedVariables false
set_option linter.unusedSimpArgs false
attribute [local irreducible] Go.wpList Go.bodyPost Go.Code.wp Go.Exit.then Go.Exit.inBlock Go.Exit.noGoto Ev.wpAnyG Go.Oper.wp Ev.Back Ev.Left Ev.Spc Ev.At Ev.Pure Ev.Reads Ev.Runs Ev.Does Ev.Cell

structure Ac where
  doo : Int
  a : Int
  b : Int
  f : Fr
def acCells (k : Ac) (bv : Value) : List Value := .int .i64 k.doo :: .int .i64 k.a :: .int .i64 k.b :: frCells k.f bv
def ARow (D : Nat → Prop) (H : Heap) (k : Ac) (row : List Value) : Prop := ∃ bv, row = acCells k bv ∧ BytesAt D H bv k.f.body
def OkE (n : Int) (f : Fr) : Prop := 0 ≤ f.frm ∧ f.frm < n ∧ 0 ≤ f.to ∧ f.to < n ∧ f.body.length ≤ 1000
/-- the two networks hold the same -/
structure JJ (H0 : Heap) (T : Nat → Nat) (p q : Nat) (vr lv cv : Value) (n : Int) (row : List Fr) (cuts : List (Int × Int)) (H : Heap) : Prop where
  j : J H0 T p q vr lv cv ⟨n, row, fun i j => cutAt cuts i j⟩ ⟨n, row, cuts⟩ H
  ok : ∀ f ∈ row, OkE n f
def Nxt (H0 : Heap) (p q : Nat) (n : Int) (l c : Nat) (H' : Heap) : Prop := ∃ T vr lv cv row cuts, JJ H0 T p q vr lv cv n row cuts H' ∧ row.length ≤ l + 1 ∧ cuts.length ≤ c + 1
section
variable {H0 H : Heap} {T : Nat → Nat} {p q : Nat} {vr lv cv bv : Value} {n : Int} {row : List Fr} {cuts : List (Int × Int)} {k : Ac}
theorem JJ.good (h : JJ H0 T p q vr lv cv n row cuts H) (hn : n ≤ 64) (hl : row.length ≤ 4096) : Good ⟨n, row, fun i j => cutAt cuts i j⟩ :=
  ⟨hn, hl, fun f hf => ⟨(h.ok f hf).1, (h.ok f hf).2.1, (h.ok f hf).2.2.1, (h.ok f hf).2.2.2.1, by have := (h.ok f hf).2.2.2.2; omega⟩⟩
theorem JJ.erase (h : JJ H0 T p q vr lv cv n row cuts H) (i : Nat) : ∀ f ∈ row.eraseIdx i, OkE n f := fun f hf => h.ok f (List.mem_of_mem_eraseIdx hf)

set_option maxHeartbeats 4000000 in
theorem do_lose (h : JJ H0 T p q vr lv cv n row cuts H) (hl : row.length ≤ 1000) (hc : cuts.length ≤ 1000) (hb : BytesAt (fun b => b < H0.size) H bv k.f.body) (hm : IntKind.u64.wrap k.doo % 8 = 4) :
    Spc Try.prog 16 #[.pointer (some ⟨p, 0, none⟩), .pointer (some ⟨q, 0, none⟩), .agg (acCells k bv).toArray] H fun r H' => r = .bool true ∧ Nxt H0 p q n row.length cuts.length H' := by
  obtain ⟨pb, pc, rfl⟩ := hb.form
  refine spec_of Try.func16 rfl Try.ntmps16 rfl (fun W => ?_)
  repeat (first | refine codeA (k := ?_) | refine condA (k := ?_) | refine offA (k := ?_) | refine pureA (k := ?_) | refine readA (k := ?_))
  refine At_wp (W_box (cs := (acCells k (.slice pb k.f.body.length pc)).toArray) rfl rfl rfl ?_) rfl
  intro b5 H1 hn1
  have q1 := hn1.at_
  have t5 := (h.j.fresh (b := b5) (by have := hn1.blk; omega)).1
  have j1 := h.j.on hn1.ext
  have m0 : Cell H1 b5 (0 + 0) (.int .i64 k.doo) := Cell.of q1 rfl
  repeat (first | refine codeA (k := ?_) | refine condA (k := ?_) | refine offA (k := ?_) | refine pureA (k := ?_) | refine readA (k := ?_))
  refine At_pure (p_convInt rfl) rfl rfl rfl ?_
  refine At_pure (p_rem rfl rfl (u64_nonneg _) (by decide)) rfl rfl rfl ?_
  rw [hm]
  repeat (first | refine codeA (k := ?_) | refine condA (k := ?_) | refine offA (k := ?_) | refine pureA (k := ?_) | refine readA (k := ?_) | refine At_block ?_)
  by_cases hi : 0 ≤ k.a ∧ k.a < row.length
  · obtain ⟨i, hia⟩ : ∃ i : Nat, k.a = i := ⟨k.a.toNat, by omega⟩
    have hil : i < row.length := by omega
    have e1 : ∀ {H' : Heap}, H'[b5]? = some (.cells (acCells k (.slice pb k.f.body.length pc)).toArray 49 (0, 0)) → Cell H' b5 (0 + 1) (.int .i64 i) := fun h => Cell.of h (by rw [← hia]; rfl)
    refine At_draw [2, 6] (fun H' => H'[b5]? = some (.cells (acCells k (.slice pb k.f.body.length pc)).toArray 49 (0, 0))) Try.mixed ?_
    first | refine gA 0 (k := ?_) | refine goffA 0 (k := ?_)
    first | refine gA 1 (k := ?_) | refine goffA 1 (k := ?_)
    refine grA 2 q1 (fun H' hS' => r_load rfl rfl (e1 hS')) (k := ?_)
    first | refine gA 4 (k := ?_) | refine goffA 4 (k := ?_)
    first | refine gA 5 (k := ?_) | refine goffA 5 (k := ?_)
    refine grA 6 q1 (fun H' hS' => r_load rfl rfl (e1 hS')) (k := ?_)
    refine G_op 3 rfl (by kernel_rfl) rfl (W_call rfl rfl (lose_hit (i := i) j1.net (by dsimp only; omega) hil) rfl rfl ?_) 
    rintro _ H2 ⟨rfl, hk2, vr2, n2, hv2⟩
    obtain ⟨T2, j2, a2, z2⟩ := j1.x hk2 n2 (fun b hb => .inl hb) (fun g hg => .inl (by rw [← hv2]; exact hg))
    refine G_next (fun _ s => hk2.keep s (j1.nF t5)) ?_
    refine G_op 7 rfl (by kernel_rfl) rfl (W_call rfl rfl (rlose_hit (i := i) j2.ref (by dsimp only; omega) hil) rfl rfl ?_) 
    rintro _ H3 ⟨rfl, hk3, lv3, n3, hl3⟩
    have t5' : T2 b5 = 0 := by rw [a2 b5 (lt_of_heap q1)]; exact t5
    obtain ⟨T3, j3, a3, z3⟩ := j2.r (hk3.mono (fun b e _ => .inl e)) n3 (fun b hb => hb.1) (fun b hb => ⟨hb, j2.lt (by omega)⟩) (fun g hg => .inr (hl3 g hg)) (fun g hg => .inl hg)
    refine G_next (fun _ s => hk3.keep s (fun e => j2.nG t5' (.inl e))) ?_
    first | refine gA 8 (k := ?_) | refine goffA 8 (k := ?_)
    first | refine gA 9 (k := ?_) | refine goffA 9 (k := ?_)
    refine G_done (by kernel_rfl) ?_
    repeat (first | refine codeA (k := ?_) | refine condA (k := ?_) | refine offA (k := ?_) | refine pureA (k := ?_) | refine readA (k := ?_))
    refine At_ret1 rfl rfl ⟨rfl, T3, _, _, _, row.eraseIdx i, cuts, ⟨j3, h.erase i⟩, ?_, by omega⟩
    have := List.length_eraseIdx_le row i
    omega
  · have e1 : ∀ {H' : Heap}, H'[b5]? = some (.cells (acCells k (.slice pb k.f.body.length pc)).toArray 49 (0, 0)) → Cell H' b5 (0 + 1) (.int .i64 k.a) := fun h => Cell.of h rfl
    refine At_draw [2, 6] (fun H' => H'[b5]? = some (.cells (acCells k (.slice pb k.f.body.length pc)).toArray 49 (0, 0))) Try.mixed ?_
    first | refine gA 0 (k := ?_) | refine goffA 0 (k := ?_)
    first | refine gA 1 (k := ?_) | refine goffA 1 (k := ?_)
    refine grA 2 q1 (fun H' hS' => r_load rfl rfl (e1 hS')) (k := ?_)
    first | refine gA 4 (k := ?_) | refine goffA 4 (k := ?_)
    first | refine gA 5 (k := ?_) | refine goffA 5 (k := ?_)
    refine grA 6 q1 (fun H' hS' => r_load rfl rfl (e1 hS')) (k := ?_)
    refine G_op 3 rfl (by kernel_rfl) rfl (W_call rfl rfl (lose_miss j1.net hi) rfl rfl ?_) 
    rintro _ H2 ⟨rfl, rfl⟩
    refine G_next (fun _ s => s) ?_
    refine G_op 7 rfl (by kernel_rfl) rfl (W_call rfl rfl (rlose_miss j1.ref hi) rfl rfl ?_) 
    rintro _ H3 ⟨rfl, rfl⟩
    refine G_next (fun _ s => s) ?_
    first | refine gA 8 (k := ?_) | refine goffA 8 (k := ?_)
    first | refine gA 9 (k := ?_) | refine goffA 9 (k := ?_)
    refine G_done (by kernel_rfl) ?_
    repeat (first | refine codeA (k := ?_) | refine condA (k := ?_) | refine offA (k := ?_) | refine pureA (k := ?_) | refine readA (k := ?_))
    exact At_ret1 rfl rfl ⟨rfl, T, _, _, _, row, cuts, ⟨j1, h.ok⟩, by omega, by omega⟩
set_option maxHeartbeats 4000000 in
theorem do_twice (h : JJ H0 T p q vr lv cv n row cuts H) (hl : row.length ≤ 1000) (hc : cuts.length ≤ 1000) (hb : BytesAt (fun b => b < H0.size) H bv k.f.body) (hm : IntKind.u64.wrap k.doo % 8 = 5) :
    Spc Try.prog 16 #[.pointer (some ⟨p, 0, none⟩), .pointer (some ⟨q, 0, none⟩), .agg (acCells k bv).toArray] H fun r H' => r = .bool true ∧ Nxt H0 p q n row.length cuts.length H' := by
  obtain ⟨pb, pc, rfl⟩ := hb.form
  refine spec_of Try.func16 rfl Try.ntmps16 rfl (fun W => ?_)
  repeat (first | refine codeA (k := ?_) | refine condA (k := ?_) | refine offA (k := ?_) | refine pureA (k := ?_) | refine readA (k := ?_))
  refine At_wp (W_box (cs := (acCells k (.slice pb k.f.body.length pc)).toArray) rfl rfl rfl ?_) rfl
  intro b5 H1 hn1
  have q1 := hn1.at_
  have t5 := (h.j.fresh (b := b5) (by have := hn1.blk; omega)).1
  have j1 := h.j.on hn1.ext
  have m0 : Cell H1 b5 (0 + 0) (.int .i64 k.doo) := Cell.of q1 rfl
  repeat (first | refine codeA (k := ?_) | refine condA (k := ?_) | refine offA (k := ?_) | refine pureA (k := ?_) | refine readA (k := ?_))
  refine At_pure (p_convInt rfl) rfl rfl rfl ?_
  refine At_pure (p_rem rfl rfl (u64_nonneg _) (by decide)) rfl rfl rfl ?_
  rw [hm]
  repeat (first | refine codeA (k := ?_) | refine condA (k := ?_) | refine offA (k := ?_) | refine pureA (k := ?_) | refine readA (k := ?_) | refine At_block ?_)
  by_cases hi : 0 ≤ k.a ∧ k.a < row.length
  · obtain ⟨i, hia⟩ : ∃ i : Nat, k.a = i := ⟨k.a.toNat, by omega⟩
    have hil : i < row.length := by omega
    have hx : row[i]? = some row[i] := by simp [hil]
    generalize row[i] = f at hx
    have hf := h.ok f (List.mem_of_getElem? hx)
    have e1 : ∀ {H' : Heap}, H'[b5]? = some (.cells (acCells k (.slice pb k.f.body.length pc)).toArray 49 (0, 0)) → Cell H' b5 (0 + 1) (.int .i64 i) := fun h => Cell.of h (by rw [← hia]; rfl)
    refine At_draw [2, 6] (fun H' => H'[b5]? = some (.cells (acCells k (.slice pb k.f.body.length pc)).toArray 49 (0, 0))) Try.mixed ?_
    first | refine gA 0 (k := ?_) | refine goffA 0 (k := ?_)
    first | refine gA 1 (k := ?_) | refine goffA 1 (k := ?_)
    refine grA 2 q1 (fun H' hS' => r_load rfl rfl (e1 hS')) (k := ?_)
    first | refine gA 4 (k := ?_) | refine goffA 4 (k := ?_)
    first | refine gA 5 (k := ?_) | refine goffA 5 (k := ?_)
    refine grA 6 q1 (fun H' hS' => r_load rfl rfl (e1 hS')) (k := ?_)
    refine G_op 3 rfl (by kernel_rfl) rfl (W_call rfl rfl (twice_spec (i := i) (f := f) j1.net hx (by have := hf.2.2.2.2; omega) (by dsimp only; omega)) rfl rfl ?_) 
    rintro _ H2 ⟨rfl, hk2, vr2, n2, hv2⟩
    obtain ⟨T2, j2, a2, z2⟩ := j1.x hk2 n2 (fun b hb => hb.imp (fun e => e.2) (fun e => e.1)) hv2
    refine G_next (fun _ s => hk2.keep s (j1.nF t5)) ?_
    refine G_op 7 rfl (by kernel_rfl) rfl (W_call rfl rfl (rtwice_hit (i := i) (f := f) j2.ref (by dsimp only; omega) hx) rfl rfl ?_) 
    rintro _ H3 ⟨rfl, hk3, lv3, n3, hl3⟩
    have t5' : T2 b5 = 0 := by rw [a2 b5 (lt_of_heap q1)]; exact t5
    obtain ⟨T3, j3, a3, z3⟩ := j2.r hk3 n3 (fun b hb => hb.1) (fun b hb => ⟨hb, j2.lt (by omega)⟩) hl3 (fun g hg => .inl hg)
    refine G_next (fun _ s => hk3.keep s (j2.nG t5')) ?_
    first | refine gA 8 (k := ?_) | refine goffA 8 (k := ?_)
    first | refine gA 9 (k := ?_) | refine goffA 9 (k := ?_)
    refine G_done (by kernel_rfl) ?_
    repeat (first | refine codeA (k := ?_) | refine condA (k := ?_) | refine offA (k := ?_) | refine pureA (k := ?_) | refine readA (k := ?_))
    refine At_ret1 rfl rfl ⟨rfl, T3, _, _, _, row ++ [f], cuts, ⟨j3, fun x hx => ?_⟩, by simp, by omega⟩
    rcases List.mem_append.1 hx with hx | hx
    · exact h.ok x hx
    · rw [List.mem_singleton.1 hx]; exact hf
  · have e1 : ∀ {H' : Heap}, H'[b5]? = some (.cells (acCells k (.slice pb k.f.body.length pc)).toArray 49 (0, 0)) → Cell H' b5 (0 + 1) (.int .i64 k.a) := fun h => Cell.of h rfl
    refine At_draw [2, 6] (fun H' => H'[b5]? = some (.cells (acCells k (.slice pb k.f.body.length pc)).toArray 49 (0, 0))) Try.mixed ?_
    first | refine gA 0 (k := ?_) | refine goffA 0 (k := ?_)
    first | refine gA 1 (k := ?_) | refine goffA 1 (k := ?_)
    refine grA 2 q1 (fun H' hS' => r_load rfl rfl (e1 hS')) (k := ?_)
    first | refine gA 4 (k := ?_) | refine goffA 4 (k := ?_)
    first | refine gA 5 (k := ?_) | refine goffA 5 (k := ?_)
    refine grA 6 q1 (fun H' hS' => r_load rfl rfl (e1 hS')) (k := ?_)
    refine G_op 3 rfl (by kernel_rfl) rfl (W_call rfl rfl (twice_miss j1.net hi) rfl rfl ?_) 
    rintro _ H2 ⟨rfl, rfl⟩
    refine G_next (fun _ s => s) ?_
    refine G_op 7 rfl (by kernel_rfl) rfl (W_call rfl rfl (rtwice_miss j1.ref hi) rfl rfl ?_) 
    rintro _ H3 ⟨rfl, rfl⟩
    refine G_next (fun _ s => s) ?_
    first | refine gA 8 (k := ?_) | refine goffA 8 (k := ?_)
    first | refine gA 9 (k := ?_) | refine goffA 9 (k := ?_)
    refine G_done (by kernel_rfl) ?_
    repeat (first | refine codeA (k := ?_) | refine condA (k := ?_) | refine offA (k := ?_) | refine pureA (k := ?_) | refine readA (k := ?_))
    exact At_ret1 rfl rfl ⟨rfl, T, _, _, _, row, cuts, ⟨j1, h.ok⟩, by omega, by omega⟩
set_option maxHeartbeats 4000000 in
theorem do_cut (h : JJ H0 T p q vr lv cv n row cuts H) (hn64 : n ≤ 64) (hl : row.length ≤ 1000) (hc : cuts.length ≤ 1000) (hb : BytesAt (fun b => b < H0.size) H bv k.f.body) (hm : IntKind.u64.wrap k.doo % 8 = 6 ∨ IntKind.u64.wrap k.doo % 8 = 7) :
    Spc Try.prog 16 #[.pointer (some ⟨p, 0, none⟩), .pointer (some ⟨q, 0, none⟩), .agg (acCells k bv).toArray] H fun r H' => r = .bool true ∧ Nxt H0 p q n row.length cuts.length H' := by
  obtain ⟨pb, pc, rfl⟩ := hb.form
  obtain ⟨m, hme⟩ : ∃ m, IntKind.u64.wrap k.doo % 8 = m := ⟨_, rfl⟩
  rw [hme] at hm
  refine spec_of Try.func16 rfl Try.ntmps16 rfl (fun W => ?_)
  repeat (first | refine codeA (k := ?_) | refine condA (k := ?_) | refine offA (k := ?_) | refine pureA (k := ?_) | refine readA (k := ?_))
  refine At_wp (W_box (cs := (acCells k (.slice pb k.f.body.length pc)).toArray) rfl rfl rfl ?_) rfl
  intro b5 H1 hn1
  have q1 := hn1.at_
  have t5 := (h.j.fresh (b := b5) (by have := hn1.blk; omega)).1
  have j1 := h.j.on hn1.ext
  have m0 : Cell H1 b5 (0 + 0) (.int .i64 k.doo) := Cell.of q1 rfl
  repeat (first | refine codeA (k := ?_) | refine condA (k := ?_) | refine offA (k := ?_) | refine pureA (k := ?_) | refine readA (k := ?_))
  refine At_pure (p_convInt rfl) rfl rfl rfl ?_
  refine At_pure (p_rem rfl rfl (u64_nonneg _) (by decide)) rfl rfl rfl ?_
  rw [hme]
  repeat (first | refine codeA (k := ?_) | refine condA (k := ?_) | refine offA (k := ?_) | refine pureA (k := ?_) | refine readA (k := ?_) | refine At_block ?_)
  refine undA (k := ?_)
  repeat (first | refine codeA (k := ?_) | refine condA (k := ?_) | refine offA (k := ?_) | refine pureA (k := ?_) | refine readA (k := ?_))
  refine At_cut (fun (s : Unit) => [(0, .pointer (some ⟨p, 0, none⟩)), (1, .pointer (some ⟨q, 0, none⟩)), (5, .pointer (some ⟨b5, 0, none⟩)), (79, .bool true)]) (fun s H' => H' = H1) ?_ ?_
  · refine At_cond_dec rfl (fun h6 => ?_) (fun h6 => ?_)
    · repeat (first | refine codeA (k := ?_) | refine condA (k := ?_) | refine offA (k := ?_) | refine pureA (k := ?_) | refine readA (k := ?_))
      refine At_tell 79 (.bool true) rfl (by rw [decide_eq_true h6]) ?_
      refine At_meet (E := fun (s : Unit) => [(0, .pointer (some ⟨p, 0, none⟩)), (1, .pointer (some ⟨q, 0, none⟩)), (5, .pointer (some ⟨b5, 0, none⟩)), (79, .bool true)]) (J := fun s H' => H' = H1) () ?_ rfl
      (repeat (first | exact Sub.nil | refine Sub.cons rfl ?_))
    · repeat (first | refine codeA (k := ?_) | refine condA (k := ?_) | refine offA (k := ?_) | refine pureA (k := ?_) | refine readA (k := ?_))
      refine At_meet (E := fun (s : Unit) => [(0, .pointer (some ⟨p, 0, none⟩)), (1, .pointer (some ⟨q, 0, none⟩)), (5, .pointer (some ⟨b5, 0, none⟩)), (79, .bool true)]) (J := fun s H' => H' = H1) () ?_ rfl
      (repeat (first | exact Sub.nil | refine Sub.cons rfl ?_))
  rintro _ H1' rfl
  repeat (first | refine codeA (k := ?_) | refine condA (k := ?_) | refine offA (k := ?_) | refine pureA (k := ?_) | refine readA (k := ?_))
  refine At_pure (p_convInt rfl) rfl rfl rfl ?_
  refine At_pure (p_rem rfl rfl (u64_nonneg _) (by decide)) rfl rfl rfl ?_
  rw [hme]
  refine undA (k := ?_)
  generalize hon : decide (m = 6) = on
  repeat (first | refine codeA (k := ?_) | refine condA (k := ?_) | refine offA (k := ?_) | refine pureA (k := ?_) | refine readA (k := ?_))
  by_cases hi : 0 ≤ k.a ∧ k.a < n ∧ 0 ≤ k.b ∧ k.b < n
  · obtain ⟨a, haa⟩ : ∃ i : Nat, k.a = i := ⟨k.a.toNat, by omega⟩
    obtain ⟨b, hbb⟩ : ∃ i : Nat, k.b = i := ⟨k.b.toNat, by omega⟩
    have e1 : ∀ {H' : Heap}, H'[b5]? = some (.cells (acCells k (.slice pb k.f.body.length pc)).toArray 49 (0, 0)) → Cell H' b5 (0 + 1) (.int .i64 a) := fun h => Cell.of h (by rw [← haa]; rfl)
    have e2 : ∀ {H' : Heap}, H'[b5]? = some (.cells (acCells k (.slice pb k.f.body.length pc)).toArray 49 (0, 0)) → Cell H' b5 (0 + 2) (.int .i64 b) := fun h => Cell.of h (by rw [← hbb]; rfl)
    refine At_draw [2, 4, 9, 11] (fun H' => H'[b5]? = some (.cells (acCells k (.slice pb k.f.body.length pc)).toArray 49 (0, 0))) Try.mixed ?_
    first | refine gA 0 (k := ?_) | refine goffA 0 (k := ?_)
    first | refine gA 1 (k := ?_) | refine goffA 1 (k := ?_)
    refine grA 2 q1 (fun H' hS' => r_load rfl rfl (e1 hS')) (k := ?_)
    first | refine gA 3 (k := ?_) | refine goffA 3 (k := ?_)
    refine grA 4 q1 (fun H' hS' => r_load rfl rfl (e2 hS')) (k := ?_)
    first | refine gA 5 (k := ?_) | refine goffA 5 (k := ?_)
    first | refine gA 7 (k := ?_) | refine goffA 7 (k := ?_)
    first | refine gA 8 (k := ?_) | refine goffA 8 (k := ?_)
    refine grA 9 q1 (fun H' hS' => r_load rfl rfl (e1 hS')) (k := ?_)
    first | refine gA 10 (k := ?_) | refine goffA 10 (k := ?_)
    refine grA 11 q1 (fun H' hS' => r_load rfl rfl (e2 hS')) (k := ?_)
    first | refine gA 12 (k := ?_) | refine goffA 12 (k := ?_)
    refine G_op 6 rfl (by kernel_rfl) rfl (W_call rfl rfl (cut_spec j1.net a b on (by dsimp only; omega) (by dsimp only; omega) hn64) rfl rfl ?_) 
    rintro _ H2 ⟨rfl, hk2, _, n2⟩
    have n2' : NetD (fun b => T b = 3) H2 p vr ⟨n, row, fun i j => cutAt (cutL cuts a b on) i j⟩ := by
      have e : (fun (i j : Nat) => cutAt (cutL cuts a b on) i j) = cutF (fun i j => cutAt cuts i j) a b on := by
        funext i j
        exact cutL_at cuts a b on i j
      rw [e]
      exact n2
    obtain ⟨T2, j2, a2, z2⟩ := j1.x (hk2.mono (fun b e _ => .inl e)) n2' (fun b hb => .inl hb) (fun g hg => .inl hg)
    refine G_next (fun _ s => hk2.keep s (fun e => j1.nF t5 (.inl e))) ?_
    refine G_op 13 rfl (by kernel_rfl) rfl (W_call rfl rfl (rcut_hit (a := a) (b := b) (on := on) j2.ref (by dsimp only; omega) (by dsimp only; omega) (by dsimp only; omega)) rfl rfl ?_) 
    rintro _ H3 ⟨rfl, hk3, cv3, n3, hc3⟩
    have t5' : T2 b5 = 0 := by rw [a2 b5 (lt_of_heap q1)]; exact t5
    obtain ⟨T3, j3, a3, z3⟩ := j2.r hk3 n3 (fun b hb => hb.1) (fun b hb => ⟨hb, j2.lt (by omega)⟩) (fun g hg => .inl hg) (fun g hg => .inr (hc3 g hg))
    refine G_next (fun _ s => hk3.keep s (j2.nG t5')) ?_
    first | refine gA 14 (k := ?_) | refine goffA 14 (k := ?_)
    first | refine gA 15 (k := ?_) | refine goffA 15 (k := ?_)
    refine G_done (by kernel_rfl) ?_
    repeat (first | refine codeA (k := ?_) | refine condA (k := ?_) | refine offA (k := ?_) | refine pureA (k := ?_) | refine readA (k := ?_))
    exact At_ret1 rfl rfl ⟨rfl, T3, _, _, _, row, cutL cuts a b on, ⟨j3, h.ok⟩, by omega, cutL_len _ _ _ _⟩
  · have e1 : ∀ {H' : Heap}, H'[b5]? = some (.cells (acCells k (.slice pb k.f.body.length pc)).toArray 49 (0, 0)) → Cell H' b5 (0 + 1) (.int .i64 k.a) := fun h => Cell.of h rfl
    have e2 : ∀ {H' : Heap}, H'[b5]? = some (.cells (acCells k (.slice pb k.f.body.length pc)).toArray 49 (0, 0)) → Cell H' b5 (0 + 2) (.int .i64 k.b) := fun h => Cell.of h rfl
    refine At_draw [2, 4, 9, 11] (fun H' => H'[b5]? = some (.cells (acCells k (.slice pb k.f.body.length pc)).toArray 49 (0, 0))) Try.mixed ?_
    first | refine gA 0 (k := ?_) | refine goffA 0 (k := ?_)
    first | refine gA 1 (k := ?_) | refine goffA 1 (k := ?_)
    refine grA 2 q1 (fun H' hS' => r_load rfl rfl (e1 hS')) (k := ?_)
    first | refine gA 3 (k := ?_) | refine goffA 3 (k := ?_)
    refine grA 4 q1 (fun H' hS' => r_load rfl rfl (e2 hS')) (k := ?_)
    first | refine gA 5 (k := ?_) | refine goffA 5 (k := ?_)
    first | refine gA 7 (k := ?_) | refine goffA 7 (k := ?_)
    first | refine gA 8 (k := ?_) | refine goffA 8 (k := ?_)
    refine grA 9 q1 (fun H' hS' => r_load rfl rfl (e1 hS')) (k := ?_)
    first | refine gA 10 (k := ?_) | refine goffA 10 (k := ?_)
    refine grA 11 q1 (fun H' hS' => r_load rfl rfl (e2 hS')) (k := ?_)
    first | refine gA 12 (k := ?_) | refine goffA 12 (k := ?_)
    refine G_op 6 rfl (by kernel_rfl) rfl (W_call rfl rfl (cut_miss (on := on) j1.net hi) rfl rfl ?_) 
    rintro _ H2 ⟨rfl, rfl⟩
    refine G_next (fun _ s => s) ?_
    refine G_op 13 rfl (by kernel_rfl) rfl (W_call rfl rfl (rcut_miss (on := on) j1.ref hi) rfl rfl ?_) 
    rintro _ H3 ⟨rfl, rfl⟩
    refine G_next (fun _ s => s) ?_
    first | refine gA 14 (k := ?_) | refine goffA 14 (k := ?_)
    first | refine gA 15 (k := ?_) | refine goffA 15 (k := ?_)
    refine G_done (by kernel_rfl) ?_
    repeat (first | refine codeA (k := ?_) | refine condA (k := ?_) | refine offA (k := ?_) | refine pureA (k := ?_) | refine readA (k := ?_))
    exact At_ret1 rfl rfl ⟨rfl, T, _, _, _, row, cuts, ⟨j1, h.ok⟩, by omega, by omega⟩
end
end Go.Proofs.Ytjgbbegfenmhaaa
