/- The law LinkWindow, walked. -/
import Derived.Test.YtdbmhcchgbpccaaLinkD
namespace Go.Proofs.Ytdbmhcchgbpccaa
open Go Ev
set_option linter.unusedVariables false
set_option linter.unusedSimpArgs false
attribute [local irreducible] Go.wpList Go.bodyPost Go.Code.wp Go.Exit.then Go.Exit.inBlock Go.Exit.noGoto Ev.wpAnyG Go.Oper.wp Ev.Back Ev.Left Ev.Spc Ev.At Ev.Pure Ev.Reads Ev.Runs Ev.Does Ev.Cell

/-- a link behind k sends of the bodies' first k, four at the most -/
def winL (bs : List (List UInt8)) (k : Nat) : Lk := ⟨5, 6, 1, 0, ((bs.take (min k 4)).zipIdx 1).map (fun x => ((x.2 : Nat), x.1)), (min k 4 : Nat), 0, false⟩
theorem winL_length (bs : List (List UInt8)) (k : Nat) (hk : k ≤ bs.length) : (winL bs k).waits.length = min k 4 := by
  simp [winL]; omega
theorem winL_step (bs : List (List UInt8)) (k : Nat) (l : List UInt8) (hk : bs[k]? = some l) (h4 : k < 4) : sentL (winL bs k) l = winL bs (k + 1) := by
  have h1 : min k 4 = k := by omega
  have h2 : min (k + 1) 4 = k + 1 := by omega
  have hlt := (List.getElem?_eq_some_iff.1 hk).1
  simp only [sentL, winL, h1, h2, Lk.mk.injEq, true_and, and_true]
  refine ⟨?_, by omega⟩
  rw [List.take_add_one, hk]
  simp [List.zipIdx_append]
  omega
theorem winL_full (bs : List (List UInt8)) (k : Nat) (h4 : 4 ≤ k) : winL bs (k + 1) = winL bs k := by
  have h1 : min k 4 = 4 := by omega
  have h2 : min (k + 1) 4 = 4 := by omega
  simp [winL, h1, h2]

structure WJ (H : Heap) (bs : List (List UInt8)) (p k : Nat) (vw : Value) (Hk : Heap) : Prop where
  le : k ≤ bs.length
  link : LinkAt Hk p vw (winL bs k)
  ext : Ext H Hk
  p : H.size ≤ p
  vw : ∀ g, vw.ownBlock = some g → H.size ≤ g
  small : ∀ l ∈ bs.take k, l.length ≤ 1000

set_option maxHeartbeats 4000000 in
theorem linkWindow_walk {H : Heap} {v : Value} {bs : List (List UInt8)} (hv : SliceAt (fun _ => True) H 1 (BRow (fun _ => True) H) v bs) :
    Spc Try.prog 3 #[v] H fun r H' => Ext H H' ∧ r = .bool true := by
  obtain ⟨q, c, rfl⟩ := hv.form
  have hlen := hv.len_le
  simp only [maxLen] at hlen
  refine spec_of Try.func3 rfl Try.ntmps3 rfl (fun W => ?_)
  by_cases h20 : 20 < bs.length
  · repeat (first | refine codeA (k := ?_) | refine condA (k := ?_) | refine offA (k := ?_) | refine pureA (k := ?_) | refine readA (k := ?_))
    exact At_ret1 rfl rfl ⟨Kept.refl _ _, rfl⟩
  repeat (first | refine codeA (k := ?_) | refine condA (k := ?_) | refine offA (k := ?_) | refine pureA (k := ?_) | refine readA (k := ?_))
  refine At_wp (W_call rfl rfl (new_ok 5 6 1 H (by decide) (by decide) (by decide)) rfl rfl ?_) rfl
  rintro _ H1 ⟨p, rfl, hn⟩
  have hl0 : LinkAt H1 p (.slice none 0 0) (winL bs 0) := new_link hn
  have hp := hn.blk
  repeat (first | refine codeA (k := ?_) | refine condA (k := ?_) | refine offA (k := ?_) | refine pureA (k := ?_) | refine readA (k := ?_))
  refine At_cut (fun (s : Value) => [(0, .slice q bs.length c), (3, .pointer (some ⟨p, 0, none⟩))]) (fun s H' => WJ H bs p bs.length s H') ?_ ?_
  · refine At_block ?_
    refine At_loop (fun (s : Nat × Value) => [(0, .slice q bs.length c), (3, .pointer (some ⟨p, 0, none⟩)), (5, .int .i64 s.1)]) (fun s H' => WJ H bs p s.1 s.2 H') (fun s => bs.length - s.1) (0, .slice none 0 0) ?_ ⟨Nat.zero_le _, hl0, hn.ext, by omega, (fun g e => by cases e), by simp⟩ ?_
    · (repeat (first | exact Sub.nil | refine Sub.cons rfl ?_))
    rintro ⟨k, vw⟩ H2 ⟨hle, hlk, hx, hp2, hvw, hsm⟩
    dsimp only at hle hlk hvw hsm
    by_cases hk : k < bs.length
    · have hxk : bs[k]? = some bs[k] := by simp [hk]
      generalize bs[k] = l at hxk
      obtain ⟨b, o, row, hq, _, hbl, ⟨bv, rfl, hbv⟩, _, hc⟩ := hv.at_ hxk
      subst hq
      have hcell : Cell H2 b (o + k * 1) bv := (hc 0 bv rfl).keep hx (fun f => f)
      obtain ⟨qb, cb, rfl⟩ := hbv.form
      have hbv2 : BytesAt (fun i => i ≠ p) H2 (.slice qb l.length cb) l := hbv.keep hx (fun b _ hb => ⟨fun f => f, by omega⟩)
      have hll := hbv.len_le
      simp only [maxLen] at hll
      have hwl := winL_length bs k hle
      by_cases h1000 : 1000 < l.length
      · repeat (first | refine codeA (k := ?_) | refine condA (k := ?_) | refine offA (k := ?_) | refine pureA (k := ?_) | refine readA (k := ?_) | refine At_block ?_)
        exact At_ret1 rfl rfl ⟨hx, rfl⟩
      have hsm' : ∀ l' ∈ bs.take (k + 1), l'.length ≤ 1000 := by
        intro l' hl'
        rw [List.take_add_one, hxk] at hl'
        simp only [Option.toList_some, List.mem_append, List.mem_singleton] at hl'
        rcases hl' with hl' | rfl
        · exact hsm l' hl'
        · omega
      by_cases h4 : k < 4
      · repeat (first | refine codeA (k := ?_) | refine condA (k := ?_) | refine offA (k := ?_) | refine pureA (k := ?_) | refine readA (k := ?_) | refine At_block ?_)
        refine At_wp (W_call rfl rfl (send_ok hlk hbv2 (by omega) (by omega) (by simp only [winL]; omega)) rfl rfl ?_) rfl
        rintro _ H3 ⟨rfl, hk3, vw3, hlk3, hvw3⟩
        rw [winL_step bs k l hxk h4] at hlk3
        repeat (first | refine codeA (k := ?_) | refine condA (k := ?_) | refine offA (k := ?_) | refine pureA (k := ?_) | refine readA (k := ?_) | refine At_block ?_)
        refine At_back (k + 1, vw3) ?_ ⟨by omega, hlk3, ?_, hp2, ?_, hsm'⟩ (by show bs.length - (k + 1) < bs.length - k; omega)
        · (repeat (first | exact Sub.nil | refine Sub.cons rfl ?_))
        · refine Kept.trans hx hk3 (fun _ f _ => f) (fun i e hi => ?_)
          rcases e with e | e
          · omega
          · have := hvw i e; omega
        · intro g hg
          rcases hvw3 g hg with e | e
          · exact hvw g e
          · have := hx.size
            omega
      · repeat (first | refine codeA (k := ?_) | refine condA (k := ?_) | refine offA (k := ?_) | refine pureA (k := ?_) | refine readA (k := ?_) | refine At_block ?_)
        refine At_wp (W_call rfl rfl (send_full hlk hbv2 (by omega) (by omega)) rfl rfl ?_) rfl
        rintro _ _ ⟨rfl, rfl⟩
        repeat (first | refine codeA (k := ?_) | refine condA (k := ?_) | refine offA (k := ?_) | refine pureA (k := ?_) | refine readA (k := ?_) | refine At_block ?_)
        refine At_back (k + 1, vw) ?_ ⟨by omega, by rw [winL_full bs k (by omega)]; exact hlk, hx, hp2, hvw, hsm'⟩ (by show bs.length - (k + 1) < bs.length - k; omega)
        (repeat (first | exact Sub.nil | refine Sub.cons rfl ?_))
    · obtain rfl : k = bs.length := by omega
      repeat (first | refine codeA (k := ?_) | refine condA (k := ?_) | refine offA (k := ?_) | refine pureA (k := ?_) | refine readA (k := ?_))
      refine At_meet vw ?_ ⟨hle, hlk, hx, hp2, hvw, hsm⟩
      (repeat (first | exact Sub.nil | refine Sub.cons rfl ?_))
  · rintro vw H2 ⟨_, hlk, hx, hp2, hvw, hsm⟩
    rw [List.take_length] at hsm
    have hwl := winL_length bs bs.length (Nat.le_refl _)
    generalize hm : min bs.length 4 = m at hwl
    have hget : ∀ i, i < m → ∃ l, bs[i]? = some l ∧ (winL bs bs.length).waits[i]? = some (((1 + i : Nat) : Int), l) := fun i hi => by
      have hib : i < bs.length := by omega
      refine ⟨bs[i], by simp [hib], ?_⟩
      simp only [winL, hm]
      simp [hib, hi]
    have hfr : framesOf (winL bs bs.length) = (winL bs bs.length).waits.map (frOf (winL bs bs.length)) := by
      unfold framesOf
      rw [if_neg (fun h => by simp [winL] at h)]
    have hsmw : ∀ x ∈ (winL bs bs.length).waits, x.2.length ≤ 131072 := fun x hx => by
      obtain ⟨i, hi⟩ := List.mem_iff_getElem?.1 hx
      have hi' := (List.getElem?_eq_some_iff.1 hi).1
      obtain ⟨l, h1, h2⟩ := hget i (by omega)
      rw [hi] at h2
      cases h2
      have := hsm l (List.mem_of_getElem? h1)
      show l.length ≤ 131072
      omega
    have how : { winL bs bs.length with owes := false } = winL bs bs.length := rfl
    refine At_seq ?_
    refine At_cut (fun (_ : Unit) => [(0, .slice q bs.length c), (3, .pointer (some ⟨p, 0, none⟩)), (7, .int .i64 m)]) (fun _ H' => H2 = H') ?_ ?_
    · by_cases hb4 : bs.length ≤ 4
      · obtain rfl : m = bs.length := by omega
        repeat (first | refine codeA (k := ?_) | refine condA (k := ?_) | refine offA (k := ?_) | refine pureA (k := ?_) | refine readA (k := ?_))
        refine At_meet (J := fun _ H' => H2 = H') () ?_ rfl
        (repeat (first | exact Sub.nil | refine Sub.cons rfl ?_))
      · obtain rfl : m = 4 := by omega
        repeat (first | refine codeA (k := ?_) | refine condA (k := ?_) | refine offA (k := ?_) | refine pureA (k := ?_) | refine readA (k := ?_))
        refine At_meet (J := fun _ H' => H2 = H') () ?_ rfl
        (repeat (first | exact Sub.nil | refine Sub.cons rfl ?_))
    rintro _ _ rfl
    repeat (first | refine codeA (k := ?_) | refine condA (k := ?_) | refine offA (k := ?_) | refine pureA (k := ?_) | refine readA (k := ?_))
    refine At_wp (W_call rfl rfl (frames_spec hlk (by omega) hsmw) rfl rfl ?_) rfl
    rintro va H3 ⟨hlk3, hk3, hoa, hga⟩
    rw [how] at hlk3
    repeat (first | refine codeA (k := ?_) | refine condA (k := ?_) | refine offA (k := ?_) | refine pureA (k := ?_) | refine readA (k := ?_))
    refine At_wp (W_call rfl rfl (frames_spec hlk3 (by omega) hsmw) rfl rfl ?_) rfl
    rintro vb H4 ⟨hlk4, hk4, hob, hgb⟩
    rw [how] at hlk4
    have hps := lt_of_heap hlk.blk
    have hs3 := hk3.size
    have hs4 := hk4.size
    rw [hfr] at hoa hob
    have hoa4 : OwnL H4 34 7 (FRow (fun _ => True) H4) va ((winL bs bs.length).waits.map (frOf (winL bs bs.length))) := hoa.keep hk4 (fun g hg e => by have := hga g hg; omega) (fun x row _ ⟨bv, e1, e2⟩ => ⟨bv, e1, e2.keep hk4 (fun b hb _ => ⟨fun e => by omega, trivial⟩)⟩)
    have hxe : Ext H H4 := by
      have a1 : Ext H H3 := Kept.trans hx hk3 (fun _ f _ => f) (fun i e hi => by omega)
      exact Kept.trans a1 hk4 (fun _ f _ => f) (fun i e hi => by omega)
    obtain ⟨qa, ca, rfl⟩ : ∃ q c, va = .slice q m c := by
      rcases hoa4.form with ⟨e1, e2⟩ | ⟨g, c, e1, _⟩
      · rw [List.map_eq_nil_iff] at e2
        rw [e2] at hwl
        exact ⟨none, 0, by rw [e1, ← hwl]; rfl⟩
      · exact ⟨_, _, by rw [e1, List.length_map, hwl]⟩
    repeat (first | refine codeA (k := ?_) | refine condA (k := ?_) | refine offA (k := ?_) | refine pureA (k := ?_) | refine readA (k := ?_))
    refine At_wp (W_call rfl rfl (waiting_spec hlk4) rfl rfl ?_) rfl
    rintro _ _ ⟨rfl, rfl⟩
    rw [hwl]
    repeat (first | refine codeA (k := ?_) | refine condA (k := ?_) | refine offA (k := ?_) | refine pureA (k := ?_) | refine readA (k := ?_))
    refine At_wp (W_call rfl rfl (hkframes_eq hoa4 hob) rfl rfl ?_) rfl
    rintro _ H5 ⟨hx5, rfl⟩
    repeat (first | refine codeA (k := ?_) | refine condA (k := ?_) | refine offA (k := ?_) | refine pureA (k := ?_) | refine readA (k := ?_) | refine At_block ?_)
    have hoa5 : OwnL H5 34 7 (FRow (fun _ => True) H5) (.slice qa m ca) ((winL bs bs.length).waits.map (frOf (winL bs bs.length))) := hoa4.keep hx5 (fun g hg e => e) (fun x row _ ⟨bv, e1, e2⟩ => ⟨bv, e1, e2.keep hx5 (fun b hb _ => ⟨fun e => e, trivial⟩)⟩)
    have hx5' := hxe.trans hx5
    refine At_loop (fun (k : Nat) => [(0, .slice q bs.length c), (7, .int .i64 m), (8, .slice qa m ca), (10, .int .i64 k)]) (fun k H' => k ≤ m ∧ H5 = H') (fun k => m - k) 0 ?_ ⟨Nat.zero_le _, rfl⟩ ?_
    · (repeat (first | exact Sub.nil | refine Sub.cons rfl ?_))
    rintro k _ ⟨hkm, rfl⟩
    by_cases hk : k < m
    · obtain ⟨l, hl1, hl2⟩ := hget k hk
      obtain ⟨b, o, row, hq, _, hbl, ⟨bv, rfl, hbv⟩, _, hc⟩ := hv.at_ hl1
      subst hq
      have hcell : Cell H5 b (o + k * 1) bv := (hc 0 bv rfl).keep hx5' (fun f => f)
      have hbv5 := hbv.keep hx5' (fun b hb _ => ⟨fun f => f, hb⟩)
      obtain ⟨ga, rfl⟩ : ∃ ga, qa = some ⟨ga, 0, none⟩ := by
        rcases hoa5.form with ⟨e1, e2⟩ | ⟨g, c, e1, _⟩
        · cases e1; omega
        · simp only [Value.slice.injEq] at e1
          exact ⟨g, e1.1⟩
      have hfx : ((winL bs bs.length).waits.map (frOf (winL bs bs.length)))[k]? = some (frOf (winL bs bs.length) (((1 + k : Nat) : Int), l)) := by simp [hl2]
      obtain ⟨row, ⟨bw, rfl, hbw⟩, _, hca⟩ := hoa5.cells hfx
      have cf0 : Cell H5 ga (0 + k * 7 + 0) (.int .i64 5) := by rw [Nat.zero_add]; exact hca 0 _ rfl
      have cf1 : Cell H5 ga (0 + k * 7 + 1) (.int .i64 6) := by rw [Nat.zero_add]; exact hca 1 _ rfl
      have cf3 : Cell H5 ga (0 + k * 7 + 3) (.int .i64 0) := by rw [Nat.zero_add]; exact hca 3 _ rfl
      have cf4 : Cell H5 ga (0 + k * 7 + 4) (.int .i64 ((1 + k : Nat) : Int)) := by rw [Nat.zero_add]; exact hca 4 _ rfl
      have cf6 : Cell H5 ga (0 + k * 7 + 6) bw := by rw [Nat.zero_add]; exact hca 6 _ rfl
      repeat (first | refine codeA (k := ?_) | refine condA (k := ?_) | refine offA (k := ?_) | refine pureA (k := ?_) | refine readA (k := ?_) | refine At_block ?_)
      refine At_draw [4, 13, 17, 26, 34, 42] (fun H' => H' = H5) Try.mixed ?_
      first | refine gA 0 (k := ?_) | refine goffA 0 (k := ?_)
      first | refine gA 1 (k := ?_) | refine goffA 1 (k := ?_)
      first | refine gA 2 (k := ?_) | refine goffA 2 (k := ?_)
      first | refine gA 3 (k := ?_) | refine goffA 3 (k := ?_)
      refine grA 4 rfl (fun H' hS' => r_load rfl rfl ((by subst hS'; exact cf4))) (k := ?_)
      first | refine gA 5 (k := ?_) | refine goffA 5 (k := ?_)
      first | refine gA 6 (k := ?_) | refine goffA 6 (k := ?_)
      first | refine gA 7 (k := ?_) | refine goffA 7 (k := ?_)
      first | refine gA 8 (k := ?_) | refine goffA 8 (k := ?_)
      first | refine gA 9 (k := ?_) | refine goffA 9 (k := ?_)
      first | refine gA 10 (k := ?_) | refine goffA 10 (k := ?_)
      first | refine gA 11 (k := ?_) | refine goffA 11 (k := ?_)
      first | refine gA 12 (k := ?_) | refine goffA 12 (k := ?_)
      refine grA 13 rfl (fun H' hS' => r_load rfl rfl ((by subst hS'; exact cf6))) (k := ?_)
      first | refine gA 14 (k := ?_) | refine goffA 14 (k := ?_)
      first | refine gA 15 (k := ?_) | refine goffA 15 (k := ?_)
      first | refine gA 16 (k := ?_) | refine goffA 16 (k := ?_)
      refine grA 17 rfl (fun H' hS' => r_load rfl rfl ((by subst hS'; exact hcell))) (k := ?_)
      refine G_op 18 rfl (by kernel_rfl) rfl (W_call rfl rfl (bytes_spec hbw hbv5) rfl rfl ?_) 
      rintro _ _ ⟨rfl, rfl⟩
      refine G_next (fun _ s => s) ?_
      rw [decide_eq_true (show (frOf (winL bs bs.length) (((1 + k : Nat) : Int), l)).body = l from rfl)]
      first | refine gA 19 (k := ?_) | refine goffA 19 (k := ?_)
      first | refine gA 20 (k := ?_) | refine goffA 20 (k := ?_)
      first | refine gA 21 (k := ?_) | refine goffA 21 (k := ?_)
      first | refine gA 22 (k := ?_) | refine goffA 22 (k := ?_)
      first | refine gA 23 (k := ?_) | refine goffA 23 (k := ?_)
      first | refine gA 24 (k := ?_) | refine goffA 24 (k := ?_)
      first | refine gA 25 (k := ?_) | refine goffA 25 (k := ?_)
      refine grA 26 rfl (fun H' hS' => r_load rfl rfl ((by subst hS'; exact cf0))) (k := ?_)
      first | refine gA 27 (k := ?_) | refine goffA 27 (k := ?_)
      first | refine gA 28 (k := ?_) | refine goffA 28 (k := ?_)
      first | refine gA 29 (k := ?_) | refine goffA 29 (k := ?_)
      first | refine gA 30 (k := ?_) | refine goffA 30 (k := ?_)
      first | refine gA 31 (k := ?_) | refine goffA 31 (k := ?_)
      first | refine gA 32 (k := ?_) | refine goffA 32 (k := ?_)
      first | refine gA 33 (k := ?_) | refine goffA 33 (k := ?_)
      refine grA 34 rfl (fun H' hS' => r_load rfl rfl ((by subst hS'; exact cf1))) (k := ?_)
      first | refine gA 35 (k := ?_) | refine goffA 35 (k := ?_)
      first | refine gA 36 (k := ?_) | refine goffA 36 (k := ?_)
      first | refine gA 37 (k := ?_) | refine goffA 37 (k := ?_)
      first | refine gA 38 (k := ?_) | refine goffA 38 (k := ?_)
      first | refine gA 39 (k := ?_) | refine goffA 39 (k := ?_)
      first | refine gA 40 (k := ?_) | refine goffA 40 (k := ?_)
      first | refine gA 41 (k := ?_) | refine goffA 41 (k := ?_)
      refine grA 42 rfl (fun H' hS' => r_load rfl rfl ((by subst hS'; exact cf3))) (k := ?_)
      first | refine gA 43 (k := ?_) | refine goffA 43 (k := ?_)
      first | refine gA 44 (k := ?_) | refine goffA 44 (k := ?_)
      refine G_done (by kernel_rfl) ?_
      repeat (first | refine codeA (k := ?_) | refine condA (k := ?_) | refine offA (k := ?_) | refine pureA (k := ?_) | refine readA (k := ?_))
      refine At_back (k + 1) ?_ ⟨by omega, rfl⟩ (by omega)
      (repeat (first | exact Sub.nil | refine Sub.cons rfl ?_))
    · obtain rfl : k = m := by omega
      repeat (first | refine codeA (k := ?_) | refine condA (k := ?_) | refine offA (k := ?_) | refine pureA (k := ?_) | refine readA (k := ?_))
      refine At_wp (W_call rfl rfl (wakes_spec _) rfl rfl ?_) rfl
      rintro _ H6 ⟨hx6, rfl⟩
      repeat (first | refine codeA (k := ?_) | refine condA (k := ?_) | refine offA (k := ?_) | refine pureA (k := ?_) | refine readA (k := ?_))
      exact At_ret1 rfl rfl ⟨hx5'.trans hx6, rfl⟩
end Go.Proofs.Ytdbmhcchgbpccaa
