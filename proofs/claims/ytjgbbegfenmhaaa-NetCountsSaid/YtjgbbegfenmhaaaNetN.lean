/- The page's network: a way that is cut. -/
import Derived.Test.YtjgbbegfenmhaaaNetM
namespace Go.Proofs.Ytjgbbegfenmhaaa
open Go Ev
set_option linter.unusedVariables false
set_option linter.unusedSimpArgs false
attribute [local irreducible] Go.wpList Go.bodyPost Go.Code.wp Go.Exit.then Go.Exit.inBlock Go.Exit.noGoto Ev.wpAnyG Go.Oper.wp Ev.Back Ev.Left Ev.Spc Ev.At Ev.Pure Ev.Reads Ev.Runs Ev.Does Ev.Cell

def cutL (l : List (Int × Int)) (a b : Int) (on : Bool) : List (Int × Int) := l.filter (fun c => decide (¬ Sm a b c)) ++ (if on = true then [(a, b)] else [])
theorem cutL_len (l : List (Int × Int)) (a b : Int) (on : Bool) : (cutL l a b on).length ≤ l.length + 1 := by
  unfold cutL
  have := List.length_filter_le (fun c => decide (¬ Sm a b c)) l
  rw [List.length_append]
  cases on
  · have : (if false = true then [(a, b)] else ([] : List (Int × Int))).length = 0 := rfl
    omega
  · have : (if true = true then [(a, b)] else ([] : List (Int × Int))).length = 1 := rfl
    omega
theorem cutL_at (l : List (Int × Int)) (a b : Nat) (on : Bool) (i j : Nat) : cutAt (cutL l a b on) i j = cutF (fun i j => cutAt l i j) a b on i j := by
  unfold cutF cutAt cutL
  by_cases h : (i = a ∧ j = b) ∨ (i = b ∧ j = a)
  · rw [if_pos h, List.any_append]
    have e1 : (List.filter (fun c => decide (¬ Sm a b c)) l).any (fun c => decide (Sm i j c)) = false := by
      refine List.any_eq_false.2 fun x hx => ?_
      have := (List.mem_filter.1 hx).2
      simp only [decide_eq_true_eq] at this ⊢
      intro e
      apply this
      unfold Sm at e ⊢
      omega
    rw [e1]
    cases on
    · rfl
    · simp only [if_true, List.any_cons, List.any_nil, Bool.or_false, Bool.false_or]
      refine decide_eq_true ?_
      unfold Sm
      omega
  · rw [if_neg h, List.any_append]
    have e1 : (if on = true then [((a : Int), (b : Int))] else []).any (fun c => decide (Sm i j c)) = false := by
      cases on
      · rfl
      · simp only [if_true, List.any_cons, List.any_nil, Bool.or_false]
        refine decide_eq_false ?_
        unfold Sm
        simp only
        omega
    rw [e1, Bool.or_false, Bool.eq_iff_iff, List.any_eq_true, List.any_eq_true]
    constructor
    · rintro ⟨x, hx, hs⟩
      exact ⟨x, (List.mem_filter.1 hx).1, hs⟩
    · rintro ⟨x, hx, hs⟩
      refine ⟨x, List.mem_filter.2 ⟨hx, ?_⟩, hs⟩
      simp only [decide_eq_true_eq] at hs ⊢
      intro e
      apply h
      unfold Sm at e hs
      omega

set_option maxHeartbeats 4000000 in
theorem rcut_hit {D : Nat → Prop} {H : Heap} {q : Nat} {lv cv : Value} {R : Rt} (h0 : RNet D H q lv cv R) (hc : R.cuts.length ≤ 100000) {a b : Int} {on : Bool} (ha : 0 ≤ a ∧ a < R.n) (hb : 0 ≤ b ∧ b < R.n) :
    Spc Try.prog 28 #[.pointer (some ⟨q, 0, none⟩), .int .i64 a, .int .i64 b, .bool on] H fun r H' => r = .int .i64 0 ∧ Kept (Gn q lv cv) H H' ∧
      ∃ cv', RNet (fun i => D i ∧ i < H.size) H' q lv cv' { R with cuts := cutL R.cuts a b on } ∧ ∀ g, cv'.ownBlock = some g → H.size ≤ g := by
  have h := h0.lim
  obtain ⟨p, c, hcv⟩ := h.cform
  have hql := h.lt
  refine spec_of Try.func28 rfl Try.ntmps28 rfl (fun W => ?_)
  repeat (first | refine codeA (k := ?_) | refine condA (k := ?_) | refine offA (k := ?_) | refine pureA (k := ?_) | refine readA (k := ?_))
  refine At_wp (W_call rfl rfl (end_spec h a) rfl rfl ?_) rfl
  rintro _ _ ⟨rfl, rfl⟩
  rw [decide_eq_true ha]
  repeat (first | refine codeA (k := ?_) | refine condA (k := ?_) | refine offA (k := ?_) | refine pureA (k := ?_) | refine readA (k := ?_))
  refine At_wp (W_call rfl rfl (end_spec h b) rfl rfl ?_) rfl
  rintro _ _ ⟨rfl, rfl⟩
  rw [decide_eq_true hb]
  repeat (first | refine codeA (k := ?_) | refine condA (k := ?_) | refine offA (k := ?_) | refine pureA (k := ?_) | refine readA (k := ?_))
  refine At_cut (fun (s : Value) => [(0, .pointer (some ⟨q, 0, none⟩)), (1, .int .i64 a), (2, .int .i64 b), (3, .bool on), (9, s)]) (fun s H' => Ext H H' ∧ OwnL H' 66 2 PRow s (R.cuts.filter (fun c => decide (¬ Sm a b c))) ∧ ∀ g, s.ownBlock = some g → H.size ≤ g) ?_ ?_
  · refine At_block ?_
    refine At_loop (fun (s : Nat × Value) => [(0, .pointer (some ⟨q, 0, none⟩)), (1, .int .i64 a), (2, .int .i64 b), (3, .bool on), (9, s.2), (10, .int .i64 s.1)])
      (fun s H' => s.1 ≤ R.cuts.length ∧ Ext H H' ∧ OwnL H' 66 2 PRow s.2 ((R.cuts.take s.1).filter (fun c => decide (¬ Sm a b c))) ∧ ∀ g, s.2.ownBlock = some g → H.size ≤ g) (fun s => R.cuts.length - s.1) (0, .slice none 0 0) ?_ ⟨Nat.zero_le _, Kept.refl _ _, OwnL.nil _ _ _ _, fun g e => by cases e⟩ ?_
    · (repeat (first | exact Sub.nil | refine Sub.cons rfl ?_))
    rintro ⟨i, v9⟩ H1 ⟨hi, hx1, ho1, hg1⟩
    dsimp only at hi hx1 ho1 hg1
    have d2 := (h.ext hx1).c2
    rw [hcv] at d2
    by_cases hil : i < R.cuts.length
    rotate_left
    · obtain rfl : i = R.cuts.length := by omega
      rw [List.take_length] at ho1
      repeat (first | refine codeA (k := ?_) | refine condA (k := ?_) | refine offA (k := ?_) | refine pureA (k := ?_) | refine readA (k := ?_))
      refine At_meet (J := fun s H' => Ext H H' ∧ OwnL H' 66 2 PRow s (R.cuts.filter (fun c => decide (¬ Sm a b c))) ∧ ∀ g, s.ownBlock = some g → H.size ≤ g) v9 ?_ ⟨hx1, ho1, hg1⟩
      (repeat (first | exact Sub.nil | refine Sub.cons rfl ?_))
    have hx : R.cuts[i]? = some R.cuts[i] := by simp [hil]
    have htk : (R.cuts.take (i + 1)) = R.cuts.take i ++ [R.cuts[i]] := by rw [List.take_add_one, hx]; rfl
    generalize R.cuts[i] = x at hx htk
    obtain ⟨x1, x2⟩ := x
    obtain ⟨g, rfl⟩ : ∃ g, p = some ⟨g, 0, none⟩ := by
      rcases h.cut.form with ⟨e1, e2⟩ | ⟨g, c, e1, _⟩
      · rw [e2] at hil; simp at hil
      · rw [hcv] at e1
        simp only [Value.slice.injEq] at e1
        exact ⟨g, e1.1⟩
    have hcut := (h.ext hx1).cut
    rw [hcv] at hcut
    obtain ⟨row, e1, e3, e4⟩ := hcut.cells hx
    obtain rfl : row = [.int .i64 x1, .int .i64 x2] := e1
    repeat (first | refine codeA (k := ?_) | refine condA (k := ?_) | refine offA (k := ?_) | refine pureA (k := ?_) | refine readA (k := ?_) | refine At_block ?_)
    refine At_read (r_loadN (b := g) (o := 0 + i * 2) (cs := [.int .i64 x1, .int .i64 x2]) rfl rfl rfl (fun j u hj => by rw [Nat.zero_add]; exact e4 j u hj)) rfl rfl rfl ?_
    refine At_wp (W_alloc rfl rfl ?_) rfl
    intro b2 H2 hn2
    refine At_wp (W_storeB (cs' := #[.int .i64 x1, .int .i64 x2]) rfl rfl hn2.at_ rfl rfl rfl rfl ?_) rfl
    intro H3 p3
    have bb2 := hn2.blk
    have hx3 : Ext H1 H3 := Kept.trans hn2.ext p3.kept (fun _ f _ => f) (fun i e hl => by omega)
    have q3 := p3.at_
    have m0 : Cell H3 b2 (0 + 0) (.int .i64 x1) := Cell.of q3 rfl
    have m1 : Cell H3 b2 (0 + 1) (.int .i64 x2) := Cell.of q3 rfl
    have ho3 := ho1.keep (R' := PRow) hx3 (fun _ _ f => f) (fun _ _ _ hr => hr)
    refine At_nil ?_
    refine At_then_normal ?_
    refine At_seq ?_
    refine At_cut (fun (s : Unit) => [(0, .pointer (some ⟨q, 0, none⟩)), (1, .int .i64 a), (2, .int .i64 b), (3, .bool on), (9, v9), (10, .int .i64 i), (11, .pointer (some ⟨b2, 0, none⟩)), (60, .bool (decide (¬ Sm a b (x1, x2))))]) (fun s H' => H' = H3) ?_ ?_
    · by_cases h1 : x1 = a <;> by_cases h2 : x2 = b <;> by_cases h3 : x1 = b <;> by_cases h4 : x2 = a
      all_goals (try (exfalso; omega))
      all_goals (first | (rw [decide_eq_true (by unfold Sm; omega)]) | (rw [decide_eq_false (by unfold Sm; omega)]))
      all_goals (repeat (first | refine codeA (k := ?_) | refine offA (k := ?_) | refine pureA (k := ?_) | refine readA (k := ?_)))
      all_goals refine At_meet (E := fun (s : Unit) => _) (J := fun s H' => H' = H3) () ?_ rfl
      all_goals (repeat (first | exact Sub.nil | refine Sub.cons rfl ?_))
    · rintro _ _ rfl
      refine At_cond_dec rfl (fun hs => ?_) (fun hs => ?_)
      · have efl : (R.cuts.take (i + 1)).filter (fun c => decide (¬ Sm a b c)) = (R.cuts.take i).filter (fun c => decide (¬ Sm a b c)) ++ [(x1, x2)] := by
          rw [htk, List.filter_append, List.filter_cons_of_pos (by simpa using hs)]; rfl
        have hfl := List.length_filter_le (fun c => decide (¬ Sm a b c)) (R.cuts.take i)
        have htl : (R.cuts.take i).length = i := by simp; omega
        repeat (first | refine codeA (k := ?_) | refine condA (k := ?_) | refine offA (k := ?_) | refine pureA (k := ?_) | refine readA (k := ?_))
        refine At_read (r_loadB rfl q3 rfl rfl) rfl rfl rfl ?_
        refine At_wp (W_buildSlice1 (cs := #[.int .i64 x1, .int .i64 x2]) rfl rfl rfl (by decide) rfl ?_) rfl
        intro b4 H4 hn4
        refine At_wp (W_append1 (R := PRow) (a := (x1, x2)) (row := [.int .i64 x1, .int .i64 x2]) (fun _ => PRow) rfl rfl (ho3.keep (R' := PRow) hn4.ext (fun _ _ f => f) (fun _ _ _ hr => hr)) hn4.at_ rfl rfl rfl (by simp; exact ⟨rfl, rfl⟩) rfl (by decide) (by omega) (by decide) rfl (fun _ _ _ _ _ _ _ hr => hr) ?_) rfl
        intro g5 c5 H5 ho5 hk5 hg5
        have hgH : H.size ≤ g5 := by
          rcases hg5 with e | e
          · exact hg1 g5 e
          · have := hx1.size; have := hx3.size; have := hn4.size; omega
        rw [← efl] at ho5
        repeat (first | refine codeA (k := ?_) | refine condA (k := ?_) | refine offA (k := ?_) | refine pureA (k := ?_) | refine readA (k := ?_))
        refine At_back (i + 1, .slice (some ⟨g5, 0, none⟩) (((R.cuts.take i).filter (fun c => decide (¬ Sm a b c))).length + 1) c5) ?_ ⟨by dsimp only; omega, ?_, ho5, ?_⟩ (by dsimp only; omega)
        · (repeat (first | exact Sub.nil | refine Sub.cons rfl ?_))
        · exact Kept.trans ((hx1.trans hx3).trans hn4.ext) hk5 (fun _ f _ => f) (fun j e hl => by have := hg1 j e; omega)
        · intro g' hg'
          simp only [Value.ownBlock, Option.some.injEq] at hg'
          omega
      · have efl : (R.cuts.take (i + 1)).filter (fun c => decide (¬ Sm a b c)) = (R.cuts.take i).filter (fun c => decide (¬ Sm a b c)) := by
          rw [htk, List.filter_append, List.filter_cons_of_neg (by simpa using hs)]; simp
        rw [← efl] at ho3
        repeat (first | refine codeA (k := ?_) | refine condA (k := ?_) | refine offA (k := ?_) | refine pureA (k := ?_) | refine readA (k := ?_))
        refine At_back (i + 1, v9) ?_ ⟨by dsimp only; omega, hx1.trans hx3, ho3, hg1⟩ (by dsimp only; omega)
        (repeat (first | exact Sub.nil | refine Sub.cons rfl ?_))
  · rintro v9 H1 ⟨hx1, ho1, hg1⟩
    have h1 := h.ext hx1
    have s1 := hx1.size
    repeat (first | refine codeA (k := ?_) | refine condA (k := ?_) | refine offA (k := ?_) | refine pureA (k := ?_) | refine readA (k := ?_))
    refine At_wp (W_store rfl rfl h1.blk (own_one ho1).1 (own_one ho1).2 rfl rfl ?_) rfl
    intro H2 p2
    have s2 := p2.size
    have h2 : RNet (fun i => D i ∧ i < H.size) H2 q lv v9 { R with cuts := R.cuts.filter (fun c => decide (¬ Sm a b c)) } := by
      refine ⟨p2.at_, h1.own.keep p2.kept (fun g hg e => h1.nl (by rw [hg, e])) (fun x row _ hr => hr.keep p2.kept (fun b hb _ => ⟨(h1.dis b hb).1, hb⟩)), ho1.keep p2.kept (fun g hg e => by have := hg1 g hg; omega) (fun _ _ _ hr => hr), h1.nl, fun e => by have := hg1 q e; omega, fun g hg e => by have := hg1 g e; have := h.llt hg; omega, fun b hb => ⟨(h1.dis b hb).1, (h1.dis b hb).2.1, fun e => by have := hg1 b e; have := hb.2; omega⟩⟩
    have k2 : Kept (Gn q lv cv) H H2 := Kept.trans hx1 p2.kept (fun _ f _ => f.elim) (fun _ e _ => .inl e)
    cases on
    · repeat (first | refine codeA (k := ?_) | refine condA (k := ?_) | refine offA (k := ?_) | refine pureA (k := ?_) | refine readA (k := ?_))
      refine At_ret1 rfl rfl ⟨rfl, k2, v9, ?_, hg1⟩
      have : cutL R.cuts a b false = R.cuts.filter (fun c => decide (¬ Sm a b c)) := by unfold cutL; simp
      rw [this]
      exact h2
    · have c2 := h2.c2
      have hfl := List.length_filter_le (fun c => decide (¬ Sm a b c)) R.cuts
      repeat (first | refine codeA (k := ?_) | refine condA (k := ?_) | refine offA (k := ?_) | refine pureA (k := ?_) | refine readA (k := ?_))
      refine At_pure (p_build [.int .i64 a, .int .i64 b] rfl rfl) rfl rfl rfl ?_
      refine At_wp (W_buildSlice1 (cs := #[.int .i64 a, .int .i64 b]) rfl rfl rfl (by decide) rfl ?_) rfl
      intro b3 H3 hn3
      have h3 := h2.ext hn3.ext
      refine At_wp (W_append1 (R := PRow) (a := (a, b)) (row := [.int .i64 a, .int .i64 b]) (fun _ => PRow) rfl rfl h3.cut hn3.at_ rfl rfl rfl (by simp; exact ⟨rfl, rfl⟩) rfl (by decide) (by show (R.cuts.filter (fun c => decide (¬ Sm a b c))).length ≤ _; omega) (by decide) rfl (fun _ _ _ _ _ _ _ hr => hr) ?_) rfl
      intro g4 c4 H4 ho4 hk4 hg4
      have s3 := hn3.size
      have s4 := hk4.size
      have hgH : H.size ≤ g4 := by
        rcases hg4 with e | e
        · exact hg1 g4 e
        · omega
      have k4 := hk4.keep h3.blk (fun e => by have := hg1 q e; omega)
      repeat (first | refine codeA (k := ?_) | refine condA (k := ?_) | refine offA (k := ?_) | refine pureA (k := ?_) | refine readA (k := ?_))
      refine At_wp (W_store rfl rfl k4 rfl rfl rfl rfl ?_) rfl
      intro H5 p5
      repeat (first | refine codeA (k := ?_) | refine condA (k := ?_) | refine offA (k := ?_) | refine pureA (k := ?_) | refine readA (k := ?_))
      have hk45 : Kept (fun i => v9.ownBlock = some i ∨ i = q) H3 H5 := Kept.trans hk4 p5.kept (fun _ e _ => .inl e) (fun _ e _ => .inr e)
      refine At_ret1 rfl rfl ⟨rfl, ?_, _, ⟨p5.at_, ?_, ?_, h3.nl, ?_, ?_, ?_⟩, ?_⟩
      · exact Kept.trans (k2.then_ext hn3.ext) hk45 (fun _ e _ => e) (fun j e hl => by
          rcases e with e | e
          · have := hg1 j e; omega
          · exact .inl e)
      · exact h3.own.keep hk45 (fun g hg e => by
          rcases e with e | e
          · exact h3.lc g hg e
          · exact h3.nl (by rw [hg, e])) (fun x row _ hr => hr.keep hk45 (fun b hb _ => ⟨fun e => by
            rcases e with e | e
            · exact (h3.dis b hb).2.2 e
            · exact (h3.dis b hb).1 e, hb⟩))
      · have : cutL R.cuts a b true = R.cuts.filter (fun c => decide (¬ Sm a b c)) ++ [(a, b)] := by unfold cutL; simp
        rw [this]
        exact ho4.keep p5.kept (fun g hg e => by
          simp only [Value.ownBlock, Option.some.injEq] at hg
          omega) (fun _ _ _ hr => hr)
      · intro e
        simp only [Value.ownBlock, Option.some.injEq] at e
        omega
      · intro g hg e
        simp only [Value.ownBlock, Option.some.injEq] at e
        have := h.llt hg
        omega
      · intro b' hb'
        refine ⟨(h3.dis b' hb').1, (h3.dis b' hb').2.1, fun e => ?_⟩
        simp only [Value.ownBlock, Option.some.injEq] at e
        have := hb'.2
        omega
      · intro g hg
        simp only [Value.ownBlock, Option.some.injEq] at hg
        omega
end Go.Proofs.Ytjgbbegfenmhaaa
