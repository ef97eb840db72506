/- The walks of both Reads: one and the same act. -/
import Derived.Test.YticgbdeoiihbmaaDoorShJ
import Derived.Test.YticgbdeoiihbmaaDoorShM
import Derived.Test.YticgbdeoiihbmaaDoorShN
namespace Go.Proofs.YticgbdeoiihbmaaDoor
open Go Ev
set_option linter.unusedVariables false
set_option linter.unusedSimpArgs false

theorem wordsFrom_len : ∀ (s cur : List UInt8), (wordsFrom cur s).length ≤ s.length + 1
  | [], cur => by simp [wordsFrom]
  | b :: r, cur => by
    rw [wordsFrom]
    split
    · have := wordsFrom_len r []
      simp; omega
    · have := wordsFrom_len r (cur ++ [b])
      simp; omega
theorem wordsFrom_each : ∀ (s cur : List UInt8), ∀ w ∈ wordsFrom cur s, w.length ≤ cur.length + s.length
  | [], cur, w, h => by simp [wordsFrom] at h; subst h; simp
  | b :: r, cur, w, h => by
    rw [wordsFrom] at h
    split at h
    · rcases List.mem_cons.1 h with rfl | h
      · simp
      · have := wordsFrom_each r [] w h
        simp at this ⊢; omega
    · have := wordsFrom_each r (cur ++ [b]) w h
      simp at this ⊢; omega
def rd (l : List UInt8) : Option Ac := match words l with
  | [] => none
  | w0 :: r => if w0 = [115, 117, 98, 109, 105, 116] then sub (w0 :: r) else match nums r with
    | none => none
    | some ns => pl w0 ns
/-- what a Read comes to -/
def RR (o : Option Ac) (H : Heap) (r : Value) (H' : Heap) : Prop :=
  Ext H H' ∧ ∃ p l c, r = .tuple #[.agg (acC (o.getD Ac0) (.slice p l c)).toArray, .int .i64 (if o.isSome = true then 0 else 29)] ∧ Vs iv H' (.slice p l c) (o.getD Ac0).sites
/-- a place for what was read so far -/
structure Got (o : Option Ac) (H0 : Heap) (g : Nat) (a : Ac) (p : Option Addr) (l c : Nat) (H : Heap) : Prop where
  at_ : H[g]? = some (.cells (acC a (.slice p l c)).toArray 33 (0, 0))
  told : ∀ b, o = some b → a = b ∧ Vs iv H (.slice p l c) b.sites ∧ ∀ g, (Value.slice p l c).ownBlock = some g → H0.size ≤ g
attribute [local irreducible] Go.wpList Go.bodyPost Go.Code.wp Go.Exit.then Go.Exit.inBlock Go.Exit.noGoto Ev.wpAnyG Go.Oper.wp Ev.Back Ev.Left Ev.Spc Ev.At Ev.Pure Ev.Reads Ev.Runs Ev.Does Ev.Cell

set_option maxHeartbeats 4000000 in
theorem read_spec {l : List UInt8} {H : Heap} (hL : Lb H) (hl : l.length ≤ 90000) : Spc Tryd.prog 4 #[sv l] H fun r H' => RR (rd l) H r H' := by
  have hlen : (words l).length ≤ 100000 := Nat.le_trans (wordsFrom_len l []) (by omega)
  have heach : ∀ w ∈ words l, w.length ≤ 100000 := fun w hw => Nat.le_trans (wordsFrom_each l [] w hw) (by simp; omega)
  refine spec_of Tryd.func4 rfl Tryd.ntmps4 rfl (fun W => ?_)
  repeat (first | refine codeA (k := ?_) | refine condA (k := ?_) | refine offA (k := ?_) | refine pureA (k := ?_) | refine readA (k := ?_))
  refine At_wp (W_alloc rfl rfl ?_) rfl
  intro g2 H1 n2
  repeat (first | refine codeA (k := ?_) | refine condA (k := ?_) | refine offA (k := ?_) | refine pureA (k := ?_) | refine readA (k := ?_))
  refine At_wp (W_call rfl rfl (split_spec (hL.on n2.ext) l (by omega)) rfl rfl ?_) rfl
  rintro ws H2 ⟨hx2, own⟩
  have hv : Vs sv H2 ws (words l) := Vs.own own (fun x row hr => hr)
  repeat (first | refine codeA (k := ?_) | refine condA (k := ?_) | refine offA (k := ?_) | refine pureA (k := ?_) | refine readA (k := ?_))
  refine At_pure (p_build (acC Ac0 (.slice none 0 0)) rfl rfl) rfl rfl rfl ?_
  refine At_wp (W_alloc rfl rfl ?_) rfl
  intro g5 H3 n5
  refine At_wp (W_storeB rfl rfl n5.at_ rfl rfl rfl rfl ?_) rfl
  intro H4 p5
  have x4 : Ext H2 H4 := ext_put n5.ext p5.kept n5.blk
  have hv := hv.on x4
  have r2 := (hx2.trans x4).keep n2.at_ (fun f => f)
  have r5 := p5.at_
  have l2 : g2 < H2.size := lt_of_heap (hx2.keep n2.at_ (fun f => f))
  have g5e := n5.blk
  have g2e := n2.blk
  have s4 : H4.size = H2.size + 1 := by rw [p5.size, n5.size]
  have x04 := (n2.ext.trans hx2).trans x4
  unfold rd
  obtain ⟨w0, r, hw⟩ : ∃ w0 r, words l = w0 :: r := by
    cases h : words l with
    | nil => exact absurd h (words_ne l [])
    | cons w0 r => exact ⟨w0, r, rfl⟩
  rw [hw] at hv hlen heach ⊢
  dsimp only
  obtain ⟨b, o, c, rfl, hc, hcell⟩ := hv.some (by simp)
  have c0 : Cell H4 b (o + 0 * 1) (sv w0) := hcell 0 w0 rfl
  have e1 : (w0 :: r).length = r.length + 1 := rfl
  (repeat (first | refine pureA (k := ?_)))
  refine At_nil ?_
  refine At_then_normal ?_
  refine At_seq ?_
  generalize ho : (if w0 = [115, 117, 98, 109, 105, 116] then sub (w0 :: r) else match nums r with
    | none => none
    | some ns => pl w0 ns) = res
  refine At_cut (fun (s : Ac × Option Addr × Nat × Nat) => [(2, .pointer (some ⟨g2, 0, none⟩)), (5, .pointer (some ⟨g5, 0, none⟩)), (6, .bool res.isSome)])
    (fun s H' => Got res H2 g5 s.1 s.2.1 s.2.2.1 s.2.2.2 H' ∧ Ext H H' ∧ H'[g2]? = H4[g2]?) ?_ ?_
  · by_cases e0 : w0 = [115, 117, 98, 109, 105, 116]
    · rw [if_pos e0] at ho
      subst e0
      repeat (first | refine codeA (k := ?_) | refine condA (k := ?_) | refine offA (k := ?_) | refine pureA (k := ?_) | refine readA (k := ?_) | refine strA (k := ?_) | refine At_block ?_)
      refine At_wp (W_call rfl rfl (readSubmit_spec hv hlen heach) rfl rfl ?_) rfl
      rintro _ H5 ⟨hx5, a, p, ll, cc, rfl, told⟩
      repeat (first | refine codeA (k := ?_) | refine condA (k := ?_) | refine offA (k := ?_) | refine pureA (k := ?_) | refine readA (k := ?_))
      refine At_wp (W_storeB rfl rfl (hx5.keep r5 (fun f => f)) rfl rfl rfl rfl ?_) rfl
      intro H6 p6
      repeat (first | refine codeA (k := ?_) | refine condA (k := ?_) | refine offA (k := ?_) | refine pureA (k := ?_) | refine readA (k := ?_))
      rw [ho]
      refine At_meet (E := fun (s : Ac × Option Addr × Nat × Nat) => _) (J := fun s H' => Got res H2 g5 s.1 s.2.1 s.2.2.1 s.2.2.2 H' ∧ Ext H H' ∧ H'[g2]? = H4[g2]?) (a, p, ll, cc) ?_ ⟨⟨p6.at_, fun b' e => ?_⟩, ?_, ?_⟩
      · (repeat (first | exact Sub.nil | refine Sub.cons rfl ?_))
      · obtain ⟨t1, t2, t3⟩ := told b' (ho.trans e)
        exact ⟨t1, vs_put t2 p6.kept (fun b e => by have := t3 b e; omega), fun g e => by have := t3 g e; omega⟩
      · refine Kept.trans (x04.trans hx5) p6.kept (fun _ f _ => f) (fun i e hi => by have := hx2.size; have := n2.size; omega)
      · rw [p6.kept.block g2 (by have := hx5.size; omega) (by omega), hx5.block g2 (by omega) (fun f => f)]
    · rw [if_neg e0] at ho
      repeat (first | refine codeA (k := ?_) | refine condA (k := ?_) | refine offA (k := ?_) | refine pureA (k := ?_) | refine readA (k := ?_) | refine strA (k := ?_) | refine At_block ?_)
      refine At_wp (W_dropV 1 hv rfl rfl (by omega) (by omega) rfl ?_) rfl
      intro v2 hv2
      repeat (first | refine codeA (k := ?_) | refine condA (k := ?_) | refine offA (k := ?_) | refine pureA (k := ?_) | refine readA (k := ?_))
      refine At_wp (W_call rfl rfl (numbers_nr hv2 (by simp; omega) (drop_len heach 1)) rfl rfl ?_) rfl
      rintro _ H5 ⟨hx5, v3, rfl, hv3, hnew⟩
      rw [show (w0 :: r).drop 1 = r from rfl] at *
      have r5 := hx5.keep r5 (fun f => f)
      cases hns : nums r with
      | none =>
        rw [hns] at ho
        dsimp only at ho
        subst ho
        repeat (first | refine codeA (k := ?_) | refine condA (k := ?_) | refine offA (k := ?_) | refine pureA (k := ?_) | refine readA (k := ?_))
        refine At_meet (E := fun (s : Ac × Option Addr × Nat × Nat) => _) (J := fun s H' => Got none H2 g5 s.1 s.2.1 s.2.2.1 s.2.2.2 H' ∧ Ext H H' ∧ H'[g2]? = H4[g2]?) (Ac0, none, 0, 0) ?_ ⟨⟨r5, fun b' e => by cases e⟩, x04.trans hx5, hx5.block g2 (by omega) (fun f => f)⟩
        (repeat (first | exact Sub.nil | refine Sub.cons rfl ?_))
      | some ns =>
        rw [hns] at ho hv3
        dsimp only at ho
        have c0 := c0.keep hx5 (fun f => f)
        repeat (first | refine codeA (k := ?_) | refine condA (k := ?_) | refine offA (k := ?_) | refine pureA (k := ?_) | refine readA (k := ?_) | refine strA (k := ?_) | refine At_block ?_)
        refine At_wp (W_call rfl rfl (readPlain_spec w0 hv3) rfl rfl ?_) rfl
        rintro _ H6 ⟨hx6, a, p, ll, cc, rfl, told⟩
        repeat (first | refine codeA (k := ?_) | refine condA (k := ?_) | refine offA (k := ?_) | refine pureA (k := ?_) | refine readA (k := ?_))
        refine At_wp (W_storeB rfl rfl (hx6.keep r5 (fun f => f)) rfl rfl rfl rfl ?_) rfl
        intro H7 p7
        repeat (first | refine codeA (k := ?_) | refine condA (k := ?_) | refine offA (k := ?_) | refine pureA (k := ?_) | refine readA (k := ?_))
        rw [show (pl w0 ((some ns).getD [])) = res from ho] at *
        have s5 := hx5.size
        have s6 := hx6.size
        refine At_meet (E := fun (s : Ac × Option Addr × Nat × Nat) => _) (J := fun s H' => Got res H2 g5 s.1 s.2.1 s.2.2.1 s.2.2.2 H' ∧ Ext H H' ∧ H'[g2]? = H4[g2]?) (a, p, ll, cc) ?_ ⟨⟨p7.at_, fun b' e => ?_⟩, ?_, ?_⟩
        · (repeat (first | exact Sub.nil | refine Sub.cons rfl ?_))
        · obtain ⟨t1, t2, t3⟩ := told b' e
          exact ⟨t1, vs_put t2 p7.kept (fun b e => by have := t3 b e; omega), fun g e => by have := t3 g e; omega⟩
        · refine Kept.trans ((x04.trans hx5).trans hx6) p7.kept (fun _ f _ => f) (fun i e hi => by have := hx2.size; have := n2.size; omega)
        · rw [p7.kept.block g2 (by omega) (by omega), hx6.block g2 (by omega) (fun f => f), hx5.block g2 (by omega) (fun f => f)]
  rintro ⟨a, p, ll, cc⟩ H5 ⟨got, hx5, k2⟩
  dsimp only at got
  rw [r2] at k2
  cases res with
  | none =>
    repeat (first | refine codeA (k := ?_) | refine condA (k := ?_) | refine offA (k := ?_) | refine pureA (k := ?_) | refine readA (k := ?_))
    refine At_pure (p_build (acC Ac0 (.slice none 0 0)) rfl rfl) rfl rfl rfl ?_
    refine At_wp (W_storeB rfl rfl k2 rfl rfl rfl rfl ?_) rfl
    intro H6 p6
    repeat (first | refine codeA (k := ?_) | refine condA (k := ?_) | refine offA (k := ?_) | refine pureA (k := ?_) | refine readA (k := ?_))
    exact At_retC2 rfl rfl p6.at_ rfl rfl rfl ⟨ext_put hx5 p6.kept n2.blk, none, 0, 0, rfl, Vs.nil _ _⟩
  | some b' =>
    obtain ⟨rfl, t2, t3⟩ := got.told b' rfl
    repeat (first | refine codeA (k := ?_) | refine condA (k := ?_) | refine offA (k := ?_) | refine pureA (k := ?_) | refine readA (k := ?_))
    refine At_read (r_loadB rfl got.at_ rfl rfl) rfl rfl rfl ?_
    refine At_wp (W_storeB rfl rfl k2 rfl rfl rfl rfl ?_) rfl
    intro H6 p6
    repeat (first | refine codeA (k := ?_) | refine condA (k := ?_) | refine offA (k := ?_) | refine pureA (k := ?_) | refine readA (k := ?_))
    exact At_retC2 rfl rfl p6.at_ rfl rfl rfl ⟨ext_put hx5 p6.kept n2.blk, p, ll, cc, rfl, vs_put t2 p6.kept (fun b e => by have := t3 b e; omega)⟩
set_option maxHeartbeats 4000000 in
theorem refRead_spec {l : List UInt8} {H : Heap} (hL : Lb H) (hl : l.length ≤ 90000) : Spc Tryd.prog 5 #[sv l] H fun r H' => RR (rd l) H r H' := by
  have hlen : (words l).length ≤ 100000 := Nat.le_trans (wordsFrom_len l []) (by omega)
  have heach : ∀ w ∈ words l, w.length ≤ 100000 := fun w hw => Nat.le_trans (wordsFrom_each l [] w hw) (by simp; omega)
  refine spec_of Tryd.func5 rfl Tryd.ntmps5 rfl (fun W => ?_)
  repeat (first | refine codeA (k := ?_) | refine condA (k := ?_) | refine offA (k := ?_) | refine pureA (k := ?_) | refine readA (k := ?_))
  refine At_wp (W_alloc rfl rfl ?_) rfl
  intro g2 H1 n2
  repeat (first | refine codeA (k := ?_) | refine condA (k := ?_) | refine offA (k := ?_) | refine pureA (k := ?_) | refine readA (k := ?_))
  refine At_wp (W_call rfl rfl (refWords_spec l H1 (by omega)) rfl rfl ?_) rfl
  rintro ws H2 fresh
  have hx2 := fresh.ext
  have hv : Vs sv H2 ws (words l) := Vs.own fresh.own (fun x row hr => hr)
  repeat (first | refine codeA (k := ?_) | refine condA (k := ?_) | refine offA (k := ?_) | refine pureA (k := ?_) | refine readA (k := ?_))
  refine At_wp (W_call rfl rfl (submit_spec ((hL.on n2.ext).on hx2) hv hlen heach) rfl rfl ?_) rfl
  rintro _ H3 ⟨hx3, a0, p0, l0, q0, rfl, told0⟩
  repeat (first | refine codeA (k := ?_) | refine condA (k := ?_) | refine offA (k := ?_) | refine pureA (k := ?_) | refine readA (k := ?_))
  refine At_wp (W_alloc rfl rfl ?_) rfl
  intro g5 H4' n5
  refine At_wp (W_storeB rfl rfl n5.at_ rfl rfl rfl rfl ?_) rfl
  intro H4 p5
  have x34 : Ext H3 H4 := ext_put n5.ext p5.kept n5.blk
  have x4 : Ext H2 H4 := hx3.trans x34
  have hv := hv.on x4
  have r2 := (hx2.trans x4).keep n2.at_ (fun f => f)
  have r5 := p5.at_
  have l2 : g2 < H2.size := lt_of_heap (hx2.keep n2.at_ (fun f => f))
  have g5e := n5.blk
  have g2e := n2.blk
  have z3 := hx3.size
  have s4 : H4.size = H3.size + 1 := by rw [p5.size, n5.size]
  have x04 := (n2.ext.trans hx2).trans x4
  have hL4 := hL.on x04
  unfold rd
  obtain ⟨w0, r, hw⟩ : ∃ w0 r, words l = w0 :: r := by
    cases h : words l with
    | nil => exact absurd h (words_ne l [])
    | cons w0 r => exact ⟨w0, r, rfl⟩
  rw [hw] at hv hlen heach told0 ⊢
  dsimp only
  obtain ⟨b, o, c, rfl, hc, hcell⟩ := hv.some (by simp)
  have c0 : Cell H4 b (o + 0 * 1) (sv w0) := hcell 0 w0 rfl
  have e1 : (w0 :: r).length = r.length + 1 := rfl
  (repeat (first | refine pureA (k := ?_)))
  refine At_nil ?_
  refine At_then_normal ?_
  refine At_seq ?_
  generalize ho : (if w0 = [115, 117, 98, 109, 105, 116] then sub (w0 :: r) else match nums r with
    | none => none
    | some ns => pl w0 ns) = res
  refine At_cut (fun (s : Ac × Option Addr × Nat × Nat) => [(2, .pointer (some ⟨g2, 0, none⟩)), (5, .pointer (some ⟨g5, 0, none⟩)), (6, .bool res.isSome)])
    (fun s H' => Got res H2 g5 s.1 s.2.1 s.2.2.1 s.2.2.2 H' ∧ Ext H H' ∧ H'[g2]? = H4[g2]?) ?_ ?_
  · by_cases e0 : w0 = [115, 117, 98, 109, 105, 116]
    · rw [if_pos e0] at ho
      subst e0
      rw [show subR ([115, 117, 98, 109, 105, 116] :: r) = res from ho]
      rw [show subR ([115, 117, 98, 109, 105, 116] :: r) = res from ho] at told0
      have got : Got res H2 g5 a0 p0 l0 q0 H4 := ⟨r5, fun b' e => by
        obtain ⟨t1, t2, t3⟩ := told0 b' e
        exact ⟨t1, t2.on x34, t3⟩⟩
      cases res with
      | none =>
        repeat (first | refine codeA (k := ?_) | refine condA (k := ?_) | refine offA (k := ?_) | refine pureA (k := ?_) | refine readA (k := ?_) | refine strA (k := ?_) | refine At_block ?_)
        refine At_meet (E := fun (s : Ac × Option Addr × Nat × Nat) => _) (J := fun s H' => Got none H2 g5 s.1 s.2.1 s.2.2.1 s.2.2.2 H' ∧ Ext H H' ∧ H'[g2]? = H4[g2]?) (a0, p0, l0, q0) ?_ ⟨got, x04, rfl⟩
        (repeat (first | exact Sub.nil | refine Sub.cons rfl ?_))
      | some b' =>
        repeat (first | refine codeA (k := ?_) | refine condA (k := ?_) | refine offA (k := ?_) | refine pureA (k := ?_) | refine readA (k := ?_) | refine strA (k := ?_) | refine At_block ?_)
        refine At_meet (E := fun (s : Ac × Option Addr × Nat × Nat) => _) (J := fun s H' => Got (some b') H2 g5 s.1 s.2.1 s.2.2.1 s.2.2.2 H' ∧ Ext H H' ∧ H'[g2]? = H4[g2]?) (a0, p0, l0, q0) ?_ ⟨got, x04, rfl⟩
        (repeat (first | exact Sub.nil | refine Sub.cons rfl ?_))
    · rw [if_neg e0] at ho
      rw [show subR (w0 :: r) = none from if_neg (fun e => e0 (by simpa using e))]
      repeat (first | refine codeA (k := ?_) | refine condA (k := ?_) | refine offA (k := ?_) | refine pureA (k := ?_) | refine readA (k := ?_) | refine strA (k := ?_) | refine At_block ?_)
      refine At_wp (W_dropV 1 hv rfl rfl (by omega) (by omega) rfl ?_) rfl
      intro v2 hv2
      repeat (first | refine codeA (k := ?_) | refine condA (k := ?_) | refine offA (k := ?_) | refine pureA (k := ?_) | refine readA (k := ?_))
      refine At_wp (W_call rfl rfl (refNumbers_nr hL4 hv2 (by simp; omega) (drop_len heach 1)) rfl rfl ?_) rfl
      rintro _ H5 ⟨hx5, v3, rfl, hv3, hnew⟩
      rw [show (w0 :: r).drop 1 = r from rfl] at *
      have r5 := hx5.keep r5 (fun f => f)
      cases hns : nums r with
      | none =>
        rw [hns] at ho
        dsimp only at ho
        subst ho
        repeat (first | refine codeA (k := ?_) | refine condA (k := ?_) | refine offA (k := ?_) | refine pureA (k := ?_) | refine readA (k := ?_))
        refine At_meet (E := fun (s : Ac × Option Addr × Nat × Nat) => _) (J := fun s H' => Got none H2 g5 s.1 s.2.1 s.2.2.1 s.2.2.2 H' ∧ Ext H H' ∧ H'[g2]? = H4[g2]?) (a0, p0, l0, q0) ?_ ⟨⟨r5, fun b' e => by cases e⟩, x04.trans hx5, hx5.block g2 (by omega) (fun f => f)⟩
        (repeat (first | exact Sub.nil | refine Sub.cons rfl ?_))
      | some ns =>
        rw [hns] at ho hv3
        dsimp only at ho
        have c0 := c0.keep hx5 (fun f => f)
        repeat (first | refine codeA (k := ?_) | refine condA (k := ?_) | refine offA (k := ?_) | refine pureA (k := ?_) | refine readA (k := ?_) | refine strA (k := ?_) | refine At_block ?_)
        refine At_wp (W_call rfl rfl (plain_spec w0 hv3) rfl rfl ?_) rfl
        rintro _ H6 ⟨hx6, a, p, ll, cc, rfl, told⟩
        repeat (first | refine codeA (k := ?_) | refine condA (k := ?_) | refine offA (k := ?_) | refine pureA (k := ?_) | refine readA (k := ?_))
        refine At_wp (W_storeB rfl rfl (hx6.keep r5 (fun f => f)) rfl rfl rfl rfl ?_) rfl
        intro H7 p7
        repeat (first | refine codeA (k := ?_) | refine condA (k := ?_) | refine offA (k := ?_) | refine pureA (k := ?_) | refine readA (k := ?_))
        rw [show (pl w0 ((some ns).getD [])) = res from ho] at *
        have s5 := hx5.size
        have s6 := hx6.size
        refine At_meet (E := fun (s : Ac × Option Addr × Nat × Nat) => _) (J := fun s H' => Got res H2 g5 s.1 s.2.1 s.2.2.1 s.2.2.2 H' ∧ Ext H H' ∧ H'[g2]? = H4[g2]?) (a, p, ll, cc) ?_ ⟨⟨p7.at_, fun b' e => ?_⟩, ?_, ?_⟩
        · (repeat (first | exact Sub.nil | refine Sub.cons rfl ?_))
        · obtain ⟨t1, t2, t3⟩ := told b' e
          exact ⟨t1, vs_put t2 p7.kept (fun b e => by have := t3 b e; omega), fun g e => by have := t3 g e; omega⟩
        · refine Kept.trans ((x04.trans hx5).trans hx6) p7.kept (fun _ f _ => f) (fun i e hi => by have := hx2.size; have := n2.size; omega)
        · rw [p7.kept.block g2 (by omega) (by omega), hx6.block g2 (by omega) (fun f => f), hx5.block g2 (by omega) (fun f => f)]
  rintro ⟨a, p, ll, cc⟩ H5 ⟨got, hx5, k2⟩
  dsimp only at got
  rw [r2] at k2
  cases res with
  | none =>
    repeat (first | refine codeA (k := ?_) | refine condA (k := ?_) | refine offA (k := ?_) | refine pureA (k := ?_) | refine readA (k := ?_))
    refine At_pure (p_build (acC Ac0 (.slice none 0 0)) rfl rfl) rfl rfl rfl ?_
    refine At_wp (W_storeB rfl rfl k2 rfl rfl rfl rfl ?_) rfl
    intro H6 p6
    repeat (first | refine codeA (k := ?_) | refine condA (k := ?_) | refine offA (k := ?_) | refine pureA (k := ?_) | refine readA (k := ?_))
    exact At_retC2 rfl rfl p6.at_ rfl rfl rfl ⟨ext_put hx5 p6.kept n2.blk, none, 0, 0, rfl, Vs.nil _ _⟩
  | some b' =>
    obtain ⟨rfl, t2, t3⟩ := got.told b' rfl
    repeat (first | refine codeA (k := ?_) | refine condA (k := ?_) | refine offA (k := ?_) | refine pureA (k := ?_) | refine readA (k := ?_))
    refine At_read (r_loadB rfl got.at_ rfl rfl) rfl rfl rfl ?_
    refine At_wp (W_storeB rfl rfl k2 rfl rfl rfl rfl ?_) rfl
    intro H6 p6
    repeat (first | refine codeA (k := ?_) | refine condA (k := ?_) | refine offA (k := ?_) | refine pureA (k := ?_) | refine readA (k := ?_))
    exact At_retC2 rfl rfl p6.at_ rfl rfl rfl ⟨ext_put hx5 p6.kept n2.blk, p, ll, cc, rfl, vs_put t2 p6.kept (fun b e => by have := t3 b e; omega)⟩
end Go.Proofs.YticgbdeoiihbmaaDoor
