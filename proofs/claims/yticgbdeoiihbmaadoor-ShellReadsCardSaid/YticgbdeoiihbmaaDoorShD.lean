/- The page's way to read a number and cut a line, walked. -/
import Derived.Test.YticgbdeoiihbmaaDoorShC
namespace Go.Proofs.YticgbdeoiihbmaaDoor
open Go Ev
set_option linter.unusedVariables false
set_option linter.unusedSimpArgs false

theorem bound10 (d : Int) (h0 : 0 ≤ d) (h1 : d ≤ 9) : -922337203685477580 ≤ (-9223372036854775808 + d).tdiv 10 ∧ (-9223372036854775808 + d).tdiv 10 ≤ -922337203685477579 := by
  have : d = 0 ∨ d = 1 ∨ d = 2 ∨ d = 3 ∨ d = 4 ∨ d = 5 ∨ d = 6 ∨ d = 7 ∨ d = 8 ∨ d = 9 := by omega
  rcases this with e | e | e | e | e | e | e | e | e | e <;> subst e <;> decide
theorem neg1_cons (b : UInt8) (r : List UInt8) : neg1 (b :: r) = decide (b.toNat = 45) := by
  unfold neg1
  have : (List.take 1 (b :: r) = [45]) ↔ b.toNat = 45 := by
    simp only [List.take_succ_cons, List.take_zero, List.cons.injEq, and_true]
    exact ⟨fun e => by rw [e]; rfl, fun e => by rw [byte_eq e]; rfl⟩
  simp only [this]
def at0 (l : List UInt8) : Nat := if neg1 l = true then 1 else 0
theorem digs_len (l : List UInt8) : at0 l + (digs l).length = l.length := by
  unfold at0 digs
  cases h : neg1 l
  · simp
  · have : l.take 1 = [45] := of_decide_eq_true h
    have h2 := congrArg List.length this
    simp at h2 ⊢
    omega
theorem digs_get (l : List UInt8) (i : Nat) : l[at0 l + i]? = (digs l)[i]? := by
  unfold at0 digs
  cases h : neg1 l
  · simp
  · simp [Nat.add_comm]
attribute [local irreducible] Go.wpList Go.bodyPost Go.Code.wp Go.Exit.then Go.Exit.inBlock Go.Exit.noGoto Ev.wpAnyG Go.Oper.wp Ev.Back Ev.Left Ev.Spc Ev.At Ev.Pure Ev.Reads Ev.Runs Ev.Does Ev.Cell

set_option maxHeartbeats 2000000 in
theorem whole_spec (l : List UInt8) (H : Heap) (hl : l.length ≤ 14) : Spc Tryd.prog 30 #[sv l] H fun r H' => H = H' ∧ r = numRes (whl l) := by
  have hdl := digs_len l
  have hdg := digs_get l
  have hn0 : l = [] → neg1 l = false := fun e => by rw [e]; rfl
  have hn1 : ∀ b r, l = b :: r → neg1 l = decide (b.toNat = 45) := fun b r e => by rw [e, neg1_cons]
  have ha : at0 l = if neg1 l = true then 1 else 0 := rfl
  unfold whl
  generalize hds : digs l = ds at *
  refine spec_of Tryd.func30 rfl Tryd.ntmps30 rfl (fun W => ?_)
  refine At_seq ?_
  refine At_region ?_
  (repeat (first | refine pureA (k := ?_)))
  refine At_nil ?_
  refine At_then_normal ?_
  refine At_seq ?_
  refine At_cut (fun (s : Unit) => [(0, sv l), (4, .bool (neg1 l))]) (fun s H' => H' = H) ?_ ?_
  · repeat (first | refine codeA (k := ?_) | refine condA (k := ?_) | refine offA (k := ?_) | refine pureA (k := ?_) | refine readA (k := ?_))
    refine At_pure (p_lenS rfl rfl) rfl rfl rfl ?_
    cases l with
    | nil =>
      rw [hn0 rfl]
      have : ([] : List UInt8).length = 0 := rfl
      repeat (first | refine codeA (k := ?_) | refine condA (k := ?_) | refine offA (k := ?_) | refine pureA (k := ?_) | refine readA (k := ?_))
      refine At_meet (E := fun (s : Unit) => _) (J := fun s H' => H' = H) () ?_ rfl
      (repeat (first | exact Sub.nil | refine Sub.cons rfl ?_))
    | cons b r =>
      rw [hn1 b r rfl]
      have : 0 < (b :: r).length := by simp
      repeat (first | refine codeA (k := ?_) | refine condA (k := ?_) | refine offA (k := ?_) | refine pureA (k := ?_) | refine readA (k := ?_))
      refine At_pure (p_indexS (i := 0) (b := b) rfl rfl rfl) rfl rfl rfl ?_
      by_cases hb : b.toNat = 45
      · rw [decide_eq_true hb]
        repeat (first | refine codeA (k := ?_) | refine condA (k := ?_) | refine offA (k := ?_) | refine pureA (k := ?_) | refine readA (k := ?_))
        refine At_meet (E := fun (s : Unit) => _) (J := fun s H' => H' = H) () ?_ rfl
        (repeat (first | exact Sub.nil | refine Sub.cons rfl ?_))
      · rw [decide_eq_false hb]
        repeat (first | refine codeA (k := ?_) | refine condA (k := ?_) | refine offA (k := ?_) | refine pureA (k := ?_) | refine readA (k := ?_))
        refine At_meet (E := fun (s : Unit) => _) (J := fun s H' => H' = H) () ?_ rfl
        (repeat (first | exact Sub.nil | refine Sub.cons rfl ?_))
  rintro _ _ rfl
  rename_i H
  refine At_seq ?_
  refine At_region ?_
  (repeat (first | refine pureA (k := ?_)))
  refine At_nil ?_
  refine At_then_normal ?_
  refine At_seq ?_
  refine At_cut (fun (s : Unit) => [(0, sv l), (4, .bool (neg1 l)), (5, .int .i64 (at0 l))]) (fun s H' => H' = H) ?_ ?_
  · rw [ha]
    cases neg1 l
    · repeat (first | refine codeA (k := ?_) | refine condA (k := ?_) | refine offA (k := ?_) | refine pureA (k := ?_) | refine readA (k := ?_))
      refine At_meet (E := fun (s : Unit) => _) (J := fun s H' => H' = H) () ?_ rfl
      (repeat (first | exact Sub.nil | refine Sub.cons rfl ?_))
    · repeat (first | refine codeA (k := ?_) | refine condA (k := ?_) | refine offA (k := ?_) | refine pureA (k := ?_) | refine readA (k := ?_))
      refine At_meet (E := fun (s : Unit) => _) (J := fun s H' => H' = H) () ?_ rfl
      (repeat (first | exact Sub.nil | refine Sub.cons rfl ?_))
  rintro _ _ rfl
  rename_i H
  repeat (first | refine codeA (k := ?_) | refine condA (k := ?_) | refine offA (k := ?_) | refine pureA (k := ?_) | refine readA (k := ?_))
  refine At_pure (p_lenS rfl rfl) rfl rfl rfl ?_
  by_cases h0 : ds = []
  · rw [if_pos h0]
    have : at0 l = l.length := by rw [h0] at hdl; simpa using hdl
    repeat (first | refine codeA (k := ?_) | refine condA (k := ?_) | refine offA (k := ?_) | refine pureA (k := ?_) | refine readA (k := ?_))
    exact At_ret2 rfl rfl rfl ⟨rfl, rfl⟩
  rw [if_neg h0]
  have hp : 1 ≤ ds.length := List.length_pos_iff.2 h0
  have ha1 : at0 l ≤ 1 := by rw [ha]; split <;> omega
  repeat (first | refine codeA (k := ?_) | refine condA (k := ?_) | refine offA (k := ?_) | refine pureA (k := ?_) | refine readA (k := ?_))
  refine At_cut (fun (s : Unit) => [(4, .bool (neg1 l)), (6, .int .i64 (-(dval ds : Int)))]) (fun s H' => H' = H ∧ ds.all isD = true) ?_ ?_
  · refine At_block ?_
    refine At_loop (fun (s : Nat) => [(0, sv l), (4, .bool (neg1 l)), (5, .int .i64 (at0 l + s : Nat)), (6, .int .i64 (-(dval (ds.take s) : Int)))]) (fun s H' => H' = H ∧ s ≤ ds.length ∧ (ds.take s).all isD = true) (fun s => ds.length - s) 0 ?_ ⟨rfl, Nat.zero_le _, rfl⟩ ?_
    · (repeat (first | exact Sub.nil | refine Sub.cons rfl ?_))
    rintro i H1 ⟨rfl, hi, hall⟩
    repeat (first | refine codeA (k := ?_) | refine condA (k := ?_) | refine offA (k := ?_) | refine pureA (k := ?_) | refine readA (k := ?_))
    refine At_pure (p_lenS rfl rfl) rfl rfl rfl ?_
    by_cases hil : i < ds.length
    rotate_left
    · obtain rfl : i = ds.length := by omega
      rw [List.take_length] at *
      repeat (first | refine codeA (k := ?_) | refine condA (k := ?_) | refine offA (k := ?_) | refine pureA (k := ?_) | refine readA (k := ?_))
      refine At_meet (E := fun (s : Unit) => [(4, .bool (neg1 l)), (6, .int .i64 (-(dval ds : Int)))]) (J := fun s H' => H' = H1 ∧ ds.all isD = true) () ?_ ⟨rfl, hall⟩
      (repeat (first | exact Sub.nil | refine Sub.cons rfl ?_))
    have hx : ds[i]? = some ds[i] := by simp [hil]
    generalize ds[i] = b at hx
    have h255 : b.toNat < 256 := b.toNat_lt
    have htk : ds.take (i + 1) = ds.take i ++ [b] := by rw [List.take_add_one, hx]; rfl
    have hdv : dval (ds.take (i + 1)) = 10 * dval (ds.take i) + (b.toNat - 48) := by rw [htk, dval_snoc]
    have hlt := dval_lt _ hall
    have hlt2 : 10 ^ (ds.take i).length ≤ 10 ^ 13 := Nat.pow_le_pow_right (by decide) (by simp; omega)
    repeat (first | refine codeA (k := ?_) | refine condA (k := ?_) | refine offA (k := ?_) | refine pureA (k := ?_) | refine readA (k := ?_) | refine At_block ?_)
    refine At_pure (p_indexS (i := at0 l + i) (b := b) rfl rfl (by rw [hdg, hx])) rfl rfl rfl ?_
    refine At_pure (p_convInt rfl) rfl rfl rfl ?_
    refine At_tell 30 (.int .i64 (b.toNat : Int)) rfl (by rw [IntWalk.i64_in _ (by omega)]) ?_
    repeat (first | refine codeA (k := ?_) | refine condA (k := ?_) | refine offA (k := ?_) | refine pureA (k := ?_) | refine readA (k := ?_))
    have hnd : ¬ (48 ≤ b.toNat ∧ b.toNat ≤ 57) → ¬ ds.all isD = true := fun h e => h (all_digit e (List.mem_of_getElem? hx))
    by_cases hb1 : b.toNat < 48
    · rw [if_neg (hnd (by omega))]
      repeat (first | refine codeA (k := ?_) | refine condA (k := ?_) | refine offA (k := ?_) | refine pureA (k := ?_) | refine readA (k := ?_))
      exact At_ret2 rfl rfl rfl ⟨rfl, rfl⟩
    by_cases hb2 : 57 < b.toNat
    · rw [if_neg (hnd (by omega))]
      repeat (first | refine codeA (k := ?_) | refine condA (k := ?_) | refine offA (k := ?_) | refine pureA (k := ?_) | refine readA (k := ?_))
      exact At_ret2 rfl rfl rfl ⟨rfl, rfl⟩
    have hbd := bound10 ((b.toNat : Int) - 48) (by omega) (by omega)
    repeat (first | refine codeA (k := ?_) | refine condA (k := ?_) | refine offA (k := ?_) | refine pureA (k := ?_) | refine readA (k := ?_))
    refine At_pure (p_quoT rfl rfl (by decide) ⟨Int.le_trans (by decide) hbd.1, Int.le_trans hbd.2 (by decide)⟩) rfl rfl rfl ?_
    generalize (-9223372036854775808 + ((b.toNat : Int) - 48)).tdiv 10 = q at *
    repeat (first | refine codeA (k := ?_) | refine condA (k := ?_) | refine offA (k := ?_) | refine pureA (k := ?_) | refine readA (k := ?_))
    refine At_pure (p_mul rfl rfl (by omega)) rfl rfl rfl ?_
    repeat (first | refine codeA (k := ?_) | refine condA (k := ?_) | refine offA (k := ?_) | refine pureA (k := ?_) | refine readA (k := ?_))
    refine At_tell 5 (.int .i64 (at0 l + (i + 1) : Nat)) rfl (by congr 1) ?_
    refine At_tell 6 (.int .i64 (-(dval (ds.take (i + 1)) : Int))) rfl (by rw [hdv]; congr 1; omega) ?_
    refine At_back (i + 1) ?_ ⟨rfl, by omega, ?_⟩ (by omega)
    · (repeat (first | exact Sub.nil | refine Sub.cons rfl ?_))
    · rw [htk, List.all_append, hall]
      simp [isD]
      omega
  rintro _ _ ⟨rfl, hall⟩
  rename_i H
  have hlt := dval_lt _ hall
  have hlt2 : 10 ^ ds.length ≤ 10 ^ 14 := Nat.pow_le_pow_right (by decide) (by omega)
  rw [if_pos hall]
  cases neg1 l
  · repeat (first | refine codeA (k := ?_) | refine condA (k := ?_) | refine offA (k := ?_) | refine pureA (k := ?_) | refine readA (k := ?_))
    refine At_pure (p_negw rfl (by omega)) rfl rfl rfl ?_
    repeat (first | refine codeA (k := ?_) | refine condA (k := ?_) | refine offA (k := ?_) | refine pureA (k := ?_) | refine readA (k := ?_))
    refine At_ret2 rfl rfl rfl ⟨rfl, ?_⟩
    rw [show -(-(dval ds : Int)) = dval ds by omega]
    rfl
  · repeat (first | refine codeA (k := ?_) | refine condA (k := ?_) | refine offA (k := ?_) | refine pureA (k := ?_) | refine readA (k := ?_))
    exact At_ret2 rfl rfl rfl ⟨rfl, rfl⟩

theorem tdiv10 (n : Int) : (n.tdiv 10).natAbs = n.natAbs / 10 := by
  rw [Int.natAbs_tdiv]
  rfl
theorem dgs_step {n : Nat} (h : n ≠ 0) : dgs n = dgs (n / 10) + 1 := by rw [dgs, dif_neg h]
theorem dgs_zero : dgs 0 = 0 := by rw [dgs, dif_pos rfl]
set_option maxHeartbeats 2000000 in
theorem digits_spec (n : Int) (H : Heap) (h0 : -9223372036854775808 ≤ n) (h1 : n ≤ 9223372036854775807) : Spc Tryd.prog 32 #[.int .i64 n] H fun r H' => H = H' ∧ r = .int .i64 (dgs n.natAbs) := by
  have hm : ∀ m : Nat, m < 10 ^ 19 → dgs m ≤ 19 := fun m => (dgs_le 19 m).2
  refine spec_of Tryd.func32 rfl Tryd.ntmps32 rfl (fun W => ?_)
  repeat (first | refine codeA (k := ?_) | refine condA (k := ?_) | refine offA (k := ?_) | refine pureA (k := ?_) | refine readA (k := ?_))
  refine At_block ?_
  refine At_loop (fun (s : Int × Nat) => [(0, .int .i64 s.1), (3, .int .i64 s.2)]) (fun s H' => H' = H ∧ -9223372036854775808 ≤ s.1 ∧ s.1 ≤ 9223372036854775807 ∧ s.2 + dgs s.1.natAbs = dgs n.natAbs) (fun s => s.1.natAbs) (n, 0) ?_ ⟨rfl, h0, h1, by simp⟩ ?_
  · (repeat (first | exact Sub.nil | refine Sub.cons rfl ?_))
  rintro ⟨m, k⟩ H1 ⟨rfl, g0, g1, hk⟩
  dsimp only at g0 g1 hk
  have hk9 := hm n.natAbs (by omega)
  by_cases hz : m = 0
  · subst hz
    rw [show (0 : Int).natAbs = 0 from rfl, dgs_zero] at hk
    repeat (first | refine codeA (k := ?_) | refine condA (k := ?_) | refine offA (k := ?_) | refine pureA (k := ?_) | refine readA (k := ?_))
    refine At_ret1 rfl rfl ⟨rfl, ?_⟩
    rw [← hk]; rfl
  · have hd := tdiv10 m
    have hs := dgs_step (n := m.natAbs) (by omega)
    repeat (first | refine codeA (k := ?_) | refine condA (k := ?_) | refine offA (k := ?_) | refine pureA (k := ?_) | refine readA (k := ?_) | refine At_block ?_)
    refine At_pure (p_quoT rfl rfl (by decide) (by dsimp only; omega)) rfl rfl rfl ?_
    repeat (first | refine codeA (k := ?_) | refine condA (k := ?_) | refine offA (k := ?_) | refine pureA (k := ?_) | refine readA (k := ?_))
    refine At_tell 3 (.int .i64 (k + 1 : Nat)) rfl rfl ?_
    refine At_back (m.tdiv 10, k + 1) ?_ ⟨rfl, by dsimp only; omega, by dsimp only; omega, ?_⟩ ?_
    · (repeat (first | exact Sub.nil | refine Sub.cons rfl ?_))
    · show k + 1 + dgs (m.tdiv 10).natAbs = _
      rw [hd, ← hk, hs]
      omega
    · show (m.tdiv 10).natAbs < m.natAbs
      omega
theorem itoa2_spec {H : Heap} (h : Lb H) (n : Int) (h0 : -9223372036854775808 ≤ n) (h1 : n ≤ 9223372036854775807) : Spc Tryd.prog 31 #[.int .i64 n] H fun r H' => Ext H H' ∧ r = sv (Lib.itoa n) := by
  refine spec_of Tryd.func31 rfl Tryd.ntmps31 rfl (fun W => ?_)
  repeat (first | refine codeA (k := ?_) | refine condA (k := ?_) | refine offA (k := ?_) | refine pureA (k := ?_) | refine readA (k := ?_))
  refine At_wp (W_call rfl rfl (itoa_spec h n h0 h1) rfl rfl ?_) rfl
  rintro _ H' ⟨hx, rfl⟩
  repeat (first | refine codeA (k := ?_) | refine condA (k := ?_) | refine offA (k := ?_) | refine pureA (k := ?_) | refine readA (k := ?_))
  exact At_ret1 rfl rfl ⟨hx, rfl⟩
theorem sv_inj {a b : List UInt8} : (sv a = sv b) ↔ a = b := by
  constructor
  · intro h
    injection h with h
    injection h with h
    have := congrArg Array.toList h
    simpa using this
  · rintro rfl; rfl
theorem whl_bound (l : List UInt8) (hl : l.length ≤ 14) (n : Int) (h : whl l = some n) : -100000000000000 < n ∧ n < 100000000000000 := by
  unfold whl at h
  split at h
  · cases h
  · split at h
    · rename_i ha
      have := dval_lt _ ha
      have hd := digs_len l
      have : 10 ^ (digs l).length ≤ 10 ^ 14 := Nat.pow_le_pow_right (by decide) (by omega)
      simp only [Option.some.injEq] at h
      subst h
      unfold sgn
      split <;> omega
    · cases h
set_option maxHeartbeats 2000000 in
theorem refNumber_spec (l : List UInt8) {H : Heap} (h : Lb H) (hl : l.length ≤ 1000000) : Spc Tryd.prog 24 #[sv l] H fun r H' => Ext H H' ∧ r = numRes (num l) := by
  rw [← numR_eq]
  unfold numR
  refine spec_of Tryd.func24 rfl Tryd.ntmps24 rfl (fun W => ?_)
  repeat (first | refine codeA (k := ?_) | refine condA (k := ?_) | refine offA (k := ?_) | refine pureA (k := ?_) | refine readA (k := ?_))
  refine At_pure (p_lenS rfl rfl) rfl rfl rfl ?_
  by_cases h14 : 14 < l.length
  · rw [if_pos h14]
    repeat (first | refine codeA (k := ?_) | refine condA (k := ?_) | refine offA (k := ?_) | refine pureA (k := ?_) | refine readA (k := ?_))
    exact At_ret2 rfl rfl rfl ⟨Kept.refl _ _, rfl⟩
  rw [if_neg h14]
  repeat (first | refine codeA (k := ?_) | refine condA (k := ?_) | refine offA (k := ?_) | refine pureA (k := ?_) | refine readA (k := ?_))
  refine At_wp (W_call rfl rfl (whole_spec l H (by omega)) rfl rfl ?_) rfl
  rintro _ _ ⟨rfl, rfl⟩
  have hb := whl_bound l (by omega)
  cases hw : whl l with
  | none =>
    repeat (first | refine codeA (k := ?_) | refine condA (k := ?_) | refine offA (k := ?_) | refine pureA (k := ?_) | refine readA (k := ?_))
    exact At_ret2 rfl rfl rfl ⟨Kept.refl _ _, rfl⟩
  | some n =>
    have hb := hb n hw
    dsimp only
    repeat (first | refine codeA (k := ?_) | refine condA (k := ?_) | refine offA (k := ?_) | refine pureA (k := ?_) | refine readA (k := ?_))
    refine At_wp (W_call rfl rfl (itoa2_spec h n (by omega) (by omega)) rfl rfl ?_) rfl
    rintro _ H' ⟨hx, rfl⟩
    repeat (first | refine codeA (k := ?_) | refine condA (k := ?_) | refine offA (k := ?_) | refine pureA (k := ?_) | refine readA (k := ?_))
    refine At_tell 18 (sv (Lib.itoa n)) rfl rfl ?_
    refine At_pure (p_neq_string rfl rfl) rfl rfl rfl ?_
    by_cases he : Lib.itoa n ≠ l
    · rw [if_pos he]
      refine At_tell 20 (.bool true) rfl (by rw [decide_eq_true he]) ?_
      repeat (first | refine codeA (k := ?_) | refine condA (k := ?_) | refine offA (k := ?_) | refine pureA (k := ?_) | refine readA (k := ?_))
      exact At_ret2 rfl rfl rfl ⟨hx, rfl⟩
    rw [if_neg he]
    refine At_tell 20 (.bool false) rfl (by rw [decide_eq_false he]) ?_
    repeat (first | refine codeA (k := ?_) | refine condA (k := ?_) | refine offA (k := ?_) | refine pureA (k := ?_) | refine readA (k := ?_))
    refine At_wp (W_call rfl rfl (digits_spec n H' (by omega) (by omega)) rfl rfl ?_) rfl
    rintro _ _ ⟨rfl, rfl⟩
    rename_i H'
    by_cases hd : 13 < dgs n.natAbs
    · rw [if_pos hd]
      repeat (first | refine codeA (k := ?_) | refine condA (k := ?_) | refine offA (k := ?_) | refine pureA (k := ?_) | refine readA (k := ?_))
      exact At_ret2 rfl rfl rfl ⟨hx, rfl⟩
    · rw [if_neg hd]
      repeat (first | refine codeA (k := ?_) | refine condA (k := ?_) | refine offA (k := ?_) | refine pureA (k := ?_) | refine readA (k := ?_))
      exact At_ret2 rfl rfl rfl ⟨hx, rfl⟩

end Go.Proofs.YticgbdeoiihbmaaDoor
