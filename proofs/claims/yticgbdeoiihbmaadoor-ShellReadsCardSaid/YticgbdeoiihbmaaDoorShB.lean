/- Which words are numbers: the two ways to ask are one. No program in sight. -/
import Derived.Lib.ItoaNum
import Derived.Lib.ItoaMem
namespace Go.Proofs.YticgbdeoiihbmaaDoor
open Go
set_option linter.unusedVariables false
set_option linter.unusedSimpArgs false

def isD (b : UInt8) : Bool := decide (48 ≤ b.toNat ∧ b.toNat ≤ 57)
def dval (l : List UInt8) : Nat := l.foldl (fun n b => 10 * n + (b.toNat - 48)) 0
def neg1 (l : List UInt8) : Bool := decide (l.take 1 = [45])
def digs (l : List UInt8) : List UInt8 := if neg1 l = true then l.drop 1 else l
def sgn (s : Bool) (n : Nat) : Int := if s = true then -(n : Int) else n
/-- the number of a word -/
def num (l : List UInt8) : Option Int :=
  if (digs l).length < 1 ∨ 13 < (digs l).length ∨ ((digs l).take 1 = [48] ∧ (neg1 l = true ∨ 1 < (digs l).length)) then none
  else if (digs l).all isD = true then some (sgn (neg1 l) (dval (digs l))) else none
def whl (l : List UInt8) : Option Int :=
  if digs l = [] then none else if (digs l).all isD = true then some (sgn (neg1 l) (dval (digs l))) else none
def dgs (n : Nat) : Nat := if h : n = 0 then 0 else dgs (n / 10) + 1
termination_by n
decreasing_by omega
def numR (l : List UInt8) : Option Int :=
  if 14 < l.length then none else
  match whl l with
  | none => none
  | some n => if Lib.itoa n ≠ l then none else if 13 < dgs n.natAbs then none else some n

theorem dval_snoc (l : List UInt8) (b : UInt8) : dval (l ++ [b]) = 10 * dval l + (b.toNat - 48) := by
  unfold dval
  rw [List.foldl_append]
  rfl
theorem dval_aux (l : List UInt8) : ∀ (n : Nat), l.foldl (fun n b => 10 * n + (b.toNat - 48)) n = 10 ^ l.length * n + dval l := by
  unfold dval
  induction l with
  | nil => intro n; simp
  | cons b r ih =>
    intro n
    rw [List.foldl_cons, List.foldl_cons, ih, ih (10 * 0 + (b.toNat - 48)), List.length_cons, Nat.pow_succ, Nat.mul_add, Nat.mul_add]
    have e1 : 10 ^ r.length * (10 * n) = 10 ^ r.length * 10 * n := by rw [Nat.mul_assoc]
    rw [e1]
    simp [Nat.add_assoc]
theorem dval_cons (b : UInt8) (r : List UInt8) : dval (b :: r) = 10 ^ r.length * (b.toNat - 48) + dval r := by
  have := dval_aux r (10 * 0 + (b.toNat - 48))
  unfold dval at *
  rw [List.foldl_cons, this]
  simp
theorem all_digit {l : List UInt8} (h : l.all isD = true) {b : UInt8} (hb : b ∈ l) : 48 ≤ b.toNat ∧ b.toNat ≤ 57 := by
  have := List.all_eq_true.1 h b hb
  simpa [isD] using this
theorem dval_lt : ∀ (l : List UInt8), l.all isD = true → dval l < 10 ^ l.length
  | [], _ => by simp [dval]
  | b :: r, h => by
    have hb := all_digit h (List.mem_cons_self)
    have ih := dval_lt r (by simp only [List.all_cons, Bool.and_eq_true] at h; exact h.2)
    rw [dval_cons, List.length_cons, Nat.pow_succ]
    have : 10 ^ r.length * (b.toNat - 48) ≤ 10 ^ r.length * 9 := Nat.mul_le_mul_left _ (by omega)
    omega
theorem byte_eq {b : UInt8} {n : Nat} (h : b.toNat = n) : b = UInt8.ofNat n := by
  subst h
  simp
theorem dval_pos {b : UInt8} {r : List UInt8} (h : (b :: r).all isD = true) (hb : b ≠ 48) : 1 ≤ dval (b :: r) := by
  have h1 := all_digit h (List.mem_cons_self)
  have h2 : b.toNat ≠ 48 := fun e => hb (by rw [byte_eq e]; rfl)
  rw [dval_cons]
  have : 10 ^ r.length * 1 ≤ 10 ^ r.length * (b.toNat - 48) := Nat.mul_le_mul_left _ (by omega)
  have := Nat.one_le_pow r.length 10 (by decide)
  omega
theorem snoc_cases : ∀ (l : List UInt8), l = [] ∨ ∃ init b, l = init ++ [b]
  | [] => .inl rfl
  | x :: r => by
    rcases snoc_cases r with rfl | ⟨init, b, rfl⟩
    · exact .inr ⟨[], x, rfl⟩
    · exact .inr ⟨x :: init, b, rfl⟩
theorem decDigits_dval : ∀ (k : Nat) (l : List UInt8), l.length = k → l.all isD = true → l ≠ [] → (l.take 1 ≠ [48] ∨ l.length = 1) → Lib.decDigits (dval l) = l := by
  intro k
  induction k with
  | zero =>
    intro l hl _ hne _
    exact absurd (List.eq_nil_of_length_eq_zero hl) hne
  | succ k ih =>
    intro l hl ha hne hh
    obtain ⟨b0, r0, rfl⟩ : ∃ b r, l = b :: r := by
      cases l with
      | nil => exact absurd rfl hne
      | cons b r => exact ⟨b, r, rfl⟩
    rcases snoc_cases r0 with rfl | ⟨init, b, rfl⟩
    · have hb := all_digit ha (List.mem_cons_self)
      have e : dval [b0] = b0.toNat - 48 := by simp [dval]
      rw [e, Lib.decDigits_one (by omega)]
      congr 1
      rw [show 48 + (b0.toNat - 48) = b0.toNat by omega]
      exact (byte_eq rfl).symm
    · have hb : 48 ≤ b.toNat ∧ b.toNat ≤ 57 := all_digit ha (by simp)
      have hai : (b0 :: init).all isD = true := by
        simp only [List.all_cons, List.all_append, Bool.and_eq_true] at ha ⊢
        exact ⟨ha.1, ha.2.1⟩
      have hb0 : b0 ≠ 48 := by
        rcases hh with hh | hh
        · intro e; apply hh; rw [e]; rfl
        · simp at hh
      have hpos := dval_pos hai hb0
      have e : dval (b0 :: (init ++ [b])) = 10 * dval (b0 :: init) + (b.toNat - 48) := dval_snoc (b0 :: init) b
      rw [e, Lib.decDigits, dif_neg (by omega)]
      have e1 : (10 * dval (b0 :: init) + (b.toNat - 48)) / 10 = dval (b0 :: init) := by omega
      have e2 : 48 + (10 * dval (b0 :: init) + (b.toNat - 48)) % 10 = b.toNat := by omega
      have hlk : (b0 :: init).length = k := by simp at hl ⊢; omega
      rw [e1, e2, ih (b0 :: init) hlk hai (by simp) (.inl (fun e => hb0 (by simpa using e)))]
      rw [← byte_eq rfl]
      rfl
theorem nDigits_le : ∀ (k u : Nat), u < 10 ^ (k + 1) → Lib.nDigits u ≤ k + 1
  | 0, u, h => by rw [Lib.nDigits_small (by simpa using h)]; exact Nat.le_refl _
  | k + 1, u, h => by
    by_cases c : u < 10
    · rw [Lib.nDigits_small c]; omega
    · rw [Nat.pow_succ] at h
      have := nDigits_le k (u / 10) (by omega)
      rw [Lib.nDigits_big c]
      omega
theorem decDigits_zero {l : List UInt8} (ha : l.all isD = true) (h0 : l.take 1 = [48]) (hl : 1 < l.length) : Lib.decDigits (dval l) ≠ l := by
  intro e
  obtain ⟨b, r, rfl⟩ : ∃ b r, l = b :: r := by
    cases l with
    | nil => simp at hl
    | cons b r => exact ⟨b, r, rfl⟩
  have hb : b = 48 := by simpa using h0
  subst hb
  have hlen := congrArg List.length e
  rw [Lib.decDigits_length] at hlen
  have har : r.all isD = true := by simp only [List.all_cons, Bool.and_eq_true] at ha; exact ha.2
  have h1 : dval ((48 : UInt8) :: r) = dval r := by
    rw [dval_cons]
    simp
  have h2 := dval_lt r har
  simp only [List.length_cons] at hl hlen
  obtain ⟨k, hk⟩ : ∃ k, r.length = k + 1 := ⟨r.length - 1, by omega⟩
  rw [hk] at h2
  have := nDigits_le k (dval r) h2
  rw [h1] at hlen
  omega
theorem dgs_le : ∀ (k m : Nat), dgs m ≤ k ↔ m < 10 ^ k
  | 0, m => by
    rw [dgs]
    split
    · rename_i h; subst h; simp
    · simp; omega
  | k + 1, m => by
    rw [dgs]
    split
    · rename_i h; subst h
      have := Nat.one_le_pow (k + 1) 10 (by decide)
      simp; omega
    · have := dgs_le k (m / 10)
      rw [Nat.pow_succ]
      omega
theorem numR_eq (l : List UInt8) : numR l = num l := by
  unfold numR num whl
  by_cases hn : l.take 1 = [45]
  · have en : neg1 l = true := decide_eq_true hn
    have ed : digs l = l.drop 1 := by unfold digs; rw [if_pos en]
    have el : l = 45 :: digs l := by rw [ed, ← List.take_append_drop 1 l, hn]; simp
    have ell : l.length = (digs l).length + 1 := by
      have := congrArg List.length el
      simpa using this
    rw [en]
    generalize digs l = ds at *
    by_cases h0 : ds = []
    · subst h0
      simp
    · have hlen : 1 ≤ ds.length := List.length_pos_iff.2 h0
      by_cases h14 : 14 < l.length
      · rw [if_pos h14, if_pos (by omega)]
      · rw [if_neg h14, if_neg h0]
        by_cases ha : ds.all isD = true
        · rw [if_pos ha]
          dsimp only
          have es : sgn true (dval ds) = -(dval ds : Int) := rfl
          rw [es]
          by_cases hz : ds.take 1 = [48]
          · have hne : Lib.itoa (-(dval ds : Int)) ≠ l := by
              rw [el]
              by_cases hv : dval ds = 0
              · rw [hv]
                unfold Lib.itoa
                rw [if_neg (by decide)]
                rw [show ((-(0 : Nat) : Int)).toNat = 0 from rfl, Lib.decDigits_one (by decide)]
                simp
              · rw [Lib.itoa_neg _ (by omega)]
                intro e
                have e2 : Lib.decDigits (dval ds) = ds := by simpa using e
                by_cases h1 : 1 < ds.length
                · exact decDigits_zero ha hz h1 e2
                · apply hv
                  obtain ⟨b, rfl⟩ : ∃ b, ds = [b] := by
                    match ds, hlen, h1 with
                    | [b], _, _ => exact ⟨b, rfl⟩
                    | _ :: _ :: _, _, h => simp at h
                  have : b = 48 := by simpa using hz
                  subst this
                  rfl
            rw [if_pos hne, if_pos (.inr (.inr ⟨hz, .inl rfl⟩))]
          · have hv : 1 ≤ dval ds := by
              obtain ⟨b, r, rfl⟩ : ∃ b r, ds = b :: r := by
                cases ds with
                | nil => exact absurd rfl h0
                | cons b r => exact ⟨b, r, rfl⟩
              exact dval_pos ha (fun e => hz (by rw [e]; rfl))
            have heq : ¬ Lib.itoa (-(dval ds : Int)) ≠ l := by
              simp only [ne_eq, Decidable.not_not]
              rw [Lib.itoa_neg _ hv, decDigits_dval ds.length ds rfl ha h0 (.inl hz)]
              exact el.symm
            have hd : ¬ 13 < dgs (-(dval ds : Int)).natAbs := by
              rw [Nat.not_lt, dgs_le]
              have h1 := dval_lt ds ha
              have h2 : 10 ^ ds.length ≤ 10 ^ 13 := Nat.pow_le_pow_right (by decide) (by omega)
              omega
            have hnc : ¬ (ds.length < 1 ∨ 13 < ds.length ∨ (ds.take 1 = [48] ∧ (true = true ∨ 1 < ds.length))) := by
              rintro (e | e | ⟨e, _⟩)
              · omega
              · omega
              · exact hz e
            rw [if_neg heq, if_neg hd, if_neg hnc]
        · rw [if_neg ha]
          dsimp only
          rw [ite_self]
  · have en : neg1 l = false := decide_eq_false hn
    have ed : digs l = l := by unfold digs; rw [en]; rfl
    rw [en, ed]
    by_cases h0 : l = []
    · subst h0
      simp
    · have hlen : 1 ≤ l.length := List.length_pos_iff.2 h0
      by_cases h14 : 14 < l.length
      · rw [if_pos h14, if_pos (by omega)]
      · rw [if_neg h14, if_neg h0]
        by_cases ha : l.all isD = true
        · rw [if_pos ha]
          dsimp only
          have es : sgn false (dval l) = (dval l : Int) := rfl
          rw [es, Lib.itoa_nonneg]
          by_cases hz : l.take 1 = [48] ∧ 1 < l.length
          · rw [if_pos (decDigits_zero ha hz.1 hz.2), if_pos (.inr (.inr ⟨hz.1, .inr hz.2⟩))]
          · have hd : Lib.decDigits (dval l) = l := decDigits_dval l.length l rfl ha h0 (by
              by_cases c : l.take 1 = [48]
              · exact .inr (by have : ¬ 1 < l.length := fun e => hz ⟨c, e⟩; omega)
              · exact .inl c)
            rw [if_neg (by simpa using hd)]
            have hnd : Lib.nDigits (dval l) = l.length := by rw [← Lib.decDigits_length, hd]
            by_cases h13 : 13 < l.length
            · have hd : 13 < dgs (dval l : Int).natAbs := by
                rcases Nat.lt_or_ge 13 (dgs (dval l : Int).natAbs) with c | c
                · exact c
                · rw [Int.natAbs_natCast] at c
                  have c2 := (dgs_le 13 _).1 c
                  have := nDigits_le 12 _ c2
                  omega
              rw [if_pos hd, if_pos (.inr (.inl h13))]
            · have hd : ¬ 13 < dgs (dval l : Int).natAbs := by
                rw [Nat.not_lt, Int.natAbs_natCast, dgs_le]
                have h1 := dval_lt l ha
                have h2 : 10 ^ l.length ≤ 10 ^ 13 := Nat.pow_le_pow_right (by decide) (by omega)
                omega
              have hnc : ¬ (l.length < 1 ∨ 13 < l.length ∨ (l.take 1 = [48] ∧ (false = true ∨ 1 < l.length))) := by
                rintro (e | e | ⟨e1, e2 | e2⟩)
                · omega
                · omega
                · cases e2
                · exact hz ⟨e1, e2⟩
              rw [if_neg hd, if_neg hnc]
        · rw [if_neg ha]
          dsimp only
          rw [ite_self]

/-- words: cut at each blank -/
def wordsFrom : List UInt8 → List UInt8 → List (List UInt8)
  | cur, [] => [cur]
  | cur, b :: r => if b = 32 then cur :: wordsFrom [] r else wordsFrom (cur ++ [b]) r
def words (l : List UInt8) : List (List UInt8) := wordsFrom [] l
end Go.Proofs.YticgbdeoiihbmaaDoor
