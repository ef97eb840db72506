/- All frames go to and fro: the plain law of LinkLives. -/
import Derived.Test.YtdbmhcchgbpccaaLinkP
namespace Go.Proofs.Ytdbmhcchgbpccaa
open Go Ev
set_option linter.unusedVariables false
set_option linter.unusedSimpArgs false

theorem takeB_other (Z : Lk) (f : Fr) : (takeB Z f).1.other = Z.other := by
  unfold takeB
  split
  · rfl
  · split
    · rfl
    · split <;> rfl
theorem takeB_owes (Z : Lk) (f : Fr) (h : Z.owes = true) : (takeB Z f).1.owes = true := by
  unfold takeB
  split
  · rfl
  · split
    · exact h
    · split <;> rfl
theorem takeB_owes1 (Z : Lk) (f : Fr) (h : f.peer ≠ Z.epoch ∨ f.seq ≠ 0) : (takeB Z f).1.owes = true := by
  unfold takeB
  split
  · rfl
  · rename_i hp
    have hs : f.seq ≠ 0 := by
      rcases h with h | h
      · exact absurd h hp
      · exact h
    rw [if_neg hs]
    split <;> rfl
theorem takeB_waits (Z : Lk) (f : Fr) (h : f.peer = Z.epoch) : (takeB Z f).1.waits = Z.waits.filter fun x => decide (f.ack < x.1) := by
  unfold takeB
  rw [if_neg (by simp [h])]
  split
  · rfl
  · split <;> rfl
theorem takeB_nil (Z : Lk) (f : Fr) (h : Z.waits = []) : (takeB Z f).1.waits = [] := by
  unfold takeB
  split
  · exact h
  · split
    · simp [h]
    · split <;> simp [h]
theorem takeB_fresh (Z : Lk) (f : Fr) (h : f.peer = Z.epoch) (h0 : f.seq ≠ 0) (h1 : f.seq = Z.came + 1) : (takeB Z f).2 = some f.body := by
  unfold takeB
  rw [if_neg (by simp [h]), if_neg h0, if_neg (by simp [h1])]
theorem takeA_epoch (Y : Lk) (f : Fr) : (takeA Y f).epoch = Y.epoch := by unfold takeA; split <;> rfl
theorem takeA_owes (Y : Lk) (f : Fr) : (takeA Y f).owes = Y.owes := by unfold takeA; split <;> rfl

section
variable {X Y Y0 : Lk} {SX SY TX TY : List (List UInt8)} {F : List Fr} {N : Nat}
theorem Inv.takeL_eq (h : Inv X Y SX SY TX TY F N) {f : Fr} (he : f.epoch = X.epoch) : takeL Y f = takeB (Proofs.Ytdbmhcchgbpccaa.takeA Y f) f := by
  unfold takeL
  have := h.ex
  rw [if_neg (by rcases h.yx.other with e | e <;> omega)]
theorem takeA_known (h : Y.other = X.epoch) {f : Fr} (he : f.epoch = X.epoch) : takeA Y f = Y := by
  unfold takeA
  rw [if_neg (by omega)]

/-- in the midst of a pass of all frames from X to Y, i of them taken -/
structure PI (X Y0 : Lk) (SX SY TX : List (List UInt8)) (N k i : Nat) (Y : Lk) (TY : List (List UInt8)) : Prop where
  inv : Inv { X with owes := false } Y SX SY TX TY (framesOf X) N
  o1 : 0 < i → Y.other = X.epoch
  o2 : Y0.other = X.epoch → Y.other = X.epoch
  w1 : 0 < i → X.other = 0 → Y.owes = true
  w2 : 0 < i → X.waits ≠ [] → Y.owes = true
  t1 : X.other ≠ 0 → Y0.other = X.epoch → X.waits ≠ [] → k + i ≤ TY.length
  f1 : 0 < i → X.other ≠ 0 → Y0.other = X.epoch → X.came = SY.length → Y.waits = []
  f2 : Y0.other = X.epoch → Y0.waits = [] → Y.waits = []
theorem PI.start (h : Inv X Y SX SY TX TY [] N) {k : Nat} (hk : X.other ≠ 0 → k ≤ TY.length) : PI X Y SX SY TX N k 0 Y TY :=
  ⟨by simpa using h.frames, fun h => absurd h (Nat.lt_irrefl 0), fun h => h, fun h => absurd h (Nat.lt_irrefl 0), fun h => absurd h (Nat.lt_irrefl 0), fun h _ _ => hk h, fun h => absurd h (Nat.lt_irrefl 0), fun _ h => h⟩
theorem PI.came {k i : Nat} (h : PI X Y0 SX SY TX N k i Y TY) (hN : N ≤ 1000000) : 0 ≤ Y.came ∧ Y.came ≤ 1000000000000 := by
  have h1 := h.inv.xy.came
  have h2 := h.inv.xy.tle
  have h3 := h.inv.xy.slen
  omega
theorem num_get : ∀ (k i : Nat) (xs : List (List UInt8)) (x : Int × List UInt8), (num k xs)[i]? = some x → xs[i]? = some x.2 ∧ x.1 = (k : Int) + i + 1
  | k, i, [], x, h => by simp [num] at h
  | k, 0, y :: r, x, h => by
    simp only [num, List.getElem?_cons_zero, Option.some.injEq] at h
    subst h
    exact ⟨rfl, by simp⟩
  | k, i + 1, y :: r, x, h => by
    rw [num, List.getElem?_cons_succ] at h
    obtain ⟨h1, h2⟩ := num_get (k + 1) i r x h
    exact ⟨by simpa using h1, by rw [h2]; omega⟩
theorem PI.step {k i : Nat} (h : PI X Y0 SX SY TX N k i Y TY) (hk : X.other ≠ 0 → X.waits = num k (SX.drop k)) {f : Fr} (hf : (framesOf X)[i]? = some f) :
    MayB Y f ∧ PI X Y0 SX SY TX N k (i + 1) (takeL Y f).1 (TY ++ (takeL Y f).2.toList) := by
  have hfm := List.mem_of_getElem? hf
  have hfr : f.epoch = X.epoch ∧ f.peer = X.other ∧ f.ack = X.came := by
    rcases framesOf_mem hfm with rfl | ⟨x, _, rfl⟩ <;> exact ⟨rfl, rfl, rfl⟩
  obtain ⟨he, hp, ha⟩ := hfr
  have hto : f.to = Y.me := by
    have := h.inv.xy.ids
    rcases framesOf_mem hfm with rfl | ⟨x, _, rfl⟩ <;> exact this
  have hinv := h.inv.take hfm hto
  have hYe : Y.epoch ≠ 0 := by have := h.inv.ey; omega
  have hXo : X.other ≠ 0 → X.other = Y.epoch := fun e => by
    have := h.inv.xy.other
    rcases this with c | c
    · exact absurd c e
    · exact c
  have hte := h.inv.takeL_eq (f := f) he
  have hoth : (takeL Y f).1.other = X.epoch := by
    rw [hte, takeB_other]
    exact (h.inv.takeA (f := f) he).2
  have hseq : X.waits ≠ [] → f.seq ≠ 0 := fun hw => by
    rcases framesOf_mem hfm with rfl | ⟨x, hx, rfl⟩
    · exfalso
      unfold framesOf at hf
      rw [if_neg (fun e => hw e.1)] at hf
      obtain ⟨y, hy, e⟩ := List.mem_map.1 (List.mem_of_getElem? hf)
      have := (h.inv.xy.wbody y hy).1
      have e2 : (frOf X y).seq = (frOf X (0, [])).seq := by rw [e]
      have e3 : y.1 = 0 := e2
      omega
    · have := (h.inv.xy.wbody x hx).1
      show x.1 ≠ 0
      omega
  refine ⟨h.inv.may hfm hto, hinv, fun _ => hoth, fun _ => hoth, fun _ h0 => ?_, fun _ hw => ?_, fun hx hy hw => ?_, fun _ hx hy hc => ?_, fun hy hw => ?_⟩
  · rw [hte]
    exact takeB_owes1 _ _ (.inl (by rw [takeA_epoch, hp, h0]; exact fun e => hYe e.symm))
  · rw [hte]
    exact takeB_owes1 _ _ (.inr (hseq hw))
  · have hko := h.t1 hx hy hw
    have hwn : framesOf X = X.waits.map (frOf X) := by unfold framesOf; rw [if_neg (fun e => hw e.1)]
    rw [hwn, List.getElem?_map, Option.map_eq_some_iff] at hf
    obtain ⟨x, hx1, hx2⟩ := hf
    rw [hk hx] at hx1
    obtain ⟨_, hx3⟩ := num_get k i _ x hx1
    have hsq : f.seq = (k : Int) + i + 1 := by rw [← hx2]; exact hx3
    have hcm := h.inv.xy.came
    rw [List.length_append]
    by_cases e : TY.length = k + i
    · have : (takeL Y f).2 = some f.body := by
        rw [hte, takeA_known (h.o2 hy) he]
        exact takeB_fresh _ _ (by rw [hp, hXo hx]) (hseq hw) (by omega)
      rw [this]
      simp
      omega
    · omega
  · rw [hte, takeA_known (h.o2 hy) he, takeB_waits _ _ (by rw [hp, hXo hx]), List.filter_eq_nil_iff]
    intro x hxm
    have hne : Y.other ≠ 0 := by have := h.inv.ex; have e2 := h.o2 hy; have e3 : 1 ≤ X.epoch := this; omega
    obtain ⟨k', k1, k2, k3⟩ := h.inv.yx.wt hne
    rw [k2] at hxm
    obtain ⟨j, j1, j2⟩ := num_mem hxm
    have hj := (List.getElem?_eq_some_iff.1 j1).1
    rw [List.length_drop] at hj
    simp only [decide_eq_true_eq]
    omega
  · rw [hte, takeA_known (h.o2 hy) he]
    exact takeB_nil _ _ (h.f2 hy hw)

/-- where the two ends are, half a round after half a round; 'from' is the one whose frames go next -/
def FF : Nat → Lk → Lk → List (List UInt8) → List (List UInt8) → List (List UInt8) → List (List UInt8) → Prop
  | 0, X, Y, _, _, _, _ => X.waits ≠ [] ∧ Y.waits ≠ []
  | 1, X, Y, _, _, _, _ => X.other = Y.epoch ∧ (Y.other = X.epoch ∨ X.owes = true)
  | 2, X, Y, _, _, _, _ => X.other = Y.epoch ∧ Y.other = X.epoch
  | 3, X, Y, _, SY, TX, _ => X.other = Y.epoch ∧ Y.other = X.epoch ∧ TX.length = SY.length ∧ (Y.waits ≠ [] → X.owes = true)
  | 4, X, Y, SX, SY, TX, TY => X.other = Y.epoch ∧ Y.other = X.epoch ∧ TX.length = SY.length ∧ TY.length = SX.length ∧ X.waits = [] ∧ (Y.waits ≠ [] → X.owes = true)
  | _, X, Y, SX, SY, TX, TY => X.other = Y.epoch ∧ Y.other = X.epoch ∧ TX.length = SY.length ∧ TY.length = SX.length ∧ X.waits = [] ∧ Y.waits = []
def nextF (j : Nat) : Nat := if j < 5 then j + 1 else 5
theorem framesOf_nil (h : framesOf X = []) : X.waits = [] ∧ X.owes = false := by
  unfold framesOf at h
  split at h
  · cases h
  · rename_i e
    have h1 : X.waits = [] := by simpa using h
    refine ⟨h1, ?_⟩
    cases ho : X.owes
    · rfl
    · exact absurd ⟨h1, ho⟩ e
theorem FF.next {TY' : List (List UInt8)} (h0 : Inv X Y0 SX SY TX TY' [] N) {j k : Nat} (hj : j ≤ 5) (hF : FF j X Y0 SX SY TX TY') (hk : X.other ≠ 0 → X.waits = num k (SX.drop k) ∧ k ≤ TY'.length) (hle : TY'.length ≤ TY.length)
    (h : PI X Y0 SX SY TX N k (framesOf X).length Y TY) : FF (nextF j) Y { X with owes := false } SY SX TY TX := by
  have hex := h.inv.ex
  have hey := h.inv.ey
  have ex1 : 1 ≤ X.epoch := hex
  have heY : Y.epoch = Y0.epoch ∨ True := .inr trivial
  have hYo := h.inv.xy.other
  have hXo : X.other ≠ 0 → X.other = Y.epoch := fun e => by
    rcases hYo with c | c
    · exact absurd c e
    · exact c
  have hX0 : X.other ≠ 0 → X.other = Y0.epoch := fun e => by
    rcases h0.xy.other with c | c
    · exact absurd c e
    · exact c
  have htl := h.inv.xy.tle
  have hcm := h.inv.yx.came
  have htx := h.inv.yx.tle
  have hcm' : X.came = TX.length := hcm
  have hey0 := h0.ey
  have hlen0 : X.waits ≠ [] → (framesOf X).length = X.waits.length := fun hw => by unfold framesOf; rw [if_neg (fun e => hw e.1), List.length_map]
  have hpos : X.waits ≠ [] ∨ X.owes = true → 0 < (framesOf X).length := fun hw => by
    rcases Nat.eq_zero_or_pos (framesOf X).length with e | e
    · obtain ⟨e1, e2⟩ := framesOf_nil (List.eq_nil_of_length_eq_zero e)
      rcases hw with hw | hw
      · exact absurd e1 hw
      · rw [e2] at hw; cases hw
    · exact e
  have hfull : X.other ≠ 0 → Y0.other = X.epoch → TY.length = SX.length := fun hx hy => by
    obtain ⟨k1, k2⟩ := hk hx
    by_cases hw : X.waits = []
    · rw [hw] at k1
      have : (num k (SX.drop k)).length = 0 := by rw [← k1]; rfl
      rw [num_length, List.length_drop] at this
      omega
    · have h1 := h.t1 hx hy hw
      rw [hlen0 hw, k1, num_length, List.length_drop] at h1
      omega
  match j, hj, hF with
  | 0, _, ⟨g1, g2⟩ =>
    have hp := hpos (.inl g1)
    refine ⟨h.o1 hp, ?_⟩
    by_cases e : X.other = 0
    · exact .inr (h.w1 hp e)
    · exact .inl (hXo e)
  | 1, _, ⟨g1, g2⟩ =>
    have hx : X.other ≠ 0 := by omega
    refine ⟨?_, hXo hx⟩
    rcases g2 with g2 | g2
    · exact h.o2 g2
    · exact h.o1 (hpos (.inr g2))
  | 2, _, ⟨g1, g2⟩ =>
    have hx : X.other ≠ 0 := by omega
    exact ⟨h.o2 g2, hXo hx, hfull hx g2, fun hw => h.w2 (hpos (.inl hw)) hw⟩
  | 3, _, ⟨g1, g2, g3, g4⟩ =>
    have hx : X.other ≠ 0 := by omega
    refine ⟨h.o2 g2, hXo hx, hfull hx g2, g3, ?_, fun hw => h.w2 (hpos (.inl hw)) hw⟩
    by_cases e : Y0.waits = []
    · exact h.f2 g2 e
    · exact h.f1 (hpos (.inr (g4 e))) hx g2 (by omega)
  | 4, _, ⟨g1, g2, g3, g4, g5, g6⟩ =>
    have hx : X.other ≠ 0 := by omega
    refine ⟨h.o2 g2, hXo hx, by omega, g3, ?_, g5⟩
    by_cases e : Y0.waits = []
    · exact h.f2 g2 e
    · exact h.f1 (hpos (.inr (g6 e))) hx g2 (by omega)
  | 5, _, ⟨g1, g2, g3, g4, g5, g6⟩ =>
    have hx : X.other ≠ 0 := by omega
    exact ⟨h.o2 g2, hXo hx, by omega, g3, h.f2 g2 g6, g5⟩
end
end Go.Proofs.Ytdbmhcchgbpccaa
