/- Two ends, whatever becomes of the frames: the plain law. -/
import Derived.Test.YtdbmhcchgbpccaaLinkG
namespace Go.Proofs.Ytdbmhcchgbpccaa
open Go Ev
set_option linter.unusedVariables false
set_option linter.unusedSimpArgs false

/-- bodies, numbered behind k -/
def num : Nat → List (List UInt8) → List (Int × List UInt8)
  | _, [] => []
  | k, x :: r => ((k : Int) + 1, x) :: num (k + 1) r
theorem num_length : ∀ (k : Nat) (xs : List (List UInt8)), (num k xs).length = xs.length
  | _, [] => rfl
  | k, x :: r => by rw [num, List.length_cons, num_length (k + 1) r, List.length_cons]
theorem num_append : ∀ (k : Nat) (xs ys : List (List UInt8)), num k (xs ++ ys) = num k xs ++ num (k + xs.length) ys
  | k, [], ys => by simp [num]
  | k, x :: r, ys => by
    rw [List.cons_append, num, num, num_append (k + 1) r ys, List.cons_append, List.length_cons]
    congr 3
    omega
theorem num_filter (a : Nat) : ∀ (k : Nat) (xs : List (List UInt8)), (num k xs).filter (fun x => decide ((a : Int) < x.1)) = num (max k a) (xs.drop (max k a - k))
  | k, [] => by simp [num]
  | k, x :: r => by
    rw [num, List.filter_cons]
    by_cases c : (a : Int) < (k : Int) + 1
    · have e1 : max k a = k := by omega
      have e2 : max (k + 1) a = k + 1 := by omega
      rw [if_pos (by simpa using c), num_filter a (k + 1) r, e1, e2, Nat.sub_self, Nat.sub_self, List.drop_zero, List.drop_zero, num]
    · have e1 : max k a = a := by omega
      have e2 : max (k + 1) a = a := by omega
      have e3 : a - k = (a - (k + 1)) + 1 := by omega
      rw [if_neg (by simpa using c), num_filter a (k + 1) r, e1, e2, e3, List.drop_succ_cons]
theorem num_mem : ∀ {k : Nat} {xs : List (List UInt8)} {x : Int × List UInt8}, x ∈ num k xs → ∃ i : Nat, xs[i]? = some x.2 ∧ x.1 = (k : Int) + i + 1
  | k, [], x, h => by simp [num] at h
  | k, y :: r, x, h => by
    rw [num, List.mem_cons] at h
    rcases h with rfl | h
    · exact ⟨0, rfl, by simp⟩
    · obtain ⟨i, h1, h2⟩ := num_mem h
      exact ⟨i + 1, by simpa using h1, by rw [h2]; omega⟩

/-- a frame that is on its way -/
structure FrOk (xme yme xep yep xother xcame : Int) (S : List (List UInt8)) (f : Fr) : Prop where
  frm : f.frm = xme
  to : f.to = yme
  epoch : f.epoch = xep
  seq : 0 ≤ f.seq
  ack : 0 ≤ f.ack
  len : f.body.length ≤ 1000
  body : 0 < f.seq ∨ f.body = []
  peer : f.peer = 0 ∨ f.peer = yep ∧ xother = yep ∧ f.ack ≤ xcame ∧ (f.seq = 0 ∨ ∃ i : Nat, f.seq = (i : Int) + 1 ∧ S[i]? = some f.body)
/-- from X to Y: S was sent when Y's epoch was known, T was told at Y, F is on its way -/
structure Half (X Y : Lk) (S T : List (List UInt8)) (F : List Fr) (N : Nat) : Prop where
  ids : X.peer = Y.me
  other : X.other = 0 ∨ X.other = Y.epoch
  zero : X.other = 0 → S = [] ∧ X.came = 0
  wt : X.other ≠ 0 → ∃ k : Nat, k ≤ T.length ∧ X.waits = num k (S.drop k) ∧ X.sent = S.length
  tle : T.length ≤ S.length
  tol : T = S.take T.length
  came : Y.came = T.length
  wlen : X.waits.length ≤ 4
  wbody : ∀ x ∈ X.waits, 0 < x.1 ∧ x.2.length ≤ 1000
  sent : 0 ≤ X.sent ∧ X.sent ≤ N
  slen : S.length ≤ N
  fr : ∀ f ∈ F, f.to = Y.me → FrOk X.me Y.me X.epoch Y.epoch X.other X.came S f
structure Inv (X Y : Lk) (SX SY TX TY : List (List UInt8)) (F : List Fr) (N : Nat) : Prop where
  xy : Half X Y SX TY F N
  yx : Half Y X SY TX F N
  ne : X.me ≠ Y.me
  ex : 1 ≤ X.epoch
  ey : 1 ≤ Y.epoch
  fto : ∀ f ∈ F, f.to = X.me ∨ f.to = Y.me
section
variable {X Y : Lk} {SX SY TX TY : List (List UInt8)} {F F' : List Fr} {N : Nat}
theorem Inv.symm (h : Inv X Y SX SY TX TY F N) : Inv Y X SY SX TY TX F N := ⟨h.yx, h.xy, fun e => h.ne e.symm, h.ey, h.ex, fun f hf => (h.fto f hf).symm⟩
theorem Inv.more (h : Inv X Y SX SY TX TY F N) : Inv X Y SX SY TX TY F (N + 1) := by
  refine ⟨{ h.xy with sent := ?_, slen := ?_ }, { h.yx with sent := ?_, slen := ?_ }, h.ne, h.ex, h.ey, h.fto⟩
  · have := h.xy.sent; omega
  · have := h.xy.slen; omega
  · have := h.yx.sent; omega
  · have := h.yx.slen; omega
theorem Inv.fewer (h : Inv X Y SX SY TX TY F N) (hf : ∀ f ∈ F', f ∈ F) : Inv X Y SX SY TX TY F' N :=
  ⟨{ h.xy with fr := fun f m => h.xy.fr f (hf f m) }, { h.yx with fr := fun f m => h.yx.fr f (hf f m) }, h.ne, h.ex, h.ey, fun f m => h.fto f (hf f m)⟩
theorem Inv.send (h : Inv X Y SX SY TX TY F N) {l : List UInt8} (hl : l.length ≤ 1000) (hw : X.waits.length < 4) : Inv (sentL X l) Y (if 0 < X.other then SX ++ [l] else SX) SY TX TY F (N + 1) := by
  obtain ⟨⟨a1, a2, a3, a4, a5, a6, a7, a8, a9, a10, a11, a12⟩, ⟨b1, b2, b3, b4, b5, b6, b7, b8, b9, b10, b11, b12⟩, h3, h4, h5, h6⟩ := h
  refine ⟨⟨a1, a2, ?_, ?_, ?_, ?_, a7, ?_, ?_, ?_, ?_, ?_⟩, ⟨b1, b2, b3, b4, b5, b6, b7, b8, b9, ⟨b10.1, by omega⟩, by omega, b12⟩, h3, h4, h5, h6⟩
  · intro e
    have e' : X.other = 0 := e
    rw [if_neg (by omega)]
    exact a3 e'
  · intro e
    have e' : X.other ≠ 0 := e
    obtain ⟨k, k1, k2, k3⟩ := a4 e'
    have : 0 < X.other := by rcases a2 with a2 | a2 <;> omega
    rw [if_pos this]
    refine ⟨k, k1, ?_, ?_⟩
    · show X.waits ++ [(X.sent + 1, l)] = _
      rw [List.drop_append_of_le_length (by omega), num_append, k2, k3]
      simp only [List.length_drop, num]
      have : k + (SX.length - k) = SX.length := by omega
      rw [this]
    · show X.sent + 1 = _
      rw [k3]; simp
  · split <;> (try simp only [List.length_append, List.length_singleton]) <;> omega
  · split
    · rw [List.take_append_of_le_length a5]; exact a6
    · exact a6
  · show (X.waits ++ [(X.sent + 1, l)]).length ≤ 4
    simp; omega
  · intro x hx
    have hx' : x ∈ X.waits ++ [(X.sent + 1, l)] := hx
    rw [List.mem_append] at hx'
    rcases hx' with hx' | hx'
    · exact a9 x hx'
    · simp only [List.mem_singleton] at hx'
      subst hx'
      exact ⟨by show 0 < X.sent + 1; omega, hl⟩
  · show 0 ≤ X.sent + 1 ∧ X.sent + 1 ≤ ((N + 1 : Nat) : Int)
    omega
  · split <;> (try simp only [List.length_append, List.length_singleton]) <;> omega
  · intro f hf ht
    obtain ⟨c1, c2, c3, c4, c5, c6, c7, c8⟩ := a12 f hf ht
    refine ⟨c1, c2, c3, c4, c5, c6, c7, c8.imp id (fun ⟨d1, d2, d3, d4⟩ => ⟨d1, d2, d3, d4.imp id (fun ⟨i, i1, i2⟩ => ⟨i, i1, ?_⟩)⟩)⟩
    split
    · rw [List.getElem?_append_left (List.getElem?_eq_some_iff.1 i2).1]; exact i2
    · exact i2
theorem framesOf_mem {L : Lk} {f : Fr} (h : f ∈ framesOf L) : f = frOf L (0, []) ∨ ∃ x ∈ L.waits, f = frOf L x := by
  unfold framesOf at h
  split at h
  · exact .inl (List.mem_singleton.1 h)
  · obtain ⟨x, h1, h2⟩ := List.mem_map.1 h
    exact .inr ⟨x, h1, h2.symm⟩
theorem framesOf_length {L : Lk} : (framesOf L).length ≤ L.waits.length + 1 := by
  unfold framesOf
  split <;> simp
theorem Inv.frok (h : Inv X Y SX SY TX TY F N) {f : Fr} (hf : f ∈ framesOf X) : FrOk X.me Y.me X.epoch Y.epoch X.other X.came SX f := by
  have hc : 0 ≤ X.came := by have := h.yx.came; omega
  have hp : X.other = 0 ∨ X.other = Y.epoch ∧ X.other = Y.epoch := h.xy.other.imp id (fun e => ⟨e, e⟩)
  rcases framesOf_mem hf with rfl | ⟨x, hx, rfl⟩
  · exact ⟨rfl, h.xy.ids, rfl, Int.le_refl _, hc, by show ([] : List UInt8).length ≤ 1000; simp, .inr rfl, h.xy.other.imp id (fun e => ⟨e, e, Int.le_refl _, .inl rfl⟩)⟩
  · obtain ⟨w1, w2⟩ := h.xy.wbody x hx
    refine ⟨rfl, h.xy.ids, rfl, by show 0 ≤ x.1; omega, hc, w2, .inl w1, ?_⟩
    by_cases e : X.other = 0
    · exact .inl e
    · have e2 : X.other = Y.epoch := by rcases h.xy.other with c | c
                                        · exact absurd c e
                                        · exact c
      refine .inr ⟨e2, e2, Int.le_refl _, .inr ?_⟩
      obtain ⟨k, k1, k2, k3⟩ := h.xy.wt e
      rw [k2] at hx
      obtain ⟨i, i1, i2⟩ := num_mem hx
      rw [List.getElem?_drop] at i1
      exact ⟨k + i, by show x.1 = _; rw [i2]; omega, i1⟩
theorem Inv.frames (h : Inv X Y SX SY TX TY F N) : Inv { X with owes := false } Y SX SY TX TY (F ++ framesOf X) N := by
  have hto : ∀ f ∈ framesOf X, f.to = Y.me := fun f hf => (h.frok hf).to
  refine ⟨⟨h.xy.ids, h.xy.other, h.xy.zero, h.xy.wt, h.xy.tle, h.xy.tol, h.xy.came, h.xy.wlen, h.xy.wbody, h.xy.sent, h.xy.slen, fun f hf ht => ?_⟩,
    ⟨h.yx.ids, h.yx.other, h.yx.zero, h.yx.wt, h.yx.tle, h.yx.tol, h.yx.came, h.yx.wlen, h.yx.wbody, h.yx.sent, h.yx.slen, fun f hf ht => ?_⟩, h.ne, h.ex, h.ey, fun f hf => ?_⟩
  · rcases List.mem_append.1 hf with hf | hf
    · exact h.xy.fr f hf ht
    · exact h.frok hf
  · rcases List.mem_append.1 hf with hf | hf
    · exact h.yx.fr f hf ht
    · exact absurd ((hto f hf).symm.trans ht) (fun e => h.ne e.symm)
  · rcases List.mem_append.1 hf with hf | hf
    · exact h.fto f hf
    · exact .inr (hto f hf)
theorem Inv.may (h : Inv X Y SX SY TX TY F N) {f : Fr} (hf : f ∈ F) (ht : f.to = Y.me) : MayB Y f := by
  obtain ⟨c1, c2, c3, c4, c5, c6, c7, c8⟩ := h.xy.fr f hf ht
  refine ⟨by rw [c1, h.yx.ids], c2, by rw [c3]; exact h.ex, ?_, c4, c5, by omega, c7⟩
  have := h.ey
  rcases c8 with c8 | c8
  · omega
  · omega
theorem Inv.owes (h : Inv X Y SX SY TX TY F N) (b : Bool) : Inv X { Y with owes := b } SX SY TX TY F N :=
  ⟨⟨h.xy.ids, h.xy.other, h.xy.zero, h.xy.wt, h.xy.tle, h.xy.tol, h.xy.came, h.xy.wlen, h.xy.wbody, h.xy.sent, h.xy.slen, h.xy.fr⟩,
    ⟨h.yx.ids, h.yx.other, h.yx.zero, h.yx.wt, h.yx.tle, h.yx.tol, h.yx.came, h.yx.wlen, h.yx.wbody, h.yx.sent, h.yx.slen, h.yx.fr⟩, h.ne, h.ex, h.ey, h.fto⟩
theorem Inv.takeA (h : Inv X Y SX SY TX TY F N) {f : Fr} (he : f.epoch = X.epoch) : Inv X (takeA Y f) SX SY TX TY F N ∧ (Proofs.Ytdbmhcchgbpccaa.takeA Y f).other = X.epoch := by
  have hex := h.ex
  unfold Proofs.Ytdbmhcchgbpccaa.takeA
  by_cases c : Y.other < f.epoch
  · rw [if_pos c]
    have h0 : Y.other = 0 := by
      rcases h.yx.other with e | e
      · exact e
      · omega
    obtain ⟨z1, z2⟩ := h.yx.zero h0
    have hT : TY.length = 0 := by have := h.xy.came; omega
    refine ⟨⟨⟨h.xy.ids, h.xy.other, h.xy.zero, h.xy.wt, h.xy.tle, h.xy.tol, by show (0 : Int) = _; omega, h.xy.wlen, h.xy.wbody, h.xy.sent, h.xy.slen, h.xy.fr⟩,
      ⟨h.yx.ids, .inr he, fun e => ?_, fun _ => ⟨0, Nat.zero_le _, by rw [z1]; rfl, by rw [z1]; rfl⟩, h.yx.tle, h.yx.tol, h.yx.came, by simp, by simp, ⟨Int.le_refl _, by show (0 : Int) ≤ N; omega⟩, h.yx.slen, fun g hg ht => ?_⟩, h.ne, h.ex, h.ey, h.fto⟩, he⟩
    · have e' : f.epoch = 0 := e
      omega
    · obtain ⟨c1, c2, c3, c4, c5, c6, c7, c8⟩ := h.yx.fr g hg ht
      refine ⟨c1, c2, c3, c4, c5, c6, c7, ?_⟩
      rcases c8 with c8 | ⟨_, d2, _⟩
      · exact .inl c8
      · omega
  · rw [if_neg c]
    refine ⟨h, ?_⟩
    rcases h.yx.other with e | e <;> omega
theorem Inv.acked (h : Inv X Y SX SY TX TY F N) (ho : Y.other = X.epoch) {a : Nat} (ha : a ≤ TX.length) (b : Bool) : Inv X { Y with waits := Y.waits.filter fun x => decide ((a : Int) < x.1), owes := b } SX SY TX TY F N := by
  refine ⟨⟨h.xy.ids, h.xy.other, h.xy.zero, h.xy.wt, h.xy.tle, h.xy.tol, h.xy.came, h.xy.wlen, h.xy.wbody, h.xy.sent, h.xy.slen, h.xy.fr⟩,
    ⟨h.yx.ids, h.yx.other, h.yx.zero, fun e => ?_, h.yx.tle, h.yx.tol, h.yx.came, Nat.le_trans (List.length_filter_le _ _) h.yx.wlen, fun x hx => h.yx.wbody x (List.mem_filter.1 hx).1, h.yx.sent, h.yx.slen, h.yx.fr⟩, h.ne, h.ex, h.ey, h.fto⟩
  obtain ⟨k, k1, k2, k3⟩ := h.yx.wt e
  refine ⟨max k a, by omega, ?_, k3⟩
  show Y.waits.filter _ = _
  rw [k2, num_filter, List.drop_drop]
  congr 2
  omega
theorem Inv.take (h : Inv X Y SX SY TX TY F N) {f : Fr} (hf : f ∈ F) (ht : f.to = Y.me) : Inv X (takeL Y f).1 SX SY TX (TY ++ (takeL Y f).2.toList) F N := by
  obtain ⟨c1, c2, c3, c4, c5, c6, c7, c8⟩ := h.xy.fr f hf ht
  have hex := h.ex
  have hey := h.ey
  unfold takeL
  rw [if_neg (by rcases h.yx.other with e | e <;> omega)]
  obtain ⟨hA, hO⟩ := h.takeA c3
  have hE : (Proofs.Ytdbmhcchgbpccaa.takeA Y f).epoch = Y.epoch := by unfold Proofs.Ytdbmhcchgbpccaa.takeA; split <;> rfl
  have hcm : (Proofs.Ytdbmhcchgbpccaa.takeA Y f).came = TY.length := hA.xy.came
  generalize Proofs.Ytdbmhcchgbpccaa.takeA Y f = Z at *
  unfold takeB
  by_cases hp : f.peer = Z.epoch
  rotate_left
  · rw [if_pos hp]
    simpa using hA.owes true
  rw [if_neg (by simp [hp])]
  obtain ⟨d1, d2, d3, d4⟩ : f.peer = Y.epoch ∧ X.other = Y.epoch ∧ f.ack ≤ X.came ∧ (f.seq = 0 ∨ ∃ i : Nat, f.seq = (i : Int) + 1 ∧ SX[i]? = some f.body) := by
    rcases c8 with c8 | c8
    · omega
    · exact c8
  have hXc := hA.yx.came
  obtain ⟨a, ha⟩ : ∃ a : Nat, f.ack = a := ⟨f.ack.toNat, by omega⟩
  have hal : a ≤ TX.length := by omega
  by_cases h0 : f.seq = 0
  · rw [if_pos h0]
    have := hA.acked hO hal Z.owes
    rw [ha]
    simpa using this
  rw [if_neg h0]
  have hB := hA.acked hO hal true
  rw [← ha] at hB
  by_cases h1 : f.seq = Z.came + 1
  rotate_left
  · rw [if_pos h1]
    simpa using hB
  rw [if_neg (by simp [h1])]
  obtain ⟨i, i1, i2⟩ : ∃ i : Nat, f.seq = (i : Int) + 1 ∧ SX[i]? = some f.body := by
    rcases d4 with d4 | d4
    · exact absurd d4 h0
    · exact d4
  have hi : i = TY.length := by omega
  subst hi
  have hlt := (List.getElem?_eq_some_iff.1 i2).1
  obtain ⟨⟨a1, a2, a3, a4, a5, a6, a7, a8, a9, a10, a11, a12⟩, ⟨b1, b2, b3, b4, b5, b6, b7, b8, b9, b10, b11, b12⟩, h3, h4, h5, h6⟩ := hB
  simp only [Option.toList_some]
  refine ⟨⟨a1, a2, a3, fun e => ?_, ?_, ?_, ?_, a8, a9, a10, a11, a12⟩, ⟨b1, b2, fun e => ?_, b4, b5, b6, b7, b8, b9, b10, b11, fun g hg hgt => ?_⟩, h3, h4, h5, h6⟩
  · obtain ⟨k, k1, k2⟩ := a4 e
    exact ⟨k, by simp; omega, k2⟩
  · simp; omega
  · rw [List.length_append, List.length_singleton, List.take_add_one, ← a6, i2]
    rfl
  · show f.seq = _
    simp; omega
  · have e' : Z.other = 0 := e
    omega
  · obtain ⟨c1, c2, c3, c4, c5, c6, c7, c8⟩ := b12 g hg hgt
    refine ⟨c1, c2, c3, c4, c5, c6, c7, c8.imp id (fun ⟨d1, d2, d3, d4⟩ => ⟨d1, d2, ?_, d4⟩)⟩
    have d3' : g.ack ≤ Z.came := d3
    show g.ack ≤ f.seq
    omega
/-- what the law looks at -/
theorem Inv.gap (h : Inv X Y SX SY TX TY F N) (ho : 0 < X.other) : (SX.length : Int) - X.waits.length ≤ TY.length := by
  obtain ⟨k, k1, k2, k3⟩ := h.xy.wt (by omega)
  have := h.xy.tle
  rw [k2, num_length, List.length_drop]
  omega
end
end Go.Proofs.Ytdbmhcchgbpccaa
