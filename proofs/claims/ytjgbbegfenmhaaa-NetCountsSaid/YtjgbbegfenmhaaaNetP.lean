/- The network beside the page's: parts of memory told by tags (1 the network, 2 its row, 3 its bodies, 4 the page's, 5 its row, 6 its ways, 7 its bodies, 0 all else). -/
import Derived.Test.YtjgbbegfenmhaaaNetN
namespace Go.Proofs.Ytjgbbegfenmhaaa
open Go Ev
set_option linter.unusedVariables false
set_option linter.unusedSimpArgs false

structure J (H0 : Heap) (T : Nat → Nat) (p q : Nat) (vr lv cv : Value) (N : Nt) (R : Rt) (H : Heap) : Prop where
  net : NetD (fun b => T b = 3) H p vr N
  ref : RNet (fun b => T b = 7) H q lv cv R
  ext : Ext H0 H
  tp : T p = 1
  tq : T q = 4
  tv : ∀ g, vr.ownBlock = some g → T g = 2
  tl : ∀ g, lv.ownBlock = some g → T g = 5
  tc : ∀ g, cv.ownBlock = some g → T g = 6
  old : ∀ b, b < H0.size → T b = 0
  new : ∀ b, H.size ≤ b → T b = 0
section
variable {H0 H H1 : Heap} {T : Nat → Nat} {p q : Nat} {vr lv cv vr' lv' cv' : Value} {N N' : Nt} {R R' : Rt}
theorem J.lt (h : J H0 T p q vr lv cv N R H) {b : Nat} (hb : T b ≠ 0) : b < H.size := by
  rcases Nat.lt_or_ge b H.size with e | e
  · exact e
  · exact absurd (h.new b e) hb
theorem J.nF (h : J H0 T p q vr lv cv N R H) {b : Nat} (hb : T b = 0) : ¬ Fn p vr b := by
  rintro (e | e)
  · have := h.tp; rw [← e] at this; omega
  · have := h.tv b e; omega
theorem J.nG (h : J H0 T p q vr lv cv N R H) {b : Nat} (hb : T b = 0) : ¬ Gn q lv cv b := by
  rintro (e | e | e)
  · have := h.tq; rw [← e] at this; omega
  · have := h.tl b e; omega
  · have := h.tc b e; omega
theorem J.fresh (h : J H0 T p q vr lv cv N R H) {b : Nat} (hb : H.size ≤ b) : T b = 0 ∧ H0.size ≤ b := ⟨h.new b hb, by have := h.ext.size; omega⟩
theorem J.garb (h : J H0 T p q vr lv cv N R H) (hk : Kept (fun b => T b = 0 ∧ H0.size ≤ b) H H1) : J H0 T p q vr lv cv N R H1 := by
  have hs := hk.size
  refine ⟨h.net.keep hk (fun e => ?_) (fun g hg e => ?_) (fun b hb _ => ⟨fun e => by omega, hb⟩) h.net.dis, h.ref.keep hk (fun b hb e => ?_) (fun b hb _ => ⟨fun e => by omega, hb⟩) h.ref.dis, Kept.trans h.ext hk (fun _ f _ => f) (fun b e hl => by omega), h.tp, h.tq, h.tv, h.tl, h.tc, h.old, fun b hb => h.new b (by omega)⟩
  · have := h.tp; omega
  · have := h.tv g hg; omega
  · exact h.nG e.1 hb
theorem J.on (h : J H0 T p q vr lv cv N R H) (hk : Ext H H1) : J H0 T p q vr lv cv N R H1 := h.garb (hk.mono fun _ f _ => f.elim)
open Classical in
theorem J.x (h : J H0 T p q vr lv cv N R H) (hk : Kept (Fn p vr) H H1) {D' : Nat → Prop} (hn : NetD D' H1 p vr' N') (hD : ∀ b, D' b → T b = 3 ∨ H.size ≤ b) (hv : ∀ g, vr'.ownBlock = some g → vr.ownBlock = some g ∨ H.size ≤ g) :
    ∃ T', J H0 T' p q vr' lv cv N' R H1 ∧ (∀ b, b < H.size → T' b = T b) ∧ ∀ b, H.size ≤ b → vr'.ownBlock ≠ some b → ¬ D' b → T' b = 0 := by
  have hs := hk.size
  have hp := h.lt (b := p) (by have := h.tp; omega)
  have hq := h.lt (b := q) (by have := h.tq; omega)
  have vlt : ∀ g, vr'.ownBlock = some g → g < H1.size := fun g hg => own_lt hn.own hg
  let T' : Nat → Nat := fun b => if b < H.size then T b else if b < H1.size then (if vr'.ownBlock = some b then 2 else if D' b then 3 else 0) else 0
  have t1 : ∀ b, b < H.size → T' b = T b := fun b hb => if_pos hb
  have t2 : ∀ b, H.size ≤ b → T' b = 3 → b < H1.size ∧ vr'.ownBlock ≠ some b ∧ D' b := fun b hb e => by
    simp only [T', if_neg (Nat.not_lt.2 hb)] at e
    split at e
    · split at e
      · cases e
      · split at e
        · exact ⟨by assumption, by assumption, by assumption⟩
        · cases e
    · cases e
  have t4 : ∀ b, H.size ≤ b → T' b = 0 ∨ T' b = 2 ∨ T' b = 3 := fun b hb => by
    simp only [T', if_neg (Nat.not_lt.2 hb)]
    split
    · split
      · exact .inr (.inl rfl)
      · split
        · exact .inr (.inr rfl)
        · exact .inl rfl
    · exact .inl rfl
  refine ⟨T', ⟨?_, ?_, ?_, ?_, ?_, ?_, ?_, ?_, ?_, ?_⟩, t1, ?_⟩
  · refine hn.to (fun b hb hl => ?_) (fun b hb => ?_)
    · rcases Nat.lt_or_ge b H.size with e | e
      · rw [t1 b e]
        rcases hD b hb with e2 | e2
        · exact e2
        · omega
      · simp only [T', if_neg (Nat.not_lt.2 e), if_pos hl, if_neg (hn.dis b hb).2, if_pos hb]
    · rcases Nat.lt_or_ge b H.size with e | e
      · rw [t1 b e] at hb
        refine ⟨fun e2 => by have := h.tp; subst e2; omega, fun e2 => ?_⟩
        rcases hv b e2 with e3 | e3
        · have := h.tv b e3; omega
        · omega
      · obtain ⟨a1, a2, a3⟩ := t2 b e hb
        exact ⟨by omega, a2⟩
  · refine h.ref.keep hk (fun b hb e => ?_) (fun b hb hl => ⟨fun e => ?_, ?_⟩) (fun b hb => ?_)
    · have h1 : T b = 4 ∨ T b = 5 ∨ T b = 6 := by
        rcases hb with e2 | e2 | e2
        · rw [e2]; exact .inl h.tq
        · exact .inr (.inl (h.tl b e2))
        · exact .inr (.inr (h.tc b e2))
      rcases e with e | e
      · have := h.tp; rw [← e] at this; omega
      · have := h.tv b e; omega
    · rcases e with e | e
      · have := h.tp; rw [← e] at this; omega
      · have := h.tv b e; omega
    · rw [t1 b hl]; exact hb
    · rcases Nat.lt_or_ge b H.size with e | e
      · rw [t1 b e] at hb; exact h.ref.dis b hb
      · have := t4 b e; omega
  · refine Kept.trans h.ext hk (fun _ f _ => f) (fun b e hl => ?_)
    have := h.old b hl
    exact h.nF this e
  · rw [t1 p hp]; exact h.tp
  · rw [t1 q hq]; exact h.tq
  · intro g hg
    rcases Nat.lt_or_ge g H.size with e | e
    · rw [t1 g e]
      rcases hv g hg with e2 | e2
      · exact h.tv g e2
      · omega
    · simp only [T', if_neg (Nat.not_lt.2 e), if_pos (vlt g hg), if_pos hg]
  · intro g hg
    rw [t1 g (h.lt (by have := h.tl g hg; omega))]; exact h.tl g hg
  · intro g hg
    rw [t1 g (h.lt (by have := h.tc g hg; omega))]; exact h.tc g hg
  · intro b hb
    have := h.ext.size
    rw [t1 b (by omega)]; exact h.old b hb
  · intro b hb
    simp only [T', if_neg (Nat.not_lt.2 hb), if_neg (show ¬ b < H.size by omega)]
  · intro b hb h1 h2
    simp only [T', if_neg (Nat.not_lt.2 hb), if_neg h1, if_neg h2, ite_self]
theorem J.r (h : J H0 T p q vr lv cv N R H) (hk : Kept (Gn q lv cv) H H1) {D' : Nat → Prop} (hn : RNet D' H1 q lv' cv' R') (hD : ∀ b, D' b → T b = 7) (hD2 : ∀ b, T b = 7 → D' b) (hv : ∀ g, lv'.ownBlock = some g → lv.ownBlock = some g ∨ H.size ≤ g) (hc : ∀ g, cv'.ownBlock = some g → cv.ownBlock = some g ∨ H.size ≤ g) :
    ∃ T', J H0 T' p q vr lv' cv' N R' H1 ∧ (∀ b, b < H.size → T' b = T b) ∧ ∀ b, H.size ≤ b → lv'.ownBlock ≠ some b → cv'.ownBlock ≠ some b → T' b = 0 := by
  have hs := hk.size
  have hp := h.lt (b := p) (by have := h.tp; omega)
  have hq := h.lt (b := q) (by have := h.tq; omega)
  have llt : ∀ g, lv'.ownBlock = some g → g < H1.size := fun g hg => hn.llt hg
  have clt : ∀ g, cv'.ownBlock = some g → g < H1.size := fun g hg => hn.clt hg
  let T' : Nat → Nat := fun b => if b < H.size then T b else if lv'.ownBlock = some b then 5 else if cv'.ownBlock = some b then 6 else 0
  have t1 : ∀ b, b < H.size → T' b = T b := fun b hb => if_pos hb
  have t4 : ∀ b, H.size ≤ b → T' b = 0 ∨ T' b = 5 ∨ T' b = 6 := fun b hb => by
    simp only [T', if_neg (Nat.not_lt.2 hb)]
    split
    · exact .inr (.inl rfl)
    · split
      · exact .inr (.inr rfl)
      · exact .inl rfl
  have gtag : ∀ b, Gn q lv cv b → T b = 4 ∨ T b = 5 ∨ T b = 6 := fun b hb => by
    rcases hb with e2 | e2 | e2
    · rw [e2]; exact .inl h.tq
    · exact .inr (.inl (h.tl b e2))
    · exact .inr (.inr (h.tc b e2))
  refine ⟨T', ⟨?_, ?_, ?_, ?_, ?_, ?_, ?_, ?_, ?_, ?_⟩, t1, ?_⟩
  · refine h.net.keep hk (fun e => ?_) (fun g hg e => ?_) (fun b hb hl => ⟨fun e => ?_, ?_⟩) (fun b hb => ?_)
    · have := gtag p e; have := h.tp; omega
    · have := gtag g e; have := h.tv g hg; omega
    · have := gtag b e; omega
    · rw [t1 b hl]; exact hb
    · rcases Nat.lt_or_ge b H.size with e | e
      · rw [t1 b e] at hb; exact h.net.dis b hb
      · have := t4 b e; omega
  · refine hn.to (fun b hb hl => ?_) (fun b hb => ?_)
    · have := hD b hb
      rw [t1 b (h.lt (by omega))]; exact this
    · rcases Nat.lt_or_ge b H.size with e | e
      · rw [t1 b e] at hb; exact hn.dis b (hD2 b hb)
      · have := t4 b e; omega
  · refine Kept.trans h.ext hk (fun _ f _ => f) (fun b e hl => ?_)
    have := h.old b hl
    exact h.nG this e
  · rw [t1 p hp]; exact h.tp
  · rw [t1 q hq]; exact h.tq
  · intro g hg
    rw [t1 g (h.lt (by have := h.tv g hg; omega))]; exact h.tv g hg
  · intro g hg
    rcases Nat.lt_or_ge g H.size with e | e
    · rw [t1 g e]
      rcases hv g hg with e2 | e2
      · exact h.tl g e2
      · omega
    · simp only [T', if_neg (Nat.not_lt.2 e), if_pos hg]
  · intro g hg
    rcases Nat.lt_or_ge g H.size with e | e
    · rw [t1 g e]
      rcases hc g hg with e2 | e2
      · exact h.tc g e2
      · omega
    · simp only [T', if_neg (Nat.not_lt.2 e), if_pos hg, if_neg (fun e2 => hn.lc g e2 hg)]
  · intro b hb
    have := h.ext.size
    rw [t1 b (by omega)]; exact h.old b hb
  · intro b hb
    simp only [T', if_neg (show ¬ b < H.size by omega), if_neg (fun e => by have := llt b e; omega), if_neg (fun e => by have := clt b e; omega)]
  · intro b hb h1 h2
    simp only [T', if_neg (Nat.not_lt.2 hb), if_neg h1, if_neg h2]
open Classical in
theorem J.tag (h : J H0 T p q vr lv cv N R H) {Db : Nat → Prop} (hd : ∀ b, Db b → T b = 0 ∧ H0.size ≤ b ∧ b < H.size) : ∃ T', J H0 T' p q vr lv cv N R H ∧ (∀ b, Db b → T' b = 7) ∧ ∀ b, ¬ Db b → T' b = T b := by
  let T' : Nat → Nat := fun b => if Db b then 7 else T b
  have t1 : ∀ b, ¬ Db b → T' b = T b := fun b hb => if_neg hb
  have t2 : ∀ b, Db b → T' b = 7 := fun b hb => if_pos hb
  have t3 : ∀ b, T b ≠ 0 → T' b = T b := fun b hb => t1 b (fun e => hb (hd b e).1)
  refine ⟨T', ⟨?_, ?_, h.ext, ?_, ?_, ?_, ?_, ?_, ?_, ?_⟩, t2, t1⟩
  · refine h.net.to (fun b hb hl => by rw [t3 b (by omega)]; exact hb) (fun b hb => ?_)
    by_cases e : Db b
    · rw [t2 b e] at hb; omega
    · rw [t1 b e] at hb; exact h.net.dis b hb
  · refine h.ref.to (fun b hb hl => by rw [t3 b (by omega)]; exact hb) (fun b hb => ?_)
    by_cases e : Db b
    · have h0 := (hd b e).1
      have := h.nG h0
      exact ⟨fun e => this (.inl e), fun e => this (.inr (.inl e)), fun e => this (.inr (.inr e))⟩
    · rw [t1 b e] at hb; exact h.ref.dis b hb
  · rw [t3 p (by have := h.tp; omega)]; exact h.tp
  · rw [t3 q (by have := h.tq; omega)]; exact h.tq
  · intro g hg
    rw [t3 g (by have := h.tv g hg; omega)]; exact h.tv g hg
  · intro g hg
    rw [t3 g (by have := h.tl g hg; omega)]; exact h.tl g hg
  · intro g hg
    rw [t3 g (by have := h.tc g hg; omega)]; exact h.tc g hg
  · intro b hb
    rw [t1 b (fun e => by have := (hd b e).2; omega)]; exact h.old b hb
  · intro b hb
    rw [t1 b (fun e => by have := (hd b e).2; omega)]; exact h.new b hb
end
end Go.Proofs.Ytjgbbegfenmhaaa
