/- Memory told by a list of blocks, each with the cells that it begins with; loops taken round by round. Plain theorems over any program. -/
import Derived.Test.YtlaobecajieaaaaGreatG05
import Derived.LoopN
namespace Ev
open Go
set_option linter.unusedSimpArgs false
set_option linter.unusedVariables false

/-- block b begins with the cells xs, and may be written -/
def Has (H : Heap) (b : Nat) (xs : List Value) : Prop := ∃ cs t, H[b]? = some (.cells cs t (0, 0)) ∧ cs.toList.take xs.length = xs
section
variable {H H' : Heap} {b o : Nat} {xs ys : List Value} {v : Value} {S : Nat → Prop}
theorem Has.cell (h : Has H b xs) (hx : xs[o]? = some v) : Cell H b o v := by
  obtain ⟨cs, t, hb, he⟩ := h
  refine Cell.of hb ?_
  rw [← he, List.getElem?_take] at hx
  split at hx
  · simpa using hx
  · cases hx
theorem Has.keep (h : Has H b xs) (hk : Kept S H H') (hS : ¬ S b) : Has H' b xs := by
  obtain ⟨cs, t, hb, he⟩ := h
  exact ⟨cs, t, hk.keep hb hS, he⟩
theorem Has.lt (h : Has H b xs) : b < H.size := by
  obtain ⟨cs, t, hb, he⟩ := h
  exact lt_of_heap hb
theorem Has.of {t : TypeId} (hb : H[b]? = some (.cells xs.toArray t (0, 0))) : Has H b xs := ⟨_, t, hb, by simp⟩
theorem Has.ofB {cs : Array Value} {t : TypeId} (hb : H[b]? = some (.cells cs t (0, 0))) (hc : cs = xs.toArray) : Has H b xs := by
  subst hc
  exact Has.of hb
theorem Has.own {e : TypeId} {size base nn c : Nat} (h : Own H base e size (.slice (some ⟨b, 0, none⟩) nn c) nn xs) : Has H b xs := by
  rcases h.2 with ⟨h1, _⟩ | ⟨g, cap, cur, h1, _, h3, _, _, _, h7⟩
  · cases h1
  · simp only [Value.slice.injEq, Option.some.injEq, Addr.mk.injEq] at h1
    obtain ⟨⟨rfl, _⟩, _⟩ := h1
    exact ⟨cur, e, h3, by rw [h.1]; exact h7⟩
end
theorem take_mid {cs xs ys : List Value} {off : Nat} (he : cs.take xs.length = xs) (h : off + ys.length ≤ xs.length) : (cs.take off ++ ys ++ cs.drop (off + ys.length)).take (xs.take off ++ ys ++ xs.drop (off + ys.length)).length = xs.take off ++ ys ++ xs.drop (off + ys.length) := by
  obtain ⟨r, hr⟩ : ∃ r, cs = xs ++ r := ⟨cs.drop xs.length, by conv => lhs; rw [← List.take_append_drop xs.length cs, he]⟩
  have e1 : cs.take off = xs.take off := by rw [hr, List.take_append_of_le_length (by omega)]
  have e2 : cs.drop (off + ys.length) = xs.drop (off + ys.length) ++ r := by rw [hr, List.drop_append_of_le_length h]
  rw [e1, e2, ← List.append_assoc, List.take_left]
abbrev Bks := List (Nat × List Value)
abbrev keys (L : Bks) : List Nat := L.map Prod.fst
/-- since H0 nothing old has turned but blocks of L; these begin so, those of R hold so -/
structure Mem (H0 : Heap) (R L : Bks) (H : Heap) : Prop where
  has : ∀ p ∈ L, Has H p.1 p.2
  ro : ∀ p ∈ R, p.1 < H.size ∧ ∀ o v, p.2[o]? = some v → Cell H p.1 o v
  nd : (keys L).Nodup
  apart : ∀ p ∈ R, p.1 ∉ keys L
  kept : Kept (fun b => b ∈ keys L) H0 H
inductive Look : Bks → Nat → List Value → Prop
  | here {b : Nat} {xs : List Value} {r : Bks} : Look ((b, xs) :: r) b xs
  | there {p : Nat × List Value} {b : Nat} {xs : List Value} {r : Bks} : Look r b xs → Look (p :: r) b xs
inductive Upd : Bks → Nat → List Value → List Value → Bks → Prop
  | here {b : Nat} {xs ys : List Value} {r : Bks} : Upd ((b, xs) :: r) b xs ys ((b, ys) :: r)
  | there {p : Nat × List Value} {b : Nat} {xs ys : List Value} {r r' : Bks} : Upd r b xs ys r' → Upd (p :: r) b xs ys (p :: r')
theorem Look.mem {L : Bks} {b : Nat} {xs : List Value} (h : Look L b xs) : (b, xs) ∈ L := by
  induction h with
  | here => simp
  | there _ ih => exact List.mem_cons_of_mem _ ih
section
variable {L L' : Bks} {b : Nat} {xs ys : List Value}
theorem Upd.look (h : Upd L b xs ys L') : (b, xs) ∈ L := by
  induction h with
  | here => simp
  | there _ ih => exact List.mem_cons_of_mem _ ih
theorem Upd.keys (h : Upd L b xs ys L') : keys L' = keys L := by
  induction h with
  | here => rfl
  | there _ ih => simp only [Ev.keys, List.map_cons] at *; rw [ih]
theorem Upd.mem (h : Upd L b xs ys L') (nd : (Ev.keys L).Nodup) : ∀ p ∈ L', p = (b, ys) ∨ (p ∈ L ∧ p.1 ≠ b) := by
  induction h with
  | here =>
    intro p hp
    simp only [Ev.keys, List.map_cons, List.nodup_cons] at nd
    rcases List.mem_cons.1 hp with rfl | hp
    · exact .inl rfl
    · exact .inr ⟨List.mem_cons_of_mem _ hp, fun e => nd.1 (by rw [← e]; exact List.mem_map_of_mem hp)⟩
  | there hu ih =>
    intro p hp
    simp only [Ev.keys, List.map_cons, List.nodup_cons] at nd
    rcases List.mem_cons.1 hp with rfl | hp
    · exact .inr ⟨List.mem_cons_self, fun e => nd.1 (by rw [e]; exact List.mem_map_of_mem hu.look)⟩
    · rcases ih nd.2 p hp with e | ⟨e, e2⟩
      · exact .inl e
      · exact .inr ⟨List.mem_cons_of_mem _ e, e2⟩
end
section
variable {H0 H H' : Heap} {R R' L L' L1 : Bks} {b o : Nat} {xs ys : List Value} {v : Value}
theorem key_of {p : Nat × List Value} (h : p ∈ L) : p.1 ∈ keys L := List.mem_map_of_mem h
theorem Mem.start (H : Heap) : Mem H [] [] H := ⟨by simp, by simp, by simp [keys], by simp, Kept.refl _ _⟩
theorem Mem.lt (h : Mem H0 R L H) : ∀ b ∈ keys L, b < H.size := fun b hb => by
  obtain ⟨p, hp, rfl⟩ := List.mem_map.1 hb
  exact (h.has p hp).lt
theorem Mem.ext (h : Mem H0 R L H) (hx : Ext H H') : Mem H0 R L H' :=
  ⟨fun p hp => (h.has p hp).keep hx (fun f => f), fun p hp => ⟨Nat.lt_of_lt_of_le (h.ro p hp).1 hx.size, fun o v hv => ((h.ro p hp).2 o v hv).keep hx (fun f => f)⟩, h.nd, h.apart, h.kept.then_ext hx⟩
theorem Mem.put (h : Mem H0 R L H) (hu : Upd L b xs ys L') (hk : Kept (· = b) H H') (hy : Has H' b ys) : Mem H0 R L' H' := by
  have hb : b ∈ keys L := key_of hu.look
  refine ⟨fun p hp => ?_, fun p hp => ?_, by rw [hu.keys]; exact h.nd, by rw [hu.keys]; exact h.apart, ?_⟩
  · rcases hu.mem h.nd p hp with rfl | ⟨e, e2⟩
    · exact hy
    · exact (h.has p e).keep hk e2
  · have hne : ¬ p.1 = b := fun e => h.apart p hp (e ▸ hb)
    exact ⟨Nat.lt_of_lt_of_le (h.ro p hp).1 hk.size, fun o v hv => ((h.ro p hp).2 o v hv).keep hk hne⟩
  · rw [hu.keys]
    exact Kept.trans h.kept hk (fun i s _ => s) (fun i s _ => s ▸ hb)
theorem Mem.new (h : Mem H0 R L H) (hx : Ext H H') (hb : H.size ≤ b) (hy : Has H' b ys) : Mem H0 R ((b, ys) :: L) H' := by
  have h' := h.ext hx
  refine ⟨fun p hp => ?_, h'.ro, ?_, fun p hp e => ?_, h'.kept.mono (fun i s _ => List.mem_cons_of_mem _ s)⟩
  · rcases List.mem_cons.1 hp with rfl | hp
    · exact hy
    · exact h'.has p hp
  · simp only [keys, List.map_cons, List.nodup_cons]
    exact ⟨fun e => by have := h.lt b e; omega, h.nd⟩
  · rcases List.mem_cons.1 e with e | e
    · have := (h.ro p hp).1; rw [e] at this; simp only at this; omega
    · exact h.apart p hp e
theorem Mem.size (h : Mem H0 R L H) : H0.size ≤ H.size := h.kept.size
/-- an old block taken in, to be written -/
theorem Mem.take (h : Mem H0 R L H) (hy : Has H b ys) (hb : b ∉ keys L) (hr : ∀ p ∈ R, p.1 ≠ b) : Mem H0 R ((b, ys) :: L) H := by
  refine ⟨fun p hp => ?_, h.ro, ?_, fun p hp e => ?_, h.kept.mono (fun i s _ => List.mem_cons_of_mem _ s)⟩
  · rcases List.mem_cons.1 hp with rfl | hp
    · exact hy
    · exact h.has p hp
  · simp only [keys, List.map_cons, List.nodup_cons]
    exact ⟨hb, h.nd⟩
  · rcases List.mem_cons.1 e with e | e
    · exact hr p hp e
    · exact h.apart p hp e
/-- an old block taken in, to be read -/
theorem Mem.read (h : Mem H0 R L H) (hl : b < H.size) (hy : ∀ o v, ys[o]? = some v → Cell H b o v) (hb : b ∉ keys L) : Mem H0 ((b, ys) :: R) L H := by
  refine ⟨h.has, fun p hp => ?_, h.nd, fun p hp => ?_, h.kept⟩
  · rcases List.mem_cons.1 hp with rfl | hp
    · exact ⟨hl, hy⟩
    · exact h.ro p hp
  · rcases List.mem_cons.1 hp with rfl | hp
    · exact hb
    · exact h.apart p hp
/-- what is told of a block -/
inductive LookR : Bks → Bks → Nat → List Value → Prop
  | l {R L : Bks} {b : Nat} {xs : List Value} : Look L b xs → LookR R L b xs
  | r {R L : Bks} {b : Nat} {xs : List Value} : Look R b xs → LookR R L b xs
theorem Mem.cell (h : Mem H0 R L H) (hl : LookR R L b xs) (hv : xs[o]? = some v) : Cell H b o v := by
  cases hl with
  | l hl => exact (h.has _ hl.mem).cell hv
  | r hl => exact (h.ro _ hl.mem).2 o v hv
theorem Mem.blt (h : Mem H0 R L H) (hl : LookR R L b xs) : b < H.size := by
  cases hl with
  | l hl => exact (h.has _ hl.mem).lt
  | r hl => exact (h.ro _ hl.mem).1
/-- block b begins with the cells xs, to be read -/
def Ro (H : Heap) (b : Nat) (xs : List Value) : Prop := b < H.size ∧ ∀ o v, xs[o]? = some v → Cell H b o v
theorem Ro.keep {S : Nat → Prop} (h : Ro H b xs) (hk : Kept S H H') (hS : ¬ S b) : Ro H' b xs := ⟨Nat.lt_of_lt_of_le h.1 hk.size, fun o v hv => (h.2 o v hv).keep hk hS⟩
theorem Has.ro (h : Has H b xs) : Ro H b xs := ⟨h.lt, fun o v hv => h.cell hv⟩
theorem Ro.of {cs : Array Value} {t : TypeId} {fr : Nat × Nat} (hb : H[b]? = some (.cells cs t fr)) (hc : cs = xs.toArray) : Ro H b xs := ⟨lt_of_heap hb, fun o v hv => by subst hc; exact Cell.of hb (by simpa using hv)⟩
theorem Mem.roOf (h : Mem H0 R L H) (hl : LookR R L b xs) : Ro H b xs := ⟨h.blt hl, fun o v hv => h.cell hl hv⟩
theorem Mem.startR (h : Ro H b xs) : Mem H [(b, xs)] [] H := (Mem.start H).read h.1 h.2 (by simp [keys])
theorem Mem.startL (h : Has H b xs) : Mem H [] [(b, xs)] H := (Mem.start H).take h (by simp [keys]) (by simp)
theorem Mem.andR (h : Mem H R [] H) (hr : Ro H b xs) : Mem H ((b, xs) :: R) [] H := h.read hr.1 hr.2 (by simp [keys])
theorem Mem.andR1 {c : Nat} {zs : List Value} (h : Mem H R [(c, zs)] H) (hr : Ro H b xs) (hn : b ≠ c) : Mem H ((b, xs) :: R) [(c, zs)] H := h.read hr.1 hr.2 (by simpa [keys] using hn)
theorem Mem.has1 (h : Mem H0 R L H) (hl : Look L b xs) : Has H b xs := h.has _ hl.mem
/-- what a call made of the blocks: those of L1 are turned, or new -/
inductive Mg (N : Nat) : Bks → Bks → Bks → Prop
  | nil {L : Bks} : Mg N L [] L
  | upd {L Lm L1 L' : Bks} {b : Nat} {xs ys : List Value} : Upd L b xs ys Lm → Mg N Lm L1 L' → Mg N L ((b, ys) :: L1) L'
  | new {L L1 L' : Bks} {b : Nat} {ys : List Value} : N ≤ b → Mg N ((b, ys) :: L) L1 L' → Mg N L ((b, ys) :: L1) L'
theorem Mg.facts {N : Nat} (h : Mg N L L1 L') : (keys L).Nodup → (keys L1).Nodup → (∀ p ∈ L, p.1 < N ∨ p.1 ∉ keys L1) →
    (keys L').Nodup ∧ (∀ p ∈ L', p ∈ L1 ∨ (p ∈ L ∧ p.1 ∉ keys L1)) ∧ (∀ b ∈ keys L, b ∈ keys L') ∧ (∀ b ∈ keys L1, b ∈ keys L') ∧ ∀ b ∈ keys L', b ∈ keys L ∨ N ≤ b := by
  induction h with
  | nil => exact fun nd _ _ => ⟨nd, fun p hp => .inr ⟨hp, by simp [keys]⟩, fun b hb => hb, by simp [keys], fun b hb => .inl hb⟩
  | @upd L Lm L1 L' b xs ys hu hm ih =>
    intro nd nd1 hlt
    simp only [keys, List.map_cons, List.nodup_cons] at nd1
    obtain ⟨a1, a2, a3, a4, a5⟩ := ih (by rw [hu.keys]; exact nd) nd1.2 (fun p hp => by
      rcases hu.mem nd p hp with rfl | ⟨e, _⟩
      · exact .inr nd1.1
      · rcases hlt p e with h | h
        · exact .inl h
        · exact .inr (fun e2 => h (List.mem_cons_of_mem _ e2)))
    rw [hu.keys] at a3 a5
    refine ⟨a1, fun p hp => ?_, a3, fun c hc => ?_, a5⟩
    · rcases a2 p hp with e | ⟨e, e2⟩
      · exact .inl (List.mem_cons_of_mem _ e)
      · rcases hu.mem nd p e with rfl | ⟨e3, e4⟩
        · exact .inl List.mem_cons_self
        · exact .inr ⟨e3, fun e5 => by
            rcases List.mem_cons.1 e5 with e5 | e5
            · exact e4 e5
            · exact e2 e5⟩
    · rcases List.mem_cons.1 hc with rfl | hc
      · exact a3 _ (key_of hu.look)
      · exact a4 c hc
  | @new L L1 L' b ys hb hm ih =>
    intro nd nd1 hlt
    simp only [keys, List.map_cons, List.nodup_cons] at nd1
    have hbL : b ∉ keys L := fun e => by
      obtain ⟨p, hp, rfl⟩ := List.mem_map.1 e
      rcases hlt p hp with h | h
      · omega
      · exact h (by simp [keys])
    obtain ⟨a1, a2, a3, a4, a5⟩ := ih (by simp only [keys, List.map_cons, List.nodup_cons]; exact ⟨hbL, nd⟩) nd1.2 (fun p hp => by
      rcases List.mem_cons.1 hp with rfl | hp
      · exact .inr nd1.1
      · rcases hlt p hp with h | h
        · exact .inl h
        · exact .inr (fun e2 => h (List.mem_cons_of_mem _ e2)))
    refine ⟨a1, fun p hp => ?_, fun c hc => a3 c (List.mem_cons_of_mem _ hc), fun c hc => ?_, fun c hc => ?_⟩
    · rcases a2 p hp with e | ⟨e, e2⟩
      · exact .inl (List.mem_cons_of_mem _ e)
      · rcases List.mem_cons.1 e with rfl | e
        · exact .inl List.mem_cons_self
        · exact .inr ⟨e, fun e5 => by
            rcases List.mem_cons.1 e5 with e5 | e5
            · exact hbL (by have e6 : p.1 = b := e5; rw [← e6]; exact key_of e)
            · exact e2 e5⟩
    · rcases List.mem_cons.1 hc with rfl | hc
      · exact a3 _ (by simp [keys])
      · exact a4 c hc
    · rcases a5 c hc with e | e
      · rcases List.mem_cons.1 e with rfl | e
        · exact .inr hb
        · exact .inl e
      · exact .inr e
theorem Mem.aft {R1 : Bks} (h : Mem H0 R L H) (h1 : Mem H R1 L1 H') (mg : Mg H.size L L1 L') : Mem H0 R L' H' := by
  obtain ⟨a1, a2, a3, a4, a5⟩ := mg.facts h.nd h1.nd (fun p hp => .inl ((h.has p hp).lt))
  refine ⟨fun p hp => ?_, fun p hp => ?_, a1, fun p hp e => ?_, ?_⟩
  · rcases a2 p hp with e | ⟨e, e2⟩
    · exact h1.has p e
    · exact (h.has p e).keep h1.kept e2
  · have hn : p.1 ∉ keys L1 := fun e => by
      rcases a5 _ (a4 _ e) with e | e
      · exact h.apart p hp e
      · have := (h.ro p hp).1; omega
    exact ⟨Nat.lt_of_lt_of_le (h.ro p hp).1 h1.size, fun o v hv => ((h.ro p hp).2 o v hv).keep h1.kept hn⟩
  · rcases a5 _ e with e | e
    · exact h.apart p hp e
    · have := (h.ro p hp).1; omega
  · exact Kept.trans h.kept h1.kept (fun i s _ => a3 i s) (fun i s _ => a4 i s)
/-- new blocks may be forgotten -/
inductive Pick (N : Nat) : Bks → Bks → Prop
  | nil : Pick N [] []
  | drop {L L' : Bks} {b : Nat} {xs : List Value} : N ≤ b → Pick N L L' → Pick N ((b, xs) :: L) L'
  | keep {L L' : Bks} {b : Nat} {xs : List Value} : Pick N L L' → Pick N ((b, xs) :: L) ((b, xs) :: L')
theorem Pick.facts {N : Nat} (h : Pick N L L') : List.Sublist L' L ∧ ∀ b ∈ keys L, b ∈ keys L' ∨ N ≤ b := by
  induction h with
  | nil => exact ⟨.slnil, by simp [keys]⟩
  | drop hb _ ih =>
    refine ⟨.cons _ ih.1, fun c hc => ?_⟩
    rcases List.mem_cons.1 hc with rfl | hc
    · exact .inr hb
    · exact ih.2 c hc
  | keep _ ih =>
    refine ⟨.cons_cons _ ih.1, fun c hc => ?_⟩
    rcases List.mem_cons.1 hc with rfl | hc
    · exact .inl (by simp [keys])
    · rcases ih.2 c hc with e | e
      · exact .inl (List.mem_cons_of_mem _ e)
      · exact .inr e
theorem Mem.pick (h : Mem H0 R L H) (hp : Pick H0.size L L') : Mem H0 [] L' H := by
  obtain ⟨a1, a2⟩ := hp.facts
  refine ⟨fun p hp => h.has p (a1.subset hp), by simp, (a1.map Prod.fst).nodup h.nd, by simp, ⟨h.kept.size, fun k hk hS => h.kept.block k hk (fun e => ?_)⟩⟩
  rcases a2 k e with e | e
  · exact hS e
  · omega
theorem Mem.toExt (h : Mem H0 R L H) (hp : Pick H0.size L []) : Ext H0 H := (h.pick hp).kept.mono (fun i s _ => by cases s)
theorem Mem.ofExt (h : Ext H0 H) : Mem H0 [] [] H := ⟨by simp, by simp, by simp [keys], by simp, h.mono (fun _ f _ => f.elim)⟩
theorem Mem.ofNew {b : Nat} (h : Ext H0 H) (hb : H0.size ≤ b) (hh : Has H b ys) : Mem H0 [] [(b, ys)] H := (Mem.start H0).new h hb hh
theorem Mem.ofPut {b : Nat} (h : Kept (· = b) H0 H) (hh : Has H b ys) : Mem H0 [] [(b, ys)] H :=
  ⟨fun p hp => by rw [List.mem_singleton.1 hp]; exact hh, by simp, by simp [keys], by simp, h.mono (fun i s _ => by simp [keys, s])⟩
end

section
variable {P : Program} {n : Nat} {W : World} {env : Env} {H0 H H' : Heap} {R L L' : Bks} {Q : Exit → Act → World → Prop} {K : Act → World → Prop} {ops : Array Oper} {rest : List Oper} {o : Oper}
variable {ty : TypeId} {pos : String} {af : Array Edge} {gd : Option (Nat × Bool)}
def Am (n : Nat) (W : World) (env : Env) (H0 : Heap) (R L : Bks) (K : Act → World → Prop) : Prop := ∀ H, Mem H0 R L H → At n W env H K
theorem Am.on (h : Mem H0 R L H) (k : Am n W env H0 R L K) : At n W env H K := k H h
theorem At_am (k : ∀ H, Mem H0 R L H → At n W env H K) : Am n W env H0 R L K := k
theorem Am.new (k : Am n W env H [] [] K) : At n W env H K := k H (Mem.start H)
theorem Am.sub {e' : Env} (s : Sub e' env) (h : Am n W e' H0 R L K) : Am n W env H0 R L K := fun H hm => At_sub s (h H hm)
-- loops, round by round
theorem At_rounds {c : Code} (k : Nat) (h : At n W env H (Code.rounds P c Q k)) : At n W env H ((Code.loop c).wp P Q) := fun a w f e l => wp_loop_rounds k (h a w f e l)
theorem At_round {c : Code} {k : Nat} (h : At n W env H (c.wp P (Exit.then (Code.rounds P c Q k) Q))) : At n W env H (Code.rounds P c Q (k + 1)) := h
def isCmp : BinOp → Bool
  | .eql | .neq | .lss | .leq | .gtr | .geq => true
  | _ => false
theorem p_cmpC {op : BinOp} {x y : Operand} {t t2 : TypeId} {u v : Value} {ds : Option Tmp} (r : Bool) (ho : isCmp op = true) (hx : ev env x = some u) (hy : ev env y = some v) (hg : eqGuard op t x y u v = pure ()) (h : binOp op t u v = pure (.bool r)) :
    Pure P n env ⟨ds, .binOp op t x y t2, ty, pos, af, gd⟩ (.bool r) := p_binC (.bool r) hx hy hg h
theorem codeM {X Y : Act → World → Prop} (h : ∀ (n : Nat) (W : World) (env : Env) (H : Heap), At n W env H Y → At n W env H X := by
  first
  | exact fun _ _ _ _ h => At_seq h
  | exact fun _ _ _ _ h => At_region h
  | exact fun _ _ _ _ h => At_then_normal h
  | exact fun _ _ _ _ h => At_nil h
  | exact fun _ _ _ _ h => At_skip h
  | exact fun _ _ _ _ h => At_scope h
  | exact fun _ _ _ _ h => At_label h
  | exact fun _ _ _ _ h => At_ret h
  | exact fun _ _ _ _ h => At_exit h
  | exact fun _ _ _ _ h => At_block h
  | exact fun _ _ _ _ h => At_rounds 4 h
  | exact fun _ _ _ _ h => At_round h
  | exact fun _ _ _ _ h => At_inBlock_normal h
  | exact fun _ _ _ _ h => At_inBlock_same h
  | exact fun _ _ _ _ h => At_inBlock_ret h
  | exact fun _ _ _ _ h => At_then_ret h
  | exact fun _ _ _ _ h => At_then_exit h
  | exact fun _ _ _ _ h => At_inBlock_other rfl h
  | exact fun _ _ _ _ h => At_noGoto_normal h
  | exact fun _ _ _ _ h => At_noGoto_ret h
  | exact fun _ _ _ _ h => At_noGoto_exit h) (k : Am n W env H0 R L Y) : Am n W env H0 R L X := fun H hm => h n W env H (k H hm)
theorem condM {c : Operand} {x y z : Code} (h : ev env c = some (.bool true) ∧ z = x ∨ ev env c = some (.bool false) ∧ z = y := by
  first
  | exact Or.inl ⟨rfl, rfl⟩
  | exact Or.inr ⟨rfl, rfl⟩) (k : Am n W env H0 R L (z.wp P Q)) : Am n W env H0 R L ((Code.cond c x y).wp P Q) := fun H hm => condA h (k H hm)
theorem condD {c : Operand} {x y : Code} {p : Prop} [Decidable p] (hc : ev env c = some (.bool (decide p))) (ht : p → Am n W env H0 R L (x.wp P Q)) (hf : ¬ p → Am n W env H0 R L (y.wp P Q)) : Am n W env H0 R L ((Code.cond c x y).wp P Q) :=
  fun H hm => At_cond_dec hc (fun h => ht h H hm) (fun h => hf h H hm)
theorem pureM {d : Nat} {v : Value} (hw : want ops env o = some true := by exact rfl) (hr : Pure P n env o v := by
  first
  | exact p_move rfl
  | exact p_assign rfl
  | exact p_nilCheck rfl
  | exact p_fieldAddr rfl
  | exact p_extract rfl rfl
  | exact p_len rfl rfl
  | exact p_not_true rfl
  | exact p_not_false rfl
  | exact p_pick_true rfl rfl
  | exact p_pick_false rfl rfl
  | exact p_indexAddr rfl rfl (by omega)
  | exact p_indexAddr (i := 0) rfl rfl (by omega)
  | exact p_indexAddr (i := 1) rfl rfl (by omega)
  | exact p_makeFunc0 rfl
  | exact p_eql_slice_nil rfl rfl
  | exact p_neq_slice_nil rfl rfl
  | exact p_eql_ptr_nil rfl rfl
  | exact p_neq_ptr_nil rfl rfl
  | exact p_add rfl rfl (by omega)
  | exact p_sub rfl rfl (by omega)
  | exact p_min_l rfl rfl (by omega)
  | exact p_min_r rfl rfl (by omega)
  | exact p_max_l rfl rfl (by omega)
  | exact p_max_r rfl rfl (by omega)
  | exact p_eql_bool rfl rfl
  | exact p_neq_bool rfl rfl
  | exact p_true (p_lss rfl rfl) (by omega)
  | exact p_false (p_lss rfl rfl) (by omega)
  | exact p_true (p_leq rfl rfl) (by omega)
  | exact p_false (p_leq rfl rfl) (by omega)
  | exact p_true (p_gtr rfl rfl) (by omega)
  | exact p_false (p_gtr rfl rfl) (by omega)
  | exact p_true (p_geq rfl rfl) (by omega)
  | exact p_false (p_geq rfl rfl) (by omega)
  | exact p_true (p_eql rfl rfl) (by omega)
  | exact p_false (p_eql rfl rfl) (by omega)
  | exact p_true (p_neq rfl rfl) (by omega)
  | exact p_false (p_neq rfl rfl) (by omega)
  | exact p_real rfl
  | exact p_imag rfl
  | exact p_cmpC true rfl rfl rfl rfl (by kernel_rfl)
  | exact p_not_dec rfl) (hd : o.dst = some d := by exact rfl) (hn : Nat.blt d n = true := by exact rfl) (k : Am n W ((d, v) :: env) H0 R L (wpList P ops Q rest)) : Am n W env H0 R L (wpList P ops Q (o :: rest)) := fun H hm => At_pure hr hw hd hn (k H hm)
theorem offM {d : Nat} (hw : want ops env o = some false := by exact rfl) (hd : o.dst = some d := by exact rfl) (hn : Nat.blt d n = true := by exact rfl) (k : Am n W ((d, undef) :: env) H0 R L (wpList P ops Q rest)) : Am n W env H0 R L (wpList P ops Q (o :: rest)) := fun H hm => At_off hw hd hn (k H hm)
theorem offMn (hw : want ops env o = some false := by exact rfl) (hd : o.dst = none := by exact rfl) (k : Am n W env H0 R L (wpList P ops Q rest)) : Am n W env H0 R L (wpList P ops Q (o :: rest)) := fun H hm => At_off_none hw hd (k H hm)
theorem undM {d : Nat} {v : Value} (hw : want ops env o = some true := by exact rfl) (hr : Pure P n env o v := by
  first
  | exact p_lss rfl rfl
  | exact p_leq rfl rfl
  | exact p_gtr rfl rfl
  | exact p_geq rfl rfl
  | exact p_eql rfl rfl
  | exact p_neq rfl rfl) (hd : o.dst = some d := by exact rfl) (hn : Nat.blt d n = true := by exact rfl) (k : Am n W ((d, v) :: env) H0 R L (wpList P ops Q rest)) : Am n W env H0 R L (wpList P ops Q (o :: rest)) := fun H hm => At_pure hr hw hd hn (k H hm)
/-- a pure operation, by its rule -/
theorem pM {d : Nat} {v : Value} (hr : Pure P n env o v) (hw : want ops env o = some true := by exact rfl) (hd : o.dst = some d := by exact rfl) (hn : Nat.blt d n = true := by exact rfl) (k : Am n W ((d, v) :: env) H0 R L (wpList P ops Q rest)) : Am n W env H0 R L (wpList P ops Q (o :: rest)) := fun H hm => At_pure hr hw hd hn (k H hm)
theorem tellM (t : Nat) {v : Value} (v' : Value) (h : env.get t = some v) (e : v = v') (k : Am n W ((t, v') :: env) H0 R L K) : Am n W env H0 R L K := fun H hm => At_tell t v' h e (k H hm)
theorem loadM {d b off sz sb : Nat} {v z : Value} {x : Operand} {t : TypeId} {dc : TypeDesc} {xs : List Value} [h : Ty P t dc sz sb z] (hw : want ops env ⟨some d, .load t x, ty, pos, af, gd⟩ = some true := by exact rfl)
    (hx : ev env x = some (.pointer (some ⟨b, off, none⟩)) := by exact rfl) (hd : isAggD dc = false := by exact rfl)
    (hl : LookR R L b xs := by first | exact .l .here | exact .l (.there .here) | exact .l (.there (.there .here)) | exact .l (.there (.there (.there .here))) | exact .l (.there (.there (.there (.there .here)))) | exact .l (.there (.there (.there (.there (.there .here))))) | exact .l (.there (.there (.there (.there (.there (.there .here)))))) | exact .l (.there (.there (.there (.there (.there (.there (.there .here))))))) | exact .l (.there (.there (.there (.there (.there (.there (.there (.there .here)))))))) | exact .r .here | exact .r (.there .here) | exact .r (.there (.there .here)) | exact .r (.there (.there (.there .here))))
    (hv : xs[off]? = some v := by exact rfl) (hn : Nat.blt d n = true := by exact rfl) (k : Am n W ((d, v) :: env) H0 R L (wpList P ops Q rest)) : Am n W env H0 R L (wpList P ops Q (⟨some d, .load t x, ty, pos, af, gd⟩ :: rest)) :=
  fun H hm => At_read (r_load hx hd (hm.cell hl hv)) hw rfl hn (k H hm)
/-- a struct out of a block: all of its cells from 'off' on -/
theorem loadN {d b off sz sb : Nat} {z : Value} {x : Operand} {t : TypeId} {dc : TypeDesc} {xs : List Value} (cs : List Value) [h : Ty P t dc sz sb z] (hx : ev env x = some (.pointer (some ⟨b, off, none⟩))) (hl : LookR R L b xs) (hcs : (xs.drop off).take cs.length = cs) (hd : isAggD dc = true) (hsz : Nat.beq cs.length sz = true)
    (hw : want ops env ⟨some d, .load t x, ty, pos, af, gd⟩ = some true) (hn : Nat.blt d n = true) (k : Am n W ((d, .agg cs.toArray) :: env) H0 R L (wpList P ops Q rest)) : Am n W env H0 R L (wpList P ops Q (⟨some d, .load t x, ty, pos, af, gd⟩ :: rest)) :=
  fun H hm => At_read (r_loadN (cs := cs) hx hd hsz (fun j v hj => hm.cell hl (by
    rw [← hcs, List.getElem?_take] at hj
    split at hj
    · rw [List.getElem?_drop] at hj
      exact hj
    · cases hj))) hw rfl hn (k H hm)
/-- .. a whole block -/
theorem loadB {d b sz sb : Nat} {z : Value} {x : Operand} {t : TypeId} {dc : TypeDesc} {xs : List Value} [h : Ty P t dc sz sb z] (hw : want ops env ⟨some d, .load t x, ty, pos, af, gd⟩ = some true := by exact rfl) (hx : ev env x = some (.pointer (some ⟨b, 0, none⟩)) := by exact rfl) (hd : isAggD dc = true := by exact rfl)
    (hl : LookR R L b xs := by first | exact .l .here | exact .l (.there .here) | exact .l (.there (.there .here)) | exact .l (.there (.there (.there .here))) | exact .l (.there (.there (.there (.there .here)))) | exact .l (.there (.there (.there (.there (.there .here))))) | exact .l (.there (.there (.there (.there (.there (.there .here)))))) | exact .l (.there (.there (.there (.there (.there (.there (.there .here))))))) | exact .l (.there (.there (.there (.there (.there (.there (.there (.there .here)))))))) | exact .r .here | exact .r (.there .here) | exact .r (.there (.there .here)) | exact .r (.there (.there (.there .here))))
    (hsz : Nat.beq xs.length sz = true := by exact rfl) (hn : Nat.blt d n = true := by exact rfl) (k : Am n W ((d, .agg xs.toArray) :: env) H0 R L (wpList P ops Q rest)) : Am n W env H0 R L (wpList P ops Q (⟨some d, .load t x, ty, pos, af, gd⟩ :: rest)) :=
  loadN xs hx hl (by rw [List.drop_zero, List.take_length]) hd hsz hw hn k
theorem storeM {b off sz sb : Nat} {v z : Value} {x y : Operand} {t : TypeId} {dc : TypeDesc} {xs : List Value} [h : Ty P t dc sz sb z] (hw : want ops env ⟨none, .store t x y, ty, pos, af, gd⟩ = some true := by exact rfl) (hs : sz = 1 := by exact rfl)
    (hx : ev env x = some (.pointer (some ⟨b, off, none⟩)) := by exact rfl) (hy : ev env y = some v := by exact rfl) (hv : v.cells = #[v] := by exact rfl) (h1 : v.oneCell' = true := by exact rfl)
    (hu : Upd L b xs (xs.set off v) L' := by first | exact .here | exact (.there .here) | exact (.there (.there .here)) | exact (.there (.there (.there .here))) | exact (.there (.there (.there (.there .here)))) | exact (.there (.there (.there (.there (.there .here))))) | exact (.there (.there (.there (.there (.there (.there .here)))))) | exact (.there (.there (.there (.there (.there (.there (.there .here))))))) | exact (.there (.there (.there (.there (.there (.there (.there (.there .here)))))))))
    (ho : Nat.blt off xs.length = true := by exact rfl) (k : Am n W env H0 R L' (wpList P ops Q rest)) : Am n W env H0 R L (wpList P ops Q (⟨none, .store t x y, ty, pos, af, gd⟩ :: rest)) := fun H hm => by
  obtain ⟨cs, bt, hb, he⟩ := hm.has _ hu.look
  have ho' : off < xs.length := Nat.le_of_ble_eq_true ho
  have hlen : xs.length ≤ cs.size := by
    have := congrArg List.length he
    simp at this
    omega
  refine At_wp (W_store hx hy hb hv h1 hs (Nat.ble_eq_true_of_le (by omega : off + 1 ≤ cs.size)) (fun H' hp => k H' (hm.put hu hp.kept ⟨_, bt, hp.at_, ?_⟩))) hw
  rw [List.length_set, Array.toList_setIfInBounds, List.take_set, he]
/-- a struct over a whole block -/
theorem storeB {b sz sb : Nat} {v z : Value} {x y : Operand} {t : TypeId} {dc : TypeDesc} {xs ys : List Value} [h : Ty P t dc sz sb z] (hw : want ops env ⟨none, .store t x y, ty, pos, af, gd⟩ = some true := by exact rfl)
    (hx : ev env x = some (.pointer (some ⟨b, 0, none⟩)) := by exact rfl) (hy : ev env y = some v := by exact rfl) (hv : v.cells = ys.toArray := by exact rfl) (hs : Nat.beq ys.length sz = true := by exact rfl) (h1 : ys.all (·.oneCell') = true := by exact rfl)
    (hu : Upd L b xs ys L' := by first | exact .here | exact (.there .here) | exact (.there (.there .here)) | exact (.there (.there (.there .here))) | exact (.there (.there (.there (.there .here)))) | exact (.there (.there (.there (.there (.there .here))))) | exact (.there (.there (.there (.there (.there (.there .here)))))) | exact (.there (.there (.there (.there (.there (.there (.there .here))))))) | exact (.there (.there (.there (.there (.there (.there (.there (.there .here)))))))))
    (ho : Nat.ble sz xs.length = true := by exact rfl) (k : Am n W env H0 R L' (wpList P ops Q rest)) : Am n W env H0 R L (wpList P ops Q (⟨none, .store t x y, ty, pos, af, gd⟩ :: rest)) := fun H hm => by
  obtain ⟨cs, bt, hb, he⟩ := hm.has _ hu.look
  have ho' : sz ≤ xs.length := Nat.le_of_ble_eq_true ho
  have hs' := Nat.eq_of_beq_eq_true hs
  have hlen : xs.length ≤ cs.size := by
    have := congrArg List.length he
    simp at this
    omega
  refine At_wp (W_storeN hx hy hb (by rw [hv]; simpa using hs') (by rw [hv]; exact fun u hu => List.all_eq_true.1 h1 u hu) (by omega) (fun H' hp => k H' (hm.put hu hp.kept ⟨_, bt, hp.at_, ?_⟩))) hw
  rw [hv]
  simp
/-- a struct into the midst of a block -/
theorem storeN {b off sz sb : Nat} {v z : Value} {x y : Operand} {t : TypeId} {dc : TypeDesc} {xs ys : List Value} (zs : List Value) [h : Ty P t dc sz sb z] (hx : ev env x = some (.pointer (some ⟨b, off, none⟩))) (hy : ev env y = some v) (hv : v.cells = ys.toArray) (hs : Nat.beq ys.length sz = true) (h1 : ys.all (·.oneCell') = true)
    (hu : Upd L b xs zs L') (hz : xs.take off ++ ys ++ xs.drop (off + ys.length) = zs) (ho : Nat.ble (off + sz) xs.length = true)
    (hw : want ops env ⟨none, .store t x y, ty, pos, af, gd⟩ = some true) (k : Am n W env H0 R L' (wpList P ops Q rest)) : Am n W env H0 R L (wpList P ops Q (⟨none, .store t x y, ty, pos, af, gd⟩ :: rest)) := fun H hm => by
  obtain ⟨cs, bt, hb, he⟩ := hm.has _ hu.look
  have ho' : off + sz ≤ xs.length := Nat.le_of_ble_eq_true ho
  have hs' := Nat.eq_of_beq_eq_true hs
  have hlen : xs.length ≤ cs.size := by
    have := congrArg List.length he
    simp at this
    omega
  refine At_wp (W_storeN hx hy hb (by rw [hv]; simpa using hs') (by rw [hv]; exact fun u hu => List.all_eq_true.1 h1 u hu) (by omega) (fun H' hp => k H' (hm.put hu hp.kept ⟨_, bt, hp.at_, ?_⟩))) hw
  rw [hv, ← hz, ← hs']
  exact take_mid he (by omega)
theorem allocM {d sz sb : Nat} {z : Value} {t : TypeId} {dc : TypeDesc} {ys : List Value} [h : Ty P t dc sz sb z] (hz : z.cells = ys.toArray) (hw : want ops env ⟨some d, .alloc t, ty, pos, af, gd⟩ = some true) (hn : Nat.blt d n = true)
    (k : ∀ b, H0.size ≤ b → Am n W ((d, .pointer (some ⟨b, 0, none⟩)) :: env) H0 R ((b, ys) :: L) (wpList P ops Q rest)) : Am n W env H0 R L (wpList P ops Q (⟨some d, .alloc t, ty, pos, af, gd⟩ :: rest)) := fun H hm =>
  At_wp (W_alloc hz hn (fun b H' hn => k b (by have := hn.blk; have := hm.size; omega) H' (hm.new hn.ext (by have := hn.blk; omega) (Has.of hn.at_)))) hw
theorem boxM {d : Nat} {v : Value} {t : TypeId} {x : Operand} {ys : List Value} (hx : ev env x = some v) (hz : v.cells = ys.toArray) (hw : want ops env ⟨some d, .box t x, ty, pos, af, gd⟩ = some true) (hn : Nat.blt d n = true)
    (k : ∀ b, H0.size ≤ b → Am n W ((d, .pointer (some ⟨b, 0, none⟩)) :: env) H0 R ((b, ys) :: L) (wpList P ops Q rest)) : Am n W env H0 R L (wpList P ops Q (⟨some d, .box t x, ty, pos, af, gd⟩ :: rest)) := fun H hm =>
  At_wp (W_box hx hz hn (fun b H' hn => k b (by have := hn.blk; have := hm.size; omega) H' (hm.new hn.ext (by have := hn.blk; omega) (Has.of hn.at_)))) hw
theorem bs1M {d sz sb es eb : Nat} {z ez v : Value} {t e : TypeId} {dc : TypeDesc} {x : Operand} {ys : List Value} [h : Ty P t (.slice e) sz sb z] [he : Ty P e dc es eb ez] (hx : ev env x = some v) (hz : v.cells = ys.toArray) (hv : Nat.beq ys.toArray.size es = true) (hes : es ≠ 0 ∧ es ≤ 16777216)
    (hw : want ops env ⟨some d, .buildSlice t 1 #[(0, x)], ty, pos, af, gd⟩ = some true) (hn : Nat.blt d n = true)
    (k : ∀ b, H0.size ≤ b → Am n W ((d, .slice (some ⟨b, 0, none⟩) 1 1) :: env) H0 R ((b, ys) :: L) (wpList P ops Q rest)) : Am n W env H0 R L (wpList P ops Q (⟨some d, .buildSlice t 1 #[(0, x)], ty, pos, af, gd⟩ :: rest)) := fun H hm =>
  At_wp (W_buildSlice1 hx hz hv hes hn (fun b H' hn => k b (by have := hn.blk; have := hm.size; omega) H' (hm.new hn.ext (by have := hn.blk; omega) (Has.of hn.at_)))) hw
theorem bs0M {d sz sb es eb : Nat} {z ez : Value} {t e : TypeId} {dc : TypeDesc} [h : Ty P t (.slice e) sz sb z] [he : Ty P e dc es eb ez]
    (hw : want ops env ⟨some d, .buildSlice t 0 #[], ty, pos, af, gd⟩ = some true) (hn : Nat.blt d n = true)
    (k : ∀ b, H0.size ≤ b → Am n W ((d, .slice (some ⟨b, 0, none⟩) 0 0) :: env) H0 R ((b, []) :: L) (wpList P ops Q rest)) : Am n W env H0 R L (wpList P ops Q (⟨some d, .buildSlice t 0 #[], ty, pos, af, gd⟩ :: rest)) := fun H hm =>
  At_wp (W_buildSlice0 hn (fun b H' hn => k b (by have := hn.blk; have := hm.size; omega) H' (hm.new hn.ext (by have := hn.blk; omega) (Has.of hn.at_)))) hw
/-- append of m elements to nothing -/
theorem app0M {d b off m c sz sb es eb : Nat} {z ez : Value} {t e : TypeId} {dc : TypeDesc} {x y : Operand} {xs : List Value} (news : List Value) [h : Ty P t (.slice e) sz sb z] [he : Ty P e dc es eb ez] (hx : ev env x = some (.slice none 0 0)) (hy : ev env y = some (.slice (some ⟨b, off, none⟩) m c)) (hl : LookR R L b xs)
    (hcs : (xs.drop off).take news.length = news) (hlen : Nat.beq news.length (m * es) = true) (h1 : news.all (·.oneCell') = true) (hz : ez.cells.size = es) (hes : Nat.blt 0 es = true) (hm0 : Nat.blt 0 m = true) (hm1 : Nat.ble m 1000 = true) (hby : Nat.ble eb 1000000 = true)
    (hw : want ops env ⟨some d, .call ⟨.builtin .append, #[x, y], #[t, t]⟩, ty, pos, af, gd⟩ = some true) (hn : Nat.blt d n = true)
    (k : ∀ g c', H0.size ≤ g → m ≤ c' → Am n W ((d, .slice (some ⟨g, 0, none⟩) m c') :: env) H0 R ((g, news) :: L) (wpList P ops Q rest)) : Am n W env H0 R L (wpList P ops Q (⟨some d, .call ⟨.builtin .append, #[x, y], #[t, t]⟩, ty, pos, af, gd⟩ :: rest)) := fun H hm => by
  have a1 : 0 < es := Nat.le_of_ble_eq_true hes
  have a2 : 0 < m := Nat.le_of_ble_eq_true hm0
  have a3 : m ≤ 1000 := Nat.le_of_ble_eq_true hm1
  have a4 : eb ≤ 1000000 := Nat.le_of_ble_eq_true hby
  have a5 : (0 + m) * eb ≤ 1000 * 1000000 := Nat.mul_le_mul (by omega) a4
  refine At_wp (W_append (news := news) (m := m) hx hy (Own.nil H 0 e es) (Nat.eq_of_beq_eq_true hlen) (fun j u hj => hm.cell hl (by
    rw [← hcs, List.getElem?_take] at hj
    split at hj
    · rw [List.getElem?_drop] at hj
      exact hj
    · cases hj)) (fun u hu => List.all_eq_true.1 h1 u hu) (Nat.zero_le _) hz a1 a2 (by simp only [maxLen]; omega) (by omega) hn ?_) hw
  intro g c' H' own hk hg
  rw [Nat.zero_add, List.nil_append] at own
  have hx' : Ext H H' := hk.mono (fun i e _ => by cases e)
  have hgH : H.size ≤ g := by
    rcases hg with e | e
    · cases e
    · exact e
  have hc : m ≤ c' := by
    rcases own.form with ⟨e, _⟩ | ⟨g2, c2, e, _, _, h6, _⟩
    · cases e
    · cases e; exact h6
  have := k g c' (by have := hm.size; omega) hc H' (hm.new hx' hgH (Has.own own))
  rw [Nat.zero_add]
  exact this
/-- append where there is room: the row's own cells are written -/
theorem appInM {d g l c b off m c2 sz sb es eb : Nat} {z ez : Value} {t e : TypeId} {dc : TypeDesc} {x y : Operand} {xs ys : List Value} (news zs : List Value) [h : Ty P t (.slice e) sz sb z] [he : Ty P e dc es eb ez] (hx : ev env x = some (.slice (some ⟨g, 0, none⟩) l c)) (hy : ev env y = some (.slice (some ⟨b, off, none⟩) m c2)) (hl : LookR R L b ys)
    (hcs : (ys.drop off).take news.length = news) (hlen : Nat.beq news.length (m * es) = true) (h1 : news.all (·.oneCell') = true) (hu : Upd L g xs zs L') (hz : xs.take (l * es) ++ news ++ xs.drop (l * es + news.length) = zs) (hfit : Nat.ble (l * es + news.length) xs.length = true) (hcap : l + m ≤ c)
    (hw : want ops env ⟨some d, .call ⟨.builtin .append, #[x, y], #[t, t]⟩, ty, pos, af, gd⟩ = some true) (hn : Nat.blt d n = true)
    (k : Am n W ((d, .slice (some ⟨g, 0, none⟩) (l + m) c) :: env) H0 R L' (wpList P ops Q rest)) : Am n W env H0 R L (wpList P ops Q (⟨some d, .call ⟨.builtin .append, #[x, y], #[t, t]⟩, ty, pos, af, gd⟩ :: rest)) := fun H hm => by
  obtain ⟨cs, bt, hb, he'⟩ := hm.has _ hu.look
  have ho' : l * es + news.length ≤ xs.length := Nat.le_of_ble_eq_true hfit
  have hs' := Nat.eq_of_beq_eq_true hlen
  have hlen2 : xs.length ≤ cs.size := by
    have := congrArg List.length he'
    simp at this
    omega
  refine At_wp (fun a w f eq hlike => ?_) hw
  subst eq
  have hload := run_loadCells_list (P := P) w ⟨b, off, none⟩ news (fun q u hq => by
    rw [add_none]
    refine (hm.cell hl ?_).cell?
    rw [← hcs, List.getElem?_take] at hq
    split at hq
    · rw [List.getElem?_drop] at hq
      exact hq
    · cases hq)
  rw [hs'] at hload
  obtain ⟨w', hr, hp, hl'⟩ := run_storeCells_block P g (l * es) bt news cs w hb (by omega) (fun u hu => List.all_eq_true.1 h1 u hu)
  have hrun : (Builtin.append_ #[t, t] ty #[.slice (some ⟨g, 0, none⟩) l c, .slice (some ⟨b, off, none⟩) m c2]).run P w = .ok (.slice (some ⟨g, 0, none⟩) (l + m) c) w' := by
    simp [Builtin.append_, run_underlying h.und, he.sizeOf, Builtin.lenOf, hcap, Builtin.firstCells, hload, add_none, hr]
  have hrun2 : (execOp a.eval ⟨some d, .call ⟨.builtin .append, #[x, y], #[t, t]⟩, ty, pos, af, gd⟩).run P w = .ok (.value (.slice (some ⟨g, 0, none⟩) (l + m) c)) w' := by
    simp [execOp, resolve, invoke, builtin, f.ev hx, f.ev hy, hrun]
  unfold Oper.wp
  rw [hrun2, Oper.upon_value]
  refine k _ (hm.put hu hp.kept ⟨_, bt, hp.at_, ?_⟩) _ w' (f.put hn _) rfl (hlike.trans hl')
  rw [← hz]
  exact take_mid he' ho'
/-- append of nothing -/
theorem appNM {d nn c c2 sz sb es eb : Nat} {p q : Option Addr} {z ez : Value} {t e : TypeId} {dc : TypeDesc} {x y : Operand} [h : Ty P t (.slice e) sz sb z] [he : Ty P e dc es eb ez] (hx : ev env x = some (.slice p nn c)) (hy : ev env y = some (.slice q 0 c2)) (hl : nn ≤ c)
    (hw : want ops env ⟨some d, .call ⟨.builtin .append, #[x, y], #[t, t]⟩, ty, pos, af, gd⟩ = some true) (hn : Nat.blt d n = true)
    (k : Am n W ((d, .slice p nn c) :: env) H0 R L (wpList P ops Q rest)) : Am n W env H0 R L (wpList P ops Q (⟨some d, .call ⟨.builtin .append, #[x, y], #[t, t]⟩, ty, pos, af, gd⟩ :: rest)) := fun H hm => At_read (r_append0 hx hy hl) hw rfl hn (k H hm)
/-- a call -/
theorem callM {d : Nat} {f : FuncId} [FnOk P f] {args : List Operand} {ats : Array TypeId} {vs : List Value} {S : Heap → Value → Heap → Prop} (ho : o.op = .call ⟨.value (.func f), args.toArray, ats⟩)
    (hvs : evs env args = some vs) (hd : o.dst = some d) (hn : Nat.blt d n = true) (hw : want ops env o = some true) (hc : ∀ H, Mem H0 R L H → Spc P f vs.toArray H (S H))
    (k : ∀ H v H', Mem H0 R L H → S H v H' → At n W ((d, v) :: env) H' (wpList P ops Q rest)) : Am n W env H0 R L (wpList P ops Q (o :: rest)) := fun H hm =>
  At_wp (W_call ho hvs (hc H hm) hd hn (fun v H' hS => k H v H' hm hS)) hw
theorem callMn {f : FuncId} [FnOk P f] {args : List Operand} {ats : Array TypeId} {vs : List Value} {S : Heap → Value → Heap → Prop} (ho : o.op = .call ⟨.value (.func f), args.toArray, ats⟩)
    (hvs : evs env args = some vs) (hd : o.dst = none) (hw : want ops env o = some true) (hc : ∀ H, Mem H0 R L H → Spc P f vs.toArray H (S H))
    (k : ∀ H v H', Mem H0 R L H → S H v H' → At n W env H' (wpList P ops Q rest)) : Am n W env H0 R L (wpList P ops Q (o :: rest)) := fun H hm =>
  At_wp (W_call_none ho hvs (hc H hm) hd (fun v H' hS => k H v H' hm hS)) hw
theorem callMv {d : Nat} {f : FuncId} [FnOk P f] {x : Operand} {first cap : List Value} {args : List Operand} {ats : Array TypeId} {vs : List Value} {S : Heap → Value → Heap → Prop} (ho : o.op = .call ⟨.value x, args.toArray, ats⟩)
    (hx : ev env x = some (.func (.func f) first.toArray cap.toArray)) (hvs : evs env args = some vs) (hd : o.dst = some d) (hn : Nat.blt d n = true) (hw : want ops env o = some true) (hc : ∀ H, Mem H0 R L H → Spc P f (first ++ vs ++ cap).toArray H (S H))
    (k : ∀ H v H', Mem H0 R L H → S H v H' → At n W ((d, v) :: env) H' (wpList P ops Q rest)) : Am n W env H0 R L (wpList P ops Q (o :: rest)) := fun H hm =>
  At_wp (W_call_bound ho hx hvs (hc H hm) hd hn (fun v H' hS => k H v H' hm hS)) hw
-- results
theorem ret0M {fn : Func} {S : Value → Heap → Prop} (hr : fn.results = #[]) {e : Exit} (he : e = .normal ∨ e = .ret) (h : ∀ H, Mem H0 R L H → S (.tuple #[]) H) : Am n W env H0 R L (Post P fn W S e) := fun H hm => At_ret0 hr (h H hm) he
theorem ret1M {fn : Func} {S : Value → Heap → Prop} {t : Tmp} {v : Value} (hr : fn.results = #[.tmp t]) (hv : env.get t = some v) (h : ∀ H, Mem H0 R L H → S v H) : Am n W env H0 R L (Post P fn W S .ret) := fun H hm => At_ret1 hr hv (h H hm)
theorem ret2M {fn : Func} {S : Value → Heap → Prop} {t t2 : Tmp} {v v2 : Value} (hr : fn.results = #[.tmp t, .tmp t2]) (hv : env.get t = some v) (hv2 : env.get t2 = some v2) (h : ∀ H, Mem H0 R L H → S (.tuple #[v, v2]) H) : Am n W env H0 R L (Post P fn W S .ret) := fun H hm => At_ret2 hr hv hv2 (h H hm)
theorem ret3M {fn : Func} {S : Value → Heap → Prop} {t t2 t3 : Tmp} {v v2 v3 : Value} (hr : fn.results = #[.tmp t, .tmp t2, .tmp t3]) (hv : env.get t = some v) (hv2 : env.get t2 = some v2) (hv3 : env.get t3 = some v3) (h : ∀ H, Mem H0 R L H → S (.tuple #[v, v2, v3]) H) : Am n W env H0 R L (Post P fn W S .ret) := fun H hm => At_ret3 hr hv hv2 hv3 (h H hm)
theorem run_loadVar_has {w : World} {t : TypeId} {d : TypeDesc} {sz sb : Nat} {z : Value} {b : Nat} {xs : List Value} [h : Ty P t d sz sb z] (hb : Has w.heap b xs) (hd : isAggD d = true) (hl : Nat.beq xs.length sz = true) :
    (loadVar t ⟨b, 0, none⟩).run P w = .ok (.agg xs.toArray) w := by
  have hl' := Nat.eq_of_beq_eq_true hl
  have := run_loadCells_list (P := P) w ⟨b, 0, none⟩ xs (fun j v hj => by rw [add_none, Nat.zero_add]; exact (hb.cell hj).cell?)
  rw [hl'] at this
  simp [loadVar, h.isAgg, hd, h.sizeOf, this]
theorem retC1M {fn : Func} {S : Value → Heap → Prop} {t : Tmp} {ty' : TypeId} {d : TypeDesc} {sz sb : Nat} {z : Value} {b : Nat} {xs : List Value} [hT : Ty P ty' d sz sb z] (hr : fn.results = #[.cell t ty']) (hv : env.get t = some (.pointer (some ⟨b, 0, none⟩)))
    (hl : Look L b xs) (hd : isAggD d = true) (hs : Nat.beq xs.length sz = true) (h : ∀ H, Mem H0 R L H → S (.agg xs.toArray) H) : Am n W env H0 R L (Post P fn W S .ret) := fun H hm a w f eq l => by
  subst eq
  have hg : a.tmps.getD t undef = .pointer (some ⟨b, 0, none⟩) := f.ev (x := .tmp t) hv
  have : (results fn a.tmps).run P w = .ok (.agg xs.toArray) w := by simp [results, hr, -Array.getD_eq_getD_getElem?, hg, asAddr, run_loadVar_has (P := P) (t := ty') (hm.has _ hl.mem) hd hs]
  exact ⟨f.defers, _, this, l, h _ hm⟩
theorem retC2M {fn : Func} {S : Value → Heap → Prop} {t t2 : Tmp} {ty' : TypeId} {d : TypeDesc} {sz sb : Nat} {z v2 : Value} {b : Nat} {xs : List Value} [hT : Ty P ty' d sz sb z] (hr : fn.results = #[.cell t ty', .tmp t2]) (hv : env.get t = some (.pointer (some ⟨b, 0, none⟩))) (hv2 : env.get t2 = some v2)
    (hl : Look L b xs) (hd : isAggD d = true) (hs : Nat.beq xs.length sz = true) (h : ∀ H, Mem H0 R L H → S (.tuple #[.agg xs.toArray, v2]) H) : Am n W env H0 R L (Post P fn W S .ret) := fun H hm a w f eq l => by
  subst eq
  have hg : a.tmps.getD t undef = .pointer (some ⟨b, 0, none⟩) := f.ev (x := .tmp t) hv
  have hg2 : a.tmps.getD t2 undef = v2 := f.ev (x := .tmp t2) hv2
  have : (results fn a.tmps).run P w = .ok (.tuple #[.agg xs.toArray, v2]) w := by simp [results, hr, -Array.getD_eq_getD_getElem?, hg, hg2, asAddr, run_loadVar_has (P := P) (t := ty') (hm.has _ hl.mem) hd hs]
  exact ⟨f.defers, _, this, l, h _ hm⟩
end
/-! ## Regions that draw their order -/
section
variable {P : Program} {n : Nat} {W : World} {env : Env} {H0 : Heap} {R L L' L0 : Bks} {Q : Exit → Act → World → Prop} {K : Act → World → Prop} {ops : Array Oper} {o : Oper} {needy : List Nat} {fuel : Nat} {listed : Array Bool} {S : Heap → Prop}
def Kn (R L : Bks) (H : Heap) : Prop := ∀ b o v xs, LookR R L b xs → xs[o]? = some v → Cell H b o v
theorem Kn.of {H : Heap} (h : Mem H0 R L H) (hl : ∀ b xs, Look L0 b xs → Look L b xs) : Kn R L0 H := fun b o v xs hx hv => by
  cases hx with
  | l hx => exact h.cell (.l (hl b xs hx)) hv
  | r hx => exact h.cell (.r hx) hv
theorem drawM {id : Nat} {l : List Oper} (needy : List Nat) (hm : P.follows .mixedOrders = true) (h : Am n W env H0 R L (wpAnyG P .any l.toArray Q needy (Kn R L) l.length (Array.replicate l.length false))) : Am n W env H0 R L ((Code.region id l.toArray true).wp P Q) :=
  fun H hH => At_draw needy (Kn R L) hm (h H hH)
theorem dpM (i : Nat) {d : Nat} {v : Value} (ho : ops[i]? = some o := by exact rfl) (hw : want ops env o = some true := by exact rfl) (hr : Pure P n env o v := by
  first
  | exact p_move rfl
  | exact p_assign rfl
  | exact p_nilCheck rfl
  | exact p_fieldAddr rfl
  | exact p_extract rfl rfl
  | exact p_len rfl rfl
  | exact p_not_true rfl
  | exact p_not_false rfl
  | exact p_pick_true rfl rfl
  | exact p_pick_false rfl rfl
  | exact p_indexAddr rfl rfl (by omega)
  | exact p_indexAddr (i := 0) rfl rfl (by omega)
  | exact p_indexAddr (i := 1) rfl rfl (by omega)
  | exact p_makeFunc0 rfl
  | exact p_eql_slice_nil rfl rfl
  | exact p_neq_slice_nil rfl rfl
  | exact p_eql_ptr_nil rfl rfl
  | exact p_neq_ptr_nil rfl rfl
  | exact p_add rfl rfl (by omega)
  | exact p_sub rfl rfl (by omega)
  | exact p_min_l rfl rfl (by omega)
  | exact p_min_r rfl rfl (by omega)
  | exact p_max_l rfl rfl (by omega)
  | exact p_max_r rfl rfl (by omega)
  | exact p_eql_bool rfl rfl
  | exact p_neq_bool rfl rfl
  | exact p_true (p_lss rfl rfl) (by omega)
  | exact p_false (p_lss rfl rfl) (by omega)
  | exact p_true (p_leq rfl rfl) (by omega)
  | exact p_false (p_leq rfl rfl) (by omega)
  | exact p_true (p_gtr rfl rfl) (by omega)
  | exact p_false (p_gtr rfl rfl) (by omega)
  | exact p_true (p_geq rfl rfl) (by omega)
  | exact p_false (p_geq rfl rfl) (by omega)
  | exact p_true (p_eql rfl rfl) (by omega)
  | exact p_false (p_eql rfl rfl) (by omega)
  | exact p_true (p_neq rfl rfl) (by omega)
  | exact p_false (p_neq rfl rfl) (by omega)
  | exact p_real rfl
  | exact p_imag rfl
  | exact p_cmpC true rfl rfl rfl rfl (by kernel_rfl)
  | exact p_not_dec rfl) (hq : Calm Q := by repeat (first | exact Calm.post | apply Calm.then | apply Calm.inBlock | apply Calm.noGoto)) (hd : o.dst = some d := by exact rfl) (hn : Nat.blt d n = true := by exact rfl)
    (hc : (Region.noSelect ops && Region.free .any ops listed i && (Region.ready .any ops listed).contains i && !needy.contains i) = true := by kernel_rfl)
    (k : Am n W ((d, v) :: env) H0 R L (wpAnyG P .any ops Q needy S fuel (listed.setIfInBounds i true))) : Am n W env H0 R L (wpAnyG P .any ops Q needy S (fuel + 1) listed) := fun H hm => G_pure i ho hr hq hw hd hn hc (k H hm)
theorem dqM (i : Nat) {d : Nat} {v : Value} (ho : ops[i]? = some o) (hr : Pure P n env o v) (hw : want ops env o = some true := by exact rfl) (hq : Calm Q := by repeat (first | exact Calm.post | apply Calm.then | apply Calm.inBlock | apply Calm.noGoto)) (hd : o.dst = some d := by exact rfl) (hn : Nat.blt d n = true := by exact rfl)
    (hc : (Region.noSelect ops && Region.free .any ops listed i && (Region.ready .any ops listed).contains i && !needy.contains i) = true := by kernel_rfl)
    (k : Am n W ((d, v) :: env) H0 R L (wpAnyG P .any ops Q needy S fuel (listed.setIfInBounds i true))) : Am n W env H0 R L (wpAnyG P .any ops Q needy S (fuel + 1) listed) := fun H hm => G_pure i ho hr hq hw hd hn hc (k H hm)
theorem doffM (i : Nat) {d : Nat} (ho : ops[i]? = some o := by exact rfl) (hw : want ops env o = some false := by exact rfl) (hq : Calm Q := by repeat (first | exact Calm.post | apply Calm.then | apply Calm.inBlock | apply Calm.noGoto)) (hd : o.dst = some d := by exact rfl) (hn : Nat.blt d n = true := by exact rfl)
    (hc : (Region.noSelect ops && Region.free .any ops listed i && (Region.ready .any ops listed).contains i && !needy.contains i) = true := by kernel_rfl)
    (k : Am n W ((d, undef) :: env) H0 R L (wpAnyG P .any ops Q needy S fuel (listed.setIfInBounds i true))) : Am n W env H0 R L (wpAnyG P .any ops Q needy S (fuel + 1) listed) := fun H hm => G_off i ho hq hw hd hn hc (k H hm)
theorem doffNM (i : Nat) {d : Nat} (ho : ops[i]? = some o := by exact rfl) (hw : want ops env o = some false := by exact rfl) (hq : Calm Q := by repeat (first | exact Calm.post | apply Calm.then | apply Calm.inBlock | apply Calm.noGoto)) (hd : o.dst = some d := by exact rfl) (hn : Nat.blt d n = true := by exact rfl)
    (hk : ∀ b xs, Look L0 b xs → Look L b xs := by first | exact fun _ _ h => h | exact fun _ _ h => .there h | exact fun _ _ h => .there (.there h))
    (hc : (Region.noSelect ops && Region.free .any ops listed i && (Region.ready .any ops listed).contains i && needy.contains i) = true := by kernel_rfl)
    (k : Am n W ((d, undef) :: env) H0 R L (wpAnyG P .any ops Q needy (Kn R L0) fuel (listed.setIfInBounds i true))) : Am n W env H0 R L (wpAnyG P .any ops Q needy (Kn R L0) (fuel + 1) listed) := fun H hm => G_off_needy i ho (Kn.of hm hk) hq hw hd hn (by simp only [Bool.and_eq_true] at hc ⊢; exact hc.1) (k H hm)
theorem dldM (i : Nat) {d b off sz sb : Nat} {v z : Value} {x : Operand} {t : TypeId} {dc : TypeDesc} {xs : List Value} {ty : TypeId} {pos : String} {af : Array Edge} {gd : Option (Nat × Bool)} [h : Ty P t dc sz sb z] (ho : ops[i]? = some ⟨some d, .load t x, ty, pos, af, gd⟩) (hw : want ops env ⟨some d, .load t x, ty, pos, af, gd⟩ = some true := by exact rfl)
    (hx : ev env x = some (.pointer (some ⟨b, off, none⟩)) := by exact rfl) (hd : isAggD dc = false := by exact rfl) (hl : LookR R L0 b xs := by first | exact .l .here | exact .l (.there .here) | exact .l (.there (.there .here)) | exact .l (.there (.there (.there .here))) | exact .l (.there (.there (.there (.there .here)))) | exact .l (.there (.there (.there (.there (.there .here))))) | exact .l (.there (.there (.there (.there (.there (.there .here)))))) | exact .l (.there (.there (.there (.there (.there (.there (.there .here))))))) | exact .l (.there (.there (.there (.there (.there (.there (.there (.there .here)))))))) | exact .r .here | exact .r (.there .here) | exact .r (.there (.there .here)) | exact .r (.there (.there (.there .here)))) (hv : xs[off]? = some v := by exact rfl) (hn : Nat.blt d n = true := by exact rfl) (hq : Calm Q := by repeat (first | exact Calm.post | apply Calm.then | apply Calm.inBlock | apply Calm.noGoto))
    (hk : ∀ b xs, Look L0 b xs → Look L b xs := by first | exact fun _ _ h => h | exact fun _ _ h => .there h | exact fun _ _ h => .there (.there h))
    (hc : (Region.noSelect ops && Region.free .any ops listed i && (Region.ready .any ops listed).contains i && needy.contains i) = true := by kernel_rfl)
    (k : Am n W ((d, v) :: env) H0 R L (wpAnyG P .any ops Q needy (Kn R L0) fuel (listed.setIfInBounds i true))) : Am n W env H0 R L (wpAnyG P .any ops Q needy (Kn R L0) (fuel + 1) listed) := fun H hm =>
  G_read i ho (Kn.of hm hk) (fun H' hS => r_load hx hd (hS b off v xs hl hv)) hq hw rfl hn hc (k H hm)
theorem dldN (i : Nat) {d b off sz sb : Nat} {z : Value} {x : Operand} {t : TypeId} {dc : TypeDesc} {xs : List Value} {ty : TypeId} {pos : String} {af : Array Edge} {gd : Option (Nat × Bool)} (cs : List Value) [h : Ty P t dc sz sb z] (ho : ops[i]? = some ⟨some d, .load t x, ty, pos, af, gd⟩) (hx : ev env x = some (.pointer (some ⟨b, off, none⟩))) (hl : LookR R L0 b xs) (hcs : (xs.drop off).take cs.length = cs)
    (hd : isAggD dc = true := by exact rfl) (hsz : Nat.beq cs.length sz = true := by exact rfl) (hw : want ops env ⟨some d, .load t x, ty, pos, af, gd⟩ = some true := by exact rfl) (hn : Nat.blt d n = true := by exact rfl) (hq : Calm Q := by repeat (first | exact Calm.post | apply Calm.then | apply Calm.inBlock | apply Calm.noGoto))
    (hk : ∀ b xs, Look L0 b xs → Look L b xs := by first | exact fun _ _ h => h | exact fun _ _ h => .there h | exact fun _ _ h => .there (.there h))
    (hc : (Region.noSelect ops && Region.free .any ops listed i && (Region.ready .any ops listed).contains i && needy.contains i) = true := by kernel_rfl)
    (k : Am n W ((d, .agg cs.toArray) :: env) H0 R L (wpAnyG P .any ops Q needy (Kn R L0) fuel (listed.setIfInBounds i true))) : Am n W env H0 R L (wpAnyG P .any ops Q needy (Kn R L0) (fuel + 1) listed) := fun H hm =>
  G_read i ho (Kn.of hm hk) (fun H' hS => r_loadN (cs := cs) hx hd hsz (fun j v hj => hS b (off + j) v xs hl (by
    rw [← hcs, List.getElem?_take] at hj
    split at hj
    · rw [List.getElem?_drop] at hj
      exact hj
    · cases hj))) hq hw rfl hn hc (k H hm)
theorem dldB (i : Nat) {d b sz sb : Nat} {z : Value} {x : Operand} {t : TypeId} {dc : TypeDesc} {xs : List Value} {ty : TypeId} {pos : String} {af : Array Edge} {gd : Option (Nat × Bool)} [h : Ty P t dc sz sb z] (ho : ops[i]? = some ⟨some d, .load t x, ty, pos, af, gd⟩) (hw : want ops env ⟨some d, .load t x, ty, pos, af, gd⟩ = some true := by exact rfl) (hx : ev env x = some (.pointer (some ⟨b, 0, none⟩)) := by exact rfl)
    (hd : isAggD dc = true := by exact rfl) (hl : LookR R L0 b xs := by first | exact .l .here | exact .l (.there .here) | exact .l (.there (.there .here)) | exact .l (.there (.there (.there .here))) | exact .l (.there (.there (.there (.there .here)))) | exact .l (.there (.there (.there (.there (.there .here))))) | exact .l (.there (.there (.there (.there (.there (.there .here)))))) | exact .l (.there (.there (.there (.there (.there (.there (.there .here))))))) | exact .l (.there (.there (.there (.there (.there (.there (.there (.there .here)))))))) | exact .r .here | exact .r (.there .here) | exact .r (.there (.there .here)) | exact .r (.there (.there (.there .here)))) (hsz : Nat.beq xs.length sz = true := by exact rfl) (hn : Nat.blt d n = true := by exact rfl) (hq : Calm Q := by repeat (first | exact Calm.post | apply Calm.then | apply Calm.inBlock | apply Calm.noGoto))
    (hk : ∀ b xs, Look L0 b xs → Look L b xs := by first | exact fun _ _ h => h | exact fun _ _ h => .there h | exact fun _ _ h => .there (.there h))
    (hc : (Region.noSelect ops && Region.free .any ops listed i && (Region.ready .any ops listed).contains i && needy.contains i) = true := by kernel_rfl)
    (k : Am n W ((d, .agg xs.toArray) :: env) H0 R L (wpAnyG P .any ops Q needy (Kn R L0) fuel (listed.setIfInBounds i true))) : Am n W env H0 R L (wpAnyG P .any ops Q needy (Kn R L0) (fuel + 1) listed) :=
  dldN i xs ho hx hl (by rw [List.drop_zero, List.take_length]) hd hsz hw hn hq hk hc k
/-- the one operation that may come up and may turn the heap; what is left of it is At's -/
theorem dxM (i : Nat) (ho : ops[i]? = some o) (hr : Region.ready .any ops listed = [i]) (hw : want ops env o = some true) (hc : conf ops .any needy i = false)
    (h : ∀ H, Mem H0 R L H → At n W env H (fun a w => o.wp P a w (wpAnyG P .any ops Q needy S fuel (listed.setIfInBounds i true)) Q)) : Am n W env H0 R L (wpAnyG P .any ops Q needy S (fuel + 1) listed) := fun H hm =>
  G_op i ho hr hw (fun a w f e l => Oper.wp_mono (fun a' w' h' => ⟨fun hh => (by rw [hc] at hh; cases hh), h'⟩) (h H hm a w f e l))
theorem dcallM (i : Nat) {d : Nat} {f : FuncId} [FnOk P f] {args : List Operand} {ats : Array TypeId} {vs : List Value} {T : Heap → Value → Heap → Prop} (ho : ops[i]? = some o) (hr : Region.ready .any ops listed = [i]) (hw : want ops env o = some true) (hc : conf ops .any needy i = false) (hop : o.op = .call ⟨.value (.func f), args.toArray, ats⟩)
    (hvs : evs env args = some vs) (hd : o.dst = some d) (hn : Nat.blt d n = true) (hs : ∀ H, Mem H0 R L H → Spc P f vs.toArray H (T H))
    (k : ∀ H v H', Mem H0 R L H → T H v H' → At n W ((d, v) :: env) H' (wpAnyG P .any ops Q needy S fuel (listed.setIfInBounds i true))) : Am n W env H0 R L (wpAnyG P .any ops Q needy S (fuel + 1) listed) :=
  dxM i ho hr hw hc (fun H hm => W_call hop hvs (hs H hm) hd hn (fun v H' hS => k H v H' hm hS))
/-- .. two that may come up -/
theorem dx2M (i j : Nat) {o p : Oper} (ho : ops[i]? = some o) (hp : ops[j]? = some p) (hr : Region.ready .any ops listed = [i, j]) (hw : want ops env o = some true) (hw2 : want ops env p = some true) (hc : conf ops .any needy i = false) (hc2 : conf ops .any needy j = false)
    (h : ∀ H, Mem H0 R L H → At n W env H (fun a w => o.wp P a w (wpAnyG P .any ops Q needy S fuel (listed.setIfInBounds i true)) Q))
    (h2 : ∀ H, Mem H0 R L H → At n W env H (fun a w => p.wp P a w (wpAnyG P .any ops Q needy S fuel (listed.setIfInBounds j true)) Q)) : Am n W env H0 R L (wpAnyG P .any ops Q needy S (fuel + 1) listed) := fun H hm =>
  G_op2 i j ho hp hr hw hw2 (fun a w f e l => Oper.wp_mono (fun a' w' h' => ⟨fun hh => (by rw [hc] at hh; cases hh), h'⟩) (h H hm a w f e l)) (fun a w f e l => Oper.wp_mono (fun a' w' h' => ⟨fun hh => (by rw [hc2] at hh; cases hh), h'⟩) (h2 H hm a w f e l))
theorem ddoneM (hr : Region.ready .any ops listed = []) (h : Am n W env H0 R L (Q .normal)) : Am n W env H0 R L (wpAnyG P .any ops Q needy S fuel listed) := fun H hm => G_done hr (h H hm)
end
/-! ## One operation that turns the heap, in a region that draws -/
section
variable {P : Program} {n : Nat} {W : World} {env : Env} {H0 : Heap} {R L L' : Bks} {Q : Exit → Act → World → Prop} {K : Act → World → Prop} {ops : Array Oper} {o : Oper} {needy : List Nat} {fuel : Nat} {listed : Array Bool} {S : Heap → Prop}
variable {ty : TypeId} {pos : String} {af : Array Edge} {gd : Option (Nat × Bool)}
theorem dxL (i : Nat) (ho : ops[i]? = some o) (hr : Region.ready .any ops listed = [i]) (hw : want ops env o = some true)
    (h : ∀ Hx, Am n W env H0 R L (fun a w => o.wp P a w (Left P ops Q needy S fuel listed i Hx) Q)) : Am n W env H0 R L (wpAnyG P .any ops Q needy S (fuel + 1) listed) := fun H hm => G_op i ho hr hw (h H H hm)
theorem dx2L (i j : Nat) {o p : Oper} (ho : ops[i]? = some o) (hp : ops[j]? = some p) (hr : Region.ready .any ops listed = [i, j]) (hw : want ops env o = some true) (hw2 : want ops env p = some true)
    (h : ∀ Hx, Am n W env H0 R L (fun a w => o.wp P a w (Left P ops Q needy S fuel listed i Hx) Q))
    (h2 : ∀ Hx, Am n W env H0 R L (fun a w => p.wp P a w (Left P ops Q needy S fuel listed j Hx) Q)) : Am n W env H0 R L (wpAnyG P .any ops Q needy S (fuel + 1) listed) := fun H hm => G_op2 i j ho hp hr hw hw2 (h H H hm) (h2 H H hm)
theorem leftM {L0 : Bks} {i : Nat} {Hx : Heap} (hk : ∀ b xs, Look L0 b xs → Look L b xs) (k : Am n W env H0 R L (wpAnyG P .any ops Q needy (Kn R L0) fuel (listed.setIfInBounds i true))) : Am n W env H0 R L (Left P ops Q needy (Kn R L0) fuel listed i Hx) :=
  fun H hm a w f e l => ⟨fun _ _ => (by rw [e]; exact Kn.of hm hk), k H hm a w f e l⟩
theorem leftA {L0 : Bks} {i : Nat} {Hx : Heap} (hk : ∀ b xs, Look L0 b xs → Look L b xs := by
  first
  | exact fun _ _ h => h
  | exact fun _ _ h => .there h
  | exact fun _ _ h => .there (.there h)
  | exact fun _ _ h => .there (.there (.there h))
  | exact fun _ _ h => .there (.there (.there (.there h)))
  | exact fun _ _ h => .there (.there (.there (.there (.there h))))
  | exact fun _ _ h => .there (.there (.there (.there (.there (.there h)))))
  | exact fun _ _ h => .there (.there (.there (.there (.there (.there (.there h))))))
  | exact fun _ _ h => .there (.there (.there (.there (.there (.there (.there (.there h)))))))) (k : Am n W env H0 R L (wpAnyG P .any ops Q needy (Kn R L0) fuel (listed.setIfInBounds i true))) : Am n W env H0 R L (Left P ops Q needy (Kn R L0) fuel listed i Hx) := leftM hk k
theorem leftF {i : Nat} {Hx : Heap} (hc : conf ops .any needy i = false) (k : Am n W env H0 R L (wpAnyG P .any ops Q needy S fuel (listed.setIfInBounds i true))) : Am n W env H0 R L (Left P ops Q needy S fuel listed i Hx) :=
  fun H hm => G_free hc (k H hm)
theorem storeW {b off sz sb : Nat} {v z : Value} {x y : Operand} {t : TypeId} {dc : TypeDesc} {xs : List Value} [h : Ty P t dc sz sb z] (hx : ev env x = some (.pointer (some ⟨b, off, none⟩))) (hy : ev env y = some v) (hv : v.cells = #[v]) (h1 : v.oneCell' = true) (hs : sz = 1)
    (hu : Upd L b xs (xs.set off v) L') (ho : Nat.blt off xs.length = true) (k : Am n W env H0 R L' K) : Am n W env H0 R L (fun a w => Oper.wp P ⟨none, .store t x y, ty, pos, af, gd⟩ a w K Q) := fun H hm => by
  obtain ⟨cs, bt, hb, he⟩ := hm.has _ hu.look
  have ho' : off < xs.length := Nat.le_of_ble_eq_true ho
  have hlen : xs.length ≤ cs.size := by
    have := congrArg List.length he
    simp at this
    omega
  refine W_store hx hy hb hv h1 hs (Nat.ble_eq_true_of_le (by omega : off + 1 ≤ cs.size)) (fun H' hp => k H' (hm.put hu hp.kept ⟨_, bt, hp.at_, ?_⟩))
  rw [List.length_set, Array.toList_setIfInBounds, List.take_set, he]
theorem storeNW {b off sz sb : Nat} {v z : Value} {x y : Operand} {t : TypeId} {dc : TypeDesc} {xs ys : List Value} (zs : List Value) [h : Ty P t dc sz sb z] (hx : ev env x = some (.pointer (some ⟨b, off, none⟩))) (hy : ev env y = some v) (hv : v.cells = ys.toArray) (hs : Nat.beq ys.length sz = true) (h1 : ys.all (·.oneCell') = true)
    (hu : Upd L b xs zs L') (hz : xs.take off ++ ys ++ xs.drop (off + ys.length) = zs) (ho : Nat.ble (off + sz) xs.length = true)
    (k : Am n W env H0 R L' K) : Am n W env H0 R L (fun a w => Oper.wp P ⟨none, .store t x y, ty, pos, af, gd⟩ a w K Q) := fun H hm => by
  obtain ⟨cs, bt, hb, he⟩ := hm.has _ hu.look
  have ho' : off + sz ≤ xs.length := Nat.le_of_ble_eq_true ho
  have hs' := Nat.eq_of_beq_eq_true hs
  have hlen : xs.length ≤ cs.size := by
    have := congrArg List.length he
    simp at this
    omega
  refine W_storeN hx hy hb (by rw [hv]; simpa using hs') (by rw [hv]; exact fun u hu => List.all_eq_true.1 h1 u hu) (by omega) (fun H' hp => k H' (hm.put hu hp.kept ⟨_, bt, hp.at_, ?_⟩))
  rw [hv, ← hz, ← hs']
  exact take_mid he (by omega)
theorem allocW {d sz sb : Nat} {z : Value} {t : TypeId} {dc : TypeDesc} {ys : List Value} [h : Ty P t dc sz sb z] (hz : z.cells = ys.toArray) (hn : Nat.blt d n = true)
    (k : ∀ b, H0.size ≤ b → Am n W ((d, .pointer (some ⟨b, 0, none⟩)) :: env) H0 R ((b, ys) :: L) K) : Am n W env H0 R L (fun a w => Oper.wp P ⟨some d, .alloc t, ty, pos, af, gd⟩ a w K Q) := fun H hm =>
  W_alloc hz hn (fun b H' hn => k b (by have := hn.blk; have := hm.size; omega) H' (hm.new hn.ext (by have := hn.blk; omega) (Has.of hn.at_)))
theorem bs1W {d sz sb es eb : Nat} {z ez v : Value} {t e : TypeId} {dc : TypeDesc} {x : Operand} {ys : List Value} [h : Ty P t (.slice e) sz sb z] [he : Ty P e dc es eb ez] (hx : ev env x = some v) (hz : v.cells = ys.toArray) (hv : Nat.beq ys.toArray.size es = true) (hes : es ≠ 0 ∧ es ≤ 16777216)
    (hn : Nat.blt d n = true) (k : ∀ b, H0.size ≤ b → Am n W ((d, .slice (some ⟨b, 0, none⟩) 1 1) :: env) H0 R ((b, ys) :: L) K) : Am n W env H0 R L (fun a w => Oper.wp P ⟨some d, .buildSlice t 1 #[(0, x)], ty, pos, af, gd⟩ a w K Q) := fun H hm =>
  W_buildSlice1 hx hz hv hes hn (fun b H' hn => k b (by have := hn.blk; have := hm.size; omega) H' (hm.new hn.ext (by have := hn.blk; omega) (Has.of hn.at_)))
theorem bsNW {d sz sb es eb nn : Nat} {z ez : Value} {t e : TypeId} {dc : TypeDesc} {ps : List (Nat × Operand)} {vs : List (Nat × Value)} (ys : List Value) [h : Ty P t (.slice e) sz sb z] [he : Ty P e dc es eb ez] (hx : evps env ps = some vs)
    (hf : Instr.fill (fun i => some (i * es, es)) ((Array.range (nn * es)).map (ez.cells[· % ez.cells.size]!)) vs = some ys.toArray) (hes : nn * es ≠ 0 ∧ nn * es ≤ 16777216) (hn : Nat.blt d n = true)
    (k : ∀ b, H0.size ≤ b → Am n W ((d, .slice (some ⟨b, 0, none⟩) nn nn) :: env) H0 R ((b, ys) :: L) K) : Am n W env H0 R L (fun a w => Oper.wp P ⟨some d, .buildSlice t nn ps.toArray, ty, pos, af, gd⟩ a w K Q) := fun H hm =>
  W_buildSliceN hx hf hes hn (fun b H' hn => k b (by have := hn.blk; have := hm.size; omega) H' (hm.new hn.ext (by have := hn.blk; omega) (Has.of hn.at_)))
theorem callW {d : Nat} {f : FuncId} [FnOk P f] {args : List Operand} {ats : Array TypeId} {vs : List Value} {T : Heap → Value → Heap → Prop} (hop : o.op = .call ⟨.value (.func f), args.toArray, ats⟩)
    (hvs : evs env args = some vs) (hd : o.dst = some d) (hn : Nat.blt d n = true) (hs : ∀ H, Mem H0 R L H → Spc P f vs.toArray H (T H))
    (k : ∀ H v H', Mem H0 R L H → T H v H' → At n W ((d, v) :: env) H' K) : Am n W env H0 R L (fun a w => o.wp P a w K Q) := fun H hm => W_call hop hvs (hs H hm) hd hn (fun v H' hS => k H v H' hm hS)
end
end Ev
