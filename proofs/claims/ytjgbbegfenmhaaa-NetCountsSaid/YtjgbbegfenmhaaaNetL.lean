/- The page's network in memory. -/
import Derived.Test.YtjgbbegfenmhaaaNetK
namespace Go.Proofs.Ytjgbbegfenmhaaa
open Go Ev
set_option linter.unusedVariables false
set_option linter.unusedSimpArgs false
attribute [local irreducible] Go.wpList Go.bodyPost Go.Code.wp Go.Exit.then Go.Exit.inBlock Go.Exit.noGoto Ev.wpAnyG Go.Oper.wp Ev.Back Ev.Left Ev.Spc Ev.At Ev.Pure Ev.Reads Ev.Runs Ev.Does Ev.Cell

section
variable {P : Program} {n : Nat} {W : World} {env : Env} {H : Heap} {Q : Exit → Act → World → Prop} {K : Act → World → Prop}
variable {ds : Option Tmp} {ty : TypeId} {pos : String} {af : Array Edge} {gd : Option (Nat × Bool)}
/-- append(s, t...), whatever their lengths -/
theorem W_appendAny {x y : Operand} {t e : TypeId} {de : TypeDesc} {sz sb size bytes : Nat} {z ez : Value} {dd : Nat} [h : Ty P t (.slice e) sz sb z] [he : Ty P e de size bytes ez] {v : Value} {nn : Nat} {xs : List Value} {q : Option Addr} {m c : Nat} {news : List Value}
    (hx : ev env x = some v) (hy : ev env y = some (.slice q m c)) (hown : Own H 0 e size v nn xs) (hl : news.length = m * size) (hnews : ∀ j u, news[j]? = some u → ∃ b o, q = some ⟨b, o, none⟩ ∧ Cell H b (o + j) u) (h1 : ∀ u ∈ news, u.oneCell' = true)
    (hz : ez.cells.size = size) (hsz : 0 < size) (h63 : nn + m ≤ 1000000) (hby : bytes ≤ 100000) (hn : Nat.blt dd n = true)
    (k : ∀ v' H', Own H' 0 e size v' (nn + m) (xs ++ news) → Kept (fun b => v.ownBlock = some b) H H' → (∀ g, v'.ownBlock = some g → v.ownBlock = some g ∨ H.size ≤ g) → At n W ((dd, v') :: env) H' K) :
    At n W env H (fun a w => Oper.wp P ⟨some dd, .call ⟨.builtin .append, #[x, y], #[t, t]⟩, ty, pos, af, gd⟩ a w K Q) := by
  have hb2 : (nn + m) * bytes ≤ 1000000 * 100000 := Nat.mul_le_mul h63 hby
  rcases Nat.eq_zero_or_pos m with h0 | hp
  · subst h0
    have hn0 : news = [] := List.eq_nil_of_length_eq_zero (by rw [hl, Nat.zero_mul])
    subst hn0
    obtain ⟨p, c', hv, hle⟩ : ∃ p c, v = .slice p nn c ∧ nn ≤ c := by
      rcases hown.form with ⟨e1, e2, _⟩ | ⟨g, c', e1, _, _, e2, _⟩
      · exact ⟨none, 0, by rw [e1, e2], by omega⟩
      · exact ⟨_, _, e1, e2⟩
    subst hv
    refine W_run (Reads.runs (r_append0 hx hy hle)) rfl hn (k _ H (by simpa using hown) (Kept.refl _ _) (fun g hg => .inl hg))
  · obtain ⟨u, hu⟩ : ∃ u, news[0]? = some u := by
      have : 0 < news.length := by rw [hl]; exact Nat.mul_pos hp hsz
      exact ⟨news[0], by simp [this]⟩
    obtain ⟨b, o, rfl, _⟩ := hnews 0 u hu
    refine W_append hx hy hown hl (fun j u hj => ?_) h1 (Nat.zero_le _) hz hsz hp (by simp only [maxLen]; omega) (by omega) hn ?_
    · obtain ⟨b', o', e, hc⟩ := hnews j u hj
      simp only [Option.some.injEq, Addr.mk.injEq] at e
      obtain ⟨rfl, rfl, _⟩ := e
      exact hc
    · intro g c' H' ho hk hg
      exact k _ H' ho hk (fun g' hg' => by
        simp only [Value.ownBlock, Option.some.injEq] at hg'
        subst hg'
        exact hg)
end

structure Rt where
  n : Int
  row : List Fr
  cuts : List (Int × Int)
def PRow (p : Int × Int) (row : List Value) : Prop := row = [.int .i64 p.1, .int .i64 p.2]
/-- .. the frames' bodies lie in blocks that D lets -/
structure RNet (D : Nat → Prop) (H : Heap) (q : Nat) (lv cv : Value) (R : Rt) : Prop where
  blk : H[q]? = some (.cells #[.int .i64 R.n, lv, cv] 46 (0, 0))
  own : OwnL H 30 7 (FRow D H) lv R.row
  cut : OwnL H 66 2 PRow cv R.cuts
  nl : lv.ownBlock ≠ some q
  nc : cv.ownBlock ≠ some q
  lc : ∀ g, lv.ownBlock = some g → cv.ownBlock ≠ some g
  dis : ∀ b, D b → b ≠ q ∧ lv.ownBlock ≠ some b ∧ cv.ownBlock ≠ some b
def Gn (q : Nat) (lv cv : Value) (b : Nat) : Prop := b = q ∨ lv.ownBlock = some b ∨ cv.ownBlock = some b
section
variable {D D' S : Nat → Prop} {H H' : Heap} {q : Nat} {lv cv : Value} {R : Rt}
theorem RNet.lt (h : RNet D H q lv cv R) : q < H.size := lt_of_heap h.blk
theorem RNet.llt (h : RNet D H q lv cv R) {g : Nat} (hg : lv.ownBlock = some g) : g < H.size := own_lt h.own hg
theorem RNet.clt (h : RNet D H q lv cv R) {g : Nat} (hg : cv.ownBlock = some g) : g < H.size := own_lt h.cut hg
theorem RNet.keep (h : RNet D H q lv cv R) (hk : Kept S H H') (hS : ∀ b, Gn q lv cv b → ¬ S b) (h1 : ∀ b, D b → b < H.size → ¬ S b ∧ D' b) (hd : ∀ b, D' b → b ≠ q ∧ lv.ownBlock ≠ some b ∧ cv.ownBlock ≠ some b) : RNet D' H' q lv cv R :=
  ⟨hk.keep h.blk (hS q (.inl rfl)), h.own.keep hk (fun g hg => hS g (.inr (.inl hg))) (fun x row _ hr => hr.keep hk h1), h.cut.keep hk (fun g hg => hS g (.inr (.inr hg))) (fun _ _ _ hr => hr), h.nl, h.nc, h.lc, hd⟩
theorem RNet.ext (h : RNet D H q lv cv R) (hk : Ext H H') : RNet D H' q lv cv R := h.keep hk (fun _ _ f => f) (fun b hb _ => ⟨fun f => f, hb⟩) h.dis
theorem RNet.to (h : RNet D H q lv cv R) (h1 : ∀ b, D b → b < H.size → D' b) (hd : ∀ b, D' b → b ≠ q ∧ lv.ownBlock ≠ some b ∧ cv.ownBlock ≠ some b) : RNet D' H q lv cv R :=
  h.keep (Kept.refl (fun _ => False) H) (fun _ _ f => f) (fun b hb hl => ⟨fun f => f, h1 b hb hl⟩) hd
theorem RNet.lim (h : RNet D H q lv cv R) : RNet (fun b => D b ∧ b < H.size) H q lv cv R := h.to (fun b hb hl => ⟨hb, hl⟩) (fun b hb => h.dis b hb.1)
theorem RNet.c0 (h : RNet D H q lv cv R) : Cell H q (0 + 0) (.int .i64 R.n) := Cell.of h.blk rfl
theorem RNet.c1 (h : RNet D H q lv cv R) : Cell H q (0 + 1) lv := Cell.of h.blk rfl
theorem RNet.c2 (h : RNet D H q lv cv R) : Cell H q (0 + 2) cv := Cell.of h.blk rfl
theorem RNet.lform (h : RNet D H q lv cv R) : ∃ p c, lv = .slice p R.row.length c ∧ R.row.length ≤ c := by
  rcases h.own.form with ⟨h1, h2⟩ | ⟨g, c, h1, _, h2, _⟩
  · exact ⟨none, 0, by rw [h1, h2]; rfl, by rw [h2]; simp⟩
  · exact ⟨_, c, h1, h2⟩
theorem RNet.cform (h : RNet D H q lv cv R) : ∃ p c, cv = .slice p R.cuts.length c := by
  rcases h.cut.form with ⟨h1, h2⟩ | ⟨g, c, h1, _⟩
  · exact ⟨none, 0, by rw [h1, h2]; rfl⟩
  · exact ⟨_, c, h1⟩
end
theorem own_one {α : Type} {H : Heap} {e : TypeId} {size : Nat} {R : α → List Value → Prop} {v : Value} {xs : List α} (h : OwnL H e size R v xs) : v.cells = #[v] ∧ v.oneCell' = true := by
  rcases h.form with ⟨e, _⟩ | ⟨g, cg, e, _⟩ <;> rw [e] <;> exact ⟨rfl, rfl⟩
theorem own_one' {H : Heap} {base : Nat} {e : TypeId} {size nn : Nat} {v : Value} {xs : List Value} (h : Own H base e size v nn xs) : v.cells = #[v] ∧ v.oneCell' = true := by
  rcases h.form with ⟨e, _⟩ | ⟨g, cg, e, _⟩ <;> rw [e] <;> exact ⟨rfl, rfl⟩

theorem end_spec {D : Nat → Prop} {H : Heap} {q : Nat} {lv cv : Value} {R : Rt} (h : RNet D H q lv cv R) (i : Int) :
    Spc Try.prog 35 #[.pointer (some ⟨q, 0, none⟩), .int .i64 i] H fun r H' => H = H' ∧ r = .bool (decide (0 ≤ i ∧ i < R.n)) := by
  have c0 := h.c0
  refine spec_of Try.func35 rfl Try.ntmps35 rfl (fun W => ?_)
  by_cases h1 : 0 ≤ i
  · by_cases h2 : i < R.n
    · repeat (first | refine codeA (k := ?_) | refine condA (k := ?_) | refine offA (k := ?_) | refine pureA (k := ?_) | refine readA (k := ?_))
      exact At_ret1 rfl rfl ⟨rfl, by simp [h1, h2]⟩
    · repeat (first | refine codeA (k := ?_) | refine condA (k := ?_) | refine offA (k := ?_) | refine pureA (k := ?_) | refine readA (k := ?_))
      exact At_ret1 rfl rfl ⟨rfl, by simp [h2]⟩
  · repeat (first | refine codeA (k := ?_) | refine condA (k := ?_) | refine offA (k := ?_) | refine pureA (k := ?_) | refine readA (k := ?_))
    exact At_ret1 rfl rfl ⟨rfl, by simp [h1]⟩
theorem rplace_spec {D : Nat → Prop} {H : Heap} {q : Nat} {lv cv : Value} {R : Rt} (h : RNet D H q lv cv R) (i : Int) :
    Spc Try.prog 32 #[.pointer (some ⟨q, 0, none⟩), .int .i64 i] H fun r H' => H = H' ∧ r = .bool (decide (0 ≤ i ∧ i < R.row.length)) := by
  obtain ⟨p, c, rfl, _⟩ := h.lform
  have c1 := h.c1
  refine spec_of Try.func32 rfl Try.ntmps32 rfl (fun W => ?_)
  by_cases h1 : 0 ≤ i
  · by_cases h2 : i < R.row.length
    · repeat (first | refine codeA (k := ?_) | refine condA (k := ?_) | refine offA (k := ?_) | refine pureA (k := ?_) | refine readA (k := ?_))
      exact At_ret1 rfl rfl ⟨rfl, by simp [h1, h2]⟩
    · repeat (first | refine codeA (k := ?_) | refine condA (k := ?_) | refine offA (k := ?_) | refine pureA (k := ?_) | refine readA (k := ?_))
      exact At_ret1 rfl rfl ⟨rfl, by simp [h2]⟩
  · repeat (first | refine codeA (k := ?_) | refine condA (k := ?_) | refine offA (k := ?_) | refine pureA (k := ?_) | refine readA (k := ?_))
    exact At_ret1 rfl rfl ⟨rfl, by simp [h1]⟩

/-- is the pair the way between a and b? -/
def Sm (a b : Int) (c : Int × Int) : Prop := (c.1 = a ∧ c.2 = b) ∨ (c.1 = b ∧ c.2 = a)
instance (a b : Int) (c : Int × Int) : Decidable (Sm a b c) := inferInstanceAs (Decidable ((c.1 = a ∧ c.2 = b) ∨ (c.1 = b ∧ c.2 = a)))
def cutAt (l : List (Int × Int)) (a b : Int) : Bool := l.any fun c => decide (Sm a b c)
set_option maxHeartbeats 4000000 in
theorem whole_spec {D : Nat → Prop} {H : Heap} {q : Nat} {lv cv : Value} {R : Rt} (h : RNet D H q lv cv R) (hl : R.cuts.length ≤ 100000) (a b : Int) :
    Spc Try.prog 34 #[.pointer (some ⟨q, 0, none⟩), .int .i64 a, .int .i64 b] H fun r H' => Ext H H' ∧ r = .bool (!cutAt R.cuts a b) := by
  obtain ⟨p, c, rfl⟩ := h.cform
  refine spec_of Try.func34 rfl Try.ntmps34 rfl (fun W => ?_)
  repeat (first | refine codeA (k := ?_) | refine condA (k := ?_) | refine offA (k := ?_) | refine pureA (k := ?_) | refine readA (k := ?_) | refine At_block ?_)
  refine At_loop (fun (s : Nat) => [(0, .pointer (some ⟨q, 0, none⟩)), (1, .int .i64 a), (2, .int .i64 b), (7, .int .i64 s)]) (fun s H' => s ≤ R.cuts.length ∧ Ext H H' ∧ ∀ x ∈ R.cuts.take s, ¬ Sm a b x) (fun s => R.cuts.length - s) 0 ?_ ⟨Nat.zero_le _, Kept.refl _ _, fun x hx => by simp at hx⟩ ?_
  · (repeat (first | exact Sub.nil | refine Sub.cons rfl ?_))
  rintro i H1 ⟨hi, hx1, hno⟩
  have d2 := (h.ext hx1).c2
  by_cases hil : i < R.cuts.length
  rotate_left
  · obtain rfl : i = R.cuts.length := by omega
    rw [List.take_length] at hno
    have e : cutAt R.cuts a b = false := by
      unfold cutAt
      refine List.any_eq_false.2 fun x hx => ?_
      simpa using hno x hx
    repeat (first | refine codeA (k := ?_) | refine condA (k := ?_) | refine offA (k := ?_) | refine pureA (k := ?_) | refine readA (k := ?_))
    exact At_ret1 rfl rfl ⟨hx1, by rw [e]; rfl⟩
  have hx : R.cuts[i]? = some R.cuts[i] := by simp [hil]
  generalize R.cuts[i] = x at hx
  obtain ⟨x1, x2⟩ := x
  obtain ⟨g, rfl⟩ : ∃ g, p = some ⟨g, 0, none⟩ := by
    rcases h.cut.form with ⟨e1, e2⟩ | ⟨g, c, e1, _⟩
    · rw [e2] at hil; simp at hil
    · simp only [Value.slice.injEq] at e1
      exact ⟨g, e1.1⟩
  obtain ⟨row, e1, e3, e4⟩ := (h.ext hx1).cut.cells hx
  obtain rfl : row = [.int .i64 x1, .int .i64 x2] := e1
  repeat (first | refine codeA (k := ?_) | refine condA (k := ?_) | refine offA (k := ?_) | refine pureA (k := ?_) | refine readA (k := ?_) | refine At_block ?_)
  refine At_read (r_loadN (b := g) (o := 0 + i * 2) (cs := [.int .i64 x1, .int .i64 x2]) rfl rfl rfl (fun j u hj => by rw [Nat.zero_add]; exact e4 j u hj)) rfl rfl rfl ?_
  refine At_wp (W_alloc rfl rfl ?_) rfl
  intro b2 H2 hn2
  refine At_wp (W_storeB (cs' := #[.int .i64 x1, .int .i64 x2]) rfl rfl hn2.at_ rfl rfl rfl rfl ?_) rfl
  intro H3 p3
  have bb2 := hn2.blk
  have hx3 : Ext H1 H3 := Kept.trans hn2.ext p3.kept (fun _ f _ => f) (fun i e hl => by omega)
  have q3 := p3.at_
  have m0 : Cell H3 b2 (0 + 0) (.int .i64 x1) := Cell.of q3 rfl
  have m1 : Cell H3 b2 (0 + 1) (.int .i64 x2) := Cell.of q3 rfl
  refine At_nil ?_
  refine At_then_normal ?_
  refine At_seq ?_
  refine At_cut (fun (s : Unit) => [(0, .pointer (some ⟨q, 0, none⟩)), (1, .int .i64 a), (2, .int .i64 b), (7, .int .i64 i), (46, .bool (decide (Sm a b (x1, x2))))]) (fun s H' => H' = H3) ?_ ?_
  · by_cases h1 : x1 = a <;> by_cases h2 : x2 = b <;> by_cases h3 : x1 = b <;> by_cases h4 : x2 = a
    all_goals (first | (rw [decide_eq_true (by unfold Sm; omega)]) | (rw [decide_eq_false (by unfold Sm; omega)]))
    all_goals (repeat (first | refine codeA (k := ?_) | refine offA (k := ?_) | refine pureA (k := ?_) | refine readA (k := ?_)))
    all_goals refine At_meet (E := fun (s : Unit) => _) (J := fun s H' => H' = H3) () ?_ rfl
    all_goals (repeat (first | exact Sub.nil | refine Sub.cons rfl ?_))
  · rintro _ _ rfl
    refine At_cond_dec rfl (fun hs => ?_) (fun hs => ?_)
    · have e : cutAt R.cuts a b = true := by
        unfold cutAt
        exact List.any_eq_true.2 ⟨_, List.mem_of_getElem? hx, by simpa using hs⟩
      repeat (first | refine codeA (k := ?_) | refine condA (k := ?_) | refine offA (k := ?_) | refine pureA (k := ?_) | refine readA (k := ?_))
      exact At_ret1 rfl rfl ⟨hx1.trans hx3, by rw [e]; rfl⟩
    · repeat (first | refine codeA (k := ?_) | refine condA (k := ?_) | refine offA (k := ?_) | refine pureA (k := ?_) | refine readA (k := ?_))
      refine At_back (i + 1) ?_ ⟨by omega, hx1.trans hx3, fun y hy => ?_⟩ (by omega)
      · (repeat (first | exact Sub.nil | refine Sub.cons rfl ?_))
      · rw [List.take_add_one, hx] at hy
        rcases List.mem_append.1 hy with hy | hy
        · exact hno y hy
        · rw [show y = (x1, x2) by simpa using hy]; exact hs

set_option maxHeartbeats 4000000 in
theorem out_spec {D : Nat → Prop} {H : Heap} {q : Nat} {lv cv : Value} {R : Rt} (h0 : RNet D H q lv cv R) (hlen : R.row.length ≤ 4096) {i : Nat} {f : Fr} (hi : R.row[i]? = some f) :
    Spc Try.prog 33 #[.pointer (some ⟨q, 0, none⟩), .int .i64 i] H fun r H' => Kept (· = q) H H' ∧ (∃ bv, r = .agg (frCells f bv).toArray ∧ BytesAt (fun b => D b ∧ b < H.size) H' bv f.body) ∧
      ∃ lv', RNet (fun b => D b ∧ b < H.size) H' q lv' cv { R with row := R.row.eraseIdx i } ∧ ∀ g, lv'.ownBlock = some g → H.size ≤ g := by
  have h := h0.lim
  have hil : i < R.row.length := (List.getElem?_eq_some_iff.1 hi).1
  obtain ⟨p, c, rfl, hlc⟩ := h.lform
  obtain ⟨g, rfl⟩ : ∃ g, p = some ⟨g, 0, none⟩ := by
    rcases h.own.form with ⟨e1, e2⟩ | ⟨g, c, e1, _⟩
    · rw [e2] at hil; simp at hil
    · simp only [Value.slice.injEq] at e1
      exact ⟨g, e1.1⟩
  obtain ⟨rows, ho, hrl, hrr⟩ := h.own.rowsR
  have hone : ∀ r ∈ rows, ∀ u ∈ r, u.oneCell' = true := fun r hr => by
    obtain ⟨k, hk⟩ := List.mem_iff_getElem?.1 hr
    have hlt : k < R.row.length := by rw [← hrl]; exact (List.getElem?_eq_some_iff.1 hk).1
    exact (hrr k R.row[k] r (by simp [hlt]) hk).one
  have hg : g ≠ q := fun e => h.nl (by rw [e]; rfl)
  refine spec_of Try.func33 rfl Try.ntmps33 rfl (fun W => ?_)
  repeat (first | refine codeA (k := ?_) | refine condA (k := ?_) | refine offA (k := ?_) | refine pureA (k := ?_) | refine readA (k := ?_))
  refine At_wp (W_alloc rfl rfl ?_) rfl
  intro b1 H1 hn1
  have b1' := hn1.blk
  have s1 := hn1.size
  have h1 := h.ext hn1.ext
  have c1 := h1.c1
  obtain ⟨row, ⟨bv, e1, e2⟩, e3, e4⟩ := h.own.cells hi
  subst e1
  obtain ⟨pb, pc, rfl⟩ := e2.form
  repeat (first | refine codeA (k := ?_) | refine condA (k := ?_) | refine offA (k := ?_) | refine pureA (k := ?_) | refine readA (k := ?_))
  refine At_read (r_loadN (b := g) (o := 0 + i * 7) (cs := frCells f (.slice pb f.body.length pc)) rfl rfl rfl (fun j u hj => by rw [Nat.zero_add]; exact (e4 j u hj).keep hn1.ext (fun f => f))) rfl rfl rfl ?_
  refine At_wp (W_alloc rfl rfl ?_) rfl
  intro b2 H2 hn2
  refine At_wp (W_storeB (cs' := (frCells f (.slice pb f.body.length pc)).toArray) rfl rfl hn2.at_ rfl rfl rfl rfl ?_) rfl
  intro H3 p3
  have b2' := hn2.blk
  have s2 := hn2.size
  have s3 := p3.size
  have hx3 : Ext H H3 := Kept.trans (hn1.ext.trans hn2.ext) p3.kept (fun _ f _ => f) (fun i e hl => by omega)
  have h3 := h.ext hx3
  have q3 := p3.at_
  have r3 := p3.kept.keep (hn2.ext.keep hn1.at_ (fun f => f)) (fun e => by omega)
  have d1 := h3.c1
  have ho3 : Own H3 0 30 7 (.slice (some ⟨g, 0, none⟩) R.row.length c) R.row.length rows.flatten := by
    have := (ho.keep hx3 (fun _ _ f => f)).own
    rwa [hrl] at this
  have fr1 : ∀ r ∈ rows.take i, r.length = 7 := fun r hr => ho.len r (List.mem_of_mem_take hr)
  have fr2 : ∀ r ∈ rows.drop (i + 1), r.length = 7 := fun r hr => ho.len r (List.mem_of_mem_drop hr)
  have hcell : ∀ (H' : Heap), Ext H3 H' → ∀ (j : Nat) (u : Value), rows.flatten[j]? = some u → Cell H' g j u := fun H' hx j u hu => (ho3.cell hu).keep hx (fun f => f)
  repeat (first | refine codeA (k := ?_) | refine condA (k := ?_) | refine offA (k := ?_) | refine pureA (k := ?_) | refine readA (k := ?_))
  refine At_pure (p_slice_hi (c := c) (j := i) rfl rfl (by omega)) rfl rfl rfl ?_
  refine At_wp (W_appendAny (nn := 0) (xs := []) (news := (rows.take i).flatten) rfl rfl (Own.nil _ _ 30 7) ?_ ?_ ?_ rfl (by decide) (by omega) (by decide) rfl ?_) rfl
  · rw [flatten_length fr1]; simp; omega
  · intro j u hj
    refine ⟨g, 0, rfl, ?_⟩
    rw [Nat.zero_add]
    rw [← flatten_take i ho.len, List.getElem?_take] at hj
    split at hj
    · exact hcell _ (Kept.refl _ _) j u hj
    · cases hj
  · intro u hu
    obtain ⟨r, hr, hu⟩ := List.mem_flatten.1 hu
    exact hone r (List.mem_of_mem_take hr) u hu
  intro v4 H4 ho4 hk4 hg4
  rw [List.nil_append, Nat.zero_add] at ho4
  have hx4 : Ext H3 H4 := hk4.mono (fun i e _ => by cases e)
  have s4 := hx4.size
  have h4 := h3.ext hx4
  have d4 := h4.c1
  repeat (first | refine codeA (k := ?_) | refine condA (k := ?_) | refine offA (k := ?_) | refine pureA (k := ?_) | refine readA (k := ?_))
  refine At_pure (p_slice_any (l := R.row.length) (c := c) (i := i + 1) (k := R.row.length - (i + 1)) rfl rfl (by omega) (by omega) rfl) rfl rfl rfl ?_
  refine At_wp (W_appendAny (news := (rows.drop (i + 1)).flatten) rfl rfl ho4 ?_ ?_ ?_ rfl (by decide) (by omega) (by decide) rfl ?_) rfl
  · rw [flatten_length fr2]; simp; omega
  · intro j u hj
    rw [← flatten_drop (i + 1) ho.len, List.getElem?_drop] at hj
    have hlt := (List.getElem?_eq_some_iff.1 hj).1
    rw [flatten_length ho.len] at hlt
    refine ⟨g, 0 + (i + 1) * 7, ?_, ?_⟩
    · rw [if_neg (by omega)]
    · rw [Nat.zero_add]
      exact hcell _ hx4 _ u hj
  · intro u hu
    obtain ⟨r, hr, hu⟩ := List.mem_flatten.1 hu
    exact hone r (List.mem_of_mem_drop hr) u hu
  intro v5 H5 ho5 hk5 hg5
  have s5 := hk5.size
  have v4g : ∀ b, v4.ownBlock = some b → H3.size ≤ b := fun b hb => (hg4 b hb).resolve_left (fun e => by cases e)
  have hx5 : Ext H3 H5 := Kept.trans hx4 hk5 (fun _ f _ => f) (fun b e hl => by have := v4g b e; omega)
  have h5 := h3.ext hx5
  have v5g : ∀ b, v5.ownBlock = some b → H3.size ≤ b := fun b hb => by
    rcases hg5 b hb with e | e
    · exact v4g b e
    · omega
  have hq := h.lt
  repeat (first | refine codeA (k := ?_) | refine condA (k := ?_) | refine offA (k := ?_) | refine pureA (k := ?_) | refine readA (k := ?_))
  refine At_wp (W_store rfl rfl h5.blk (own_one' ho5).1 (own_one' ho5).2 rfl rfl ?_) rfl
  intro H6 p6
  have s6 := p6.size
  have q6 := p6.kept.keep (hx5.keep q3 (fun f => f)) (fun e => by omega)
  have r6 := p6.kept.keep (hx5.keep r3 (fun f => f)) (fun e => by omega)
  repeat (first | refine codeA (k := ?_) | refine condA (k := ?_) | refine offA (k := ?_) | refine pureA (k := ?_) | refine readA (k := ?_))
  refine At_read (r_loadB rfl q6 rfl rfl) rfl rfl rfl ?_
  refine At_wp (W_storeB (cs' := (frCells f (.slice pb f.body.length pc)).toArray) rfl rfl r6 rfl rfl rfl rfl ?_) rfl
  intro H7 p7
  have s7 := p7.size
  repeat (first | refine codeA (k := ?_) | refine condA (k := ?_) | refine offA (k := ?_) | refine pureA (k := ?_) | refine readA (k := ?_))
  have hk6 : Kept (· = q) H H6 := Kept.trans (hx3.trans hx5) p6.kept (fun _ f _ => f.elim) (fun _ e _ => e)
  have hk7 : Kept (· = q) H H7 := Kept.trans hk6 p7.kept (fun _ e _ => e) (fun j e hl => by omega)
  have ho6 : Own H6 0 30 7 v5 (i + (R.row.length - (i + 1))) ((rows.take i).flatten ++ (rows.drop (i + 1)).flatten) := Own.keep ho5 p6.kept (fun b hb e => by have := v5g b hb; omega)
  have ho7 : Own H7 0 30 7 v5 (i + (R.row.length - (i + 1))) ((rows.take i).flatten ++ (rows.drop (i + 1)).flatten) := Own.keep ho6 p7.kept (fun b hb e => by have := v5g b hb; omega)
  refine At_retC1 rfl rfl p7.at_ rfl rfl ⟨hk7, ⟨_, rfl, ?_⟩, v5, ?_, fun b hb => by have := v5g b hb; omega⟩
  · exact e2.keep hk7 (fun b hb _ => ⟨(h.dis b hb).1, hb⟩)
  · have hel : (rows.eraseIdx i).length = i + (R.row.length - (i + 1)) := by rw [List.length_eraseIdx, if_pos (by omega)]; omega
    have hoR : OwnR H7 30 7 v5 (rows.eraseIdx i) := by
      refine ⟨?_, fun r hr => ho.len r (List.mem_of_mem_eraseIdx hr)⟩
      rw [hel, List.eraseIdx_eq_take_drop_succ, List.flatten_append]
      exact ho7
    have hqk : Kept (· = b1) H6 H7 := p7.kept
    refine ⟨?_, hoR.toL (by rw [List.length_eraseIdx, List.length_eraseIdx, hrl]) (fun j x row hx hr => ?_), ?_, fun e => by have := v5g q e; omega, h.nc, fun b hb e => by have := v5g b hb; have := h.clt e; omega, fun b hb => ⟨(h.dis b hb).1, fun e => by have := v5g b e; have := hb.2; omega, (h.dis b hb).2.2⟩⟩
    · have := hqk.keep p6.at_ (fun e => by omega)
      rw [this]
      rfl
    · rw [List.getElem?_eraseIdx] at hx hr
      split at hx
      · rename_i e
        rw [if_pos e] at hr
        exact (hrr j x row hx hr).keep hk7 (fun b hb _ => ⟨(h.dis b hb).1, hb⟩)
      · rename_i e
        rw [if_neg e] at hr
        exact (hrr _ x row hx hr).keep hk7 (fun b hb _ => ⟨(h.dis b hb).1, hb⟩)
    · exact h.cut.keep hk7 (fun b hb e => h.nc (by rw [hb, e])) (fun _ _ _ hr => hr)
end Go.Proofs.Ytjgbbegfenmhaaa
