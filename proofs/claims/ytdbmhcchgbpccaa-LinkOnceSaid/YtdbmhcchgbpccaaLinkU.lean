/- Lists that grow by many, that lose one; Twin; prefix. -/
import Derived.Test.YtdbmhcchgbpccaaLinkS
namespace Go.Proofs.Ytdbmhcchgbpccaa
open Go Ev
set_option linter.unusedVariables false
set_option linter.unusedSimpArgs false

section
variable {P : Program} {n : Nat} {W : World} {env : Env} {H0 H : Heap} {Q : Exit → Act → World → Prop} {K : Act → World → Prop}
variable {ds : Option Tmp} {ty : TypeId} {pos : String} {af : Array Edge} {gd : Option (Nat × Bool)}
theorem p_slice_any {x lo : Operand} {t e : TypeId} {d : TypeDesc} {sz sb es eb : Nat} {z ez : Value} {b o l c : Nat} {kl : IntKind} {i k : Nat} [h : Ty P t (.slice e) sz sb z] [he : Ty P e d es eb ez]
    (hx : ev env x = some (.slice (some ⟨b, o, none⟩) l c)) (hlo : ev env lo = some (.int kl i)) (h1 : i ≤ l) (h2 : i ≤ c) (hk : l - i = k) :
    Pure P n env ⟨ds, .slice t x (some lo) none none, ty, pos, af, gd⟩ (.slice (if c = i then some ⟨b, o, none⟩ else some ⟨b, o + i * es, none⟩) k (c - i)) := by
  subst hk
  by_cases e : c = i
  · rw [if_pos e]
    exact p_slice_lo_end hx hlo h1 e
  · rw [if_neg e]
    exact p_slice_lo hx hlo h1 (by omega)
/-- append(s, t...), whatever their lengths -/
theorem W_appendAny {x y : Operand} {t e : TypeId} {de : TypeDesc} {sz sb size bytes : Nat} {z ez : Value} {dd : Nat} [h : Ty P t (.slice e) sz sb z] [he : Ty P e de size bytes ez] {v : Value} {nn : Nat} {xs : List Value} {q : Option Addr} {m c : Nat} {news : List Value}
    (hx : ev env x = some v) (hy : ev env y = some (.slice q m c)) (hown : Own H 0 e size v nn xs) (hl : news.length = m * size) (hnews : ∀ j u, news[j]? = some u → ∃ b o, q = some ⟨b, o, none⟩ ∧ Cell H b (o + j) u) (h1 : ∀ u ∈ news, u.oneCell' = true)
    (hz : ez.cells.size = size) (hsz : 0 < size) (h63 : nn + m ≤ 1000000) (hby : bytes ≤ 100000) (hn : Nat.blt dd n = true)
    (k : ∀ v' H', Own H' 0 e size v' (nn + m) (xs ++ news) → Kept (fun b => v.ownBlock = some b) H H' → (∀ g, v'.ownBlock = some g → v.ownBlock = some g ∨ H.size ≤ g) → At n W ((dd, v') :: env) H' K) :
    At n W env H (fun a w => Oper.wp P ⟨some dd, .call ⟨.builtin .append, #[x, y], #[t, t]⟩, ty, pos, af, gd⟩ a w K Q) := by
  have hb2 : (nn + m) * bytes ≤ 1000000 * 100000 := Nat.mul_le_mul h63 hby
  rcases Nat.eq_zero_or_pos m with h0 | hp
  · subst h0
    have hn0 : news = [] := List.eq_nil_of_length_eq_zero (by rw [hl, Nat.zero_mul])
    subst hn0
    obtain ⟨p, c', hv, hle⟩ : ∃ p c, v = .slice p nn c ∧ nn ≤ c := by
      rcases hown.form with ⟨e1, e2, _⟩ | ⟨g, c', e1, _, _, e2, _⟩
      · exact ⟨none, 0, by rw [e1, e2], by omega⟩
      · exact ⟨_, _, e1, e2⟩
    subst hv
    refine W_run (Reads.runs (r_append0 hx hy hle)) rfl hn (k _ H (by simpa using hown) (Kept.refl _ _) (fun g hg => .inl hg))
  · obtain ⟨u, hu⟩ : ∃ u, news[0]? = some u := by
      have : 0 < news.length := by rw [hl]; exact Nat.mul_pos hp hsz
      exact ⟨news[0], by simp [this]⟩
    obtain ⟨b, o, rfl, _⟩ := hnews 0 u hu
    refine W_append hx hy hown hl (fun j u hj => ?_) h1 (Nat.zero_le _) hz hsz hp (by simp only [maxLen]; omega) (by omega) hn ?_
    · obtain ⟨b', o', e, hc⟩ := hnews j u hj
      simp only [Option.some.injEq, Addr.mk.injEq] at e
      obtain ⟨rfl, rfl, _⟩ := e
      exact hc
    · intro g c' H' ho hk hg
      exact k _ H' ho hk (fun g' hg' => by
        simp only [Value.ownBlock, Option.some.injEq] at hg'
        subst hg'
        exact hg)
/-- a whole list behind a list that bears the tag tg -/
theorem W_appendAllOw {α : Type} {T : Nat → Nat} {tg t2 : Nat} {R : (Nat → Prop) → Heap → α → List Value → Prop} {x y : Operand} {t e : TypeId} {de : TypeDesc} {sz sb size bytes : Nat} {z ez : Value} {dd : Nat} [h : Ty P t (.slice e) sz sb z] [he : Ty P e de size bytes ez] {v : Value} {xs ys : List α} {q : Option Addr} {m c : Nat}
    (hR : ∀ (D D' S : Nat → Prop) (H H' : Heap) x row, R D H x row → Kept S H H' → (∀ b, D b → b < H.size → ¬ S b ∧ D' b) → R D' H' x row)
    (hone : ∀ (D : Nat → Prop) (H : Heap) x row, R D H x row → ∀ u ∈ row, u.oneCell' = true)
    (hba : Ba H0 T H) (ht : tg ≠ 0) (hx : ev env x = some v) (hy : ev env y = some (.slice q m c)) (ho : Ow T H tg e size R v xs) (ho2 : Ow T H t2 e size R (.slice q m c) ys) (hz : ez.cells.size = size) (hsz : 0 < size)
    (h63 : xs.length + ys.length ≤ 1000000) (hby : bytes ≤ 100000) (hn : Nat.blt dd n = true)
    (k : ∀ v' H' T', Stp (· = tg) T T' H H' → Ow T' H' tg e size R v' (xs ++ ys) → At n W ((dd, v') :: env) H' K) :
    At n W env H (fun a w => Oper.wp P ⟨some dd, .call ⟨.builtin .append, #[x, y], #[t, t]⟩, ty, pos, af, gd⟩ a w K Q) := by
  obtain ⟨rows1, o1, l1, r1⟩ := ho.d.rows
  obtain ⟨rows2, o2, l2, r2⟩ := ho2.d.rows
  have hm : m = ys.length := by
    rcases ho2.d.form with ⟨e1, e2⟩ | ⟨g, c, e1, _⟩
    · simp only [Value.slice.injEq] at e1
      rw [e2]; exact e1.2.1
    · simp only [Value.slice.injEq] at e1
      exact e1.2.1
  have hlen2 : ∀ r ∈ rows2, r.length = size := fun r hr => by
    obtain ⟨i, hi⟩ := List.mem_iff_getElem?.1 hr
    have hlt : i < ys.length := by rw [← l2]; exact (List.getElem?_eq_some_iff.1 hi).1
    exact (r2 i ys[i] r (by simp [hlt]) hi).2
  refine W_appendAny (news := rows2.flatten) hx hy o1 (by rw [flatten_length hlen2, l2, hm]) (fun j u hj => ?_) (fun u hu => ?_) hz hsz (by omega) hby hn ?_
  · rcases o2.2 with ⟨e, e0⟩ | ⟨g, cap, cur, e, _⟩
    · exfalso
      have hlt := (List.getElem?_eq_some_iff.1 hj).1
      rw [o2.1, e0, Nat.zero_mul] at hlt
      exact absurd hlt (Nat.not_lt_zero _)
    · simp only [Value.slice.injEq] at e
      obtain ⟨rfl, rfl, rfl⟩ := e
      exact ⟨g, 0, rfl, by rw [Nat.zero_add]; exact o2.cell hj⟩
  · obtain ⟨r, hr, hu⟩ := List.mem_flatten.1 hu
    obtain ⟨i, hi⟩ := List.mem_iff_getElem?.1 hr
    have hlt : i < ys.length := by rw [← l2]; exact (List.getElem?_eq_some_iff.1 hi).1
    exact hone _ _ _ r (r2 i ys[i] r (by simp [hlt]) hi).1 u hu
  · intro v' H' own hk hg
    have hvl : ∀ g, v'.ownBlock = some g → g < H'.size := fun g hg => (own.lt hg).2
    have hsame : ∀ b, b < H.size → tagNew T H v' tg b = T b := fun b hl => if_neg (fun e => by omega)
    have conv : ∀ (x : α) (row : List Value), R (fun b => T b = 0) H x row → R (fun b => tagNew T H v' tg b = 0) H' x row := fun x row hr =>
      hR _ _ _ _ _ x row hr hk (fun b hb hl => ⟨fun e => ht (by rw [← ho.tv b e]; exact hb), by rw [hsame b hl]; exact hb⟩)
    refine k v' H' (tagNew T H v' tg) (Stp.tagNew hba (hk.mono fun b hb _ => ho.tv b hb) hvl) ⟨⟨rows1 ++ rows2, ?_, by rw [List.length_append, List.length_append, l1, l2], fun i x row hx hrow => ?_⟩, fun g' hg' => ?_⟩
    · rw [List.length_append, List.flatten_append, ← hm]
      exact own
    · rcases Nat.lt_or_ge i xs.length with e | e
      · rw [List.getElem?_append_left e] at hx
        rw [List.getElem?_append_left (by omega)] at hrow
        exact ⟨conv x row (r1 i x row hx hrow).1, (r1 i x row hx hrow).2⟩
      · rw [List.getElem?_append_right e] at hx
        rw [List.getElem?_append_right (by omega), l1] at hrow
        exact ⟨conv x row (r2 _ x row hx hrow).1, (r2 _ x row hx hrow).2⟩
    · unfold tagNew
      split
      · rfl
      · rename_i e
        rcases hg g' hg' with e2 | e2
        · exact ho.tv g' e2
        · exact absurd ⟨e2, hg'⟩ e
end
theorem frow_one (D : Nat → Prop) (H : Heap) (f : Fr) (row : List Value) (hr : FRow D H f row) : ∀ u ∈ row, u.oneCell' = true := by
  obtain ⟨bv, rfl, e2⟩ := hr
  intro u hu
  simp only [frCells, List.mem_cons, List.not_mem_nil, or_false] at hu
  rcases hu with rfl | rfl | rfl | rfl | rfl | rfl | rfl
  any_goals rfl
  exact e2.one.2
attribute [local irreducible] Go.wpList Go.bodyPost Go.Code.wp Go.Exit.then Go.Exit.inBlock Go.Exit.noGoto Ev.wpAnyG Go.Oper.wp Ev.Back Ev.Left Ev.Spc Ev.At Ev.Pure Ev.Reads Ev.Runs Ev.Does Ev.Cell

theorem keepTwin_spec {D : Nat → Prop} {H : Heap} {v : Value} {l : List UInt8} (hb : BytesAt D H v l) (hl : l.length ≤ 70368744177664) :
    Spc Try.prog 15 #[v] H fun v' H' => Ext H H' ∧ BytesAt (fun b => H.size ≤ b) H' v' l := by
  refine spec_of Try.func15 rfl Try.ntmps15 rfl (fun W => ?_)
  obtain ⟨p, c, rfl⟩ := hb.form
  repeat (first | refine codeA (k := ?_) | refine condA (k := ?_) | refine offA (k := ?_) | refine pureA (k := ?_) | refine readA (k := ?_))
  rcases Nat.eq_zero_or_pos l.length with h0 | hp
  · have hl0 : l = [] := List.eq_nil_of_length_eq_zero h0
    subst hl0
    refine At_read (r_append0 rfl rfl (Nat.le_refl _)) rfl rfl rfl ?_
    repeat (first | refine codeA (k := ?_) | refine condA (k := ?_) | refine offA (k := ?_) | refine pureA (k := ?_) | refine readA (k := ?_))
    exact At_ret1 rfl rfl ⟨Kept.refl _ _, BytesAt.nil _ _⟩
  · obtain ⟨b, o, rfl, _, h3, h5⟩ := hb.some hp
    refine At_wp (W_append (base := 0) (e := 5) (size := 1) (xs := []) (nn := 0) (news := l.map fun x => .int .u8 x.toNat) rfl rfl (Own.nil _ _ _ _) ?_ ?_ ?_ (Nat.zero_le _) rfl (by decide) hp ?_ ?_ rfl ?_) rfl
    · simp
    · intro j u hj
      simp only [List.getElem?_map, Option.map_eq_some_iff] at hj
      obtain ⟨x, hx, rfl⟩ := hj
      exact h5 j x hx
    · intro u hu
      simp only [List.mem_map] at hu
      obtain ⟨x, _, rfl⟩ := hu
      rfl
    · simp only [maxLen]; omega
    · omega
    intro g2 c2 H2 hown2 hk2 hg2
    rw [List.nil_append, Nat.zero_add] at hown2
    repeat (first | refine codeA (k := ?_) | refine condA (k := ?_) | refine offA (k := ?_) | refine pureA (k := ?_) | refine readA (k := ?_))
    refine At_ret1 rfl rfl ⟨hk2.mono (fun i e _ => by cases e), ?_⟩
    rw [Nat.zero_add]
    rcases hown2.form with ⟨h, _⟩ | ⟨g3, c3, h, _, _, h6, h7⟩
    · cases h
    · simp only [Value.slice.injEq, true_and] at h
      refine BytesAt.mk (by omega) (by omega) ?_ (fun i x hx => ?_)
      · rcases hg2 with e | e
        · cases e
        · exact e
      · rw [Nat.zero_add]
        exact hown2.cell (by simp [hx])
theorem slice_take {D1 D2 : Nat → Prop} {H : Heap} {q : Option Addr} {n c k : Nat} {ys : List (List UInt8)} (h : SliceAt D1 H 1 (BRow D2 H) (.slice q n c) ys) (hk : k ≤ ys.length) : SliceAt D1 H 1 (BRow D2 H) (.slice q k c) (ys.take k) := by
  obtain ⟨p, c', e, h2, h3, h4, h5⟩ := h
  simp only [Value.slice.injEq] at e
  obtain ⟨rfl, rfl, rfl⟩ := e
  have hl : (ys.take k).length = k := by simp; omega
  refine ⟨q, c, by rw [hl], by omega, h3, h4, fun i x hx => h5 i x ?_⟩
  rw [List.getElem?_take] at hx
  split at hx
  · exact hx
  · cases hx
theorem prefix_spec {D1 D2 D3 D4 : Nat → Prop} {H : Heap} {v v' : Value} {xs ys : List (List UInt8)} (h1 : SliceAt D1 H 1 (BRow D2 H) v xs) (h2 : SliceAt D3 H 1 (BRow D4 H) v' ys) (hp : xs = ys.take xs.length) (hl : xs.length ≤ ys.length) :
    Spc Try.prog 17 #[v, v'] H fun r H' => H' = H ∧ r = .bool true := by
  have hcap : ∃ q c, v' = .slice q ys.length c ∧ ys.length ≤ c := by
    obtain ⟨p, c, e, a, _⟩ := h2
    exact ⟨p, c, e, a⟩
  obtain ⟨q, c, rfl⟩ := h1.form
  obtain ⟨q', c', rfl, hc'⟩ := hcap
  have h3 := slice_take h2 hl
  rw [← hp] at h3
  refine spec_of Try.func17 rfl Try.ntmps17 rfl (fun W => ?_)
  repeat (first | refine codeA (k := ?_) | refine condA (k := ?_) | refine offA (k := ?_) | refine pureA (k := ?_) | refine readA (k := ?_))
  refine At_pure (p_slice_hi (c := c') (j := xs.length) rfl rfl (by omega)) rfl rfl rfl ?_
  refine At_wp (W_call rfl rfl (rows_eq h1 h3) rfl rfl ?_) rfl
  rintro _ _ ⟨rfl, rfl⟩
  repeat (first | refine codeA (k := ?_) | refine condA (k := ?_) | refine offA (k := ?_) | refine pureA (k := ?_) | refine readA (k := ?_))
  exact At_ret1 rfl rfl ⟨rfl, rfl⟩
end Go.Proofs.Ytdbmhcchgbpccaa
