/- Data in memory: slices of bytes, slices of rows, rows of one's own. Plain theorems over any program. -/
import Derived.Test.YtlaobecajieaaaaGreatG02
import Derived.Laws.BytesArg
import Derived.KernelRfl
import Derived.ProofKit
import Derived.Deep.Slices
import Derived.OpenShut
namespace Ev
open Go

/-- slice value v reads as the bytes l, in a block that D lets -/
def BytesAt (D : Nat → Prop) (H : Heap) (v : Value) (l : List UInt8) : Prop :=
  ∃ p c, v = .slice p l.length c ∧ l.length ≤ c ∧ c ≤ maxLen ∧ (p = none → c = 0) ∧ ∀ (i : Nat) (x : UInt8), l[i]? = some x → ∃ b o, p = some ⟨b, o, none⟩ ∧ D b ∧ Cell H b (o + i) (.int .u8 x.toNat)
theorem BytesAt.nil (D : Nat → Prop) (H : Heap) : BytesAt D H (.slice none 0 0) [] := ⟨none, 0, rfl, Nat.le_refl _, by simp [maxLen], fun _ => rfl, fun i x h => by simp at h⟩
theorem BytesAt.mk {D : Nat → Prop} {H : Heap} {b o c : Nat} {l : List UInt8} (h1 : l.length ≤ c) (h2 : c ≤ maxLen) (hD : D b) (h : ∀ i x, l[i]? = some x → Cell H b (o + i) (.int .u8 x.toNat)) : BytesAt D H (.slice (some ⟨b, o, none⟩) l.length c) l :=
  ⟨_, c, rfl, h1, h2, (fun e => by cases e), fun i x hx => ⟨b, o, rfl, hD, h i x hx⟩⟩
theorem BytesAt.form {D : Nat → Prop} {H : Heap} {v : Value} {l : List UInt8} (h : BytesAt D H v l) : ∃ p c, v = .slice p l.length c := by
  obtain ⟨p, c, h, _⟩ := h
  exact ⟨p, c, h⟩
theorem BytesAt.one {D : Nat → Prop} {H : Heap} {v : Value} {l : List UInt8} (h : BytesAt D H v l) : v.cells = #[v] ∧ v.oneCell' = true := by
  obtain ⟨p, c, rfl⟩ := h.form
  exact ⟨rfl, rfl⟩
/-- some bytes: where they lie -/
theorem BytesAt.some {D : Nat → Prop} {H : Heap} {p : Option Addr} {n c : Nat} {l : List UInt8} (h : BytesAt D H (.slice p n c) l) (hl : 0 < l.length) : ∃ b o, p = some ⟨b, o, none⟩ ∧ D b ∧ b < H.size ∧ ∀ (i : Nat) (x : UInt8), l[i]? = some x → Cell H b (o + i) (.int .u8 x.toNat) := by
  obtain ⟨q, c', h1, _, _, _, h5⟩ := h
  simp only [Value.slice.injEq] at h1
  obtain ⟨rfl, _, _⟩ := h1
  obtain ⟨b, o, rfl, hD, hc⟩ := h5 0 l[0] (by simp [hl])
  refine ⟨b, o, rfl, hD, hc.lt, fun i x hx => ?_⟩
  obtain ⟨b', o', e, _, hc'⟩ := h5 i x hx
  simp only [Option.some.injEq, Addr.mk.injEq] at e
  obtain ⟨rfl, rfl, _⟩ := e
  exact hc'
theorem BytesAt.keep {D D' S : Nat → Prop} {H H' : Heap} {v : Value} {l : List UInt8} (h : BytesAt D H v l) (hk : Kept S H H') (h1 : ∀ b, D b → b < H.size → ¬ S b ∧ D' b) : BytesAt D' H' v l := by
  obtain ⟨p, c, e, h2, h3, h4, h5⟩ := h
  refine ⟨p, c, e, h2, h3, h4, fun i x hx => ?_⟩
  obtain ⟨b, o, e, hD, hc⟩ := h5 i x hx
  exact ⟨b, o, e, (h1 b hD hc.lt).2, hc.keep hk (h1 b hD hc.lt).1⟩
theorem BytesAt.mono {D D' : Nat → Prop} {H : Heap} {v : Value} {l : List UInt8} (h : BytesAt D H v l) (h1 : ∀ b, D b → b < H.size → D' b) : BytesAt D' H v l :=
  h.keep (Kept.refl (fun _ => False) H) (fun b hb hl => ⟨fun f => f, h1 b hb hl⟩)
theorem BytesAt.len_le {D : Nat → Prop} {H : Heap} {v : Value} {l : List UInt8} (h : BytesAt D H v l) : l.length ≤ maxLen := by
  obtain ⟨p, c, _, h2, h3, _⟩ := h
  omega
theorem strOfNums_bytes (l : List UInt8) : strOfNums (l.map fun x => (x.toNat : Int)) = ⟨l.toArray⟩ := by
  unfold strOfNums
  congr 1
  congr 1
  rw [List.map_map]
  conv => rhs; rw [← List.map_id l]
  refine List.map_congr_left fun x _ => ?_
  simp

section
variable {P : Program} {n : Nat} {W : World} {env : Env} {H : Heap} {Q : Exit → Act → World → Prop} {K : Act → World → Prop}
variable {ds : Option Tmp} {ty : TypeId} {pos : String} {af : Array Edge} {gd : Option (Nat × Bool)}
theorem r_bytesStr {x : Operand} {src dst e : TypeId} {s1 s2 s3 s4 s5 s6 : Nat} {z1 z2 z3 v : Value} {D : Nat → Prop} {l : List UInt8} [h1 : Ty P src (.slice e) s1 s2 z1] [h2 : Ty P dst .string s3 s4 z2] [h3 : Ty P e (.int .u8) s5 s6 z3] (hx : ev env x = some v) (hb : BytesAt D H v l) :
    Reads P n env H ⟨ds, .convert src dst x, ty, pos, af, gd⟩ (.string ⟨l.toArray⟩) := fun a w f eq => by
  subst eq
  obtain ⟨p, c, hv⟩ := hb.form
  subst hv
  rcases Nat.eq_zero_or_pos l.length with h0 | hp
  · obtain rfl : l = [] := List.eq_nil_of_length_eq_zero h0
    have : (convert src dst (.slice p 0 c)).run P w = .ok (.string ⟨#[]⟩) w := by
      rw [run_convert_bytes_string w src dst e p 0 c h1.und h3.und h2.und]
      cases p <;> simp [Conv.bytesToString, loadCells, loadCellsFrom] <;> rfl
    simp [execOp, f.ev hx, this]
  · obtain ⟨b, o, rfl, _, _, hc⟩ := hb.some hp
    have := run_convert_bytes_arg (P := P) w src e h1.und h3.und b o l.length c (l.map fun x => (x.toNat : Int)) (by simp) (fun i hi => by
      have := (hc i l[i] (by simp [hi])).cell?
      simpa [hi] using this) dst h2.und
    rw [strOfNums_bytes] at this
    simp [execOp, f.ev hx, this]
theorem p_eql_string {x y : Operand} {t t2 : TypeId} {l l' : List UInt8} (hx : ev env x = some (.string ⟨l.toArray⟩)) (hy : ev env y = some (.string ⟨l'.toArray⟩)) :
    Pure P n env ⟨ds, .binOp .eql t x y t2, ty, pos, af, gd⟩ (.bool (decide (l = l'))) := fun a w f => by
  have e : (l == l') = decide (l = l') := by rw [Bool.eq_iff_iff]; simp
  simp [execOp, f.ev hx, f.ev hy, eqGuard, binOp, Op.stringOp, e]
theorem p_neq_string {x y : Operand} {t t2 : TypeId} {l l' : List UInt8} (hx : ev env x = some (.string ⟨l.toArray⟩)) (hy : ev env y = some (.string ⟨l'.toArray⟩)) :
    Pure P n env ⟨ds, .binOp .neq t x y t2, ty, pos, af, gd⟩ (.bool (decide (l ≠ l'))) := fun a w f => by
  have e : (!(l == l')) = decide (l ≠ l') := by rw [Bool.eq_iff_iff]; simp
  simp [execOp, f.ev hx, f.ev hy, eqGuard, binOp, Op.stringOp, ← e]
/-- append of nothing: the slice stays -/
theorem r_append0 {x y : Operand} {t e : TypeId} {de : TypeDesc} {sz sb size bytes : Nat} {z ez : Value} [h : Ty P t (.slice e) sz sb z] [he : Ty P e de size bytes ez] {p q : Option Addr} {nn c c2 : Nat}
    (hx : ev env x = some (.slice p nn c)) (hy : ev env y = some (.slice q 0 c2)) (hl : nn ≤ c) :
    Reads P n env H ⟨ds, .call ⟨.builtin .append, #[x, y], #[t, t]⟩, ty, pos, af, gd⟩ (.slice p nn c) := fun a w f _ => by
  have hs : ∀ (b : Addr), (storeCells b [] 0).run P w = .ok () w := fun b => by simp [storeCells]
  have hf : (Builtin.firstCells size 0 (.slice q 0 c2)).run P w = .ok #[] w := by
    cases q <;> simp [Builtin.firstCells, loadCells, loadCellsFrom]
  have : (Builtin.append_ #[t, t] ty #[.slice p nn c, .slice q 0 c2]).run P w = .ok (.slice p nn c) w := by
    cases p <;> simp [Builtin.append_, run_underlying h.und, he.sizeOf, Builtin.lenOf, hl, hf, hs]
  simp [execOp, resolve, invoke, builtin, f.ev hx, f.ev hy, this]
end

/-! ## Rows of one's own, told element by element -/
def flat (rows : List (List Value)) : List Value := rows.flatten
structure OwnL {α : Type} (H : Heap) (e : TypeId) (size : Nat) (R : α → List Value → Prop) (v : Value) (xs : List α) : Prop where
  rows : ∃ rows : List (List Value), Own H 0 e size v xs.length rows.flatten ∧ rows.length = xs.length ∧ ∀ (i : Nat) (x : α) (row : List Value), xs[i]? = some x → rows[i]? = some row → R x row ∧ row.length = size
section
variable {α : Type} {H H' : Heap} {e : TypeId} {size : Nat} {R R' : α → List Value → Prop} {v : Value} {xs : List α}
theorem OwnL.nil (H : Heap) (e : TypeId) (size : Nat) (R : α → List Value → Prop) : OwnL H e size R (.slice none 0 0) [] :=
  ⟨[], Own.nil H 0 e size, rfl, fun i x row h => by simp at h⟩
theorem OwnL.form (h : OwnL H e size R v xs) : (v = .slice none 0 0 ∧ xs = []) ∨ ∃ g c, v = .slice (some ⟨g, 0, none⟩) xs.length c ∧ g < H.size ∧ xs.length ≤ c ∧ c ≤ maxLen := by
  obtain ⟨rows, h1, h2, _⟩ := h.rows
  rcases h1.form with ⟨h3, h4, _⟩ | ⟨g, c, h3, _, h4, h5, h6⟩
  · exact .inl ⟨h3, List.eq_nil_of_length_eq_zero h4⟩
  · exact .inr ⟨g, c, h3, h4, h5, h6⟩
theorem OwnL.len_le (h : OwnL H e size R v xs) : xs.length ≤ maxLen := by
  rcases h.form with ⟨_, rfl⟩ | ⟨g, c, _, _, h1, h2⟩
  · simp
  · omega
theorem OwnL.imp (h : OwnL H e size R v xs) (hr : ∀ x row, x ∈ xs → R x row → R' x row) : OwnL H e size R' v xs := by
  obtain ⟨rows, h1, h2, h3⟩ := h.rows
  exact ⟨rows, h1, h2, fun i x row hx hrow => ⟨hr x row (List.mem_of_getElem? hx) (h3 i x row hx hrow).1, (h3 i x row hx hrow).2⟩⟩
theorem OwnL.keep (h : OwnL H e size R v xs) {S : Nat → Prop} (hk : Kept S H H') (hS : ∀ g, v.ownBlock = some g → ¬ S g) (hr : ∀ x row, x ∈ xs → R x row → R' x row) : OwnL H' e size R' v xs := by
  obtain ⟨rows, h1, h2, h3⟩ := h.rows
  exact ⟨rows, h1.keep hk hS, h2, fun i x row hx hrow => ⟨hr x row (List.mem_of_getElem? hx) (h3 i x row hx hrow).1, (h3 i x row hx hrow).2⟩⟩
theorem flatten_get : ∀ {rows : List (List Value)} {size i j : Nat} {row : List Value} {u : Value}, (∀ (k : Nat) (r : List Value), rows[k]? = some r → r.length = size) → rows[i]? = some row → row[j]? = some u → rows.flatten[i * size + j]? = some u
  | [], size, i, j, row, u, _, h, _ => by simp at h
  | r :: rs, size, i, j, row, u, hl, h, hu => by
    have hr : r.length = size := hl 0 r rfl
    cases i with
    | zero =>
      simp only [List.getElem?_cons_zero, Option.some.injEq] at h
      subst h
      rw [List.flatten_cons, List.getElem?_append_left (by rw [Nat.zero_mul, Nat.zero_add]; exact (List.getElem?_eq_some_iff.1 hu).1), Nat.zero_mul, Nat.zero_add]
      exact hu
    | succ i =>
      rw [List.flatten_cons, List.getElem?_append_right (by rw [hr, Nat.add_mul]; omega)]
      have : (i + 1) * size + j - r.length = i * size + j := by rw [hr, Nat.add_mul]; omega
      rw [this]
      exact flatten_get (fun k r' hk => hl (k + 1) r' (by simpa using hk)) (by simpa using h) hu
/-- the cells of element i -/
theorem OwnL.cells {g c n : Nat} (h : OwnL H e size R (.slice (some ⟨g, 0, none⟩) n c) xs) {i : Nat} {x : α} (hx : xs[i]? = some x) : ∃ row, R x row ∧ row.length = size ∧ ∀ (j : Nat) (u : Value), row[j]? = some u → Cell H g (i * size + j) u := by
  obtain ⟨rows, h1, h2, h3⟩ := h.rows
  have hlt : i < rows.length := by rw [h2]; exact (List.getElem?_eq_some_iff.1 hx).1
  have hrow : rows[i]? = some rows[i] := by simp [hlt]
  obtain ⟨hR, hl⟩ := h3 i x _ hx hrow
  refine ⟨rows[i], hR, hl, fun j u hu => ?_⟩
  have hn : n = xs.length := by
    rcases h1.form with ⟨h4, _⟩ | ⟨g', c', h4, _⟩
    · cases h4
    · simp only [Value.slice.injEq] at h4; exact h4.2.1
  subst hn
  refine h1.cell (flatten_get (fun k r hk => ?_) hrow hu)
  have hk' : k < xs.length := by rw [← h2]; exact (List.getElem?_eq_some_iff.1 hk).1
  exact (h3 k xs[k] r (by simp [hk']) hk).2
/-- one more at the end -/
theorem OwnL.snoc {rows : List (List Value)} {x : α} {row : List Value} {v' : Value} (hown : Own H' 0 e size v' (xs.length + 1) (rows.flatten ++ row)) (h2 : rows.length = xs.length)
    (h3 : ∀ (i : Nat) (x : α) (row : List Value), xs[i]? = some x → rows[i]? = some row → R x row ∧ row.length = size) (hx : R x row) (hl : row.length = size) : OwnL H' e size R v' (xs ++ [x]) := by
  refine ⟨rows ++ [row], by simpa using hown, by simp [h2], fun i y r hy hr => ?_⟩
  by_cases hi : i < xs.length
  · rw [List.getElem?_append_left hi] at hy
    rw [List.getElem?_append_left (by omega)] at hr
    exact h3 i y r hy hr
  · have hi2 : i = xs.length := by
      have := (List.getElem?_eq_some_iff.1 hy).1
      simp at this
      omega
    subst hi2
    rw [List.getElem?_append_right (Nat.le_refl _)] at hy
    rw [List.getElem?_append_right (by omega)] at hr
    simp [h2] at hy hr
    subst hy; subst hr
    exact ⟨hx, hl⟩
end

/-! ## Slices that came in -/
/-- slice value v reads as the list xs, its elements' cells as R tells -/
def SliceAt {α : Type} (D : Nat → Prop) (H : Heap) (size : Nat) (R : α → List Value → Prop) (v : Value) (xs : List α) : Prop :=
  ∃ p c, v = .slice p xs.length c ∧ xs.length ≤ c ∧ c ≤ maxLen ∧ (p = none → c = 0) ∧ ∀ (i : Nat) (x : α), xs[i]? = some x → ∃ b o row, p = some ⟨b, o, none⟩ ∧ D b ∧ b < H.size ∧ R x row ∧ row.length = size ∧ ∀ (j : Nat) (u : Value), row[j]? = some u → Cell H b (o + i * size + j) u
section
variable {α : Type} {D D' S : Nat → Prop} {H H' : Heap} {size : Nat} {R R' : α → List Value → Prop} {v : Value} {xs : List α}
theorem SliceAt.form (h : SliceAt D H size R v xs) : ∃ p c, v = .slice p xs.length c := by
  obtain ⟨p, c, h, _⟩ := h
  exact ⟨p, c, h⟩
theorem SliceAt.len_le (h : SliceAt D H size R v xs) : xs.length ≤ maxLen := by
  obtain ⟨p, c, _, h2, h3, _⟩ := h
  omega
theorem SliceAt.at_ {p : Option Addr} {n c : Nat} (h : SliceAt D H size R (.slice p n c) xs) {i : Nat} {x : α} (hx : xs[i]? = some x) : ∃ b o row, p = some ⟨b, o, none⟩ ∧ D b ∧ b < H.size ∧ R x row ∧ row.length = size ∧ ∀ (j : Nat) (u : Value), row[j]? = some u → Cell H b (o + i * size + j) u := by
  obtain ⟨q, c', h1, _, _, _, h5⟩ := h
  simp only [Value.slice.injEq] at h1
  obtain ⟨rfl, _, _⟩ := h1
  exact h5 i x hx
theorem SliceAt.keep (h : SliceAt D H size R v xs) (hk : Kept S H H') (h1 : ∀ b, D b → b < H.size → ¬ S b ∧ D' b) (hr : ∀ x row, x ∈ xs → R x row → R' x row) : SliceAt D' H' size R' v xs := by
  obtain ⟨p, c, e, h2, h3, h4, h5⟩ := h
  refine ⟨p, c, e, h2, h3, h4, fun i x hx => ?_⟩
  obtain ⟨b, o, row, e, hD, hlt, hR, hl, hc⟩ := h5 i x hx
  obtain ⟨a1, a2⟩ := h1 b hD hlt
  exact ⟨b, o, row, e, a2, Nat.lt_of_lt_of_le hlt hk.size, hr x row (List.mem_of_getElem? hx) hR, hl, fun j u hu => (hc j u hu).keep hk a1⟩
theorem OwnL.slice {e : TypeId} (h : OwnL H e size R v xs) : SliceAt (fun b => v.ownBlock = some b) H size R v xs := by
  rcases h.form with ⟨rfl, rfl⟩ | ⟨g, c, rfl, h1, h2, h3⟩
  · exact ⟨none, 0, rfl, Nat.le_refl _, by simp [maxLen], fun _ => rfl, fun i x hx => by simp at hx⟩
  · refine ⟨_, c, rfl, h2, h3, (fun e => by cases e), fun i x hx => ?_⟩
    obtain ⟨row, hR, hl, hc⟩ := h.cells hx
    exact ⟨g, 0, row, rfl, rfl, h1, hR, hl, fun j u hu => by rw [Nat.zero_add]; exact hc j u hu⟩
end
/-- rows of bytes -/
def BRow (D : Nat → Prop) (H : Heap) (l : List UInt8) (row : List Value) : Prop := ∃ bv, row = [bv] ∧ BytesAt D H bv l

/-! ## Slice expressions -/
section
variable {P : Program} {n : Nat} {W : World} {env : Env} {H : Heap} {Q : Exit → Act → World → Prop} {K : Act → World → Prop}
variable {ds : Option Tmp} {ty : TypeId} {pos : String} {af : Array Edge} {gd : Option (Nat × Bool)}
theorem elem_of {t e : TypeId} {sz sb : Nat} {z : Value} [h : Ty P t (.slice e) sz sb z] : P.elem t = e := by simp [Program.elem, h.und]
/-- s[lo:hi] -/
theorem p_slice {x lo hi : Operand} {t e : TypeId} {d : TypeDesc} {sz sb es eb : Nat} {z ez : Value} {b o l c : Nat} {kl kh : IntKind} {i j : Nat} [h : Ty P t (.slice e) sz sb z] [he : Ty P e d es eb ez]
    (hx : ev env x = some (.slice (some ⟨b, o, none⟩) l c)) (hlo : ev env lo = some (.int kl i)) (hhi : ev env hi = some (.int kh j)) (h1 : i ≤ j) (h2 : j ≤ c) (h3 : i < c) :
    Pure P n env ⟨ds, .slice t x (some lo) (some hi) none, ty, pos, af, gd⟩ (.slice (some ⟨b, o + i * es, none⟩) (j - i) (c - i)) := fun a w f => by
  have hu : P.underlying t = some (.slice (P.elem t)) := by rw [elem_of (P := P) (t := t) (e := e)]; exact h.und
  have := run_slice_lh (P := P) w t (some ⟨b, o, none⟩) l c hu kl kh (i : Int) (j : Int) (by omega) (by omega) (by omega)
  rw [elem_of (P := P) (t := t) (e := e)] at this
  have h4 : ¬ c = i := by omega
  simp [execOp, f.ev hx, f.ev hlo, f.ev hhi, run_sliceAt_slice w t _ _ _ _ hu, this, he.sizeOf, sliced, h4, add_none]
theorem p_slice_lo {x lo : Operand} {t e : TypeId} {d : TypeDesc} {sz sb es eb : Nat} {z ez : Value} {b o l c : Nat} {kl : IntKind} {i : Nat} [h : Ty P t (.slice e) sz sb z] [he : Ty P e d es eb ez]
    (hx : ev env x = some (.slice (some ⟨b, o, none⟩) l c)) (hlo : ev env lo = some (.int kl i)) (h1 : i ≤ l) (h3 : i < c) :
    Pure P n env ⟨ds, .slice t x (some lo) none none, ty, pos, af, gd⟩ (.slice (some ⟨b, o + i * es, none⟩) (l - i) (c - i)) := fun a w f => by
  have hu : P.underlying t = some (.slice (P.elem t)) := by rw [elem_of (P := P) (t := t) (e := e)]; exact h.und
  have := run_slice_l (P := P) w t (some ⟨b, o, none⟩) l c hu kl (i : Int) (by omega) (by omega)
  rw [elem_of (P := P) (t := t) (e := e)] at this
  have h4 : ¬ c = i := by omega
  simp [execOp, f.ev hx, f.ev hlo, run_sliceAt_slice w t _ _ _ _ hu, this, he.sizeOf, sliced, h4, add_none]
/-- .. nothing is left: whatever the address -/
theorem p_slice_lo_end {x lo : Operand} {t e : TypeId} {d : TypeDesc} {sz sb es eb : Nat} {z ez : Value} {p : Option Addr} {l c : Nat} {kl : IntKind} {i : Nat} [h : Ty P t (.slice e) sz sb z] [he : Ty P e d es eb ez]
    (hx : ev env x = some (.slice p l c)) (hlo : ev env lo = some (.int kl i)) (h1 : i ≤ l) (h3 : c = i) :
    Pure P n env ⟨ds, .slice t x (some lo) none none, ty, pos, af, gd⟩ (.slice p (l - i) (c - i)) := fun a w f => by
  have hu : P.underlying t = some (.slice (P.elem t)) := by rw [elem_of (P := P) (t := t) (e := e)]; exact h.und
  subst h3
  have := run_slice_l (P := P) w t p l c hu kl (c : Int) (by omega) (by omega)
  rw [elem_of (P := P) (t := t) (e := e)] at this
  simp [execOp, f.ev hx, f.ev hlo, run_sliceAt_slice w t _ _ _ _ hu, this, he.sizeOf, sliced]
theorem p_slice_hi {x hi : Operand} {t e : TypeId} {d : TypeDesc} {sz sb es eb : Nat} {z ez : Value} {p : Option Addr} {l c : Nat} {kh : IntKind} {j : Nat} [h : Ty P t (.slice e) sz sb z] [he : Ty P e d es eb ez]
    (hx : ev env x = some (.slice p l c)) (hhi : ev env hi = some (.int kh j)) (h2 : j ≤ c) :
    Pure P n env ⟨ds, .slice t x none (some hi) none, ty, pos, af, gd⟩ (.slice p j c) := fun a w f => by
  have hu : P.underlying t = some (.slice (P.elem t)) := by rw [elem_of (P := P) (t := t) (e := e)]; exact h.und
  have := run_slice_h (P := P) w t p l c hu kh (j : Int) (by omega) (by omega)
  rw [elem_of (P := P) (t := t) (e := e)] at this
  have h0 : p.map (fun x => x.add 0) = p := by cases p <;> simp [Addr.add]
  simp [execOp, f.ev hx, f.ev hhi, run_sliceAt_slice w t _ _ _ _ hu, this, he.sizeOf, sliced, h0]

/-! ## Rows of one's own, written in the midst -/
structure OwnR (H : Heap) (e : TypeId) (size : Nat) (v : Value) (rows : List (List Value)) : Prop where
  own : Own H 0 e size v rows.length rows.flatten
  len : ∀ r ∈ rows, r.length = size
theorem OwnR.block {e : TypeId} {size g l c : Nat} {rows : List (List Value)} (h : OwnR H e size (.slice (some ⟨g, 0, none⟩) l c) rows) : l = rows.length ∧ ∃ cur, H[g]? = some (.cells cur e (0, 0)) ∧ rows.length ≤ c ∧ c ≤ maxLen ∧ cur.size = c * size ∧ cur.toList.take (rows.length * size) = rows.flatten := by
  rcases h.own.2 with ⟨h1, _⟩ | ⟨g', cap, cur, h1, _, h3, h4, h5, h6, h7⟩
  · cases h1
  · simp only [Value.slice.injEq, Option.some.injEq, Addr.mk.injEq] at h1
    obtain ⟨⟨rfl, _⟩, h8, rfl⟩ := h1
    exact ⟨h8, cur, h3, h4, h5, h6, h7⟩
theorem flatten_length {size : Nat} : ∀ {rows : List (List Value)}, (∀ r ∈ rows, r.length = size) → rows.flatten.length = rows.length * size
  | [], _ => by simp
  | r :: rs, h => by
    rw [List.flatten_cons, List.length_append, h r (by simp), flatten_length (fun r hr => h r (by simp [hr])), List.length_cons, Nat.add_mul]
    omega
theorem flatten_take {size : Nat} : ∀ {rows : List (List Value)} (i : Nat), (∀ r ∈ rows, r.length = size) → rows.flatten.take (i * size) = (rows.take i).flatten
  | [], i, _ => by simp
  | r :: rs, 0, h => by simp
  | r :: rs, i + 1, h => by
    have hr := h r (by simp)
    rw [List.take_succ_cons, List.flatten_cons, List.flatten_cons, List.take_append, ← flatten_take i (fun r hr => h r (by simp [hr])), List.take_of_length_le (by rw [hr, Nat.add_mul]; omega)]
    congr 2
    rw [hr, Nat.add_mul]
    omega
theorem flatten_drop {size : Nat} : ∀ {rows : List (List Value)} (i : Nat), (∀ r ∈ rows, r.length = size) → rows.flatten.drop (i * size) = (rows.drop i).flatten
  | [], i, _ => by simp
  | r :: rs, 0, h => by simp
  | r :: rs, i + 1, h => by
    have hr := h r (by simp)
    rw [List.drop_succ_cons, List.flatten_cons, List.drop_append, ← flatten_drop i (fun r hr => h r (by simp [hr])), List.drop_eq_nil_of_le (by rw [hr, Nat.add_mul]; omega), List.nil_append]
    congr 1
    rw [hr, Nat.add_mul]
    omega
/-- rows 'news' laid over rows i, i+1, .. -/
theorem OwnR.put {e : TypeId} {size g c i : Nat} {rows news : List (List Value)} {cur : Array Value} {H' : Heap} (h : OwnR H e size (.slice (some ⟨g, 0, none⟩) rows.length c) rows) (hn : ∀ r ∈ news, r.length = size) (hi : i + news.length ≤ rows.length)
    (hb : H[g]? = some (.cells cur e (0, 0))) (hp : Put H H' g (.cells (cur.toList.take (i * size) ++ news.flatten ++ cur.toList.drop (i * size + news.flatten.length)).toArray e (0, 0))) :
    OwnR H' e size (.slice (some ⟨g, 0, none⟩) rows.length c) (rows.take i ++ news ++ rows.drop (i + news.length)) := by
  obtain ⟨_, cur', h1, h2, h3, h4, h5⟩ := h.block
  rw [hb] at h1
  simp only [Option.some.injEq, Obj.cells.injEq, and_true] at h1
  subst h1
  have hfl := flatten_length hn
  have hfr := flatten_length h.len
  have hlen : (rows.take i ++ news ++ rows.drop (i + news.length)).length = rows.length := by simp; omega
  have hall : ∀ r ∈ rows.take i ++ news ++ rows.drop (i + news.length), r.length = size := fun r hr => by
    simp only [List.mem_append] at hr
    rcases hr with (hr | hr) | hr
    · exact h.len r (List.mem_of_mem_take hr)
    · exact hn r hr
    · exact h.len r (List.mem_of_mem_drop hr)
  refine ⟨?_, hall⟩
  rw [hlen]
  have hmul : (i + news.length) * size ≤ rows.length * size := Nat.mul_le_mul_right _ hi
  have hmul2 : rows.length * size ≤ c * size := Nat.mul_le_mul_right _ h2
  rw [Nat.add_mul] at hmul
  refine ⟨by rw [flatten_length hall, hlen], .inr ⟨g, c, _, rfl, Nat.zero_le _, hp.at_, h2, h3, ?_, ?_⟩⟩
  · simp [hfl]
    omega
  · have e1 : cur.toList.take (i * size) = (rows.take i).flatten := by
      rw [← flatten_take i h.len, ← h5, List.take_take, Nat.min_eq_left (by omega)]
    have e2 : (cur.toList.drop (i * size + news.flatten.length)).take (rows.length * size - (i * size + news.flatten.length)) = (rows.drop (i + news.length)).flatten := by
      rw [← flatten_drop _ h.len, ← h5, hfl, ← Nat.add_mul, List.drop_take]
    have e3 : (cur.toList.take (i * size)).length = i * size := by simp; omega
    simp only [List.flatten_append]
    rw [List.take_append, List.take_of_length_le (by simp [hfl]; omega), e1]
    congr 1
    rw [← e2]
    congr 1
    rw [List.length_append, ← e1, e3]
theorem W_storeRow {x y : Operand} {t e : TypeId} {d : TypeDesc} {size sb g i c : Nat} {z v : Value} {rows : List (List Value)} {row : List Value} [h : Ty P t d size sb z] (hx : ev env x = some (.pointer (some ⟨g, 0 + i * size, none⟩))) (hy : ev env y = some v) (hv : v.cells.toList = row)
    (h1 : ∀ u ∈ row, u.oneCell' = true) (hl : row.length = size) (ho : OwnR H e size (.slice (some ⟨g, 0, none⟩) rows.length c) rows) (hi : i < rows.length)
    (k : ∀ H', OwnR H' e size (.slice (some ⟨g, 0, none⟩) rows.length c) (rows.set i row) → Kept (· = g) H H' → H'.size = H.size → At n W env H' K) : At n W env H (fun a w => Oper.wp P ⟨none, .store t x y, ty, pos, af, gd⟩ a w K Q) := by
  obtain ⟨_, cur, hb, h2, h3, h4, h5⟩ := ho.block
  have hmul : (i + 1) * size ≤ rows.length * size := Nat.mul_le_mul_right _ hi
  have hmul2 : rows.length * size ≤ c * size := Nat.mul_le_mul_right _ h2
  rw [Nat.add_mul, Nat.one_mul] at hmul
  refine W_storeN hx hy hb (by rw [← hl, ← hv]; simp) (by rw [hv]; exact h1) (by omega) (fun H' hp => k H' ?_ hp.kept hp.size)
  rw [hv, Nat.zero_add] at hp
  have := ho.put (news := [row]) (i := i) (fun r hr => by simp at hr; rw [hr]; exact hl) (by simp; omega) hb (by simpa [hl] using hp)
  rw [List.set_eq_take_append_cons_drop, if_pos hi]
  simpa using this
/-- clear(s[i:]): the rows from i on are nothing any more -/
theorem W_clearRows {x : Operand} {t e : TypeId} {d : TypeDesc} {sz sb size eb g i l c c' : Nat} {z ez : Value} {rows : List (List Value)} [h : Ty P t (.slice e) sz sb z] [he : Ty P e d size eb ez] (hx : ev env x = some (.slice (some ⟨g, 0 + i * size, none⟩) l c')) (hil : i + l = rows.length)
    (h1 : ∀ u ∈ ez.cells.toList, u.oneCell' = true) (hl : ez.cells.size = size) (ho : OwnR H e size (.slice (some ⟨g, 0, none⟩) rows.length c) rows)
    (k : ∀ H' rows', OwnR H' e size (.slice (some ⟨g, 0, none⟩) rows.length c) rows' → rows'.length = rows.length → rows'.take i = rows.take i → Kept (· = g) H H' → H'.size = H.size → At n W env H' K) :
    At n W env H (fun a w => Oper.wp P ⟨none, .call ⟨.builtin .clear, #[x], #[t]⟩, ty, pos, af, gd⟩ a w K Q) := by
  obtain ⟨_, cur, hb, h2, h3, h4, h5⟩ := ho.block
  have hmul2 : rows.length * size ≤ c * size := Nat.mul_le_mul_right _ h2
  rcases Nat.eq_zero_or_pos l with h0 | hp
  · subst h0
    intro a w f eq hlike
    have hrun : (execOp a.eval ⟨none, .call ⟨.builtin .clear, #[x], #[t]⟩, ty, pos, af, gd⟩).run P w = .ok (.value (.tuple #[])) w := by
      simp [execOp, resolve, invoke, builtin, f.ev hx, Builtin.clear_, run_underlying h.und]
    show Oper.wp P _ a w K Q
    unfold Oper.wp
    rw [hrun, Oper.upon_value]
    exact k H rows ho rfl rfl (Kept.refl _ _) rfl _ w (f.put_none _) eq hlike
  · intro a w f eq hlike
    subst eq
    have hz : (Builtin.zeroCells ez.cells l).toList = (List.replicate l ez.cells.toList).flatten := by
      apply List.ext_getElem
      · simp [Builtin.zeroCells, flatten_length (size := size) (rows := List.replicate l ez.cells.toList) (fun r hr => by rw [List.eq_of_mem_replicate hr]; simpa using hl), hl]
      · intro j hj hj2
        simp only [Builtin.zeroCells, Array.length_toList, Array.size_map, Array.size_range] at hj
        have hsz : 0 < ez.cells.size := by
          rcases Nat.eq_zero_or_pos ez.cells.size with e | e
          · rw [e] at hj; simp at hj
          · exact e
        have hmod : j % ez.cells.size < ez.cells.size := Nat.mod_lt _ hsz
        have hdiv : j / ez.cells.size < l := (Nat.div_lt_iff_lt_mul hsz).2 hj
        have h3 := flatten_get (rows := List.replicate l ez.cells.toList) (size := ez.cells.size) (i := j / ez.cells.size) (j := j % ez.cells.size) (row := ez.cells.toList) (u := ez.cells[j % ez.cells.size]) (fun k r hr => by
          have := List.mem_of_getElem? hr
          rw [List.eq_of_mem_replicate this]; simp) (by simp [hdiv]) (by simp [hmod])
        rw [Nat.mul_comm, Nat.div_add_mod] at h3
        have h4 := (List.getElem?_eq_some_iff.1 h3).2
        rw [h4]
        simp [Builtin.zeroCells, hmod]
    have hfl : ((List.replicate l ez.cells.toList).flatten).length = l * size := by
      rw [flatten_length (size := size) (fun r hr => by rw [List.eq_of_mem_replicate hr]; simpa using hl)]; simp
    have hil2 : i * size + l * size = rows.length * size := by rw [← hil, Nat.add_mul]
    obtain ⟨w', hr, hpu, hl'⟩ := run_storeCells_block P g (i * size) e (List.replicate l ez.cells.toList).flatten cur w hb (by rw [hfl]; omega) (fun u hu => by
      simp only [List.mem_flatten] at hu
      obtain ⟨r, hr, hu⟩ := hu
      rw [List.eq_of_mem_replicate hr] at hu
      exact h1 u hu)
    have hrun : (execOp a.eval ⟨none, .call ⟨.builtin .clear, #[x], #[t]⟩, ty, pos, af, gd⟩).run P w = .ok (.value (.tuple #[])) w' := by
      obtain ⟨m, rfl⟩ : ∃ m, l = m + 1 := ⟨l - 1, by omega⟩
      rw [Nat.zero_add] at hx
      simp [execOp, resolve, invoke, builtin, f.ev hx, Builtin.clear_, run_underlying h.und, he.zeroValue, hz, hr]
    have hput := ho.put (news := List.replicate l ez.cells.toList) (i := i) (fun r hr => by rw [List.eq_of_mem_replicate hr]; simpa using hl) (by simp; omega) hb hpu
    show Oper.wp P _ a w K Q
    unfold Oper.wp
    rw [hrun, Oper.upon_value]
    refine k _ _ hput (by simp; omega) ?_ hpu.kept hpu.size _ w' (f.put_none _) rfl (hlike.trans hl')
    rw [List.append_assoc, List.take_append, List.take_take, Nat.min_self, List.length_take]
    have : i - min i rows.length = 0 := by omega
    rw [this]
    simp
theorem OwnR.keep {e : TypeId} {size : Nat} {v : Value} {rows : List (List Value)} {S : Nat → Prop} {H' : Heap} (h : OwnR H e size v rows) (hk : Kept S H H') (hS : ∀ g, v.ownBlock = some g → ¬ S g) : OwnR H' e size v rows := ⟨h.own.keep hk hS, h.len⟩
theorem OwnR.row {e : TypeId} {size g l c i : Nat} {rows : List (List Value)} {row : List Value} (h : OwnR H e size (.slice (some ⟨g, 0, none⟩) l c) rows) (hi : rows[i]? = some row) : ∀ (j : Nat) (u : Value), row[j]? = some u → Cell H g (i * size + j) u := fun j u hu => by
  obtain ⟨hl, _⟩ := h.block
  subst hl
  exact h.own.cell (flatten_get (fun k r hk => h.len r (List.mem_of_getElem? hk)) hi hu)
/-- a shorter slice over the same row -/
theorem OwnR.short {e : TypeId} {size g l c : Nat} {rows : List (List Value)} (h : OwnR H e size (.slice (some ⟨g, 0, none⟩) l c) rows) {i : Nat} (hi : i ≤ rows.length) : OwnR H e size (.slice (some ⟨g, 0, none⟩) i c) (rows.take i) := by
  obtain ⟨_, cur, hb, h2, h3, h4, h5⟩ := h.block
  have hl : (rows.take i).length = i := by simp; omega
  refine ⟨?_, fun r hr => h.len r (List.mem_of_mem_take hr)⟩
  rw [hl]
  have hmul : i * size ≤ rows.length * size := Nat.mul_le_mul_right _ hi
  refine ⟨by rw [flatten_length (fun r hr => h.len r (List.mem_of_mem_take hr)), hl], .inr ⟨g, c, cur, rfl, Nat.zero_le _, hb, by omega, h3, h4, ?_⟩⟩
  rw [← flatten_take i h.len, ← h5, List.take_take, Nat.min_eq_left hmul]
theorem OwnL.rowsR {α : Type} {e : TypeId} {size : Nat} {R : α → List Value → Prop} {v : Value} {xs : List α} (h : OwnL H e size R v xs) : ∃ rows, OwnR H e size v rows ∧ rows.length = xs.length ∧ ∀ (i : Nat) (x : α) (row : List Value), xs[i]? = some x → rows[i]? = some row → R x row := by
  obtain ⟨rows, h1, h2, h3⟩ := h.rows
  refine ⟨rows, ⟨by rw [h2]; exact h1, fun r hr => ?_⟩, h2, fun i x row hx hr => (h3 i x row hx hr).1⟩
  obtain ⟨i, hi⟩ := List.mem_iff_getElem?.1 hr
  have hlt : i < xs.length := by rw [← h2]; exact (List.getElem?_eq_some_iff.1 hi).1
  exact (h3 i xs[i] r (by simp [hlt]) hi).2
theorem OwnR.toL {α : Type} {e : TypeId} {size : Nat} {R : α → List Value → Prop} {v : Value} {rows : List (List Value)} {xs : List α} (h : OwnR H e size v rows) (hl : rows.length = xs.length) (hr : ∀ (i : Nat) (x : α) (row : List Value), xs[i]? = some x → rows[i]? = some row → R x row) : OwnL H e size R v xs :=
  ⟨rows, by rw [← hl]; exact h.own, hl, fun i x row hx hrow => ⟨hr i x row hx hrow, h.len row (List.mem_of_getElem? hrow)⟩⟩
end
end Ev
/- One step of the calculus at a time, the rule found by trying: the trials stand here once, as the arguments' own tactics. Plain theorems over any program. -/
namespace Ev
open Go
section
variable {P : Program} {n : Nat} {W : World} {env : Env} {H : Heap} {Q : Exit → Act → World → Prop} {ops : Array Oper} {rest : List Oper} {o : Oper}
theorem codeA {X Y : Act → World → Prop} (h : ∀ (n : Nat) (W : World) (env : Env) (H : Heap), At n W env H Y → At n W env H X := by
  first
  | exact fun _ _ _ _ h => At_seq h
  | exact fun _ _ _ _ h => At_region h
  | exact fun _ _ _ _ h => At_then_normal h
  | exact fun _ _ _ _ h => At_nil h
  | exact fun _ _ _ _ h => At_skip h
  | exact fun _ _ _ _ h => At_scope h
  | exact fun _ _ _ _ h => At_label h
  | exact fun _ _ _ _ h => At_ret h
  | exact fun _ _ _ _ h => At_exit h
  | exact fun _ _ _ _ h => At_inBlock_normal h
  | exact fun _ _ _ _ h => At_inBlock_same h
  | exact fun _ _ _ _ h => At_inBlock_ret h
  | exact fun _ _ _ _ h => At_then_ret h
  | exact fun _ _ _ _ h => At_then_exit h
  | exact fun _ _ _ _ h => At_inBlock_other rfl h
  | exact fun _ _ _ _ h => At_noGoto_normal h
  | exact fun _ _ _ _ h => At_noGoto_ret h
  | exact fun _ _ _ _ h => At_noGoto_exit h) (k : At n W env H Y) : At n W env H X := h n W env H k
theorem condA {c : Operand} {x y z : Code} (h : ev env c = some (.bool true) ∧ z = x ∨ ev env c = some (.bool false) ∧ z = y := by
  first
  | exact Or.inl ⟨rfl, rfl⟩
  | exact Or.inr ⟨rfl, rfl⟩) (k : At n W env H (z.wp P Q)) : At n W env H ((Code.cond c x y).wp P Q) := by
  rcases h with ⟨h, rfl⟩ | ⟨h, rfl⟩
  · exact At_cond_true h k
  · exact At_cond_false h k
theorem pureA {d : Nat} {v : Value} (hw : want ops env o = some true := by exact rfl) (hr : Pure P n env o v := by
  first
  | exact p_move rfl
  | exact p_assign rfl
  | exact p_nilCheck rfl
  | exact p_fieldAddr rfl
  | exact p_extract rfl rfl
  | exact p_len rfl rfl
  | exact p_not_true rfl
  | exact p_not_false rfl
  | exact p_pick_true rfl rfl
  | exact p_pick_false rfl rfl
  | exact p_indexAddr rfl rfl (by omega)
  | exact p_makeFunc0 rfl
  | exact p_eql_slice_nil rfl rfl
  | exact p_neq_slice_nil rfl rfl
  | exact p_eql_ptr_nil rfl rfl
  | exact p_neq_ptr_nil rfl rfl
  | exact p_add rfl rfl (by omega)
  | exact p_sub rfl rfl (by omega)
  | exact p_min_l rfl rfl (by omega)
  | exact p_min_r rfl rfl (by omega)
  | exact p_max_l rfl rfl (by omega)
  | exact p_max_r rfl rfl (by omega)
  | exact p_eql_bool rfl rfl
  | exact p_neq_bool rfl rfl
  | exact p_true (p_lss rfl rfl) (by omega)
  | exact p_false (p_lss rfl rfl) (by omega)
  | exact p_true (p_leq rfl rfl) (by omega)
  | exact p_false (p_leq rfl rfl) (by omega)
  | exact p_true (p_gtr rfl rfl) (by omega)
  | exact p_false (p_gtr rfl rfl) (by omega)
  | exact p_true (p_geq rfl rfl) (by omega)
  | exact p_false (p_geq rfl rfl) (by omega)
  | exact p_true (p_eql rfl rfl) (by omega)
  | exact p_false (p_eql rfl rfl) (by omega)
  | exact p_true (p_neq rfl rfl) (by omega)
  | exact p_false (p_neq rfl rfl) (by omega)
  | exact p_not_dec rfl) (hd : o.dst = some d := by exact rfl) (hn : Nat.blt d n = true := by exact rfl) (k : At n W ((d, v) :: env) H (wpList P ops Q rest)) : At n W env H (wpList P ops Q (o :: rest)) := At_pure hr hw hd hn k
theorem undA {d : Nat} {v : Value} (hw : want ops env o = some true := by exact rfl) (hr : Pure P n env o v := by
  first
  | exact p_lss rfl rfl
  | exact p_leq rfl rfl
  | exact p_gtr rfl rfl
  | exact p_geq rfl rfl
  | exact p_eql rfl rfl
  | exact p_neq rfl rfl) (hd : o.dst = some d := by exact rfl) (hn : Nat.blt d n = true := by exact rfl) (k : At n W ((d, v) :: env) H (wpList P ops Q rest)) : At n W env H (wpList P ops Q (o :: rest)) := At_pure hr hw hd hn k
theorem readA {d : Nat} {v : Value} (hw : want ops env o = some true := by exact rfl) (hr : Reads P n env H o v := by exact r_load rfl rfl (by assumption)) (hd : o.dst = some d := by exact rfl) (hn : Nat.blt d n = true := by exact rfl) (k : At n W ((d, v) :: env) H (wpList P ops Q rest)) : At n W env H (wpList P ops Q (o :: rest)) := At_read hr hw hd hn k
theorem offA {d : Nat} (hw : want ops env o = some false := by exact rfl) (hd : o.dst = some d := by exact rfl) (hn : Nat.blt d n = true := by exact rfl) (k : At n W ((d, undef) :: env) H (wpList P ops Q rest)) : At n W env H (wpList P ops Q (o :: rest)) := At_off hw hd hn k
theorem gA (i : Nat) {S : Heap → Prop} {needy : List Nat} {fuel : Nat} {listed : Array Bool} {d : Nat} {v : Value} (ho : ops[i]? = some o := by exact rfl) (hw : want ops env o = some true := by exact rfl) (hr : Pure P n env o v := by
  first
  | exact p_move rfl
  | exact p_assign rfl
  | exact p_nilCheck rfl
  | exact p_fieldAddr rfl
  | exact p_extract rfl rfl
  | exact p_len rfl rfl
  | exact p_not_true rfl
  | exact p_not_false rfl
  | exact p_pick_true rfl rfl
  | exact p_pick_false rfl rfl
  | exact p_indexAddr rfl rfl (by omega)
  | exact p_makeFunc0 rfl
  | exact p_eql_slice_nil rfl rfl
  | exact p_neq_slice_nil rfl rfl
  | exact p_eql_ptr_nil rfl rfl
  | exact p_neq_ptr_nil rfl rfl
  | exact p_add rfl rfl (by omega)
  | exact p_sub rfl rfl (by omega)
  | exact p_min_l rfl rfl (by omega)
  | exact p_min_r rfl rfl (by omega)
  | exact p_max_l rfl rfl (by omega)
  | exact p_max_r rfl rfl (by omega)
  | exact p_eql_bool rfl rfl
  | exact p_neq_bool rfl rfl
  | exact p_true (p_lss rfl rfl) (by omega)
  | exact p_false (p_lss rfl rfl) (by omega)
  | exact p_true (p_leq rfl rfl) (by omega)
  | exact p_false (p_leq rfl rfl) (by omega)
  | exact p_true (p_gtr rfl rfl) (by omega)
  | exact p_false (p_gtr rfl rfl) (by omega)
  | exact p_true (p_geq rfl rfl) (by omega)
  | exact p_false (p_geq rfl rfl) (by omega)
  | exact p_true (p_eql rfl rfl) (by omega)
  | exact p_false (p_eql rfl rfl) (by omega)
  | exact p_true (p_neq rfl rfl) (by omega)
  | exact p_false (p_neq rfl rfl) (by omega)
  | exact p_not_dec rfl) (hq : Calm Q := by repeat (first | exact Calm.post | apply Calm.then | apply Calm.inBlock | apply Calm.noGoto)) (hd : o.dst = some d := by exact rfl) (hn : Nat.blt d n = true := by exact rfl)
    (hc : (Region.noSelect ops && Region.free .any ops listed i && (Region.ready .any ops listed).contains i && !needy.contains i) = true := by kernel_rfl)
    (k : At n W ((d, v) :: env) H (wpAnyG P .any ops Q needy S fuel (listed.setIfInBounds i true))) : At n W env H (wpAnyG P .any ops Q needy S (fuel + 1) listed) := G_pure i ho hr hq hw hd hn hc k
theorem goffA (i : Nat) {S : Heap → Prop} {needy : List Nat} {fuel : Nat} {listed : Array Bool} {d : Nat} (ho : ops[i]? = some o := by exact rfl) (hw : want ops env o = some false := by exact rfl) (hq : Calm Q := by repeat (first | exact Calm.post | apply Calm.then | apply Calm.inBlock | apply Calm.noGoto)) (hd : o.dst = some d := by exact rfl) (hn : Nat.blt d n = true := by exact rfl)
    (hc : (Region.noSelect ops && Region.free .any ops listed i && (Region.ready .any ops listed).contains i && !needy.contains i) = true := by kernel_rfl)
    (k : At n W ((d, undef) :: env) H (wpAnyG P .any ops Q needy S fuel (listed.setIfInBounds i true))) : At n W env H (wpAnyG P .any ops Q needy S (fuel + 1) listed) := G_off i ho hq hw hd hn hc k
theorem goffN (i : Nat) {S : Heap → Prop} {needy : List Nat} {fuel : Nat} {listed : Array Bool} {d : Nat} (hs : S H) (ho : ops[i]? = some o := by exact rfl) (hw : want ops env o = some false := by exact rfl) (hq : Calm Q := by repeat (first | exact Calm.post | apply Calm.then | apply Calm.inBlock | apply Calm.noGoto)) (hd : o.dst = some d := by exact rfl) (hn : Nat.blt d n = true := by exact rfl)
    (hc : (Region.noSelect ops && Region.free .any ops listed i && (Region.ready .any ops listed).contains i) = true := by kernel_rfl)
    (k : At n W ((d, undef) :: env) H (wpAnyG P .any ops Q needy S fuel (listed.setIfInBounds i true))) : At n W env H (wpAnyG P .any ops Q needy S (fuel + 1) listed) := G_off_needy i ho hs hq hw hd hn hc k
theorem grA (i : Nat) {S : Heap → Prop} {needy : List Nat} {fuel : Nat} {listed : Array Bool} {d : Nat} {v : Value} (hs : S H) (hp : ∀ H', S H' → Reads P n env H' o v) (ho : ops[i]? = some o := by exact rfl) (hw : want ops env o = some true := by exact rfl) (hq : Calm Q := by repeat (first | exact Calm.post | apply Calm.then | apply Calm.inBlock | apply Calm.noGoto)) (hd : o.dst = some d := by exact rfl) (hn : Nat.blt d n = true := by exact rfl)
    (hc : (Region.noSelect ops && Region.free .any ops listed i && (Region.ready .any ops listed).contains i && needy.contains i) = true := by kernel_rfl)
    (k : At n W ((d, v) :: env) H (wpAnyG P .any ops Q needy S fuel (listed.setIfInBounds i true))) : At n W env H (wpAnyG P .any ops Q needy S (fuel + 1) listed) := G_read i ho hs hp hq hw hd hn hc k
theorem gpA (i : Nat) {S : Heap → Prop} {needy : List Nat} {fuel : Nat} {listed : Array Bool} {d : Nat} {v : Value} (hr : Pure P n env o v) (ho : ops[i]? = some o := by exact rfl) (hw : want ops env o = some true := by exact rfl) (hq : Calm Q := by repeat (first | exact Calm.post | apply Calm.then | apply Calm.inBlock | apply Calm.noGoto)) (hd : o.dst = some d := by exact rfl) (hn : Nat.blt d n = true := by exact rfl)
    (hc : (Region.noSelect ops && Region.free .any ops listed i && (Region.ready .any ops listed).contains i && !needy.contains i) = true := by kernel_rfl)
    (k : At n W ((d, v) :: env) H (wpAnyG P .any ops Q needy S fuel (listed.setIfInBounds i true))) : At n W env H (wpAnyG P .any ops Q needy S (fuel + 1) listed) := G_pure i ho hr hq hw hd hn hc k
end
end Ev
/- More operations: arrays in memory, slices with three indexes, append in place; parts told by tags. Plain theorems over any program. -/
namespace Ev
open Go
set_option linter.unusedSimpArgs false
theorem some_getD {α : Type} {o : Option α} {d : α} (h : o.isSome = true) : o = some (o.getD d) := by
  cases o with
  | none => cases h
  | some x => rfl
section
variable {P : Program} {n : Nat} {W : World} {env : Env} {H : Heap} {Q : Exit → Act → World → Prop} {K : Act → World → Prop}
variable {ds : Option Tmp} {ty : TypeId} {pos : String} {af : Array Edge} {gd : Option (Nat × Bool)}
theorem p_indexArr {x y : Operand} {t e : TypeId} {sz es eb b o N : Nat} {i : Nat} {k : IntKind} {sb : Nat} {z ez : Value} {d : TypeDesc} [h : Ty P t (.array N e) sz sb z] [he : Ty P e d es eb ez]
    (hx : ev env x = some (.pointer (some ⟨b, o, none⟩))) (hy : ev env y = some (.int k i)) (hlt : i < N) :
    Pure P n env ⟨ds, .indexAddr t x y, ty, pos, af, gd⟩ (.pointer (some ⟨b, o + i * es, none⟩)) := fun a w f => by
  have hi : ((i : Int) < N) := by omega
  simp [execOp, f.ev hx, f.ev hy, Instr.indexAt, Instr.sureAddr, asIntOf, run_underlying h.und, he.sizeOf, add_none, hi, hlt]
theorem p_slice3 {x lo hi mx : Operand} {t e : TypeId} {d : TypeDesc} {sz sb es eb : Nat} {z ez : Value} {b o l c : Nat} {kl kh km : IntKind} {i j m : Nat} [h : Ty P t (.slice e) sz sb z] [he : Ty P e d es eb ez]
    (hx : ev env x = some (.slice (some ⟨b, o, none⟩) l c)) (hlo : ev env lo = some (.int kl i)) (hhi : ev env hi = some (.int kh j)) (hmx : ev env mx = some (.int km m)) (h1 : i ≤ j) (h2 : j ≤ m) (h4 : m ≤ c) (h3 : i < m) :
    Pure P n env ⟨ds, .slice t x (some lo) (some hi) (some mx), ty, pos, af, gd⟩ (.slice (some ⟨b, o + i * es, none⟩) (j - i) (m - i)) := fun a w f => by
  have hu : P.underlying t = some (.slice (P.elem t)) := by rw [elem_of (P := P) (t := t) (e := e)]; exact h.und
  have := run_slice_lhm (P := P) w t (some ⟨b, o, none⟩) l c hu kl kh km (i : Int) (j : Int) (m : Int) (by omega) (by omega) (by omega) (by omega)
  rw [elem_of (P := P) (t := t) (e := e)] at this
  have h5 : ¬ m = i := by omega
  simp [execOp, f.ev hx, f.ev hlo, f.ev hhi, f.ev hmx, run_sliceAt_slice w t _ _ _ _ hu, this, he.sizeOf, sliced, h5, add_none]
/-- append(s[:i], s[j:]...) within a row of one's own -/
theorem W_appendIn {x y : Operand} {t e : TypeId} {d : TypeDesc} {sz sb size eb g i j m c c2 : Nat} {z ez : Value} {rows : List (List Value)} {dd : Nat} [h : Ty P t (.slice e) sz sb z] [he : Ty P e d size eb ez]
    (hx : ev env x = some (.slice (some ⟨g, 0, none⟩) i c)) (hy : ev env y = some (.slice (some ⟨g, 0 + j * size, none⟩) m c2)) (ho : OwnR H e size (.slice (some ⟨g, 0, none⟩) rows.length c) rows) (hj : j + m = rows.length) (hi : i ≤ j) (h1 : ∀ r ∈ rows, ∀ u ∈ r, u.oneCell' = true) (hn : Nat.blt dd n = true)
    (k : ∀ H' rows', OwnR H' e size (.slice (some ⟨g, 0, none⟩) rows.length c) rows' → rows' = rows.take i ++ rows.drop j ++ rows.drop (i + m) → Kept (· = g) H H' → H'.size = H.size → At n W ((dd, .slice (some ⟨g, 0, none⟩) (i + m) c) :: env) H' K) :
    At n W env H (fun a w => Oper.wp P ⟨some dd, .call ⟨.builtin .append, #[x, y], #[t, t]⟩, ty, pos, af, gd⟩ a w K Q) := by
  obtain ⟨_, cur, hb, h2, h3, h4, h5⟩ := ho.block
  have hmul2 : rows.length * size ≤ c * size := Nat.mul_le_mul_right _ h2
  have hnl : (rows.drop j).length = m := by simp; omega
  have hnr : ∀ r ∈ rows.drop j, r.length = size := fun r hr => ho.len r (List.mem_of_mem_drop hr)
  have hfl : (rows.drop j).flatten.length = m * size := by rw [flatten_length hnr, hnl]
  have himul : (i + m) * size ≤ rows.length * size := Nat.mul_le_mul_right _ (by omega)
  have hsp : i * size + m * size = (i + m) * size := by rw [Nat.add_mul]
  intro a w f eq hlike
  subst eq
  rw [Nat.zero_add] at hy
  have hcells : ∀ (q : Nat) (u : Value), (rows.drop j).flatten[q]? = some u → w.cell? ((⟨g, j * size, none⟩ : Addr).add q) = some u := fun q u hq => by
    rw [← flatten_drop j ho.len, List.getElem?_drop] at hq
    rw [add_none]
    exact (ho.own.cell hq).cell?
  have hload := run_loadCells_list (P := P) w ⟨g, j * size, none⟩ (rows.drop j).flatten hcells
  rw [hfl] at hload
  obtain ⟨w', hr, hp, hl'⟩ := run_storeCells_block P g (i * size) e (rows.drop j).flatten cur w hb (by rw [hfl]; omega) (fun u hu => by
    simp only [List.mem_flatten] at hu
    obtain ⟨r, hr, hu⟩ := hu
    exact h1 r (List.mem_of_mem_drop hr) u hu)
  have hneed : i + m ≤ c := by omega
  have hrun : (Builtin.append_ #[t, t] ty #[.slice (some ⟨g, 0, none⟩) i c, .slice (some ⟨g, j * size, none⟩) m c2]).run P w = .ok (.slice (some ⟨g, 0, none⟩) (i + m) c) w' := by
    simp [Builtin.append_, run_underlying h.und, he.sizeOf, Builtin.lenOf, hneed, Builtin.firstCells, hload, add_none, hr]
  have hrun2 : (execOp a.eval ⟨some dd, .call ⟨.builtin .append, #[x, y], #[t, t]⟩, ty, pos, af, gd⟩).run P w = .ok (.value (.slice (some ⟨g, 0, none⟩) (i + m) c)) w' := by
    simp [execOp, resolve, invoke, builtin, f.ev hx, f.ev hy, hrun]
  have hput := ho.put (news := rows.drop j) (i := i) hnr (by rw [hnl]; omega) hb hp
  rw [hnl] at hput
  show Oper.wp P _ a w K Q
  unfold Oper.wp
  rw [hrun2, Oper.upon_value]
  exact k _ _ hput rfl hp.kept hp.size _ w' (f.put hn _) rfl (hlike.trans hl')

/-! ## Results that lie in a block -/
theorem run_loadVar_block {w : World} {t bt : TypeId} {d : TypeDesc} {sz sb : Nat} {z : Value} {b : Nat} {cs : Array Value} {fr : Nat × Nat} [h : Ty P t d sz sb z] (hb : w.heap[b]? = some (.cells cs bt fr)) (hd : isAggD d = true) (hl : Nat.beq cs.size sz = true) :
    (loadVar t ⟨b, 0, none⟩).run P w = .ok (.agg cs) w := by
  have hl' := Nat.eq_of_beq_eq_true hl
  have := run_loadCells_list (P := P) w ⟨b, 0, none⟩ cs.toList (fun j v hj => by rw [add_none, Nat.zero_add]; exact (Cell.of hb (by simpa using hj)).cell?)
  rw [Array.length_toList, hl'] at this
  simp [loadVar, h.isAgg, hd, h.sizeOf, this]
theorem At_retC1 {fn : Func} {R : Value → Heap → Prop} {t : Tmp} {ty' bt : TypeId} {d : TypeDesc} {sz sb : Nat} {z : Value} {b : Nat} {cs : Array Value} {fr : Nat × Nat} [hT : Ty P ty' d sz sb z] (hr : fn.results = #[.cell t ty']) (hv : env.get t = some (.pointer (some ⟨b, 0, none⟩)))
    (hb : H[b]? = some (.cells cs bt fr)) (hd : isAggD d = true) (hl : Nat.beq cs.size sz = true) (h : R (.agg cs) H) : At n W env H (Post P fn W R .ret) := fun a w f eq l => by
  subst eq
  have hg : a.tmps.getD t undef = .pointer (some ⟨b, 0, none⟩) := f.ev (x := .tmp t) hv
  have : (results fn a.tmps).run P w = .ok (.agg cs) w := by simp [results, hr, -Array.getD_eq_getD_getElem?, hg, asAddr, run_loadVar_block (P := P) (t := ty') hb hd hl]
  exact ⟨f.defers, _, this, l, h⟩
theorem At_retC3 {fn : Func} {R : Value → Heap → Prop} {t t2 t3 : Tmp} {v2 v3 : Value} {ty' bt : TypeId} {d : TypeDesc} {sz sb : Nat} {z : Value} {b : Nat} {cs : Array Value} {fr : Nat × Nat} [hT : Ty P ty' d sz sb z] (hr : fn.results = #[.cell t ty', .tmp t2, .tmp t3]) (hv : env.get t = some (.pointer (some ⟨b, 0, none⟩)))
    (hb : H[b]? = some (.cells cs bt fr)) (hd : isAggD d = true) (hl : Nat.beq cs.size sz = true) (hv2 : env.get t2 = some v2) (hv3 : env.get t3 = some v3) (h : R (.tuple #[.agg cs, v2, v3]) H) : At n W env H (Post P fn W R .ret) := fun a w f eq l => by
  subst eq
  have hg : a.tmps.getD t undef = .pointer (some ⟨b, 0, none⟩) := f.ev (x := .tmp t) hv
  have hg2 : a.tmps.getD t2 undef = v2 := f.ev (x := .tmp t2) hv2
  have hg3 : a.tmps.getD t3 undef = v3 := f.ev (x := .tmp t3) hv3
  have : (results fn a.tmps).run P w = .ok (.tuple #[.agg cs, v2, v3]) w := by simp [results, hr, -Array.getD_eq_getD_getElem?, hg, hg2, hg3, asAddr, run_loadVar_block (P := P) (t := ty') hb hd hl]
  exact ⟨f.defers, _, this, l, h⟩

/-! ## One more element -/
theorem W_append1 {α : Type} {R : α → List Value → Prop} {x y : Operand} {t e : TypeId} {de : TypeDesc} {sz sb size bytes : Nat} {z ez : Value} {dd b c : Nat} [h : Ty P t (.slice e) sz sb z] [he : Ty P e de size bytes ez] {v : Value} {xs : List α} {a : α} {row : List Value} {cs : Array Value} {bt : TypeId}
    (R' : Heap → α → List Value → Prop) (hx : ev env x = some v) (hy : ev env y = some (.slice (some ⟨b, 0, none⟩) 1 c)) (ho : OwnL H e size R v xs) (hb : H[b]? = some (.cells cs bt (0, 0))) (hcs : cs.toList = row) (ha : R a row) (hl : row.length = size) (h1 : ∀ u ∈ row, u.oneCell' = true) (hz : ez.cells.size = size) (hsz : 0 < size)
    (h63 : xs.length ≤ 1000000) (hby : bytes ≤ 100000) (hn : Nat.blt dd n = true) (hR : ∀ H' g, Kept (fun b => v.ownBlock = some b) H H' → (v.ownBlock = some g ∨ H.size ≤ g) → g < H'.size → ∀ x row, R x row → R' H' x row)
    (k : ∀ g c' H', OwnL H' e size (R' H') (.slice (some ⟨g, 0, none⟩) (xs.length + 1) c') (xs ++ [a]) → Kept (fun b => v.ownBlock = some b) H H' → (v.ownBlock = some g ∨ H.size ≤ g) →
      At n W ((dd, .slice (some ⟨g, 0, none⟩) (xs.length + 1) c') :: env) H' K) : At n W env H (fun a w => Oper.wp P ⟨some dd, .call ⟨.builtin .append, #[x, y], #[t, t]⟩, ty, pos, af, gd⟩ a w K Q) := by
  obtain ⟨rows, ho1, ho2, ho3⟩ := ho.rows
  have hb2 : (xs.length + 1) * bytes ≤ 1000001 * 100000 := Nat.mul_le_mul (by omega) hby
  refine W_append (news := row) hx hy ho1 (by rw [hl, Nat.one_mul]) (fun j u hj => ?_) h1 (Nat.zero_le _) hz hsz (by decide) (by simp only [maxLen]; omega) (by omega) hn ?_
  · rw [Nat.zero_add]
    refine Cell.of hb ?_
    rw [← hcs] at hj
    simpa using hj
  intro g c' H' hown hk hg
  have hgl : g < H'.size := (hown.lt (g := g) rfl).2
  exact k g c' H' (OwnL.snoc hown ho2 (fun i x r hx hr => ⟨hR H' g hk hg hgl x r (ho3 i x r hx hr).1, (ho3 i x r hx hr).2⟩) (hR H' g hk hg hgl a row ha) hl) hk hg
end
end Ev
/- From a law's walk to its row: the arguments opened, the row's post paid. Plain theorems over any program. -/
namespace Ev
open Go Go.RowKit Go.ChangeShapes Go.WideShapes Go.ChangeAt

section
variable {H : Type} {enc : TypeId × Value → H} {P : Program}
/-- what the arguments read as, read again where nothing old has turned -/
theorem trodAll_below {W W' : World} (hl : laidOutB P = true) (hB : Below W.heap.size W W') : ∀ (ts : List TypeId) (vs : List Value) (ds : List (DataW H)) (p : List MemPlace), (∀ t ∈ ts, P.readableRec t = true ∧ t < P.types.size) →
    DataW.TrodAll enc P W 0 (fun _ => true) true ts vs ds p → (∀ x ∈ p, x.block < W.heap.size) → DataW.TrodAll enc P W' 0 (fun b => decide (b < W.heap.size)) true ts vs ds p
  | [], [], [], p, _, h, _ => h
  | t :: ts, v :: vs, d :: ds, p, hr, h, hlt => by
    obtain ⟨p1, q1, h1, h2, rfl⟩ := h
    refine ⟨p1, q1, Below.trod hl (hr t (by simp)).1 (hr t (by simp)).2 h1 hB (fun x hx => hlt x (by simp [hx])), trodAll_below hl hB ts vs ds q1 (fun t ht => hr t (by simp [ht])) h2 (fun x hx => hlt x (by simp [hx])), rfl⟩
  | [], [], _ :: _, _, _, h, _ => h.elim
  | [], _ :: _, _, _, _, h, _ => h.elim
  | _ :: _, [], _, _, _, h, _ => h.elim
  | _ :: _, _ :: _, [], _, _, h, _ => h.elim
theorem law_post {f : Func} {s : ChangeSpec} {apart : Bool} {W W' : World} {args : Array Value} {ds gs : List (DataW H)} {before : List MemPlace} {tb : TypeId} (hl : laidOutB P = true) (hr : f.params.toList.all (fun t => P.readableRec t && Nat.blt t P.types.size) = true)
    (hres : f.resultTypes = #[tb]) (hb : P.underlying tb = some .bool) (hv : s.vars = []) (hfn : s.fn H (ds ++ []) = { results := [.lit (.bool true)], args := ds }) (hW : DataW.Whole enc P f.params.toList s.vars apart W args.toList ds gs before) (hB : Below W.heap.size W W') :
    s.post enc P f apart true false false W args (.bool true) W' := by
  have hlt := fun x hx => hW.lt x hx
  have hW' := hW
  obtain ⟨p, q, hA, hV, rfl, _, _⟩ := hW
  have hgs : gs = [] := by
    rw [hv] at hV
    cases gs with
    | nil => rfl
    | cons _ _ => exact hV.elim
  subst hgs
  refine ⟨ds, [], p ++ q, [], p, q, hW', ?_, ?_, ?_, hB.frame _, fun h => by cases h⟩
  · rw [hfn, hres]
    exact trodAll_mk1 (shut_bool hb true)
  · rw [hfn]
    refine trodAll_below hl hB _ _ _ _ (fun t ht => ?_) hA (fun x hx => hlt x (by simp [hx]))
    have := List.all_eq_true.1 hr t ht
    simp only [Bool.and_eq_true] at this
    exact ⟨this.1, Nat.le_of_ble_eq_true this.2⟩
  · rw [hfn, hv]
    rw [hv] at hV
    exact hV
theorem plain_of_cell {W : World} {a : Addr} {v : Value} (h : W.cell? a = some v) : a.spot = none := by
  unfold World.cell? at h
  split at h
  · cases hsp : a.spot with
    | none => rfl
    | some k => simp [hsp] at h
  · cases h
/-- a slice opened, element by element -/
theorem open_rows {α : Type} [Inhabited α] {R : α → List Value → Prop} {W : World} {t e : TypeId} {d : TypeDesc} {s1 s2 size s4 : Nat} {z1 z2 : Value} [ht : Ty P t (.slice e) s1 s2 z1] [he : Ty P e d size s4 z2] {sp : Nat → Bool} {fuel : Nat} {v : Value} {x : DataW H × List MemPlace} (hsz : 0 < size)
    (elem : ∀ (n : Nat) (cs : List Value) (y : DataW H × List MemPlace), cs.length = size → DataW.trod enc P W 0 sp true n e cs = some y → ∃ x : α, R x cs)
    (h : DataW.trod enc P W 0 sp true fuel t [v] = some x) : ∃ xs : List α, SliceAt (fun _ => True) W.heap size R v xs := by
  have hc : P.cellsOf e = size := by
    obtain ⟨i, h1, h2, _⟩ := he.info
    simp [Program.cellsOf, h1, h2]
  rcases Go.Deep.open_slice ht.und h with ⟨hcs, _⟩ | ⟨a, len, cap, m, n, D, Pl, hcs, _, hl, hm, hmm, _, hx⟩
  · simp only [List.cons.injEq, and_true] at hcs
    subst hcs
    exact ⟨[], none, 0, rfl, Nat.le_refl _, by simp [maxLen], fun _ => rfl, fun i x hx => by simp at hx⟩
  · simp only [List.cons.injEq, and_true] at hcs
    subst hcs
    have hlm : len ≤ m := by rw [hmm]; split <;> omega
    rw [hc] at hx
    have hcell : ∀ (i : Nat) (cs : List Value), i < len → W.cells? 0 (a.add (i * size)) size = some cs → cs.length = size ∧ ∀ j u, cs[j]? = some u → W.cell? ((a.add (i * size)).add j) = some u := fun i cs hi hcs => by
      obtain ⟨_, h2, h3⟩ := World.cells?_some hcs
      refine ⟨h2, fun j u hj => ?_⟩
      have hjl := (List.getElem?_eq_some_iff.1 hj).1
      rw [h3 j (by omega), hj]
    have hV : ∀ i, i < len → ∃ x : α, ∃ cs, cs.length = size ∧ R x cs ∧ ∀ j u, cs[j]? = some u → W.cell? ((a.add (i * size)).add j) = some u := fun i hi => by
      obtain ⟨cs, h1, h2⟩ := hx i (by omega)
      obtain ⟨h3, h4⟩ := hcell i cs hi h1
      obtain ⟨x, hR⟩ := elem n cs _ h3 h2
      exact ⟨x, cs, h3, hR, h4⟩
    obtain ⟨X, hX⟩ := Go.Deep.choose_lt hV
    refine ⟨(List.range len).map X, some a, cap, by simp, by simpa using hl, hm, (fun e => by cases e), fun i x hi => ?_⟩
    have hil : i < len := by
      have := (List.getElem?_eq_some_iff.1 hi).1
      simpa using this
    have e1 : x = X i := by
      have : (List.range len)[i]? = some i := by simp [hil]
      simpa [this] using hi.symm
    subst e1
    have hsp : a.spot = none := by
      obtain ⟨cs, h3, _, h4⟩ := hX 0 (by omega)
      have h5 := h4 0 cs[0] (by simp [h3, hsz])
      have e0 : ((a.add (0 * size)).add 0) = a := by simp [Addr.add]
      rw [e0] at h5
      exact plain_of_cell h5
    obtain ⟨b, o, sp'⟩ := a
    simp only at hsp
    subst hsp
    obtain ⟨cs, h3, hR, h4⟩ := hX i hil
    have h6 : ∀ (j : Nat) (u : Value), cs[j]? = some u → Cell W.heap b (o + i * size + j) u := fun j u hj => by
      have := h4 j u hj
      rw [add_none, add_none] at this
      exact Cell.of_cell? this
    exact ⟨b, o, cs, rfl, trivial, (h6 0 cs[0] (by simp [h3, hsz])).lt, hR, h3, h6⟩
theorem one_cell {cs : List Value} (h : cs.length = 1) : ∃ v, cs = [v] := by
  match cs, h with
  | [v], _ => exact ⟨v, rfl⟩
/-- bytes opened -/
theorem open_bytes {W : World} {t e : TypeId} {s1 s2 s4 : Nat} {z1 z2 : Value} [ht : Ty P t (.slice e) s1 s2 z1] [he : Ty P e (.int .u8) 1 s4 z2] {sp : Nat → Bool} {fuel : Nat} {v : Value} {x : DataW H × List MemPlace}
    (h : DataW.trod enc P W 0 sp true fuel t [v] = some x) : ∃ l : List UInt8, BytesAt (fun _ => True) W.heap v l := by
  obtain ⟨l, p, c, h1, h2, h3, h4, h5⟩ := open_rows (α := UInt8) (R := fun x row => row = [.int .u8 x.toNat]) (e := e) (by decide) (fun n cs y hl hy => by
    obtain ⟨k, e1, _, wf⟩ := DataW.trod_int he.und hy
    have : 0 ≤ k ∧ k ≤ 255 := by simpa [Lit.wf, IntKind.min, IntKind.max, IntKind.signed, IntKind.bits] using wf
    refine ⟨UInt8.ofNat k.toNat, ?_⟩
    rw [e1]
    congr 2
    simp
    omega) h
  refine ⟨l, p, c, h1, h2, h3, h4, fun i x hx => ?_⟩
  obtain ⟨b, o, row, e1, _, _, rfl, _, hc⟩ := h5 i x hx
  exact ⟨b, o, e1, trivial, by simpa using hc 0 _ rfl⟩
theorem open_brow {W : World} {t e : TypeId} {s1 s2 s4 : Nat} {z1 z2 : Value} [ht : Ty P t (.slice e) s1 s2 z1] [he : Ty P e (.int .u8) 1 s4 z2] {sp : Nat → Bool} {fuel : Nat} {cs : List Value} {x : DataW H × List MemPlace} (hl : cs.length = 1)
    (h : DataW.trod enc P W 0 sp true fuel t cs = some x) : ∃ l : List UInt8, BRow (fun _ => True) W.heap l cs := by
  obtain ⟨v, rfl⟩ := one_cell hl
  obtain ⟨l, hb⟩ := open_bytes (e := e) h
  exact ⟨l, v, rfl, hb⟩
end
end Ev
