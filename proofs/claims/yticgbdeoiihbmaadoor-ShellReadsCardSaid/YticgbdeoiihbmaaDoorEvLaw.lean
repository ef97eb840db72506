/- From a law's walk to its row: the arguments opened, the row's post paid. Plain theorems over any program. -/
import Derived.Test.YticgbdeoiihbmaaDoorEvRep
import Derived.ProofKit
import Derived.Deep.Slices
import Derived.OpenShut
namespace Ev
open Go Go.RowKit Go.ChangeShapes Go.WideShapes Go.ChangeAt

section
variable {H : Type} {enc : TypeId × Value → H} {P : Program}
/-- what the arguments read as, read again where nothing old has turned -/
theorem trodAll_below {W W' : World} (hl : laidOutB P = true) (hB : Below W.heap.size W W') : ∀ (ts : List TypeId) (vs : List Value) (ds : List (DataW H)) (p : List MemPlace), (∀ t ∈ ts, P.readableRec t = true ∧ t < P.types.size) →
    DataW.TrodAll enc P W 0 (fun _ => true) true ts vs ds p → (∀ x ∈ p, x.block < W.heap.size) → DataW.TrodAll enc P W' 0 (fun b => decide (b < W.heap.size)) true ts vs ds p
  | [], [], [], p, _, h, _ => h
  | t :: ts, v :: vs, d :: ds, p, hr, h, hlt => by
    obtain ⟨p1, q1, h1, h2, rfl⟩ := h
    refine ⟨p1, q1, Below.trod hl (hr t (by simp)).1 (hr t (by simp)).2 h1 hB (fun x hx => hlt x (by simp [hx])), trodAll_below hl hB ts vs ds q1 (fun t ht => hr t (by simp [ht])) h2 (fun x hx => hlt x (by simp [hx])), rfl⟩
  | [], [], _ :: _, _, _, h, _ => h.elim
  | [], _ :: _, _, _, _, h, _ => h.elim
  | _ :: _, [], _, _, _, h, _ => h.elim
  | _ :: _, _ :: _, [], _, _, h, _ => h.elim
theorem law_post {f : Func} {s : ChangeSpec} {apart : Bool} {W W' : World} {args : Array Value} {ds gs : List (DataW H)} {before : List MemPlace} {tb : TypeId} (hl : laidOutB P = true) (hr : f.params.toList.all (fun t => P.readableRec t && Nat.blt t P.types.size) = true)
    (hres : f.resultTypes = #[tb]) (hb : P.underlying tb = some .bool) (hv : s.vars = []) (hfn : s.fn H (ds ++ []) = { results := [.lit (.bool true)], args := ds }) (hW : DataW.Whole enc P f.params.toList s.vars apart W args.toList ds gs before) (hB : Below W.heap.size W W') :
    s.post enc P f apart true false false W args (.bool true) W' := by
  have hlt := fun x hx => hW.lt x hx
  have hW' := hW
  obtain ⟨p, q, hA, hV, rfl, _, _⟩ := hW
  have hgs : gs = [] := by
    rw [hv] at hV
    cases gs with
    | nil => rfl
    | cons _ _ => exact hV.elim
  subst hgs
  refine ⟨ds, [], p ++ q, [], p, q, hW', ?_, ?_, ?_, hB.frame _, fun h => by cases h⟩
  · rw [hfn, hres]
    exact trodAll_mk1 (shut_bool hb true)
  · rw [hfn]
    refine trodAll_below hl hB _ _ _ _ (fun t ht => ?_) hA (fun x hx => hlt x (by simp [hx]))
    have := List.all_eq_true.1 hr t ht
    simp only [Bool.and_eq_true] at this
    exact ⟨this.1, Nat.le_of_ble_eq_true this.2⟩
  · rw [hfn, hv]
    rw [hv] at hV
    exact hV
theorem plain_of_cell {W : World} {a : Addr} {v : Value} (h : W.cell? a = some v) : a.spot = none := by
  unfold World.cell? at h
  split at h
  · cases hsp : a.spot with
    | none => rfl
    | some k => simp [hsp] at h
  · cases h
/-- a slice opened, element by element -/
theorem open_rows {α : Type} [Inhabited α] {R : α → List Value → Prop} {W : World} {t e : TypeId} {d : TypeDesc} {s1 s2 size s4 : Nat} {z1 z2 : Value} [ht : Ty P t (.slice e) s1 s2 z1] [he : Ty P e d size s4 z2] {sp : Nat → Bool} {fuel : Nat} {v : Value} {x : DataW H × List MemPlace} (hsz : 0 < size)
    (elem : ∀ (n : Nat) (cs : List Value) (y : DataW H × List MemPlace), cs.length = size → DataW.trod enc P W 0 sp true n e cs = some y → ∃ x : α, R x cs)
    (h : DataW.trod enc P W 0 sp true fuel t [v] = some x) : ∃ xs : List α, SliceAt (fun _ => True) W.heap size R v xs := by
  have hc : P.cellsOf e = size := by
    obtain ⟨i, h1, h2, _⟩ := he.info
    simp [Program.cellsOf, h1, h2]
  rcases Go.Deep.open_slice ht.und h with ⟨hcs, _⟩ | ⟨a, len, cap, m, n, D, Pl, hcs, _, hl, hm, hmm, _, hx⟩
  · simp only [List.cons.injEq, and_true] at hcs
    subst hcs
    exact ⟨[], none, 0, rfl, Nat.le_refl _, by simp [maxLen], fun _ => rfl, fun i x hx => by simp at hx⟩
  · simp only [List.cons.injEq, and_true] at hcs
    subst hcs
    have hlm : len ≤ m := by rw [hmm]; split <;> omega
    rw [hc] at hx
    have hcell : ∀ (i : Nat) (cs : List Value), i < len → W.cells? 0 (a.add (i * size)) size = some cs → cs.length = size ∧ ∀ j u, cs[j]? = some u → W.cell? ((a.add (i * size)).add j) = some u := fun i cs hi hcs => by
      obtain ⟨_, h2, h3⟩ := World.cells?_some hcs
      refine ⟨h2, fun j u hj => ?_⟩
      have hjl := (List.getElem?_eq_some_iff.1 hj).1
      rw [h3 j (by omega), hj]
    have hV : ∀ i, i < len → ∃ x : α, ∃ cs, cs.length = size ∧ R x cs ∧ ∀ j u, cs[j]? = some u → W.cell? ((a.add (i * size)).add j) = some u := fun i hi => by
      obtain ⟨cs, h1, h2⟩ := hx i (by omega)
      obtain ⟨h3, h4⟩ := hcell i cs hi h1
      obtain ⟨x, hR⟩ := elem n cs _ h3 h2
      exact ⟨x, cs, h3, hR, h4⟩
    obtain ⟨X, hX⟩ := Go.Deep.choose_lt hV
    refine ⟨(List.range len).map X, some a, cap, by simp, by simpa using hl, hm, (fun e => by cases e), fun i x hi => ?_⟩
    have hil : i < len := by
      have := (List.getElem?_eq_some_iff.1 hi).1
      simpa using this
    have e1 : x = X i := by
      have : (List.range len)[i]? = some i := by simp [hil]
      simpa [this] using hi.symm
    subst e1
    have hsp : a.spot = none := by
      obtain ⟨cs, h3, _, h4⟩ := hX 0 (by omega)
      have h5 := h4 0 cs[0] (by simp [h3, hsz])
      have e0 : ((a.add (0 * size)).add 0) = a := by simp [Addr.add]
      rw [e0] at h5
      exact plain_of_cell h5
    obtain ⟨b, o, sp'⟩ := a
    simp only at hsp
    subst hsp
    obtain ⟨cs, h3, hR, h4⟩ := hX i hil
    have h6 : ∀ (j : Nat) (u : Value), cs[j]? = some u → Cell W.heap b (o + i * size + j) u := fun j u hj => by
      have := h4 j u hj
      rw [add_none, add_none] at this
      exact Cell.of_cell? this
    exact ⟨b, o, cs, rfl, trivial, (h6 0 cs[0] (by simp [h3, hsz])).lt, hR, h3, h6⟩
theorem one_cell {cs : List Value} (h : cs.length = 1) : ∃ v, cs = [v] := by
  match cs, h with
  | [v], _ => exact ⟨v, rfl⟩
/-- bytes opened -/
theorem open_bytes {W : World} {t e : TypeId} {s1 s2 s4 : Nat} {z1 z2 : Value} [ht : Ty P t (.slice e) s1 s2 z1] [he : Ty P e (.int .u8) 1 s4 z2] {sp : Nat → Bool} {fuel : Nat} {v : Value} {x : DataW H × List MemPlace}
    (h : DataW.trod enc P W 0 sp true fuel t [v] = some x) : ∃ l : List UInt8, BytesAt (fun _ => True) W.heap v l := by
  obtain ⟨l, p, c, h1, h2, h3, h4, h5⟩ := open_rows (α := UInt8) (R := fun x row => row = [.int .u8 x.toNat]) (e := e) (by decide) (fun n cs y hl hy => by
    obtain ⟨k, e1, _, wf⟩ := DataW.trod_int he.und hy
    have : 0 ≤ k ∧ k ≤ 255 := by simpa [Lit.wf, IntKind.min, IntKind.max, IntKind.signed, IntKind.bits] using wf
    refine ⟨UInt8.ofNat k.toNat, ?_⟩
    rw [e1]
    congr 2
    simp
    omega) h
  refine ⟨l, p, c, h1, h2, h3, h4, fun i x hx => ?_⟩
  obtain ⟨b, o, row, e1, _, _, rfl, _, hc⟩ := h5 i x hx
  exact ⟨b, o, e1, trivial, by simpa using hc 0 _ rfl⟩
theorem open_brow {W : World} {t e : TypeId} {s1 s2 s4 : Nat} {z1 z2 : Value} [ht : Ty P t (.slice e) s1 s2 z1] [he : Ty P e (.int .u8) 1 s4 z2] {sp : Nat → Bool} {fuel : Nat} {cs : List Value} {x : DataW H × List MemPlace} (hl : cs.length = 1)
    (h : DataW.trod enc P W 0 sp true fuel t cs = some x) : ∃ l : List UInt8, BRow (fun _ => True) W.heap l cs := by
  obtain ⟨v, rfl⟩ := one_cell hl
  obtain ⟨l, hb⟩ := open_bytes (e := e) h
  exact ⟨l, v, rfl, hb⟩
end
end Ev
