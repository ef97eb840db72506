/- More operations: arrays in memory, slices with three indexes, append in place; parts told by tags. Plain theorems over any program. -/
import Derived.Test.YticgbdeoiihbmaaDoorEvAuto
namespace Ev
open Go
set_option linter.unusedSimpArgs false
theorem some_getD {α : Type} {o : Option α} {d : α} (h : o.isSome = true) : o = some (o.getD d) := by
  cases o with
  | none => cases h
  | some x => rfl
section
variable {P : Program} {n : Nat} {W : World} {env : Env} {H : Heap} {Q : Exit → Act → World → Prop} {K : Act → World → Prop}
variable {ds : Option Tmp} {ty : TypeId} {pos : String} {af : Array Edge} {gd : Option (Nat × Bool)}
theorem p_indexArr {x y : Operand} {t e : TypeId} {sz es eb b o N : Nat} {i : Nat} {k : IntKind} {sb : Nat} {z ez : Value} {d : TypeDesc} [h : Ty P t (.array N e) sz sb z] [he : Ty P e d es eb ez]
    (hx : ev env x = some (.pointer (some ⟨b, o, none⟩))) (hy : ev env y = some (.int k i)) (hlt : i < N) :
    Pure P n env ⟨ds, .indexAddr t x y, ty, pos, af, gd⟩ (.pointer (some ⟨b, o + i * es, none⟩)) := fun a w f => by
  have hi : ((i : Int) < N) := by omega
  simp [execOp, f.ev hx, f.ev hy, Instr.indexAt, Instr.sureAddr, asIntOf, run_underlying h.und, he.sizeOf, add_none, hi, hlt]
theorem p_slice3 {x lo hi mx : Operand} {t e : TypeId} {d : TypeDesc} {sz sb es eb : Nat} {z ez : Value} {b o l c : Nat} {kl kh km : IntKind} {i j m : Nat} [h : Ty P t (.slice e) sz sb z] [he : Ty P e d es eb ez]
    (hx : ev env x = some (.slice (some ⟨b, o, none⟩) l c)) (hlo : ev env lo = some (.int kl i)) (hhi : ev env hi = some (.int kh j)) (hmx : ev env mx = some (.int km m)) (h1 : i ≤ j) (h2 : j ≤ m) (h4 : m ≤ c) (h3 : i < m) :
    Pure P n env ⟨ds, .slice t x (some lo) (some hi) (some mx), ty, pos, af, gd⟩ (.slice (some ⟨b, o + i * es, none⟩) (j - i) (m - i)) := fun a w f => by
  have hu : P.underlying t = some (.slice (P.elem t)) := by rw [elem_of (P := P) (t := t) (e := e)]; exact h.und
  have := run_slice_lhm (P := P) w t (some ⟨b, o, none⟩) l c hu kl kh km (i : Int) (j : Int) (m : Int) (by omega) (by omega) (by omega) (by omega)
  rw [elem_of (P := P) (t := t) (e := e)] at this
  have h5 : ¬ m = i := by omega
  simp [execOp, f.ev hx, f.ev hlo, f.ev hhi, f.ev hmx, run_sliceAt_slice w t _ _ _ _ hu, this, he.sizeOf, sliced, h5, add_none]
/-- append(s[:i], s[j:]...) within a row of one's own -/
theorem W_appendIn {x y : Operand} {t e : TypeId} {d : TypeDesc} {sz sb size eb g i j m c c2 : Nat} {z ez : Value} {rows : List (List Value)} {dd : Nat} [h : Ty P t (.slice e) sz sb z] [he : Ty P e d size eb ez]
    (hx : ev env x = some (.slice (some ⟨g, 0, none⟩) i c)) (hy : ev env y = some (.slice (some ⟨g, 0 + j * size, none⟩) m c2)) (ho : OwnR H e size (.slice (some ⟨g, 0, none⟩) rows.length c) rows) (hj : j + m = rows.length) (hi : i ≤ j) (h1 : ∀ r ∈ rows, ∀ u ∈ r, u.oneCell' = true) (hn : Nat.blt dd n = true)
    (k : ∀ H' rows', OwnR H' e size (.slice (some ⟨g, 0, none⟩) rows.length c) rows' → rows' = rows.take i ++ rows.drop j ++ rows.drop (i + m) → Kept (· = g) H H' → H'.size = H.size → At n W ((dd, .slice (some ⟨g, 0, none⟩) (i + m) c) :: env) H' K) :
    At n W env H (fun a w => Oper.wp P ⟨some dd, .call ⟨.builtin .append, #[x, y], #[t, t]⟩, ty, pos, af, gd⟩ a w K Q) := by
  obtain ⟨_, cur, hb, h2, h3, h4, h5⟩ := ho.block
  have hmul2 : rows.length * size ≤ c * size := Nat.mul_le_mul_right _ h2
  have hnl : (rows.drop j).length = m := by simp; omega
  have hnr : ∀ r ∈ rows.drop j, r.length = size := fun r hr => ho.len r (List.mem_of_mem_drop hr)
  have hfl : (rows.drop j).flatten.length = m * size := by rw [flatten_length hnr, hnl]
  have himul : (i + m) * size ≤ rows.length * size := Nat.mul_le_mul_right _ (by omega)
  have hsp : i * size + m * size = (i + m) * size := by rw [Nat.add_mul]
  intro a w f eq hlike
  subst eq
  rw [Nat.zero_add] at hy
  have hcells : ∀ (q : Nat) (u : Value), (rows.drop j).flatten[q]? = some u → w.cell? ((⟨g, j * size, none⟩ : Addr).add q) = some u := fun q u hq => by
    rw [← flatten_drop j ho.len, List.getElem?_drop] at hq
    rw [add_none]
    exact (ho.own.cell hq).cell?
  have hload := run_loadCells_list (P := P) w ⟨g, j * size, none⟩ (rows.drop j).flatten hcells
  rw [hfl] at hload
  obtain ⟨w', hr, hp, hl'⟩ := run_storeCells_block P g (i * size) e (rows.drop j).flatten cur w hb (by rw [hfl]; omega) (fun u hu => by
    simp only [List.mem_flatten] at hu
    obtain ⟨r, hr, hu⟩ := hu
    exact h1 r (List.mem_of_mem_drop hr) u hu)
  have hneed : i + m ≤ c := by omega
  have hrun : (Builtin.append_ #[t, t] ty #[.slice (some ⟨g, 0, none⟩) i c, .slice (some ⟨g, j * size, none⟩) m c2]).run P w = .ok (.slice (some ⟨g, 0, none⟩) (i + m) c) w' := by
    simp [Builtin.append_, run_underlying h.und, he.sizeOf, Builtin.lenOf, hneed, Builtin.firstCells, hload, add_none, hr]
  have hrun2 : (execOp a.eval ⟨some dd, .call ⟨.builtin .append, #[x, y], #[t, t]⟩, ty, pos, af, gd⟩).run P w = .ok (.value (.slice (some ⟨g, 0, none⟩) (i + m) c)) w' := by
    simp [execOp, resolve, invoke, builtin, f.ev hx, f.ev hy, hrun]
  have hput := ho.put (news := rows.drop j) (i := i) hnr (by rw [hnl]; omega) hb hp
  rw [hnl] at hput
  show Oper.wp P _ a w K Q
  unfold Oper.wp
  rw [hrun2, Oper.upon_value]
  exact k _ _ hput rfl hp.kept hp.size _ w' (f.put hn _) rfl (hlike.trans hl')

/-! ## Results that lie in a block -/
theorem run_loadVar_block {w : World} {t bt : TypeId} {d : TypeDesc} {sz sb : Nat} {z : Value} {b : Nat} {cs : Array Value} {fr : Nat × Nat} [h : Ty P t d sz sb z] (hb : w.heap[b]? = some (.cells cs bt fr)) (hd : isAggD d = true) (hl : Nat.beq cs.size sz = true) :
    (loadVar t ⟨b, 0, none⟩).run P w = .ok (.agg cs) w := by
  have hl' := Nat.eq_of_beq_eq_true hl
  have := run_loadCells_list (P := P) w ⟨b, 0, none⟩ cs.toList (fun j v hj => by rw [add_none, Nat.zero_add]; exact (Cell.of hb (by simpa using hj)).cell?)
  rw [Array.length_toList, hl'] at this
  simp [loadVar, h.isAgg, hd, h.sizeOf, this]
theorem At_retC1 {fn : Func} {R : Value → Heap → Prop} {t : Tmp} {ty' bt : TypeId} {d : TypeDesc} {sz sb : Nat} {z : Value} {b : Nat} {cs : Array Value} {fr : Nat × Nat} [hT : Ty P ty' d sz sb z] (hr : fn.results = #[.cell t ty']) (hv : env.get t = some (.pointer (some ⟨b, 0, none⟩)))
    (hb : H[b]? = some (.cells cs bt fr)) (hd : isAggD d = true) (hl : Nat.beq cs.size sz = true) (h : R (.agg cs) H) : At n W env H (Post P fn W R .ret) := fun a w f eq l => by
  subst eq
  have hg : a.tmps.getD t undef = .pointer (some ⟨b, 0, none⟩) := f.ev (x := .tmp t) hv
  have : (results fn a.tmps).run P w = .ok (.agg cs) w := by simp [results, hr, -Array.getD_eq_getD_getElem?, hg, asAddr, run_loadVar_block (P := P) (t := ty') hb hd hl]
  exact ⟨f.defers, _, this, l, h⟩
theorem At_retC3 {fn : Func} {R : Value → Heap → Prop} {t t2 t3 : Tmp} {v2 v3 : Value} {ty' bt : TypeId} {d : TypeDesc} {sz sb : Nat} {z : Value} {b : Nat} {cs : Array Value} {fr : Nat × Nat} [hT : Ty P ty' d sz sb z] (hr : fn.results = #[.cell t ty', .tmp t2, .tmp t3]) (hv : env.get t = some (.pointer (some ⟨b, 0, none⟩)))
    (hb : H[b]? = some (.cells cs bt fr)) (hd : isAggD d = true) (hl : Nat.beq cs.size sz = true) (hv2 : env.get t2 = some v2) (hv3 : env.get t3 = some v3) (h : R (.tuple #[.agg cs, v2, v3]) H) : At n W env H (Post P fn W R .ret) := fun a w f eq l => by
  subst eq
  have hg : a.tmps.getD t undef = .pointer (some ⟨b, 0, none⟩) := f.ev (x := .tmp t) hv
  have hg2 : a.tmps.getD t2 undef = v2 := f.ev (x := .tmp t2) hv2
  have hg3 : a.tmps.getD t3 undef = v3 := f.ev (x := .tmp t3) hv3
  have : (results fn a.tmps).run P w = .ok (.tuple #[.agg cs, v2, v3]) w := by simp [results, hr, -Array.getD_eq_getD_getElem?, hg, hg2, hg3, asAddr, run_loadVar_block (P := P) (t := ty') hb hd hl]
  exact ⟨f.defers, _, this, l, h⟩

/-! ## One more element -/
theorem W_append1 {α : Type} {R : α → List Value → Prop} {x y : Operand} {t e : TypeId} {de : TypeDesc} {sz sb size bytes : Nat} {z ez : Value} {dd b c : Nat} [h : Ty P t (.slice e) sz sb z] [he : Ty P e de size bytes ez] {v : Value} {xs : List α} {a : α} {row : List Value} {cs : Array Value} {bt : TypeId}
    (R' : Heap → α → List Value → Prop) (hx : ev env x = some v) (hy : ev env y = some (.slice (some ⟨b, 0, none⟩) 1 c)) (ho : OwnL H e size R v xs) (hb : H[b]? = some (.cells cs bt (0, 0))) (hcs : cs.toList = row) (ha : R a row) (hl : row.length = size) (h1 : ∀ u ∈ row, u.oneCell' = true) (hz : ez.cells.size = size) (hsz : 0 < size)
    (h63 : xs.length ≤ 1000000) (hby : bytes ≤ 100000) (hn : Nat.blt dd n = true) (hR : ∀ H' g, Kept (fun b => v.ownBlock = some b) H H' → (v.ownBlock = some g ∨ H.size ≤ g) → g < H'.size → ∀ x row, R x row → R' H' x row)
    (k : ∀ g c' H', OwnL H' e size (R' H') (.slice (some ⟨g, 0, none⟩) (xs.length + 1) c') (xs ++ [a]) → Kept (fun b => v.ownBlock = some b) H H' → (v.ownBlock = some g ∨ H.size ≤ g) →
      At n W ((dd, .slice (some ⟨g, 0, none⟩) (xs.length + 1) c') :: env) H' K) : At n W env H (fun a w => Oper.wp P ⟨some dd, .call ⟨.builtin .append, #[x, y], #[t, t]⟩, ty, pos, af, gd⟩ a w K Q) := by
  obtain ⟨rows, ho1, ho2, ho3⟩ := ho.rows
  have hb2 : (xs.length + 1) * bytes ≤ 1000001 * 100000 := Nat.mul_le_mul (by omega) hby
  refine W_append (news := row) hx hy ho1 (by rw [hl, Nat.one_mul]) (fun j u hj => ?_) h1 (Nat.zero_le _) hz hsz (by decide) (by simp only [maxLen]; omega) (by omega) hn ?_
  · rw [Nat.zero_add]
    refine Cell.of hb ?_
    rw [← hcs] at hj
    simpa using hj
  intro g c' H' hown hk hg
  have hgl : g < H'.size := (hown.lt (g := g) rfl).2
  exact k g c' H' (OwnL.snoc hown ho2 (fun i x r hx hr => ⟨hR H' g hk hg hgl x r (ho3 i x r hx hr).1, (ho3 i x r hx hr).2⟩) (hR H' g hk hg hgl a row ha) hl) hk hg
end
end Ev
