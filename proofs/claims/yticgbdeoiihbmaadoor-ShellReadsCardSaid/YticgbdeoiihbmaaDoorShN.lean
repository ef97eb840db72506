/- The same act twice: hanseref26.Act says so. -/
import Derived.Test.YticgbdeoiihbmaaDoorShH
namespace Go.Proofs.YticgbdeoiihbmaaDoor
open Go Ev
set_option linter.unusedVariables false
set_option linter.unusedSimpArgs false

section
variable {P : Program} {n : Nat} {W : World} {env : Env} {H0 H : Heap} {Q : Exit → Act → World → Prop} {K : Act → World → Prop}
variable {ds : Option Tmp} {ty : TypeId} {pos : String} {af : Array Edge} {gd : Option (Nat × Bool)}
theorem p_eql_bool_self {x y : Operand} {a : Bool} {t t2 : TypeId} {sz sb : Nat} {z : Value} [h : Ty P t .bool sz sb z] (hx : ev env x = some (.bool a)) (hy : ev env y = some (.bool a)) :
    Pure P n env ⟨ds, .binOp .eql t x y t2, ty, pos, af, gd⟩ (.bool true) := by
  have := p_eql_bool (P := P) (n := n) (ds := ds) (ty := ty) (pos := pos) (af := af) (gd := gd) (t := t) (t2 := t2) hx hy
  simpa using this
end
theorem sub_cells {l cs : List Value} {H : Heap} {b : Nat} {t : TypeId} {fr : Nat × Nat} (hb : H[b]? = some (.cells l.toArray t fr)) (o : Nat) (h : (l.drop o).take cs.length = cs) : ∀ (j : Nat) (u : Value), cs[j]? = some u → Cell H b (0 + o + j) u := fun j u hj => by
  refine Cell.of hb ?_
  rw [← h, List.getElem?_take] at hj
  split at hj
  · rw [List.getElem?_drop] at hj
    simpa using hj
  · cases hj
def Wf (a : Ac) : Prop := a.nn ≤ FloatKind.f64.format.infRung ∧ a.nl ≤ FloatKind.f64.format.infRung ∧ a.bn ≤ FloatKind.f64.format.infRung ∧ a.bl ≤ FloatKind.f64.format.infRung
attribute [local irreducible] Go.wpList Go.bodyPost Go.Code.wp Go.Exit.then Go.Exit.inBlock Go.Exit.noGoto Ev.wpAnyG Go.Oper.wp Ev.Back Ev.Left Ev.Spc Ev.At Ev.Pure Ev.Reads Ev.Runs Ev.Does Ev.Cell

theorem ints_spec {H : Heap} {v v' : Value} {xs : List Int} (hv : Vs iv H v xs) (hv' : Vs iv H v' xs) (hn : xs.length ≤ 100000) : Spc Tryd.prog 33 #[v, v'] H fun r H' => H = H' ∧ r = .bool true := by
  refine spec_of Tryd.func33 rfl Tryd.ntmps33 rfl (fun W => ?_)
  repeat (first | refine codeA (k := ?_) | refine condA (k := ?_) | refine offA (k := ?_) | refine pureA (k := ?_) | refine readA (k := ?_))
  refine At_pure (p_lenV hv rfl rfl) rfl rfl rfl ?_
  repeat (first | refine codeA (k := ?_) | refine condA (k := ?_) | refine offA (k := ?_) | refine pureA (k := ?_) | refine readA (k := ?_))
  refine At_pure (p_lenV hv' rfl rfl) rfl rfl rfl ?_
  repeat (first | refine codeA (k := ?_) | refine condA (k := ?_) | refine offA (k := ?_) | refine pureA (k := ?_) | refine readA (k := ?_))
  refine At_cut (fun (s : Unit) => []) (fun s H' => H' = H) ?_ ?_
  · refine At_block ?_
    refine At_loop (fun (s : Nat) => [(0, v), (1, v'), (5, .int .i64 s)]) (fun s H' => H' = H ∧ s ≤ xs.length) (fun s => xs.length - s) 0 ?_ ⟨rfl, Nat.zero_le _⟩ ?_
    · (repeat (first | exact Sub.nil | refine Sub.cons rfl ?_))
    rintro i _ ⟨rfl, hi⟩
    rename_i H
    repeat (first | refine codeA (k := ?_) | refine condA (k := ?_) | refine offA (k := ?_) | refine pureA (k := ?_) | refine readA (k := ?_))
    refine At_pure (p_lenV hv rfl rfl) rfl rfl rfl ?_
    by_cases hil : i < xs.length
    rotate_left
    · repeat (first | refine codeA (k := ?_) | refine condA (k := ?_) | refine offA (k := ?_) | refine pureA (k := ?_) | refine readA (k := ?_))
      refine At_meet (E := fun (s : Unit) => []) (J := fun s H' => H' = H) () ?_ rfl
      (repeat (first | exact Sub.nil | refine Sub.cons rfl ?_))
    have hx : xs[i]? = some xs[i] := by simp [hil]
    generalize xs[i] = x at hx
    obtain ⟨b, o, c, rfl, hc, hcell⟩ := hv.some (fun e => by rw [e] at hil; simp at hil)
    obtain ⟨b', o', c', rfl, hc', hcell'⟩ := hv'.some (fun e => by rw [e] at hil; simp at hil)
    have c1 : Cell H b (o + i * 1) (.int .i64 x) := hcell i x hx
    have c2 : Cell H b' (o' + i * 1) (.int .i64 x) := hcell' i x hx
    have ss : Ext H H := Kept.refl _ _
    repeat (first | refine codeA (k := ?_) | refine condA (k := ?_) | refine offA (k := ?_) | refine pureA (k := ?_) | refine readA (k := ?_) | refine At_block ?_)
    refine At_draw [3, 7] (fun H' => Ext H H') Tryd.mixed ?_
    first | refine gA 0 (k := ?_) | refine goffA 0 (k := ?_)
    first | refine gA 1 (k := ?_) | refine goffA 1 (k := ?_)
    refine gqA 2 rfl (p_indexAddr (i := i) rfl rfl (by omega)) (k := ?_)
    refine grA 3 ss (fun H' hS' => r_load rfl rfl ((c1.keep hS' (fun f => f)))) (k := ?_)
    first | refine gA 4 (k := ?_) | refine goffA 4 (k := ?_)
    first | refine gA 5 (k := ?_) | refine goffA 5 (k := ?_)
    refine gqA 6 rfl (p_indexAddr (i := i) rfl rfl (by omega)) (k := ?_)
    refine grA 7 ss (fun H' hS' => r_load rfl rfl ((c2.keep hS' (fun f => f)))) (k := ?_)
    first | refine gA 8 (k := ?_) | refine goffA 8 (k := ?_)
    refine G_done (by kernel_rfl) ?_
    repeat (first | refine codeA (k := ?_) | refine condA (k := ?_) | refine offA (k := ?_) | refine pureA (k := ?_) | refine readA (k := ?_))
    refine At_tell 5 (.int .i64 (i + 1 : Nat)) rfl rfl ?_
    refine At_back (i + 1) ?_ ⟨rfl, hil⟩ (by omega)
    (repeat (first | exact Sub.nil | refine Sub.cons rfl ?_))
  rintro _ _ rfl
  repeat (first | refine codeA (k := ?_) | refine condA (k := ?_) | refine offA (k := ?_) | refine pureA (k := ?_) | refine readA (k := ?_))
  exact At_ret1 rfl rfl ⟨rfl, rfl⟩

set_option maxHeartbeats 4000000 in
theorem job_spec (a : Ac) (w : Wf a) {H : Heap} {p p' : Option Addr} {l c l' c' : Nat} (hv : Vs iv H (.slice p l c) a.sites) (hv' : Vs iv H (.slice p' l' c') a.sites) (hn : a.sites.length ≤ 100000) :
    Spc Tryd.prog 25 #[.agg (jobC a (.slice p l c)).toArray, .agg (jobC a (.slice p' l' c')).toArray] H fun r H' => Ext H H' ∧ r = .bool true := by
  refine spec_of Tryd.func25 rfl Tryd.ntmps25 rfl (fun W => ?_)
  repeat (first | refine codeA (k := ?_) | refine condA (k := ?_) | refine offA (k := ?_) | refine pureA (k := ?_) | refine readA (k := ?_))
  refine At_wp (W_box (cs := (jobC a (.slice p l c)).toArray) rfl rfl rfl ?_) rfl
  intro g2 H1 n2
  refine At_wp (W_box (cs := (jobC a (.slice p' l' c')).toArray) rfl rfl rfl ?_) rfl
  intro g3 H2 n3
  have r3 := n3.at_
  have r2 := n3.ext.keep n2.at_ (fun f => f)
  have x2 := n2.ext.trans n3.ext
  repeat (first | refine codeA (k := ?_) | refine At_pure (p_eql_bool_self rfl rfl) rfl rfl rfl ?_ | refine pureA (k := ?_) | refine At_read (r_load rfl rfl (Cell.of r2 rfl)) rfl rfl rfl ?_ | refine At_read (r_load rfl rfl (Cell.of r3 rfl)) rfl rfl rfl ?_ | refine At_read (r_loadN (cs := [.int .i64 0, .int .i64 0]) rfl rfl rfl (sub_cells r2 0 rfl)) rfl rfl rfl ?_ | refine At_read (r_loadN (cs := [.int .i64 0, .int .i64 0]) rfl rfl rfl (sub_cells r3 0 rfl)) rfl rfl rfl ?_ | refine At_pure (p_true (p_eqlPair Tryd.underlying3 Tryd.underlying3 rfl rfl rfl rfl (by kernel_rfl) (by kernel_rfl) rfl rfl) ⟨rfl, rfl⟩) rfl rfl rfl ?_ | refine At_pure (p_eqlComplex w.1 w.2.1 rfl rfl) rfl rfl rfl ?_ | (refine At_wp (W_call rfl rfl (ints_spec (hv.on x2) (hv'.on x2) hn) rfl rfl ?_) rfl; rintro _ _ ⟨rfl, rfl⟩))
  exact At_ret1 rfl rfl ⟨x2, rfl⟩
set_option maxHeartbeats 4000000 in
theorem cmdEq_spec (a : Ac) (w : Wf a) {H : Heap} {p p' : Option Addr} {l c l' c' : Nat} (hv : Vs iv H (.slice p l c) a.sites) (hv' : Vs iv H (.slice p' l' c') a.sites) (hn : a.sites.length ≤ 100000) :
    Spc Tryd.prog 16 #[.agg (cmdC a (.slice p l c)).toArray, .agg (cmdC a (.slice p' l' c')).toArray] H fun r H' => Ext H H' ∧ r = .bool true := by
  refine spec_of Tryd.func16 rfl Tryd.ntmps16 rfl (fun W => ?_)
  repeat (first | refine codeA (k := ?_) | refine condA (k := ?_) | refine offA (k := ?_) | refine pureA (k := ?_) | refine readA (k := ?_))
  refine At_wp (W_box (cs := (cmdC a (.slice p l c)).toArray) rfl rfl rfl ?_) rfl
  intro g2 H1 n2
  refine At_wp (W_box (cs := (cmdC a (.slice p' l' c')).toArray) rfl rfl rfl ?_) rfl
  intro g3 H2 n3
  have r3 := n3.at_
  have r2 := n3.ext.keep n2.at_ (fun f => f)
  have x2 := n2.ext.trans n3.ext
  repeat (first | refine codeA (k := ?_) | refine At_pure (p_eql_bool_self rfl rfl) rfl rfl rfl ?_ | refine pureA (k := ?_) | refine At_read (r_load rfl rfl (Cell.of r2 rfl)) rfl rfl rfl ?_ | refine At_read (r_load rfl rfl (Cell.of r3 rfl)) rfl rfl rfl ?_ | refine At_read (r_loadN (cs := [.int .i64 a.i1, .int .i64 a.i2]) rfl rfl rfl (sub_cells r2 1 rfl)) rfl rfl rfl ?_ | refine At_read (r_loadN (cs := [.int .i64 a.i1, .int .i64 a.i2]) rfl rfl rfl (sub_cells r3 1 rfl)) rfl rfl rfl ?_ | refine At_read (r_loadN (cs := jobC a (.slice p l c)) rfl rfl rfl (sub_cells r2 5 rfl)) rfl rfl rfl ?_ | refine At_read (r_loadN (cs := jobC a (.slice p' l' c')) rfl rfl rfl (sub_cells r3 5 rfl)) rfl rfl rfl ?_ | refine At_pure (p_true (p_eqlPair Tryd.underlying3 Tryd.underlying3 rfl rfl rfl rfl (by kernel_rfl) (by kernel_rfl) rfl rfl) ⟨rfl, rfl⟩) rfl rfl rfl ?_)
  refine At_wp (W_call rfl rfl (job_spec a w (hv.on x2) (hv'.on x2) hn) rfl rfl ?_) rfl
  rintro _ H3 ⟨x3, rfl⟩
  have r2 := x3.keep r2 (fun f => f)
  have r3 := x3.keep r3 (fun f => f)
  repeat (first | refine codeA (k := ?_) | refine At_pure (p_eql_bool_self rfl rfl) rfl rfl rfl ?_ | refine pureA (k := ?_) | refine At_read (r_load rfl rfl (Cell.of r2 rfl)) rfl rfl rfl ?_ | refine At_read (r_load rfl rfl (Cell.of r3 rfl)) rfl rfl rfl ?_ | refine At_pure (p_eqlComplex w.2.2.1 w.2.2.2 rfl rfl) rfl rfl rfl ?_)
  exact At_ret1 rfl rfl ⟨x2.trans x3, rfl⟩
set_option maxHeartbeats 4000000 in
theorem act_spec (a : Ac) (w : Wf a) {H : Heap} {p p' : Option Addr} {l c l' c' : Nat} (hv : Vs iv H (.slice p l c) a.sites) (hv' : Vs iv H (.slice p' l' c') a.sites) (hn : a.sites.length ≤ 100000) :
    Spc Tryd.prog 6 #[.agg (acC a (.slice p l c)).toArray, .agg (acC a (.slice p' l' c')).toArray] H fun r H' => Ext H H' ∧ r = .bool true := by
  refine spec_of Tryd.func6 rfl Tryd.ntmps6 rfl (fun W => ?_)
  repeat (first | refine codeA (k := ?_) | refine condA (k := ?_) | refine offA (k := ?_) | refine pureA (k := ?_) | refine readA (k := ?_))
  refine At_wp (W_box (cs := (acC a (.slice p l c)).toArray) rfl rfl rfl ?_) rfl
  intro g2 H1 n2
  refine At_wp (W_box (cs := (acC a (.slice p' l' c')).toArray) rfl rfl rfl ?_) rfl
  intro g3 H2 n3
  have r3 := n3.at_
  have r2 := n3.ext.keep n2.at_ (fun f => f)
  have x2 := n2.ext.trans n3.ext
  repeat (first | refine codeA (k := ?_) | refine At_pure (p_eql_bool_self rfl rfl) rfl rfl rfl ?_ | refine pureA (k := ?_) | refine At_read (r_load rfl rfl (Cell.of r2 rfl)) rfl rfl rfl ?_ | refine At_read (r_load rfl rfl (Cell.of r3 rfl)) rfl rfl rfl ?_ | refine At_read (r_loadN (cs := cmdC a (.slice p l c)) rfl rfl rfl (sub_cells r2 5 rfl)) rfl rfl rfl ?_ | refine At_read (r_loadN (cs := cmdC a (.slice p' l' c')) rfl rfl rfl (sub_cells r3 5 rfl)) rfl rfl rfl ?_)
  refine At_wp (W_call rfl rfl (cmdEq_spec a w (hv.on x2) (hv'.on x2) hn) rfl rfl ?_) rfl
  rintro _ H3 ⟨x3, rfl⟩
  repeat (first | refine codeA (k := ?_) | refine condA (k := ?_) | refine offA (k := ?_) | refine pureA (k := ?_) | refine readA (k := ?_))
  exact At_ret1 rfl rfl ⟨x2.trans x3, rfl⟩
end Go.Proofs.YticgbdeoiihbmaaDoor
