/- Are two frames the same?; how often is a frame in a row? -/
import Derived.Test.YtjgbbegfenmhaaaNetK
namespace Go.Proofs.Ytjgbbegfenmhaaa
open Go Ev
set_option linter.unusedVariables false
set_option linter.unusedSimpArgs false
attribute [local irreducible] Go.wpList Go.bodyPost Go.Code.wp Go.Exit.then Go.Exit.inBlock Go.Exit.noGoto Ev.wpAnyG Go.Oper.wp Ev.Back Ev.Left Ev.Spc Ev.At Ev.Pure Ev.Reads Ev.Runs Ev.Does Ev.Cell

def sameF (f g : Fr) : Bool := decide (f.frm = g.frm ∧ f.to = g.to ∧ f.epoch = g.epoch ∧ f.peer = g.peer ∧ f.seq = g.seq ∧ f.ack = g.ack ∧ f.body = g.body)
set_option maxHeartbeats 4000000 in
theorem frame_spec {D D' : Nat → Prop} {H : Heap} {f g : Fr} {bv bv' : Value} (h1 : BytesAt D H bv f.body) (h2 : BytesAt D' H bv' g.body) :
    Spc Try.prog 11 #[.agg (frCells f bv).toArray, .agg (frCells g bv').toArray] H fun r H' => Ext H H' ∧ r = .bool (sameF f g) := by
  obtain ⟨q, c, rfl⟩ := h1.form
  obtain ⟨q', c', rfl⟩ := h2.form
  obtain ⟨f0, f1, f2, f3, f4, f5, l⟩ := f
  obtain ⟨g0, g1, g2, g3, g4, g5, l'⟩ := g
  dsimp only at h1 h2
  unfold sameF
  dsimp only
  refine spec_of Try.func11 rfl Try.ntmps11 rfl (fun W => ?_)
  repeat (first | refine codeA (k := ?_) | refine condA (k := ?_) | refine offA (k := ?_) | refine pureA (k := ?_) | refine readA (k := ?_))
  refine At_wp (W_box (cs := #[.int .i64 f0, .int .i64 f1, .int .i64 f2, .int .i64 f3, .int .i64 f4, .int .i64 f5, .slice q l.length c]) rfl rfl rfl ?_) rfl
  intro b1 H1 hn1
  refine At_wp (W_box (cs := #[.int .i64 g0, .int .i64 g1, .int .i64 g2, .int .i64 g3, .int .i64 g4, .int .i64 g5, .slice q' l'.length c']) rfl rfl rfl ?_) rfl
  intro b2 H2 hn2
  have hx := hn1.ext.trans hn2.ext
  have ha := hn2.ext.keep hn1.at_ (fun f => f)
  have hb := hn2.at_
  have c0 : Cell H2 b1 (0 + 0) (.int .i64 f0) := Cell.of ha rfl
  have c1 : Cell H2 b1 (0 + 1) (.int .i64 f1) := Cell.of ha rfl
  have c2 : Cell H2 b1 (0 + 2) (.int .i64 f2) := Cell.of ha rfl
  have c3 : Cell H2 b1 (0 + 3) (.int .i64 f3) := Cell.of ha rfl
  have c4 : Cell H2 b1 (0 + 4) (.int .i64 f4) := Cell.of ha rfl
  have c5 : Cell H2 b1 (0 + 5) (.int .i64 f5) := Cell.of ha rfl
  have c6 : Cell H2 b1 (0 + 6) (.slice q l.length c) := Cell.of ha rfl
  have d0 : Cell H2 b2 (0 + 0) (.int .i64 g0) := Cell.of hb rfl
  have d1 : Cell H2 b2 (0 + 1) (.int .i64 g1) := Cell.of hb rfl
  have d2 : Cell H2 b2 (0 + 2) (.int .i64 g2) := Cell.of hb rfl
  have d3 : Cell H2 b2 (0 + 3) (.int .i64 g3) := Cell.of hb rfl
  have d4 : Cell H2 b2 (0 + 4) (.int .i64 g4) := Cell.of hb rfl
  have d5 : Cell H2 b2 (0 + 5) (.int .i64 g5) := Cell.of hb rfl
  have d6 : Cell H2 b2 (0 + 6) (.slice q' l'.length c') := Cell.of hb rfl
  have e1 := h1.keep hx (fun b hb _ => ⟨fun f => f, hb⟩)
  have e2 := h2.keep hx (fun b hb _ => ⟨fun f => f, hb⟩)
  by_cases a0 : f0 = g0
  rotate_left
  · rw [decide_eq_false (fun e => a0 e.1)]
    repeat (first | refine codeA (k := ?_) | refine condA (k := ?_) | refine offA (k := ?_) | refine pureA (k := ?_) | refine readA (k := ?_))
    exact At_ret1 rfl rfl ⟨hx, rfl⟩
  by_cases a1 : f1 = g1
  rotate_left
  · rw [decide_eq_false (fun e => a1 e.2.1)]
    repeat (first | refine codeA (k := ?_) | refine condA (k := ?_) | refine offA (k := ?_) | refine pureA (k := ?_) | refine readA (k := ?_))
    exact At_ret1 rfl rfl ⟨hx, rfl⟩
  by_cases a2 : f2 = g2
  rotate_left
  · rw [decide_eq_false (fun e => a2 e.2.2.1)]
    repeat (first | refine codeA (k := ?_) | refine condA (k := ?_) | refine offA (k := ?_) | refine pureA (k := ?_) | refine readA (k := ?_))
    exact At_ret1 rfl rfl ⟨hx, rfl⟩
  by_cases a3 : f3 = g3
  rotate_left
  · rw [decide_eq_false (fun e => a3 e.2.2.2.1)]
    repeat (first | refine codeA (k := ?_) | refine condA (k := ?_) | refine offA (k := ?_) | refine pureA (k := ?_) | refine readA (k := ?_))
    exact At_ret1 rfl rfl ⟨hx, rfl⟩
  by_cases a4 : f4 = g4
  rotate_left
  · rw [decide_eq_false (fun e => a4 e.2.2.2.2.1)]
    repeat (first | refine codeA (k := ?_) | refine condA (k := ?_) | refine offA (k := ?_) | refine pureA (k := ?_) | refine readA (k := ?_))
    exact At_ret1 rfl rfl ⟨hx, rfl⟩
  by_cases a5 : f5 = g5
  rotate_left
  · rw [decide_eq_false (fun e => a5 e.2.2.2.2.2.1)]
    repeat (first | refine codeA (k := ?_) | refine condA (k := ?_) | refine offA (k := ?_) | refine pureA (k := ?_) | refine readA (k := ?_))
    exact At_ret1 rfl rfl ⟨hx, rfl⟩
  repeat (first | refine codeA (k := ?_) | refine condA (k := ?_) | refine offA (k := ?_) | refine pureA (k := ?_) | refine readA (k := ?_))
  refine At_wp (W_call rfl rfl (bytes_spec e1 e2) rfl rfl ?_) rfl
  rintro _ _ ⟨rfl, rfl⟩
  repeat (first | refine codeA (k := ?_) | refine condA (k := ?_) | refine offA (k := ?_) | refine pureA (k := ?_) | refine readA (k := ?_))
  refine At_ret1 rfl rfl ⟨hx, ?_⟩
  congr 1
  by_cases h : l = l'
  · rw [decide_eq_true h, decide_eq_true ⟨a0, a1, a2, a3, a4, a5, h⟩]
  · rw [decide_eq_false h, decide_eq_false (fun e => h e.2.2.2.2.2.2)]
theorem sameF_self (f : Fr) : sameF f f = true := decide_eq_true ⟨rfl, rfl, rfl, rfl, rfl, rfl, rfl⟩
def cnt (f : Fr) (row : List Fr) : Nat := row.countP (fun g => sameF g f)
theorem cnt_snoc (f g : Fr) (row : List Fr) : cnt f (row ++ [g]) = cnt f row + if sameF g f = true then 1 else 0 := by
  unfold cnt
  rw [List.countP_append, List.countP_cons, List.countP_nil, Nat.zero_add]
theorem cnt_erase (f g : Fr) (row : List Fr) (i : Nat) (h : row[i]? = some g) : cnt f (row.eraseIdx i) + (if sameF g f = true then 1 else 0) = cnt f row := by
  have hlt := (List.getElem?_eq_some_iff.1 h).1
  have e : row = row.take i ++ g :: row.drop (i + 1) := by
    have h2 := (List.getElem?_eq_some_iff.1 h).2
    rw [← h2, List.getElem_cons_drop, List.take_append_drop]
  have e2 : cnt f row = cnt f (row.take i ++ g :: row.drop (i + 1)) := by rw [← e]
  rw [e2, List.eraseIdx_eq_take_drop_succ]
  unfold cnt
  rw [List.countP_append, List.countP_append, List.countP_cons]
  omega
end Go.Proofs.Ytjgbbegfenmhaaa
