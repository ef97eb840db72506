/- Words of a line: how many numbers stand behind each, and the act. Printed by wip/tools/shell_gen.py. -/
import Derived.Test.YticgbdeoiihbmaaDoorShG
namespace Go.Proofs.YticgbdeoiihbmaaDoor
open Go Ev
set_option linter.unusedVariables false
set_option linter.unusedSimpArgs false

def pl_cancel (n : List Int) : Option Ac := match n with
  | [a0, a1, a2] => some { Ac0 with k := 1, at_ := a0, ck := 2, i1 := a1, i2 := a2 }
  | _ => none
theorem pl_cancel_none {n : List Int} (h : ¬ n.length = 3) : pl_cancel n = none := by
  unfold pl_cancel
  split
  · exact absurd rfl h
  · rfl
def pl_status (n : List Int) : Option Ac := match n with
  | [a0, a1, a2] => some { Ac0 with k := 1, at_ := a0, ck := 3, i1 := a1, i2 := a2 }
  | _ => none
theorem pl_status_none {n : List Int} (h : ¬ n.length = 3) : pl_status n = none := by
  unfold pl_status
  split
  · exact absurd rfl h
  · rfl
def pl_reserve (n : List Int) : Option Ac := match n with
  | [a0, a1, a2, a3, a4] => if okAm a3 a4 then some { Ac0 with k := 1, at_ := a0, ck := 4, b1 := a1, b2 := a2, bn := fl a3, bl := fl a4 } else none
  | _ => none
theorem pl_reserve_none {n : List Int} (h : ¬ n.length = 5) : pl_reserve n = none := by
  unfold pl_reserve
  split
  · exact absurd rfl h
  · rfl
def pl_unreserve (n : List Int) : Option Ac := match n with
  | [a0, a1] => some { Ac0 with k := 1, at_ := a0, ck := 5, cn := a1 }
  | _ => none
theorem pl_unreserve_none {n : List Int} (h : ¬ n.length = 2) : pl_unreserve n = none := by
  unfold pl_unreserve
  split
  · exact absurd rfl h
  · rfl
def pl_drain (n : List Int) : Option Ac := match n with
  | [a0] => some { Ac0 with k := 1, at_ := a0, ck := 6, con := true }
  | _ => none
theorem pl_drain_none {n : List Int} (h : ¬ n.length = 1) : pl_drain n = none := by
  unfold pl_drain
  split
  · exact absurd rfl h
  · rfl
def pl_undrain (n : List Int) : Option Ac := match n with
  | [a0] => some { Ac0 with k := 1, at_ := a0, ck := 6, con := false }
  | _ => none
theorem pl_undrain_none {n : List Int} (h : ¬ n.length = 1) : pl_undrain n = none := by
  unfold pl_undrain
  split
  · exact absurd rfl h
  · rfl
def pl_tick (n : List Int) : Option Ac := match n with
  | [a0] => some { Ac0 with k := 2, at_ := a0 }
  | _ => none
theorem pl_tick_none {n : List Int} (h : ¬ n.length = 1) : pl_tick n = none := by
  unfold pl_tick
  split
  · exact absurd rfl h
  · rfl
def pl_carry (n : List Int) : Option Ac := match n with
  | [a0] => some { Ac0 with k := 3, n := a0 }
  | _ => none
theorem pl_carry_none {n : List Int} (h : ¬ n.length = 1) : pl_carry n = none := by
  unfold pl_carry
  split
  · exact absurd rfl h
  · rfl
def pl_lose (n : List Int) : Option Ac := match n with
  | [a0] => some { Ac0 with k := 4, n := a0 }
  | _ => none
theorem pl_lose_none {n : List Int} (h : ¬ n.length = 1) : pl_lose n = none := by
  unfold pl_lose
  split
  · exact absurd rfl h
  · rfl
def pl_twice (n : List Int) : Option Ac := match n with
  | [a0] => some { Ac0 with k := 5, n := a0 }
  | _ => none
theorem pl_twice_none {n : List Int} (h : ¬ n.length = 1) : pl_twice n = none := by
  unfold pl_twice
  split
  · exact absurd rfl h
  · rfl
def pl_cut (n : List Int) : Option Ac := match n with
  | [a0, a1] => some { Ac0 with k := 6, at_ := a0, to_ := a1, on := true }
  | _ => none
theorem pl_cut_none {n : List Int} (h : ¬ n.length = 2) : pl_cut n = none := by
  unfold pl_cut
  split
  · exact absurd rfl h
  · rfl
def pl_mend (n : List Int) : Option Ac := match n with
  | [a0, a1] => some { Ac0 with k := 6, at_ := a0, to_ := a1, on := false }
  | _ => none
theorem pl_mend_none {n : List Int} (h : ¬ n.length = 2) : pl_mend n = none := by
  unfold pl_mend
  split
  · exact absurd rfl h
  · rfl
def pl_crash (n : List Int) : Option Ac := match n with
  | [a0, a1] => some { Ac0 with k := 7, at_ := a0, n := a1 }
  | _ => none
theorem pl_crash_none {n : List Int} (h : ¬ n.length = 2) : pl_crash n = none := by
  unfold pl_crash
  split
  · exact absurd rfl h
  · rfl
def pl_trip (n : List Int) : Option Ac := match n with
  | [a0, a1] => some { Ac0 with k := 8, at_ := a0, n := a1 }
  | _ => none
theorem pl_trip_none {n : List Int} (h : ¬ n.length = 2) : pl_trip n = none := by
  unfold pl_trip
  split
  · exact absurd rfl h
  · rfl
def pl_start (n : List Int) : Option Ac := match n with
  | [a0] => some { Ac0 with k := 9, at_ := a0 }
  | _ => none
theorem pl_start_none {n : List Int} (h : ¬ n.length = 1) : pl_start n = none := by
  unfold pl_start
  split
  · exact absurd rfl h
  · rfl
def pl (w : List UInt8) (n : List Int) : Option Ac :=
  if w = [99, 97, 110, 99, 101, 108] then pl_cancel n else
  if w = [115, 116, 97, 116, 117, 115] then pl_status n else
  if w = [114, 101, 115, 101, 114, 118, 101] then pl_reserve n else
  if w = [117, 110, 114, 101, 115, 101, 114, 118, 101] then pl_unreserve n else
  if w = [100, 114, 97, 105, 110] then pl_drain n else
  if w = [117, 110, 100, 114, 97, 105, 110] then pl_undrain n else
  if w = [116, 105, 99, 107] then pl_tick n else
  if w = [99, 97, 114, 114, 121] then pl_carry n else
  if w = [108, 111, 115, 101] then pl_lose n else
  if w = [116, 119, 105, 99, 101] then pl_twice n else
  if w = [99, 117, 116] then pl_cut n else
  if w = [109, 101, 110, 100] then pl_mend n else
  if w = [99, 114, 97, 115, 104] then pl_crash n else
  if w = [116, 114, 105, 112] then pl_trip n else
  if w = [115, 116, 97, 114, 116] then pl_start n else
  none
def sz (w : List UInt8) : Int :=
  if w = [99, 97, 110, 99, 101, 108] then 3 else
  if w = [115, 116, 97, 116, 117, 115] then 3 else
  if w = [114, 101, 115, 101, 114, 118, 101] then 5 else
  if w = [117, 110, 114, 101, 115, 101, 114, 118, 101] then 2 else
  if w = [100, 114, 97, 105, 110] then 1 else
  if w = [117, 110, 100, 114, 97, 105, 110] then 1 else
  if w = [116, 105, 99, 107] then 1 else
  if w = [99, 97, 114, 114, 121] then 1 else
  if w = [108, 111, 115, 101] then 1 else
  if w = [116, 119, 105, 99, 101] then 1 else
  if w = [99, 117, 116] then 2 else
  if w = [109, 101, 110, 100] then 2 else
  if w = [99, 114, 97, 115, 104] then 2 else
  if w = [116, 114, 105, 112] then 2 else
  if w = [115, 116, 97, 114, 116] then 1 else
  -1
theorem len1 {n : List Int} (h : n.length = 1) : ∃ a0, n = [a0] := by
  match n, h with
  | [a0], _ => exact ⟨a0, rfl⟩
theorem len2 {n : List Int} (h : n.length = 2) : ∃ a0 a1, n = [a0, a1] := by
  match n, h with
  | [a0, a1], _ => exact ⟨a0, a1, rfl⟩
theorem len3 {n : List Int} (h : n.length = 3) : ∃ a0 a1 a2, n = [a0, a1, a2] := by
  match n, h with
  | [a0, a1, a2], _ => exact ⟨a0, a1, a2, rfl⟩
theorem len5 {n : List Int} (h : n.length = 5) : ∃ a0 a1 a2 a3 a4, n = [a0, a1, a2, a3, a4] := by
  match n, h with
  | [a0, a1, a2, a3, a4], _ => exact ⟨a0, a1, a2, a3, a4, rfl⟩
attribute [local irreducible] Go.wpList Go.bodyPost Go.Code.wp Go.Exit.then Go.Exit.inBlock Go.Exit.noGoto Ev.wpAnyG Go.Oper.wp Ev.Back Ev.Left Ev.Spc Ev.At Ev.Pure Ev.Reads Ev.Runs Ev.Does Ev.Cell

set_option maxHeartbeats 4000000 in
theorem size_spec (w : List UInt8) (H : Heap) : Spc Tryd.prog 21 #[sv w] H fun r H' => H = H' ∧ r = .int .i64 (sz w) := by
  refine spec_of Tryd.func21 rfl Tryd.ntmps21 rfl (fun W => ?_)
  repeat (first | refine codeA (k := ?_) | refine condA (k := ?_) | refine offA (k := ?_) | refine pureA (k := ?_) | refine readA (k := ?_))
  by_cases e0 : w = [99, 97, 110, 99, 101, 108]
  · subst e0
    rw [show sz [99, 97, 110, 99, 101, 108] = 3 from by decide]
    repeat (first | refine codeA (k := ?_) | refine condA (k := ?_) | refine offA (k := ?_) | refine pureA (k := ?_) | refine readA (k := ?_) | refine strA (k := ?_) | refine At_block ?_)
    exact At_ret1 rfl rfl ⟨rfl, rfl⟩
  by_cases e1 : w = [115, 116, 97, 116, 117, 115]
  · subst e1
    rw [show sz [115, 116, 97, 116, 117, 115] = 3 from by decide]
    repeat (first | refine codeA (k := ?_) | refine condA (k := ?_) | refine offA (k := ?_) | refine pureA (k := ?_) | refine readA (k := ?_) | refine strA (k := ?_) | refine At_block ?_)
    exact At_ret1 rfl rfl ⟨rfl, rfl⟩
  by_cases e2 : w = [114, 101, 115, 101, 114, 118, 101]
  · subst e2
    rw [show sz [114, 101, 115, 101, 114, 118, 101] = 5 from by decide]
    repeat (first | refine codeA (k := ?_) | refine condA (k := ?_) | refine offA (k := ?_) | refine pureA (k := ?_) | refine readA (k := ?_) | refine strA (k := ?_) | refine At_block ?_)
    exact At_ret1 rfl rfl ⟨rfl, rfl⟩
  by_cases e3 : w = [117, 110, 114, 101, 115, 101, 114, 118, 101]
  · subst e3
    rw [show sz [117, 110, 114, 101, 115, 101, 114, 118, 101] = 2 from by decide]
    repeat (first | refine codeA (k := ?_) | refine condA (k := ?_) | refine offA (k := ?_) | refine pureA (k := ?_) | refine readA (k := ?_) | refine strA (k := ?_) | refine At_block ?_)
    exact At_ret1 rfl rfl ⟨rfl, rfl⟩
  by_cases e4 : w = [100, 114, 97, 105, 110]
  · subst e4
    rw [show sz [100, 114, 97, 105, 110] = 1 from by decide]
    repeat (first | refine codeA (k := ?_) | refine condA (k := ?_) | refine offA (k := ?_) | refine pureA (k := ?_) | refine readA (k := ?_) | refine strA (k := ?_) | refine At_block ?_)
    exact At_ret1 rfl rfl ⟨rfl, rfl⟩
  by_cases e5 : w = [117, 110, 100, 114, 97, 105, 110]
  · subst e5
    rw [show sz [117, 110, 100, 114, 97, 105, 110] = 1 from by decide]
    repeat (first | refine codeA (k := ?_) | refine condA (k := ?_) | refine offA (k := ?_) | refine pureA (k := ?_) | refine readA (k := ?_) | refine strA (k := ?_) | refine At_block ?_)
    exact At_ret1 rfl rfl ⟨rfl, rfl⟩
  by_cases e6 : w = [116, 105, 99, 107]
  · subst e6
    rw [show sz [116, 105, 99, 107] = 1 from by decide]
    repeat (first | refine codeA (k := ?_) | refine condA (k := ?_) | refine offA (k := ?_) | refine pureA (k := ?_) | refine readA (k := ?_) | refine strA (k := ?_) | refine At_block ?_)
    exact At_ret1 rfl rfl ⟨rfl, rfl⟩
  by_cases e7 : w = [99, 97, 114, 114, 121]
  · subst e7
    rw [show sz [99, 97, 114, 114, 121] = 1 from by decide]
    repeat (first | refine codeA (k := ?_) | refine condA (k := ?_) | refine offA (k := ?_) | refine pureA (k := ?_) | refine readA (k := ?_) | refine strA (k := ?_) | refine At_block ?_)
    exact At_ret1 rfl rfl ⟨rfl, rfl⟩
  by_cases e8 : w = [108, 111, 115, 101]
  · subst e8
    rw [show sz [108, 111, 115, 101] = 1 from by decide]
    repeat (first | refine codeA (k := ?_) | refine condA (k := ?_) | refine offA (k := ?_) | refine pureA (k := ?_) | refine readA (k := ?_) | refine strA (k := ?_) | refine At_block ?_)
    exact At_ret1 rfl rfl ⟨rfl, rfl⟩
  by_cases e9 : w = [116, 119, 105, 99, 101]
  · subst e9
    rw [show sz [116, 119, 105, 99, 101] = 1 from by decide]
    repeat (first | refine codeA (k := ?_) | refine condA (k := ?_) | refine offA (k := ?_) | refine pureA (k := ?_) | refine readA (k := ?_) | refine strA (k := ?_) | refine At_block ?_)
    exact At_ret1 rfl rfl ⟨rfl, rfl⟩
  by_cases e10 : w = [99, 117, 116]
  · subst e10
    rw [show sz [99, 117, 116] = 2 from by decide]
    repeat (first | refine codeA (k := ?_) | refine condA (k := ?_) | refine offA (k := ?_) | refine pureA (k := ?_) | refine readA (k := ?_) | refine strA (k := ?_) | refine At_block ?_)
    exact At_ret1 rfl rfl ⟨rfl, rfl⟩
  by_cases e11 : w = [109, 101, 110, 100]
  · subst e11
    rw [show sz [109, 101, 110, 100] = 2 from by decide]
    repeat (first | refine codeA (k := ?_) | refine condA (k := ?_) | refine offA (k := ?_) | refine pureA (k := ?_) | refine readA (k := ?_) | refine strA (k := ?_) | refine At_block ?_)
    exact At_ret1 rfl rfl ⟨rfl, rfl⟩
  by_cases e12 : w = [99, 114, 97, 115, 104]
  · subst e12
    rw [show sz [99, 114, 97, 115, 104] = 2 from by decide]
    repeat (first | refine codeA (k := ?_) | refine condA (k := ?_) | refine offA (k := ?_) | refine pureA (k := ?_) | refine readA (k := ?_) | refine strA (k := ?_) | refine At_block ?_)
    exact At_ret1 rfl rfl ⟨rfl, rfl⟩
  by_cases e13 : w = [116, 114, 105, 112]
  · subst e13
    rw [show sz [116, 114, 105, 112] = 2 from by decide]
    repeat (first | refine codeA (k := ?_) | refine condA (k := ?_) | refine offA (k := ?_) | refine pureA (k := ?_) | refine readA (k := ?_) | refine strA (k := ?_) | refine At_block ?_)
    exact At_ret1 rfl rfl ⟨rfl, rfl⟩
  by_cases e14 : w = [115, 116, 97, 114, 116]
  · subst e14
    rw [show sz [115, 116, 97, 114, 116] = 1 from by decide]
    repeat (first | refine codeA (k := ?_) | refine condA (k := ?_) | refine offA (k := ?_) | refine pureA (k := ?_) | refine readA (k := ?_) | refine strA (k := ?_) | refine At_block ?_)
    exact At_ret1 rfl rfl ⟨rfl, rfl⟩
  have hz : sz w = -1 := by
    unfold sz
    rw [if_neg e0, if_neg e1, if_neg e2, if_neg e3, if_neg e4, if_neg e5, if_neg e6, if_neg e7, if_neg e8, if_neg e9, if_neg e10, if_neg e11, if_neg e12, if_neg e13, if_neg e14]
  rw [hz]
  repeat (first | refine codeA (k := ?_) | refine condA (k := ?_) | refine offA (k := ?_) | refine pureA (k := ?_) | refine readA (k := ?_) | refine strA (k := ?_) | refine At_block ?_)
  exact At_ret1 rfl rfl ⟨rfl, rfl⟩

/-- what came of a line's words: an act, or none (then whatever act) -/
def PR (o : Option Ac) (H : Heap) (r : Value) (H' : Heap) : Prop := Ext H H' ∧ ∃ a p l c, r = .tuple #[.agg (acC a (.slice p l c)).toArray, .bool o.isSome] ∧ ∀ b, o = some b → a = b ∧ Vs iv H' (.slice p l c) b.sites ∧ ∀ g, (Value.slice p l c).ownBlock = some g → H.size ≤ g
theorem PR.some {H H' : Heap} {a : Ac} {p : Option Addr} {l c : Nat} (hx : Ext H H') (hv : Vs iv H' (.slice p l c) a.sites) (hn : ∀ g, (Value.slice p l c).ownBlock = Option.some g → H.size ≤ g) : PR (Option.some a) H (.tuple #[.agg (acC a (.slice p l c)).toArray, .bool true]) H' :=
  ⟨hx, a, p, l, c, rfl, fun b e => by cases e; exact ⟨rfl, hv, hn⟩⟩
theorem PR.none {H H' : Heap} {a : Ac} {p : Option Addr} {l c : Nat} (hx : Ext H H') : PR Option.none H (.tuple #[.agg (acC a (.slice p l c)).toArray, .bool false]) H' :=
  ⟨hx, a, p, l, c, rfl, fun b e => by cases e⟩
theorem nilnew {m l c : Nat} : ∀ g, (Value.slice Option.none l c).ownBlock = Option.some g → m ≤ g := fun g e => by cases e
theorem ext_put {H H2 H5 : Heap} {g : Nat} (h : Ext H H2) (k : Kept (· = g) H2 H5) (hg : g = H.size) : Ext H H5 := Kept.trans h k (fun _ f _ => f) (fun i e hi => by omega)
end Go.Proofs.YticgbdeoiihbmaaDoor
