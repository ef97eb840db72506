/- One step of the calculus at a time, the rule found by trying: the trials stand here once, as the arguments' own tactics. Plain theorems over any program. -/
import Derived.Test.YticgbdeoiihbmaaDoorEvRep
import Derived.KernelRfl
namespace Ev
open Go
section
variable {P : Program} {n : Nat} {W : World} {env : Env} {H : Heap} {Q : Exit → Act → World → Prop} {ops : Array Oper} {rest : List Oper} {o : Oper}
theorem codeA {X Y : Act → World → Prop} (h : ∀ (n : Nat) (W : World) (env : Env) (H : Heap), At n W env H Y → At n W env H X := by
  first
  | exact fun _ _ _ _ h => At_seq h
  | exact fun _ _ _ _ h => At_region h
  | exact fun _ _ _ _ h => At_then_normal h
  | exact fun _ _ _ _ h => At_nil h
  | exact fun _ _ _ _ h => At_skip h
  | exact fun _ _ _ _ h => At_scope h
  | exact fun _ _ _ _ h => At_label h
  | exact fun _ _ _ _ h => At_ret h
  | exact fun _ _ _ _ h => At_exit h
  | exact fun _ _ _ _ h => At_inBlock_normal h
  | exact fun _ _ _ _ h => At_inBlock_same h
  | exact fun _ _ _ _ h => At_inBlock_ret h
  | exact fun _ _ _ _ h => At_then_ret h
  | exact fun _ _ _ _ h => At_then_exit h
  | exact fun _ _ _ _ h => At_inBlock_other rfl h
  | exact fun _ _ _ _ h => At_noGoto_normal h
  | exact fun _ _ _ _ h => At_noGoto_ret h
  | exact fun _ _ _ _ h => At_noGoto_exit h) (k : At n W env H Y) : At n W env H X := h n W env H k
theorem condA {c : Operand} {x y z : Code} (h : ev env c = some (.bool true) ∧ z = x ∨ ev env c = some (.bool false) ∧ z = y := by
  first
  | exact Or.inl ⟨rfl, rfl⟩
  | exact Or.inr ⟨rfl, rfl⟩) (k : At n W env H (z.wp P Q)) : At n W env H ((Code.cond c x y).wp P Q) := by
  rcases h with ⟨h, rfl⟩ | ⟨h, rfl⟩
  · exact At_cond_true h k
  · exact At_cond_false h k
theorem pureA {d : Nat} {v : Value} (hw : want ops env o = some true := by exact rfl) (hr : Pure P n env o v := by
  first
  | exact p_move rfl
  | exact p_assign rfl
  | exact p_nilCheck rfl
  | exact p_fieldAddr rfl
  | exact p_extract rfl rfl
  | exact p_len rfl rfl
  | exact p_not_true rfl
  | exact p_not_false rfl
  | exact p_pick_true rfl rfl
  | exact p_pick_false rfl rfl
  | exact p_indexAddr rfl rfl (by omega)
  | exact p_makeFunc0 rfl
  | exact p_eql_slice_nil rfl rfl
  | exact p_neq_slice_nil rfl rfl
  | exact p_eql_ptr_nil rfl rfl
  | exact p_neq_ptr_nil rfl rfl
  | exact p_add rfl rfl (by omega)
  | exact p_sub rfl rfl (by omega)
  | exact p_min_l rfl rfl (by omega)
  | exact p_min_r rfl rfl (by omega)
  | exact p_max_l rfl rfl (by omega)
  | exact p_max_r rfl rfl (by omega)
  | exact p_eql_bool rfl rfl
  | exact p_neq_bool rfl rfl
  | exact p_true (p_lss rfl rfl) (by omega)
  | exact p_false (p_lss rfl rfl) (by omega)
  | exact p_true (p_leq rfl rfl) (by omega)
  | exact p_false (p_leq rfl rfl) (by omega)
  | exact p_true (p_gtr rfl rfl) (by omega)
  | exact p_false (p_gtr rfl rfl) (by omega)
  | exact p_true (p_geq rfl rfl) (by omega)
  | exact p_false (p_geq rfl rfl) (by omega)
  | exact p_true (p_eql rfl rfl) (by omega)
  | exact p_false (p_eql rfl rfl) (by omega)
  | exact p_true (p_neq rfl rfl) (by omega)
  | exact p_false (p_neq rfl rfl) (by omega)
  | exact p_not_dec rfl) (hd : o.dst = some d := by exact rfl) (hn : Nat.blt d n = true := by exact rfl) (k : At n W ((d, v) :: env) H (wpList P ops Q rest)) : At n W env H (wpList P ops Q (o :: rest)) := At_pure hr hw hd hn k
theorem undA {d : Nat} {v : Value} (hw : want ops env o = some true := by exact rfl) (hr : Pure P n env o v := by
  first
  | exact p_lss rfl rfl
  | exact p_leq rfl rfl
  | exact p_gtr rfl rfl
  | exact p_geq rfl rfl
  | exact p_eql rfl rfl
  | exact p_neq rfl rfl) (hd : o.dst = some d := by exact rfl) (hn : Nat.blt d n = true := by exact rfl) (k : At n W ((d, v) :: env) H (wpList P ops Q rest)) : At n W env H (wpList P ops Q (o :: rest)) := At_pure hr hw hd hn k
theorem readA {d : Nat} {v : Value} (hw : want ops env o = some true := by exact rfl) (hr : Reads P n env H o v := by exact r_load rfl rfl (by assumption)) (hd : o.dst = some d := by exact rfl) (hn : Nat.blt d n = true := by exact rfl) (k : At n W ((d, v) :: env) H (wpList P ops Q rest)) : At n W env H (wpList P ops Q (o :: rest)) := At_read hr hw hd hn k
theorem offA {d : Nat} (hw : want ops env o = some false := by exact rfl) (hd : o.dst = some d := by exact rfl) (hn : Nat.blt d n = true := by exact rfl) (k : At n W ((d, undef) :: env) H (wpList P ops Q rest)) : At n W env H (wpList P ops Q (o :: rest)) := At_off hw hd hn k
theorem gA (i : Nat) {S : Heap → Prop} {needy : List Nat} {fuel : Nat} {listed : Array Bool} {d : Nat} {v : Value} (ho : ops[i]? = some o := by exact rfl) (hw : want ops env o = some true := by exact rfl) (hr : Pure P n env o v := by
  first
  | exact p_move rfl
  | exact p_assign rfl
  | exact p_nilCheck rfl
  | exact p_fieldAddr rfl
  | exact p_extract rfl rfl
  | exact p_len rfl rfl
  | exact p_not_true rfl
  | exact p_not_false rfl
  | exact p_pick_true rfl rfl
  | exact p_pick_false rfl rfl
  | exact p_indexAddr rfl rfl (by omega)
  | exact p_makeFunc0 rfl
  | exact p_eql_slice_nil rfl rfl
  | exact p_neq_slice_nil rfl rfl
  | exact p_eql_ptr_nil rfl rfl
  | exact p_neq_ptr_nil rfl rfl
  | exact p_add rfl rfl (by omega)
  | exact p_sub rfl rfl (by omega)
  | exact p_min_l rfl rfl (by omega)
  | exact p_min_r rfl rfl (by omega)
  | exact p_max_l rfl rfl (by omega)
  | exact p_max_r rfl rfl (by omega)
  | exact p_eql_bool rfl rfl
  | exact p_neq_bool rfl rfl
  | exact p_true (p_lss rfl rfl) (by omega)
  | exact p_false (p_lss rfl rfl) (by omega)
  | exact p_true (p_leq rfl rfl) (by omega)
  | exact p_false (p_leq rfl rfl) (by omega)
  | exact p_true (p_gtr rfl rfl) (by omega)
  | exact p_false (p_gtr rfl rfl) (by omega)
  | exact p_true (p_geq rfl rfl) (by omega)
  | exact p_false (p_geq rfl rfl) (by omega)
  | exact p_true (p_eql rfl rfl) (by omega)
  | exact p_false (p_eql rfl rfl) (by omega)
  | exact p_true (p_neq rfl rfl) (by omega)
  | exact p_false (p_neq rfl rfl) (by omega)
  | exact p_not_dec rfl) (hq : Calm Q := by repeat (first | exact Calm.post | apply Calm.then | apply Calm.inBlock | apply Calm.noGoto)) (hd : o.dst = some d := by exact rfl) (hn : Nat.blt d n = true := by exact rfl)
    (hc : (Region.noSelect ops && Region.free .any ops listed i && (Region.ready .any ops listed).contains i && !needy.contains i) = true := by kernel_rfl)
    (k : At n W ((d, v) :: env) H (wpAnyG P .any ops Q needy S fuel (listed.setIfInBounds i true))) : At n W env H (wpAnyG P .any ops Q needy S (fuel + 1) listed) := G_pure i ho hr hq hw hd hn hc k
theorem goffA (i : Nat) {S : Heap → Prop} {needy : List Nat} {fuel : Nat} {listed : Array Bool} {d : Nat} (ho : ops[i]? = some o := by exact rfl) (hw : want ops env o = some false := by exact rfl) (hq : Calm Q := by repeat (first | exact Calm.post | apply Calm.then | apply Calm.inBlock | apply Calm.noGoto)) (hd : o.dst = some d := by exact rfl) (hn : Nat.blt d n = true := by exact rfl)
    (hc : (Region.noSelect ops && Region.free .any ops listed i && (Region.ready .any ops listed).contains i && !needy.contains i) = true := by kernel_rfl)
    (k : At n W ((d, undef) :: env) H (wpAnyG P .any ops Q needy S fuel (listed.setIfInBounds i true))) : At n W env H (wpAnyG P .any ops Q needy S (fuel + 1) listed) := G_off i ho hq hw hd hn hc k
theorem goffN (i : Nat) {S : Heap → Prop} {needy : List Nat} {fuel : Nat} {listed : Array Bool} {d : Nat} (hs : S H) (ho : ops[i]? = some o := by exact rfl) (hw : want ops env o = some false := by exact rfl) (hq : Calm Q := by repeat (first | exact Calm.post | apply Calm.then | apply Calm.inBlock | apply Calm.noGoto)) (hd : o.dst = some d := by exact rfl) (hn : Nat.blt d n = true := by exact rfl)
    (hc : (Region.noSelect ops && Region.free .any ops listed i && (Region.ready .any ops listed).contains i) = true := by kernel_rfl)
    (k : At n W ((d, undef) :: env) H (wpAnyG P .any ops Q needy S fuel (listed.setIfInBounds i true))) : At n W env H (wpAnyG P .any ops Q needy S (fuel + 1) listed) := G_off_needy i ho hs hq hw hd hn hc k
theorem grA (i : Nat) {S : Heap → Prop} {needy : List Nat} {fuel : Nat} {listed : Array Bool} {d : Nat} {v : Value} (hs : S H) (hp : ∀ H', S H' → Reads P n env H' o v) (ho : ops[i]? = some o := by exact rfl) (hw : want ops env o = some true := by exact rfl) (hq : Calm Q := by repeat (first | exact Calm.post | apply Calm.then | apply Calm.inBlock | apply Calm.noGoto)) (hd : o.dst = some d := by exact rfl) (hn : Nat.blt d n = true := by exact rfl)
    (hc : (Region.noSelect ops && Region.free .any ops listed i && (Region.ready .any ops listed).contains i && needy.contains i) = true := by kernel_rfl)
    (k : At n W ((d, v) :: env) H (wpAnyG P .any ops Q needy S fuel (listed.setIfInBounds i true))) : At n W env H (wpAnyG P .any ops Q needy S (fuel + 1) listed) := G_read i ho hs hp hq hw hd hn hc k
theorem gpA (i : Nat) {S : Heap → Prop} {needy : List Nat} {fuel : Nat} {listed : Array Bool} {d : Nat} {v : Value} (hr : Pure P n env o v) (ho : ops[i]? = some o := by exact rfl) (hw : want ops env o = some true := by exact rfl) (hq : Calm Q := by repeat (first | exact Calm.post | apply Calm.then | apply Calm.inBlock | apply Calm.noGoto)) (hd : o.dst = some d := by exact rfl) (hn : Nat.blt d n = true := by exact rfl)
    (hc : (Region.noSelect ops && Region.free .any ops listed i && (Region.ready .any ops listed).contains i && !needy.contains i) = true := by kernel_rfl)
    (k : At n W ((d, v) :: env) H (wpAnyG P .any ops Q needy S fuel (listed.setIfInBounds i true))) : At n W env H (wpAnyG P .any ops Q needy S (fuel + 1) listed) := G_pure i ho hr hq hw hd hn hc k
end
end Ev
