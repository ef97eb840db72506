/- Strings, numbers of 64 bits as complex parts: the operations; CutPrefix at a minus. -/
import Derived.Test.YticgbdeoiihbmaaDoorTab
import Derived.Test.YticgbdeoiihbmaaDoorEvMore
namespace Go.Proofs.YticgbdeoiihbmaaDoor
open Go Ev
set_option linter.unusedVariables false
set_option linter.unusedSimpArgs false

/-- a string's value -/
abbrev sv (l : List UInt8) : Value := .string ⟨l.toArray⟩
theorem ba_size (l : List UInt8) : (⟨l.toArray⟩ : ByteArray).size = l.length := by simp [ByteArray.size]
section
variable {P : Program} {n : Nat} {W : World} {env : Env} {H : Heap} {Q : Exit → Act → World → Prop} {K : Act → World → Prop}
variable {ds : Option Tmp} {ty : TypeId} {pos : String} {af : Array Edge} {gd : Option (Nat × Bool)}
theorem p_lenS {x : Operand} {ats : Array TypeId} {l : List UInt8} {t : TypeId} {s1 s2 : Nat} {z : Value} [h : Ty P t .string s1 s2 z] (hx : ev env x = some (sv l)) (hats : ats = #[t]) :
    Pure P n env ⟨ds, .call ⟨.builtin .len, #[x], ats⟩, ty, pos, af, gd⟩ (.int .i64 l.length) := fun a w f => by
  subst hats
  have := run_len_string (P := P) w t ty ⟨l.toArray⟩ h.und
  rw [ba_size] at this
  simp [execOp, resolve, invoke, builtin, f.ev hx, this, goInt]
theorem p_indexS {x y : Operand} {t : TypeId} {l : List UInt8} {k : IntKind} {i : Nat} {b : UInt8} {s1 s2 : Nat} {z : Value} [h : Ty P t .string s1 s2 z] (hx : ev env x = some (sv l)) (hy : ev env y = some (.int k i)) (hb : l[i]? = some b) :
    Pure P n env ⟨ds, .index t x y, ty, pos, af, gd⟩ (.int .u8 b.toNat) := fun a w f => by
  obtain ⟨hlt, he⟩ := List.getElem?_eq_some_iff.1 hb
  have := run_index_string (P := P) w t ⟨l.toArray⟩ k (i : Int) h.und
  have hi : 0 ≤ (i : Int) ∧ (i : Int) < (⟨l.toArray⟩ : ByteArray).size := by rw [ba_size]; omega
  rw [dif_pos hi] at this
  have e2 : (⟨l.toArray⟩ : ByteArray)[(i : Int).toNat]'(by rw [ba_size]; omega) = b := by
    subst he
    rfl
  rw [e2] at this
  simp [execOp, f.ev hx, f.ev hy, this]
theorem p_sliceS {x lo hi : Operand} {t : TypeId} {l : List UInt8} {k k' : IntKind} {i j : Nat} {s1 s2 : Nat} {z : Value} [h : Ty P t .string s1 s2 z] (hx : ev env x = some (sv l)) (hlo : ev env lo = some (.int k i)) (hhi : ev env hi = some (.int k' j)) (h1 : i ≤ j) (h2 : j ≤ l.length) :
    Pure P n env ⟨ds, .slice t x (some lo) (some hi) none, ty, pos, af, gd⟩ (sv ((l.drop i).take (j - i))) := fun a w f => by
  have := run_slice_string (P := P) w t ⟨l.toArray⟩ k k' (i : Int) (j : Int) h.und (by omega) (by omega) (by rw [ba_size]; omega)
  have e : (⟨l.toArray⟩ : ByteArray).extract (i : Int).toNat (j : Int).toNat = ⟨((l.drop i).take (j - i)).toArray⟩ := ByteArray.extract_mk l i j
  rw [e] at this
  simp [execOp, f.ev hx, f.ev hlo, f.ev hhi, run_sliceAt_string w t _ _ _ _ h.und, this]
theorem p_sliceS_lo {x lo : Operand} {t : TypeId} {l : List UInt8} {k : IntKind} {i : Nat} {s1 s2 : Nat} {z : Value} [h : Ty P t .string s1 s2 z] (hx : ev env x = some (sv l)) (hlo : ev env lo = some (.int k i)) (h1 : i ≤ l.length) :
    Pure P n env ⟨ds, .slice t x (some lo) none none, ty, pos, af, gd⟩ (sv (l.drop i)) := fun a w f => by
  have := run_slice_string_l (P := P) w t ⟨l.toArray⟩ h.und k (i : Int) (by omega) (by rw [ba_size]; omega)
  have e : (⟨l.toArray⟩ : ByteArray).extract (i : Int).toNat (⟨l.toArray⟩ : ByteArray).size = ⟨(l.drop i).toArray⟩ := by
    rw [ba_size, Int.toNat_natCast, ByteArray.extract_mk, List.take_of_length_le (by simp)]
  rw [e] at this
  simp [execOp, f.ev hx, f.ev hlo, run_sliceAt_string w t _ _ _ _ h.und, this]
theorem p_sliceS_hi {x hi : Operand} {t : TypeId} {l : List UInt8} {k : IntKind} {j : Nat} {s1 s2 : Nat} {z : Value} [h : Ty P t .string s1 s2 z] (hx : ev env x = some (sv l)) (hhi : ev env hi = some (.int k j)) (h1 : j ≤ l.length) :
    Pure P n env ⟨ds, .slice t x none (some hi) none, ty, pos, af, gd⟩ (sv (l.take j)) := fun a w f => by
  have := run_slice_string_h (P := P) w t ⟨l.toArray⟩ h.und k (j : Int) (by omega) (by rw [ba_size]; omega)
  have e : (⟨l.toArray⟩ : ByteArray).extract 0 (j : Int).toNat = ⟨(l.take j).toArray⟩ := by
    rw [Int.toNat_natCast, ByteArray.extract_mk]
    simp
  rw [e] at this
  simp [execOp, f.ev hx, f.ev hhi, run_sliceAt_string w t _ _ _ _ h.und, this]
theorem p_convInt {x : Operand} {src dst : TypeId} {ks kd k : IntKind} {s1 s2 s3 s4 : Nat} {z1 z2 : Value} {a : Int} [h1 : Ty P src (.int ks) s1 s2 z1] [h2 : Ty P dst (.int kd) s3 s4 z2] (hx : ev env x = some (.int k a)) :
    Pure P n env ⟨ds, .convert src dst x, ty, pos, af, gd⟩ (.int kd (kd.wrap a)) := fun a' w f => by
  have hk : P.intKind dst = kd := by simp [Program.intKind, h2.und]
  have := run_convert_int (P := P) (w := w) src dst k a (by rw [h1.und]; rfl) (by rw [hk]; exact h2.und)
  rw [hk] at this
  simp [execOp, f.ev hx, this]
theorem p_negw {x : Operand} {t : TypeId} {a : Int} (hx : ev env x = some (.int .i64 a)) (h : -9223372036854775808 ≤ -a ∧ -a ≤ 9223372036854775807) : Pure P n env ⟨ds, .unOp .neg t x, ty, pos, af, gd⟩ (.int .i64 (-a)) := fun a' w f => by
  have e : (0 : Int) - a = -a := by omega
  simp [execOp, f.ev hx, Op.unary, Op.intArith, e, IntWalk.i64_in (-a) h]
theorem p_quoT {x y : Operand} {t t2 : TypeId} {a b : Int} (hx : ev env x = some (.int .i64 a)) (hy : ev env y = some (.int .i64 b)) (hb : b ≠ 0) (h : -9223372036854775808 ≤ a.tdiv b ∧ a.tdiv b ≤ 9223372036854775807) : Pure P n env ⟨ds, .binOp .quo t x y t2, ty, pos, af, gd⟩ (.int .i64 (a.tdiv b)) := fun a' w f => by
  simp [execOp, f.ev hx, f.ev hy, run_guard, binOp, Op.intDiv, hb, IntWalk.i64_in (a.tdiv b) h]
/-- a whole number's word as a float -/
def fl (a : Int) : Nat := FloatKind.f64.nearest a
theorem p_convFloat {x : Operand} {src dst : TypeId} {ks k : IntKind} {s1 s2 : Nat} {z1 : Value} {a : Int} [h1 : Ty P src (.int ks) s1 s2 z1] (h2 : P.underlying dst = some (.float .f64)) (hx : ev env x = some (.int k a)) :
    Pure P n env ⟨ds, .convert src dst x, ty, pos, af, gd⟩ (.float .f64 (fl a)) := fun a' w f => by
  simp [execOp, f.ev hx, convert, run_underlying h1.und, run_underlying h2, Conv.intToFloat, fl]
theorem complex_eq (ats : Array TypeId) (t : TypeId) (a b : Nat) : Builtin.complex_ ats t #[.float .f64 a, .float .f64 b] = (pure (.complex .f64 a b) : Sem Value) := rfl
theorem p_complex {x y : Operand} {ats : Array TypeId} {a b : Nat} (hx : ev env x = some (.float .f64 a)) (hy : ev env y = some (.float .f64 b)) :
    Pure P n env ⟨ds, .call ⟨.builtin .complex, #[x, y], ats⟩, ty, pos, af, gd⟩ (.complex .f64 a b) := fun a' w f => by
  simp [execOp, resolve, invoke, builtin, f.ev hx, f.ev hy, complex_eq]
theorem order_self (f : Ieee.Format) (x : Nat) (h : x ≤ f.infRung) : f.order x x = some .eq := by
  have hs := f.infRung_lt
  have hm : x % f.signWeight = x := Nat.mod_eq_of_lt (by omega)
  unfold Ieee.Format.order Ieee.Format.read
  dsimp only
  rw [hm]
  split
  · simp [Ieee.Datum.order, compare, compareOfLessAndEq]
  · split
    · simp [Ieee.Datum.order, compare, compareOfLessAndEq]
    · split
      · simp [Ieee.Datum.order, compare, compareOfLessAndEq]
      · omega
theorem nearest_le (f : Ieee.Format) (mag : Nat) (place : Int) : f.nearest false mag place ≤ f.infRung := by
  unfold Ieee.Format.nearest Ieee.Format.word
  dsimp only
  split
  · exact Nat.zero_le _
  · exact Nat.min_le_right _ _
theorem fl_le (a : Int) (h : 0 ≤ a) : fl a ≤ FloatKind.f64.format.infRung := by
  unfold fl FloatKind.nearest FloatKind.encode Ieee.Format.write
  rw [decide_eq_false (by omega)]
  exact nearest_le _ _ _
theorem p_eqlComplex {x y : Operand} {t t2 : TypeId} {a b : Nat} (ha : a ≤ FloatKind.f64.format.infRung) (hb : b ≤ FloatKind.f64.format.infRung) (hx : ev env x = some (.complex .f64 a b)) (hy : ev env y = some (.complex .f64 a b)) :
    Pure P n env ⟨ds, .binOp .eql t x y t2, ty, pos, af, gd⟩ (.bool true) := fun a' w f => by
  have e1 : FloatKind.f64.format.order a a = some .eq := order_self _ a ha
  have e2 : FloatKind.f64.format.order b b = some .eq := order_self _ b hb
  simp [execOp, f.ev hx, f.ev hy, eqGuard, binOp, Op.complexOp, Op.Complex.cmp, Op.floatCmp, e1, e2, asBool]
end
attribute [local irreducible] Go.wpList Go.bodyPost Go.Code.wp Go.Exit.then Go.Exit.inBlock Go.Exit.noGoto Ev.wpAnyG Go.Oper.wp Ev.Back Ev.Left Ev.Spc Ev.At Ev.Pure Ev.Reads Ev.Runs Ev.Does Ev.Cell

theorem hasPrefix_spec (l p : List UInt8) (H : Heap) (hl : l.length ≤ 1000000) (hp : p.length ≤ 1000000) :
    Spc Tryd.prog 45 #[sv l, sv p] H fun r H' => H = H' ∧ r = .bool (decide (l.take p.length = p)) := by
  refine spec_of Tryd.func45 rfl Tryd.ntmps45 rfl (fun W => ?_)
  repeat (first | refine codeA (k := ?_) | refine condA (k := ?_) | refine offA (k := ?_) | refine pureA (k := ?_) | refine readA (k := ?_))
  refine At_pure (p_lenS rfl rfl) rfl rfl rfl ?_
  repeat (first | refine codeA (k := ?_) | refine condA (k := ?_) | refine offA (k := ?_) | refine pureA (k := ?_) | refine readA (k := ?_))
  refine At_pure (p_lenS rfl rfl) rfl rfl rfl ?_
  by_cases h : p.length ≤ l.length
  · repeat (first | refine codeA (k := ?_) | refine condA (k := ?_) | refine offA (k := ?_) | refine pureA (k := ?_) | refine readA (k := ?_))
    refine At_pure (p_lenS rfl rfl) rfl rfl rfl ?_
    refine At_pure (p_sliceS_hi rfl rfl h) rfl rfl rfl ?_
    repeat (first | refine codeA (k := ?_) | refine condA (k := ?_) | refine offA (k := ?_) | refine pureA (k := ?_) | refine readA (k := ?_))
    refine At_pure (p_eql_string rfl rfl) rfl rfl rfl ?_
    repeat (first | refine codeA (k := ?_) | refine condA (k := ?_) | refine offA (k := ?_) | refine pureA (k := ?_) | refine readA (k := ?_))
    exact At_ret1 rfl rfl ⟨rfl, rfl⟩
  · repeat (first | refine codeA (k := ?_) | refine condA (k := ?_) | refine offA (k := ?_) | refine pureA (k := ?_) | refine readA (k := ?_))
    refine At_ret1 rfl rfl ⟨rfl, ?_⟩
    rw [decide_eq_false (fun e => h (by rw [← e]; simp; omega))]
theorem cutPrefix0_spec (l p : List UInt8) (H : Heap) (hl : l.length ≤ 1000000) (hp : p.length ≤ 1000000) :
    Spc Tryd.prog 38 #[sv l, sv p] H fun r H' => H = H' ∧ r = if l.take p.length = p then .tuple #[sv (l.drop p.length), .bool true] else .tuple #[sv l, .bool false] := by
  refine spec_of Tryd.func38 rfl Tryd.ntmps38 rfl (fun W => ?_)
  repeat (first | refine codeA (k := ?_) | refine condA (k := ?_) | refine offA (k := ?_) | refine pureA (k := ?_) | refine readA (k := ?_))
  refine At_wp (W_call rfl rfl (hasPrefix_spec l p H hl hp) rfl rfl ?_) rfl
  rintro _ _ ⟨rfl, rfl⟩
  by_cases h : l.take p.length = p
  · rw [decide_eq_true h, if_pos h]
    have hle : p.length ≤ l.length := by
      have := congrArg List.length h
      rw [List.length_take] at this
      omega
    repeat (first | refine codeA (k := ?_) | refine condA (k := ?_) | refine offA (k := ?_) | refine pureA (k := ?_) | refine readA (k := ?_))
    refine At_pure (p_lenS rfl rfl) rfl rfl rfl ?_
    refine At_pure (p_sliceS_lo rfl rfl hle) rfl rfl rfl ?_
    repeat (first | refine codeA (k := ?_) | refine condA (k := ?_) | refine offA (k := ?_) | refine pureA (k := ?_) | refine readA (k := ?_))
    exact At_ret2 rfl rfl rfl ⟨rfl, rfl⟩
  · rw [decide_eq_false h, if_neg h]
    repeat (first | refine codeA (k := ?_) | refine condA (k := ?_) | refine offA (k := ?_) | refine pureA (k := ?_) | refine readA (k := ?_))
    exact At_ret2 rfl rfl rfl ⟨rfl, rfl⟩
theorem cutPrefix_spec (l p : List UInt8) (H : Heap) (hl : l.length ≤ 1000000) (hp : p.length ≤ 1000000) :
    Spc Tryd.prog 29 #[sv l, sv p] H fun r H' => H = H' ∧ r = if l.take p.length = p then .tuple #[sv (l.drop p.length), .bool true] else .tuple #[sv l, .bool false] := by
  refine spec_of Tryd.func29 rfl Tryd.ntmps29 rfl (fun W => ?_)
  repeat (first | refine codeA (k := ?_) | refine condA (k := ?_) | refine offA (k := ?_) | refine pureA (k := ?_) | refine readA (k := ?_))
  refine At_wp (W_call rfl rfl (cutPrefix0_spec l p H hl hp) rfl rfl ?_) rfl
  rintro _ _ ⟨rfl, rfl⟩
  split
  · repeat (first | refine codeA (k := ?_) | refine condA (k := ?_) | refine offA (k := ?_) | refine pureA (k := ?_) | refine readA (k := ?_))
    exact At_ret2 rfl rfl rfl ⟨rfl, rfl⟩
  · repeat (first | refine codeA (k := ?_) | refine condA (k := ?_) | refine offA (k := ?_) | refine pureA (k := ?_) | refine readA (k := ?_))
    exact At_ret2 rfl rfl rfl ⟨rfl, rfl⟩
end Go.Proofs.YticgbdeoiihbmaaDoor
