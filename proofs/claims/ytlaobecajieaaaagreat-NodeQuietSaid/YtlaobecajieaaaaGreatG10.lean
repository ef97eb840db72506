/- A writer of numbers: what each part of a record or a message writes. -/
import Derived.Test.YtlaobecajieaaaaGreatG09
import Derived.Test.YtlaobecajieaaaaGreatG07
namespace Go.Proofs.YtlaobecajieaaaaGreat
open Go Ev
set_option linter.unusedVariables false
set_option linter.unusedSimpArgs false

def uvs (l : List Nat) : List UInt8 := l.flatMap uv
theorem uvs_snoc (l : List Nat) (v : Nat) : uvs (l ++ [v]) = uvs l ++ uv v := by simp [uvs]
theorem uvs_len : ∀ (l : List Nat), (∀ v ∈ l, v < 18446744073709551616) → (uvs l).length ≤ 10 * l.length
  | [], _ => by simp [uvs]
  | v :: r, h => by
    have h1 := uv_len 10 v (by have := h v (by simp); omega) (by decide)
    have h2 := uvs_len r (fun x hx => h x (by simp [hx]))
    simp only [uvs, List.flatMap_cons, List.length_append, List.length_cons] at *
    omega
/-- a writer that has written these numbers -/
structure Wt (D : Nat → Prop) (H : Heap) (g : Nat) (l : List Nat) : Prop where
  wr : Wr D H g (uvs l)
  all : ∀ v ∈ l, v < 18446744073709551616
theorem Wt.weak {D D' : Nat → Prop} {H : Heap} {g : Nat} {l : List Nat} (h : Wt D' H g l) (hs : ∀ k, D k → D' k) : Wt D H g l := ⟨h.wr.weak hs, h.all⟩
theorem Wt.more {D : Nat → Prop} {H H' : Heap} {g p : Nat} {l : List Nat} {o : Obj} (h : Wt D H g l) (hn : New H H' p o) : Wt (fun b => D b ∨ b = p) H' g l := ⟨h.wr.more hn, h.all⟩
theorem KeptD.new {D : Nat → Prop} {H H' : Heap} {p : Nat} {o : Obj} (hn : New H H' p o) : KeptD D H H' := hn.ext.mono (fun _ f _ => f.elim)
/-- writing: what it comes to -/
def WP (D : Nat → Prop) (g : Nat) (l : List Nat) (H : Heap) (r : Value) (H' : Heap) : Prop := r = .tuple #[] ∧ KeptD D H H' ∧ Wt D H' g l
def nv (k : Nat) : Value := .int .i64 (k : Int)
structure Jo where
  ia : Nat
  inn : Nat
  user : Nat
  need : Nat
  wall : Nat
  run_ : Nat
  base : Nat
  aft : Nat
  sites : List Nat
  pact : Bool
def jo0 : Jo := ⟨0, 0, 0, 0, 0, 0, 0, 0, [], false⟩
def jobC (j : Jo) (sv : Value) : List Value := [.int .i64 j.ia, .int .i64 j.inn, .int .i64 j.user, amt j.need, .int .i64 j.wall, .int .i64 j.run_, .int .i64 j.base, .int .i64 j.aft, sv, .bool j.pact]
def bt (b : Bool) : Nat := if b then 1 else 0
def jobT (j : Jo) : List Nat := [2 * j.ia, 2 * j.inn, 2 * j.user, j.need, 0, 2 * j.wall, 2 * j.run_, 2 * j.base, 2 * j.aft] ++ (j.sites.length :: j.sites.map (2 * ·)) ++ [bt j.pact]
structure JoOk (j : Jo) : Prop where
  a : j.ia < 4611686018427387904
  b : j.inn < 4611686018427387904
  c : j.user < 4611686018427387904
  d : j.need ≤ 2
  e : j.wall < 4611686018427387904
  f : j.run_ < 4611686018427387904
  g : j.base < 4611686018427387904
  h : j.aft < 4611686018427387904
  i : j.sites.length ≤ 8
  k : ∀ s ∈ j.sites, s < 4611686018427387904
/-- a slice whose elements are f of the list's -/
def Vs {α : Type} (f : α → Value) (H : Heap) (v : Value) (xs : List α) : Prop :=
  ∃ p c, v = .slice p xs.length c ∧ xs.length ≤ c ∧ ∀ (i : Nat) (x : α), xs[i]? = some x → ∃ b o, p = some ⟨b, o, none⟩ ∧ Cell H b (o + i) (f x)
theorem Vs.on {α : Type} {f : α → Value} {H H' : Heap} {v : Value} {xs : List α} (h : Vs f H v xs) (hx : Ext H H') : Vs f H' v xs := by
  obtain ⟨p, c, e, hc, h⟩ := h
  refine ⟨p, c, e, hc, fun i x hi => ?_⟩
  obtain ⟨b, o, e, hb⟩ := h i x hi
  exact ⟨b, o, e, hb.keep hx (fun f => f)⟩
theorem Vs.nil {α : Type} (f : α → Value) (H : Heap) (c : Nat) : Vs f H (.slice none 0 c) [] := ⟨none, c, rfl, Nat.zero_le _, fun i x h => by simp at h⟩
/-- .. in blocks that D lets alone -/
def VsD {α : Type} (D : Nat → Prop) (f : α → Value) (H : Heap) (v : Value) (xs : List α) : Prop :=
  ∃ p c, v = .slice p xs.length c ∧ xs.length ≤ c ∧ ∀ (i : Nat) (x : α), xs[i]? = some x → ∃ b o, p = some ⟨b, o, none⟩ ∧ D b ∧ Cell H b (o + i) (f x)
theorem VsD.keep {α : Type} {D : Nat → Prop} {f : α → Value} {H H' : Heap} {v : Value} {xs : List α} (h : VsD D f H v xs) (hk : KeptD D H H') : VsD D f H' v xs := by
  obtain ⟨p, c, e, hc, h⟩ := h
  refine ⟨p, c, e, hc, fun i x hi => ?_⟩
  obtain ⟨b, o, e, hD, hb⟩ := h i x hi
  exact ⟨b, o, e, hD, hb.keep hk (fun f => f hD)⟩
theorem VsD.weak {α : Type} {D D' : Nat → Prop} {f : α → Value} {H : Heap} {v : Value} {xs : List α} (h : VsD D f H v xs) (hs : ∀ k, D k → D' k) : VsD D' f H v xs := by
  obtain ⟨p, c, e, hc, h⟩ := h
  refine ⟨p, c, e, hc, fun i x hi => ?_⟩
  obtain ⟨b, o, e, hD, hb⟩ := h i x hi
  exact ⟨b, o, e, hs b hD, hb⟩
theorem VsD.nil {α : Type} (D : Nat → Prop) (f : α → Value) (H : Heap) (c : Nat) : VsD D f H (.slice none 0 c) [] := ⟨none, c, rfl, Nat.zero_le _, fun i x h => by simp at h⟩
theorem VsD.some {α : Type} {D : Nat → Prop} {f : α → Value} {H : Heap} {v : Value} {xs : List α} (h : VsD D f H v xs) (hne : xs ≠ []) : ∃ b o c, v = .slice (Option.some ⟨b, o, Option.none⟩) xs.length c ∧ xs.length ≤ c ∧ D b ∧ ∀ (i : Nat) (x : α), xs[i]? = Option.some x → Cell H b (o + i * 1) (f x) := by
  obtain ⟨p, c, rfl, hc, h⟩ := h
  cases xs with
  | nil => exact absurd rfl hne
  | cons x0 r =>
    obtain ⟨b, o, rfl, hD, _⟩ := h 0 x0 rfl
    refine ⟨b, o, c, rfl, hc, hD, fun i x hx => ?_⟩
    obtain ⟨b', o', e, _, hb⟩ := h i x hx
    simp only [Option.some.injEq, Addr.mk.injEq] at e
    obtain ⟨rfl, rfl, _⟩ := e
    rw [Nat.mul_one]
    exact hb
theorem sub_cells {l cs : List Value} {H : Heap} {b : Nat} {t : TypeId} {fr : Nat × Nat} (hb : H[b]? = some (.cells l.toArray t fr)) (o : Nat) (h : (l.drop o).take cs.length = cs) : ∀ (j : Nat) (u : Value), cs[j]? = some u → Cell H b (0 + o + j) u := fun j u hj => by
  refine Cell.of hb ?_
  rw [← h, List.getElem?_take] at hj
  split at hj
  · rw [List.getElem?_drop] at hj
    simpa using hj
  · cases hj
attribute [local irreducible] Go.wpList Go.bodyPost Go.Code.wp Go.Exit.then Go.Exit.inBlock Go.Exit.noGoto Ev.wpAnyG Go.Oper.wp Ev.Back Ev.Left Ev.Spc Ev.At Ev.Pure Ev.Reads Ev.Runs Ev.Does Ev.Cell

theorem wuint_spec {D : Nat → Prop} {H : Heap} {g : Nat} {l : List Nat} (h : Wt D H g l) (v : Nat) (hv : v < 18446744073709551616) (hl : l.length ≤ 9000) :
    Spc Tryz.prog 119 #[.pointer (some ⟨g, 0, none⟩), .int .u64 v] H fun r H' => WP D g (l ++ [v]) H r H' :=
  (uint_spec h.wr v hv (by have := uvs_len l h.all; omega)).mono fun r H' ⟨h1, h2, h3⟩ => ⟨h1, h2, uvs_snoc l v ▸ h3, fun x hx => by
    rcases List.mem_append.1 hx with hx | hx
    · exact h.all x hx
    · rw [List.mem_singleton.1 hx]; exact hv⟩
theorem wint_spec {D : Nat → Prop} {H : Heap} {g : Nat} {l : List Nat} (h : Wt D H g l) (n : Nat) (hv : n < 4611686018427387904) (hl : l.length ≤ 9000) :
    Spc Tryz.prog 120 #[.pointer (some ⟨g, 0, none⟩), .int .i64 n] H fun r H' => WP D g (l ++ [2 * n]) H r H' := by
  refine spec_of Tryz.func120 rfl Tryz.ntmps120 rfl (fun W => ?_)
  repeat (first | refine codeA (k := ?_) | refine condA (k := ?_) | refine offA (k := ?_) | refine pureA (k := ?_) | refine readA (k := ?_))
  refine At_pure (p_convInt rfl) rfl rfl rfl ?_
  refine At_tell 8 (.int .u64 (n : Nat)) rfl (by rw [IntWalk.u64_in _ (by omega)]) ?_
  refine At_pure (p_shl64 (b := 1) rfl rfl (by decide) (by omega)) rfl rfl rfl ?_
  refine At_tell 9 (.int .u64 (2 * n : Nat)) rfl (by congr 2; omega) ?_
  refine At_wp (W_call rfl rfl (wuint_spec h (2 * n) (by omega) hl) rfl rfl ?_) rfl
  rintro _ H1 ⟨rfl, hk, hw⟩
  repeat (first | refine codeA (k := ?_) | refine condA (k := ?_) | refine offA (k := ?_) | refine pureA (k := ?_) | refine readA (k := ?_))
  exact At_ret0 rfl ⟨rfl, hk, hw⟩ (.inr rfl)
theorem wmark_spec {D : Nat → Prop} {H : Heap} {g : Nat} {l : List Nat} (h : Wt D H g l) (b : Bool) (hl : l.length ≤ 9000) :
    Spc Tryz.prog 122 #[.pointer (some ⟨g, 0, none⟩), .bool b] H fun r H' => WP D g (l ++ [bt b]) H r H' := by
  refine spec_of Tryz.func122 rfl Tryz.ntmps122 rfl (fun W => ?_)
  cases b
  · repeat (first | refine codeA (k := ?_) | refine condA (k := ?_) | refine offA (k := ?_) | refine pureA (k := ?_) | refine readA (k := ?_))
    refine At_wp (W_call rfl rfl (wuint_spec h 0 (by decide) hl) rfl rfl ?_) rfl
    rintro _ H1 ⟨rfl, hk, hw⟩
    repeat (first | refine codeA (k := ?_) | refine condA (k := ?_) | refine offA (k := ?_) | refine pureA (k := ?_) | refine readA (k := ?_))
    exact At_ret0 rfl ⟨rfl, hk, hw⟩ (.inl rfl)
  · repeat (first | refine codeA (k := ?_) | refine condA (k := ?_) | refine offA (k := ?_) | refine pureA (k := ?_) | refine readA (k := ?_))
    refine At_wp (W_call rfl rfl (wuint_spec h 1 (by decide) hl) rfl rfl ?_) rfl
    rintro _ H1 ⟨rfl, hk, hw⟩
    repeat (first | refine codeA (k := ?_) | refine condA (k := ?_) | refine offA (k := ?_) | refine pureA (k := ?_) | refine readA (k := ?_))
    exact At_ret0 rfl ⟨rfl, hk, hw⟩ (.inr rfl)
theorem toInt_fw (k : Nat) (hk : k ≤ 2) : Conv.floatToInt .f64 (fw k) .i64 = (pure (.int .i64 (k : Int)) : Sem Value) := by
  have h : k = 0 ∨ k = 1 ∨ k = 2 := by omega
  rcases h with rfl | rfl | rfl
  · show Conv.floatToInt .f64 0 .i64 = (pure (.int .i64 0) : Sem Value); kernel_rfl
  · show Conv.floatToInt .f64 4607182418800017408 .i64 = (pure (.int .i64 1) : Sem Value); kernel_rfl
  · show Conv.floatToInt .f64 4611686018427387904 .i64 = (pure (.int .i64 2) : Sem Value); kernel_rfl
theorem parts_spec (k : Nat) (hk : k ≤ 2) (H : Heap) : Spc Tryz.prog 204 #[amt k] H fun r H' => H = H' ∧ r = .tuple #[.int .i64 k, .int .i64 0, .int .i64 0] := by
  refine spec_of Tryz.func204 rfl Tryz.ntmps204 rfl (fun W => ?_)
  repeat (first | refine codeA (k := ?_) | refine condA (k := ?_) | refine offA (k := ?_) | refine pureA (k := ?_) | refine readA (k := ?_))
  refine At_wp (W_call rfl rfl (right_spec k H) rfl rfl ?_) rfl
  rintro _ _ ⟨rfl, rfl⟩
  repeat (first | refine codeA (k := ?_) | refine condA (k := ?_) | refine offA (k := ?_) | refine pureA (k := ?_) | refine readA (k := ?_))
  refine At_pure (p_real rfl) rfl rfl rfl ?_
  refine At_pure (p_convFI k rfl (toInt_fw k hk)) rfl rfl rfl ?_
  repeat (first | refine codeA (k := ?_) | refine condA (k := ?_) | refine offA (k := ?_) | refine pureA (k := ?_) | refine readA (k := ?_))
  refine At_pure (p_imag rfl) rfl rfl rfl ?_
  refine At_pure (p_convFI 0 rfl (by kernel_rfl)) rfl rfl rfl ?_
  repeat (first | refine codeA (k := ?_) | refine condA (k := ?_) | refine offA (k := ?_) | refine pureA (k := ?_) | refine readA (k := ?_))
  exact At_ret3 rfl rfl rfl rfl ⟨rfl, rfl⟩
theorem wamount_spec {D : Nat → Prop} {H : Heap} {g : Nat} {l : List Nat} (h : Wt D H g l) (k : Nat) (hk : k ≤ 2) (hl : l.length ≤ 8950) :
    Spc Tryz.prog 181 #[.pointer (some ⟨g, 0, none⟩), amt k] H fun r H' => WP D g (l ++ [k, 0]) H r H' := by
  refine spec_of Tryz.func181 rfl Tryz.ntmps181 rfl (fun W => ?_)
  repeat (first | refine codeA (k := ?_) | refine condA (k := ?_) | refine offA (k := ?_) | refine pureA (k := ?_) | refine readA (k := ?_))
  refine At_wp (W_call rfl rfl (parts_spec k hk H) rfl rfl ?_) rfl
  rintro _ _ ⟨rfl, rfl⟩
  repeat (first | refine codeA (k := ?_) | refine condA (k := ?_) | refine offA (k := ?_) | refine pureA (k := ?_) | refine readA (k := ?_))
  refine At_pure (p_convInt rfl) rfl rfl rfl ?_
  refine At_tell 20 (.int .u64 (k : Nat)) rfl (by rw [IntWalk.u64_in _ (by omega)]) ?_
  refine At_wp (W_call rfl rfl (wuint_spec h k (by omega) (by omega)) rfl rfl ?_) rfl
  rintro _ H1 ⟨rfl, hk1, hw⟩
  repeat (first | refine codeA (k := ?_) | refine condA (k := ?_) | refine offA (k := ?_) | refine pureA (k := ?_) | refine readA (k := ?_))
  refine At_pure (p_convInt rfl) rfl rfl rfl ?_
  refine At_tell 24 (.int .u64 (0 : Nat)) rfl rfl ?_
  refine At_wp (W_call rfl rfl (wuint_spec hw 0 (by omega) (by first | omega | (simp; omega))) rfl rfl ?_) rfl
  rintro _ H2 ⟨rfl, hk2, hw⟩
  repeat (first | refine codeA (k := ?_) | refine condA (k := ?_) | refine offA (k := ?_) | refine pureA (k := ?_) | refine readA (k := ?_))
  refine At_ret0 rfl ⟨rfl, hk1.trans hk2, ?_⟩ (.inl rfl)
  simpa using hw
set_option maxHeartbeats 4000000 in
theorem wid_spec {D : Nat → Prop} {H : Heap} {g : Nat} {l : List Nat} (a b : Nat) (hw : Wt D H g l) (ha : a < 4611686018427387904) (hb : b < 4611686018427387904) (hl : l.length ≤ 8900) :
    Spc Tryz.prog 121 #[.pointer (some ⟨g, 0, none⟩), .agg [.int .i64 (a : Int), .int .i64 (b : Int)].toArray] H fun r H' => WP D g (l ++ [2 * a, 2 * b]) H r H' := by
  refine spec_of Tryz.func121 rfl Tryz.ntmps121 rfl (fun W => ?_)
  repeat (first | refine codeA (k := ?_) | refine condA (k := ?_) | refine offA (k := ?_) | refine pureA (k := ?_) | refine readA (k := ?_))
  refine At_wp (W_box (cs := [.int .i64 (a : Int), .int .i64 (b : Int)].toArray) rfl rfl rfl ?_) rfl
  intro p H1 np
  have hw := hw.more np
  have rp := np.at_
  have hK : KeptD (fun b => D b ∨ b = p) H1 H1 := Kept.refl _ _
  repeat (first | refine codeA (k := ?_) | refine condA (k := ?_) | refine offA (k := ?_) | refine pureA (k := ?_) | refine readA (k := ?_))
  refine At_draw [4] (fun H' => H'[p]? = some (.cells [.int .i64 (a : Int), .int .i64 (b : Int)].toArray 23 (0, 0))) Tryz.mixed ?_
  first | refine gA 0 (k := ?_) | refine goffA 0 (k := ?_)
  first | refine gA 1 (k := ?_) | refine goffA 1 (k := ?_)
  first | refine gA 2 (k := ?_) | refine goffA 2 (k := ?_)
  first | refine gA 3 (k := ?_) | refine goffA 3 (k := ?_)
  refine grA 4 rp (fun H' hS' => r_load rfl rfl (Cell.of hS' rfl)) (k := ?_)
  refine G_op 5 rfl (by kernel_rfl) rfl (W_call rfl rfl (wint_spec hw a ha (by first | omega | (simp; omega))) rfl rfl ?_) 
  rintro _ H ⟨rfl, hk, hw⟩
  refine G_free (by kernel_rfl) ?_
  refine G_done (by kernel_rfl) ?_
  have rp := hk.keep rp (.inr rfl)
  have hK := hK.trans hk
  repeat (first | refine codeA (k := ?_) | refine condA (k := ?_) | refine offA (k := ?_) | refine pureA (k := ?_) | refine readA (k := ?_))
  refine At_draw [4] (fun H' => H'[p]? = some (.cells [.int .i64 (a : Int), .int .i64 (b : Int)].toArray 23 (0, 0))) Tryz.mixed ?_
  first | refine gA 0 (k := ?_) | refine goffA 0 (k := ?_)
  first | refine gA 1 (k := ?_) | refine goffA 1 (k := ?_)
  first | refine gA 2 (k := ?_) | refine goffA 2 (k := ?_)
  first | refine gA 3 (k := ?_) | refine goffA 3 (k := ?_)
  refine grA 4 rp (fun H' hS' => r_load rfl rfl (Cell.of hS' rfl)) (k := ?_)
  refine G_op 5 rfl (by kernel_rfl) rfl (W_call rfl rfl (wint_spec hw b hb (by first | omega | (simp; omega))) rfl rfl ?_) 
  rintro _ H ⟨rfl, hk, hw⟩
  refine G_free (by kernel_rfl) ?_
  refine G_done (by kernel_rfl) ?_
  have rp := hk.keep rp (.inr rfl)
  have hK := hK.trans hk
  repeat (first | refine codeA (k := ?_) | refine condA (k := ?_) | refine offA (k := ?_) | refine pureA (k := ?_) | refine readA (k := ?_))
  refine At_ret0 rfl ⟨rfl, (KeptD.new np).trans (hK.weak (fun k h => .inl h)), ?_⟩ (.inl rfl)
  have hw := hw.weak (fun k (h : D k) => (.inl h : D k ∨ k = p))
  simpa [jobT] using hw

set_option maxHeartbeats 4000000 in
theorem wbusy_spec {D : Nat → Prop} {H : Heap} {g : Nat} {l : List Nat} (a b k : Nat) (hw : Wt D H g l) (ha : a < 4611686018427387904) (hb : b < 4611686018427387904) (hk2 : k ≤ 2) (hl : l.length ≤ 8900) :
    Spc Tryz.prog 161 #[.pointer (some ⟨g, 0, none⟩), .agg [.int .i64 (a : Int), .int .i64 (b : Int), amt k].toArray] H fun r H' => WP D g (l ++ [2 * a, 2 * b, k, 0]) H r H' := by
  refine spec_of Tryz.func161 rfl Tryz.ntmps161 rfl (fun W => ?_)
  repeat (first | refine codeA (k := ?_) | refine condA (k := ?_) | refine offA (k := ?_) | refine pureA (k := ?_) | refine readA (k := ?_))
  refine At_wp (W_box (cs := [.int .i64 (a : Int), .int .i64 (b : Int), amt k].toArray) rfl rfl rfl ?_) rfl
  intro p H1 np
  have hw := hw.more np
  have rp := np.at_
  have hK : KeptD (fun b => D b ∨ b = p) H1 H1 := Kept.refl _ _
  repeat (first | refine codeA (k := ?_) | refine condA (k := ?_) | refine offA (k := ?_) | refine pureA (k := ?_) | refine readA (k := ?_))
  refine At_draw [4] (fun H' => H'[p]? = some (.cells [.int .i64 (a : Int), .int .i64 (b : Int), amt k].toArray 73 (0, 0))) Tryz.mixed ?_
  first | refine gA 0 (k := ?_) | refine goffA 0 (k := ?_)
  first | refine gA 1 (k := ?_) | refine goffA 1 (k := ?_)
  first | refine gA 2 (k := ?_) | refine goffA 2 (k := ?_)
  first | refine gA 3 (k := ?_) | refine goffA 3 (k := ?_)
  refine grA 4 rp (fun H' hS' => r_load rfl rfl (Cell.of hS' rfl)) (k := ?_)
  refine G_op 5 rfl (by kernel_rfl) rfl (W_call rfl rfl (wint_spec hw a ha (by first | omega | (simp; omega))) rfl rfl ?_) 
  rintro _ H ⟨rfl, hk, hw⟩
  refine G_free (by kernel_rfl) ?_
  refine G_done (by kernel_rfl) ?_
  have rp := hk.keep rp (.inr rfl)
  have hK := hK.trans hk
  repeat (first | refine codeA (k := ?_) | refine condA (k := ?_) | refine offA (k := ?_) | refine pureA (k := ?_) | refine readA (k := ?_))
  refine At_draw [4] (fun H' => H'[p]? = some (.cells [.int .i64 (a : Int), .int .i64 (b : Int), amt k].toArray 73 (0, 0))) Tryz.mixed ?_
  first | refine gA 0 (k := ?_) | refine goffA 0 (k := ?_)
  first | refine gA 1 (k := ?_) | refine goffA 1 (k := ?_)
  first | refine gA 2 (k := ?_) | refine goffA 2 (k := ?_)
  first | refine gA 3 (k := ?_) | refine goffA 3 (k := ?_)
  refine grA 4 rp (fun H' hS' => r_load rfl rfl (Cell.of hS' rfl)) (k := ?_)
  refine G_op 5 rfl (by kernel_rfl) rfl (W_call rfl rfl (wint_spec hw b hb (by first | omega | (simp; omega))) rfl rfl ?_) 
  rintro _ H ⟨rfl, hk, hw⟩
  refine G_free (by kernel_rfl) ?_
  refine G_done (by kernel_rfl) ?_
  have rp := hk.keep rp (.inr rfl)
  have hK := hK.trans hk
  repeat (first | refine codeA (k := ?_) | refine condA (k := ?_) | refine offA (k := ?_) | refine pureA (k := ?_) | refine readA (k := ?_))
  refine At_draw [4] (fun H' => H'[p]? = some (.cells [.int .i64 (a : Int), .int .i64 (b : Int), amt k].toArray 73 (0, 0))) Tryz.mixed ?_
  first | refine gA 0 (k := ?_) | refine goffA 0 (k := ?_)
  first | refine gA 1 (k := ?_) | refine goffA 1 (k := ?_)
  first | refine gA 2 (k := ?_) | refine goffA 2 (k := ?_)
  first | refine gA 3 (k := ?_) | refine goffA 3 (k := ?_)
  refine grA 4 rp (fun H' hS' => r_load rfl rfl (Cell.of hS' rfl)) (k := ?_)
  refine G_op 5 rfl (by kernel_rfl) rfl (W_call rfl rfl (wamount_spec hw k hk2 (by first | omega | (simp; omega))) rfl rfl ?_) 
  rintro _ H ⟨rfl, hk, hw⟩
  refine G_free (by kernel_rfl) ?_
  refine G_done (by kernel_rfl) ?_
  have rp := hk.keep rp (.inr rfl)
  have hK := hK.trans hk
  repeat (first | refine codeA (k := ?_) | refine condA (k := ?_) | refine offA (k := ?_) | refine pureA (k := ?_) | refine readA (k := ?_))
  refine At_ret0 rfl ⟨rfl, (KeptD.new np).trans (hK.weak (fun k h => .inl h)), ?_⟩ (.inl rfl)
  have hw := hw.weak (fun k (h : D k) => (.inl h : D k ∨ k = p))
  simpa [jobT] using hw

theorem wlist_int_spec {D : Nat → Prop} {H : Heap} {g : Nat} {l : List Nat} {v : Value} (xs : List Nat) (hw : Wt D H g l) (hv : VsD D nv H v xs) (hx : ∀ x ∈ xs, x < 4611686018427387904) (h8 : xs.length ≤ 8) (hl : l.length ≤ 8950) :
    Spc Tryz.prog 218 #[.pointer (some ⟨g, 0, none⟩), v, .int .i64 8, .func (.func 120) #[.pointer (some ⟨g, 0, none⟩)] #[]] H fun r H' => WP D g (l ++ (xs.length :: xs.map (2 * ·))) H r H' := by
  obtain ⟨q, c, rfl, hc, _⟩ := id hv
  refine spec_of Tryz.func218 rfl Tryz.ntmps218 rfl (fun W => ?_)
  repeat (first | refine codeA (k := ?_) | refine condA (k := ?_) | refine offA (k := ?_) | refine pureA (k := ?_) | refine readA (k := ?_))
  refine At_pure (p_convInt rfl) rfl rfl rfl ?_
  refine At_tell 22 (.int .u64 (xs.length : Nat)) rfl (by rw [IntWalk.u64_in _ (by omega)]) ?_
  refine At_wp (W_call rfl rfl (wuint_spec hw xs.length (by omega) (by omega)) rfl rfl ?_) rfl
  rintro _ H1 ⟨rfl, hk1, hw⟩
  repeat (first | refine codeA (k := ?_) | refine condA (k := ?_) | refine offA (k := ?_) | refine pureA (k := ?_) | refine readA (k := ?_))
  refine At_block ?_
  refine At_loop (fun (s : Nat) => [(3, .func (.func 120) #[.pointer (some ⟨g, 0, none⟩)] #[]), (24, .slice q xs.length c), (25, .int .i64 xs.length), (26, .int .i64 s)]) (fun s H' => KeptD D H H' ∧ s ≤ xs.length ∧ Wt D H' g (l ++ [xs.length] ++ (xs.take s).map (2 * ·))) (fun s => xs.length - s) 0 ?_ ⟨hk1, Nat.zero_le _, by simpa using hw⟩ ?_
  · (repeat (first | exact Sub.nil | refine Sub.cons rfl ?_))
  rintro i H2 ⟨hk2, hi, hw⟩
  by_cases hil : i < xs.length
  rotate_left
  · obtain rfl : i = xs.length := by omega
    repeat (first | refine codeA (k := ?_) | refine condA (k := ?_) | refine offA (k := ?_) | refine pureA (k := ?_) | refine readA (k := ?_))
    exact At_ret0 rfl ⟨rfl, hk2, by simpa using hw⟩ (.inl rfl)
  have hxi : xs[i]? = some xs[i] := by simp [hil]
  have hxl : xs[i] < 4611686018427387904 := hx _ (List.getElem_mem _)
  have htk : xs.take (i + 1) = xs.take i ++ [xs[i]] := by rw [List.take_add_one, hxi]; rfl
  generalize xs[i] = x at hxi hxl htk
  obtain ⟨b, o, c', e, _, _, hcell⟩ := (hv.keep hk2).some (fun e => by rw [e] at hil; simp at hil)
  cases e
  have cx : Cell H2 b (o + i * 1) (.int .i64 (x : Int)) := hcell i x hxi
  repeat (first | refine codeA (k := ?_) | refine condA (k := ?_) | refine offA (k := ?_) | refine pureA (k := ?_) | refine readA (k := ?_) | refine At_block ?_)
  refine At_wp (W_call_bound (first := [.pointer (some ⟨g, 0, none⟩)]) (cap := []) rfl rfl rfl (wint_spec hw x hxl (by simp; omega)) rfl rfl ?_) rfl
  rintro _ H3 ⟨rfl, hk3, hw⟩
  repeat (first | refine codeA (k := ?_) | refine condA (k := ?_) | refine offA (k := ?_) | refine pureA (k := ?_) | refine readA (k := ?_))
  refine At_tell 26 (.int .i64 (i + 1 : Nat)) rfl rfl ?_
  refine At_back (i + 1) ?_ ⟨hk2.trans hk3, hil, ?_⟩ (by omega)
  · (repeat (first | exact Sub.nil | refine Sub.cons rfl ?_))
  · rw [htk]
    simpa using hw
theorem wlist_span0_spec {D : Nat → Prop} {H : Heap} {g : Nat} {l : List Nat} {fv : Value} (hw : Wt D H g l) (hl : l.length ≤ 8950) :
    Spc Tryz.prog 124 #[.pointer (some ⟨g, 0, none⟩), .slice none 0 0, .int .i64 8, fv] H fun r H' => WP D g (l ++ [0]) H r H' := by
  refine spec_of Tryz.func124 rfl Tryz.ntmps124 rfl (fun W => ?_)
  repeat (first | refine codeA (k := ?_) | refine condA (k := ?_) | refine offA (k := ?_) | refine pureA (k := ?_) | refine readA (k := ?_))
  refine At_pure (p_convInt rfl) rfl rfl rfl ?_
  refine At_tell 22 (.int .u64 (0 : Nat)) rfl rfl ?_
  refine At_wp (W_call rfl rfl (wuint_spec hw 0 (by decide) (by omega)) rfl rfl ?_) rfl
  rintro _ H1 ⟨rfl, hk1, hw⟩
  repeat (first | refine codeA (k := ?_) | refine condA (k := ?_) | refine offA (k := ?_) | refine pureA (k := ?_) | refine readA (k := ?_))
  refine At_block ?_
  refine At_loop (fun (s : Unit) => [(25, .int .i64 0), (26, .int .i64 0)]) (fun s H' => H' = H1) (fun s => 0) () ?_ rfl ?_
  · (repeat (first | exact Sub.nil | refine Sub.cons rfl ?_))
  rintro _ _ rfl
  repeat (first | refine codeA (k := ?_) | refine condA (k := ?_) | refine offA (k := ?_) | refine pureA (k := ?_) | refine readA (k := ?_))
  exact At_ret0 rfl ⟨rfl, hk1, hw⟩ (.inl rfl)
theorem wlist_slot0_spec {D : Nat → Prop} {H : Heap} {g : Nat} {l : List Nat} {fv : Value} (hw : Wt D H g l) (hl : l.length ≤ 8950) :
    Spc Tryz.prog 162 #[.pointer (some ⟨g, 0, none⟩), .slice none 0 0, .int .i64 256, fv] H fun r H' => WP D g (l ++ [0]) H r H' := by
  refine spec_of Tryz.func162 rfl Tryz.ntmps162 rfl (fun W => ?_)
  repeat (first | refine codeA (k := ?_) | refine condA (k := ?_) | refine offA (k := ?_) | refine pureA (k := ?_) | refine readA (k := ?_))
  refine At_pure (p_convInt rfl) rfl rfl rfl ?_
  refine At_tell 22 (.int .u64 (0 : Nat)) rfl rfl ?_
  refine At_wp (W_call rfl rfl (wuint_spec hw 0 (by decide) (by omega)) rfl rfl ?_) rfl
  rintro _ H1 ⟨rfl, hk1, hw⟩
  repeat (first | refine codeA (k := ?_) | refine condA (k := ?_) | refine offA (k := ?_) | refine pureA (k := ?_) | refine readA (k := ?_))
  refine At_block ?_
  refine At_loop (fun (s : Unit) => [(25, .int .i64 0), (26, .int .i64 0)]) (fun s H' => H' = H1) (fun s => 0) () ?_ rfl ?_
  · (repeat (first | exact Sub.nil | refine Sub.cons rfl ?_))
  rintro _ _ rfl
  repeat (first | refine codeA (k := ?_) | refine condA (k := ?_) | refine offA (k := ?_) | refine pureA (k := ?_) | refine readA (k := ?_))
  exact At_ret0 rfl ⟨rfl, hk1, hw⟩ (.inl rfl)
end Go.Proofs.YtlaobecajieaaaaGreat
/- Jobs, records and messages written; their bytes. -/
namespace Go.Proofs.YtlaobecajieaaaaGreat
open Go Ev
set_option linter.unusedVariables false
set_option linter.unusedSimpArgs false

structure Rc where
  kind : Nat
  ia : Nat
  inn : Nat
  site : Nat
  tok : Nat
  tick : Nat
  until_ : Nat
  how : Nat
  on : Bool
  job : Jo
def recC (r : Rc) (sv : Value) : List Value := [.int .i64 r.kind, .int .i64 r.ia, .int .i64 r.inn, .int .i64 r.site, .int .i64 r.tok, .int .i64 r.tick, .int .i64 r.until_, .int .i64 r.how, .bool r.on] ++ jobC r.job sv ++ [.int .i64 0, .int .i64 0, amt 0, .slice none 0 0, .slice none 0 0]
def recT (r : Rc) : List Nat := [2 * r.kind, 2 * r.ia, 2 * r.inn, 2 * r.site, 2 * r.tok, 2 * r.tick, 2 * r.until_, 2 * r.how, bt r.on] ++ jobT r.job ++ [0, 0, 0, 0, 0, 0]
structure RcOk (r : Rc) : Prop where
  a : r.kind < 4611686018427387904
  b : r.ia < 4611686018427387904
  c : r.inn < 4611686018427387904
  d : r.site < 4611686018427387904
  e : r.tok < 4611686018427387904
  f : r.tick < 4611686018427387904
  g : r.until_ < 4611686018427387904
  h : r.how < 4611686018427387904
  j : JoOk r.job
structure Ms where
  kind : Nat
  ia : Nat
  inn : Nat
  tok : Nat
  tick : Nat
  how : Nat
  on : Bool
  job : Jo
def msgC (m : Ms) (sv : Value) : List Value := [.int .i64 m.kind, .int .i64 m.ia, .int .i64 m.inn, .int .i64 m.tok, .int .i64 m.tick, .int .i64 m.how, .bool m.on] ++ jobC m.job sv ++ [.slice none 0 0]
def msgT (m : Ms) : List Nat := [2 * m.kind, 2 * m.ia, 2 * m.inn, 2 * m.tok, 2 * m.tick, 2 * m.how, bt m.on] ++ jobT m.job ++ [0]
structure MsOk (m : Ms) : Prop where
  a : m.kind < 4611686018427387904
  b : m.ia < 4611686018427387904
  c : m.inn < 4611686018427387904
  e : m.tok < 4611686018427387904
  f : m.tick < 4611686018427387904
  h : m.how < 4611686018427387904
  j : JoOk m.job
theorem jobT_len {j : Jo} (h : JoOk j) : (jobT j).length ≤ 19 := by
  have := h.i
  simp [jobT]; omega
theorem Wr.keepP {D : Nat → Prop} {H H' : Heap} {g p : Nat} {bs : List UInt8} (h : Wr (fun b => D b ∨ b = p) H g bs) (hk : Kept (· = p) H H') : Wr (fun b => D b ∨ b = p) H' g bs := by
  obtain ⟨bv, h1, h2, h3⟩ := h.blk
  have hg : g ≠ p := fun e => h.nD (.inr e)
  exact ⟨fun b hb => Nat.lt_of_lt_of_le (h.lt b hb) hk.size, h.nD, bv, hk.keep h1 hg, h2.keep hk (fun b e e2 => (h3 b e).2 (.inr e2)) (fun _ _ _ r => r), h3⟩
theorem own_bytes {H : Heap} {bv : Value} {bs : List UInt8} (h : OwnL H 5 1 BR bv bs) : BytesAt (fun b => bv.ownBlock = some b) H bv bs := by
  rcases h.form with ⟨rfl, rfl⟩ | ⟨g, c, rfl, h1, h2, h3⟩
  · exact BytesAt.nil _ _
  · refine BytesAt.mk h2 h3 rfl (fun i x hx => ?_)
    obtain ⟨row, hr, hl, hc⟩ := h.cells hx
    rw [show row = [Value.int .u8 x.toNat] from hr] at hc
    have := hc 0 _ rfl
    rw [show 0 + i = i * 1 + 0 by omega]
    exact this
attribute [local irreducible] Go.wpList Go.bodyPost Go.Code.wp Go.Exit.then Go.Exit.inBlock Go.Exit.noGoto Ev.wpAnyG Go.Oper.wp Ev.Back Ev.Left Ev.Spc Ev.At Ev.Pure Ev.Reads Ev.Runs Ev.Does Ev.Cell

set_option maxHeartbeats 4000000 in
theorem wjob_spec {D : Nat → Prop} {H : Heap} {g : Nat} {l : List Nat} (j : Jo) {sv : Value} (hw : Wt D H g l) (ok : JoOk j) (hs : VsD D nv H sv j.sites) (hl : l.length ≤ 8800) :
    Spc Tryz.prog 123 #[.pointer (some ⟨g, 0, none⟩), .agg (jobC j sv).toArray] H fun r H' => WP D g (l ++ jobT j) H r H' := by
  refine spec_of Tryz.func123 rfl Tryz.ntmps123 rfl (fun W => ?_)
  repeat (first | refine codeA (k := ?_) | refine condA (k := ?_) | refine offA (k := ?_) | refine pureA (k := ?_) | refine readA (k := ?_))
  refine At_wp (W_box (cs := (jobC j sv).toArray) rfl rfl rfl ?_) rfl
  intro p H1 np
  have hw := hw.more np
  have rp := np.at_
  have hK : KeptD (fun b => D b ∨ b = p) H1 H1 := Kept.refl _ _
  have hs := (hs.keep (KeptD.new np)).weak (fun k (h : D k) => (.inl h : D k ∨ k = p))
  repeat (first | refine codeA (k := ?_) | refine condA (k := ?_) | refine offA (k := ?_) | refine pureA (k := ?_) | refine readA (k := ?_))
  refine At_read (r_loadN (cs := [.int .i64 (j.ia : Int), .int .i64 (j.inn : Int)]) rfl rfl rfl (sub_cells rp 0 rfl)) rfl rfl rfl ?_
  refine At_wp (W_call rfl rfl (wid_spec j.ia j.inn hw ok.a ok.b (by first | omega | (simp; omega))) rfl rfl ?_) rfl
  rintro _ H ⟨rfl, hk, hw⟩
  have rp := hk.keep rp (.inr rfl)
  have hK := hK.trans hk
  have hs := hs.keep hk
  repeat (first | refine codeA (k := ?_) | refine condA (k := ?_) | refine offA (k := ?_) | refine pureA (k := ?_) | refine readA (k := ?_))
  refine At_draw [4] (fun H' => H'[p]? = some (.cells (jobC j sv).toArray 27 (0, 0))) Tryz.mixed ?_
  first | refine gA 0 (k := ?_) | refine goffA 0 (k := ?_)
  first | refine gA 1 (k := ?_) | refine goffA 1 (k := ?_)
  first | refine gA 2 (k := ?_) | refine goffA 2 (k := ?_)
  first | refine gA 3 (k := ?_) | refine goffA 3 (k := ?_)
  refine grA 4 rp (fun H' hS' => r_load rfl rfl (Cell.of hS' rfl)) (k := ?_)
  refine G_op 5 rfl (by kernel_rfl) rfl (W_call rfl rfl (wint_spec hw j.user ok.c (by first | omega | (simp; omega))) rfl rfl ?_) 
  rintro _ H ⟨rfl, hk, hw⟩
  refine G_free (by kernel_rfl) ?_
  refine G_done (by kernel_rfl) ?_
  have rp := hk.keep rp (.inr rfl)
  have hK := hK.trans hk
  have hs := hs.keep hk
  repeat (first | refine codeA (k := ?_) | refine condA (k := ?_) | refine offA (k := ?_) | refine pureA (k := ?_) | refine readA (k := ?_))
  refine At_draw [4] (fun H' => H'[p]? = some (.cells (jobC j sv).toArray 27 (0, 0))) Tryz.mixed ?_
  first | refine gA 0 (k := ?_) | refine goffA 0 (k := ?_)
  first | refine gA 1 (k := ?_) | refine goffA 1 (k := ?_)
  first | refine gA 2 (k := ?_) | refine goffA 2 (k := ?_)
  first | refine gA 3 (k := ?_) | refine goffA 3 (k := ?_)
  refine grA 4 rp (fun H' hS' => r_load rfl rfl (Cell.of hS' rfl)) (k := ?_)
  refine G_op 5 rfl (by kernel_rfl) rfl (W_call rfl rfl (wamount_spec hw j.need ok.d (by first | omega | (simp; omega))) rfl rfl ?_) 
  rintro _ H ⟨rfl, hk, hw⟩
  refine G_free (by kernel_rfl) ?_
  refine G_done (by kernel_rfl) ?_
  have rp := hk.keep rp (.inr rfl)
  have hK := hK.trans hk
  have hs := hs.keep hk
  repeat (first | refine codeA (k := ?_) | refine condA (k := ?_) | refine offA (k := ?_) | refine pureA (k := ?_) | refine readA (k := ?_))
  refine At_draw [4] (fun H' => H'[p]? = some (.cells (jobC j sv).toArray 27 (0, 0))) Tryz.mixed ?_
  first | refine gA 0 (k := ?_) | refine goffA 0 (k := ?_)
  first | refine gA 1 (k := ?_) | refine goffA 1 (k := ?_)
  first | refine gA 2 (k := ?_) | refine goffA 2 (k := ?_)
  first | refine gA 3 (k := ?_) | refine goffA 3 (k := ?_)
  refine grA 4 rp (fun H' hS' => r_load rfl rfl (Cell.of hS' rfl)) (k := ?_)
  refine G_op 5 rfl (by kernel_rfl) rfl (W_call rfl rfl (wint_spec hw j.wall ok.e (by first | omega | (simp; omega))) rfl rfl ?_) 
  rintro _ H ⟨rfl, hk, hw⟩
  refine G_free (by kernel_rfl) ?_
  refine G_done (by kernel_rfl) ?_
  have rp := hk.keep rp (.inr rfl)
  have hK := hK.trans hk
  have hs := hs.keep hk
  repeat (first | refine codeA (k := ?_) | refine condA (k := ?_) | refine offA (k := ?_) | refine pureA (k := ?_) | refine readA (k := ?_))
  refine At_draw [4] (fun H' => H'[p]? = some (.cells (jobC j sv).toArray 27 (0, 0))) Tryz.mixed ?_
  first | refine gA 0 (k := ?_) | refine goffA 0 (k := ?_)
  first | refine gA 1 (k := ?_) | refine goffA 1 (k := ?_)
  first | refine gA 2 (k := ?_) | refine goffA 2 (k := ?_)
  first | refine gA 3 (k := ?_) | refine goffA 3 (k := ?_)
  refine grA 4 rp (fun H' hS' => r_load rfl rfl (Cell.of hS' rfl)) (k := ?_)
  refine G_op 5 rfl (by kernel_rfl) rfl (W_call rfl rfl (wint_spec hw j.run_ ok.f (by first | omega | (simp; omega))) rfl rfl ?_) 
  rintro _ H ⟨rfl, hk, hw⟩
  refine G_free (by kernel_rfl) ?_
  refine G_done (by kernel_rfl) ?_
  have rp := hk.keep rp (.inr rfl)
  have hK := hK.trans hk
  have hs := hs.keep hk
  repeat (first | refine codeA (k := ?_) | refine condA (k := ?_) | refine offA (k := ?_) | refine pureA (k := ?_) | refine readA (k := ?_))
  refine At_draw [4] (fun H' => H'[p]? = some (.cells (jobC j sv).toArray 27 (0, 0))) Tryz.mixed ?_
  first | refine gA 0 (k := ?_) | refine goffA 0 (k := ?_)
  first | refine gA 1 (k := ?_) | refine goffA 1 (k := ?_)
  first | refine gA 2 (k := ?_) | refine goffA 2 (k := ?_)
  first | refine gA 3 (k := ?_) | refine goffA 3 (k := ?_)
  refine grA 4 rp (fun H' hS' => r_load rfl rfl (Cell.of hS' rfl)) (k := ?_)
  refine G_op 5 rfl (by kernel_rfl) rfl (W_call rfl rfl (wint_spec hw j.base ok.g (by first | omega | (simp; omega))) rfl rfl ?_) 
  rintro _ H ⟨rfl, hk, hw⟩
  refine G_free (by kernel_rfl) ?_
  refine G_done (by kernel_rfl) ?_
  have rp := hk.keep rp (.inr rfl)
  have hK := hK.trans hk
  have hs := hs.keep hk
  repeat (first | refine codeA (k := ?_) | refine condA (k := ?_) | refine offA (k := ?_) | refine pureA (k := ?_) | refine readA (k := ?_))
  refine At_draw [4] (fun H' => H'[p]? = some (.cells (jobC j sv).toArray 27 (0, 0))) Tryz.mixed ?_
  first | refine gA 0 (k := ?_) | refine goffA 0 (k := ?_)
  first | refine gA 1 (k := ?_) | refine goffA 1 (k := ?_)
  first | refine gA 2 (k := ?_) | refine goffA 2 (k := ?_)
  first | refine gA 3 (k := ?_) | refine goffA 3 (k := ?_)
  refine grA 4 rp (fun H' hS' => r_load rfl rfl (Cell.of hS' rfl)) (k := ?_)
  refine G_op 5 rfl (by kernel_rfl) rfl (W_call rfl rfl (wint_spec hw j.aft ok.h (by first | omega | (simp; omega))) rfl rfl ?_) 
  rintro _ H ⟨rfl, hk, hw⟩
  refine G_free (by kernel_rfl) ?_
  refine G_done (by kernel_rfl) ?_
  have rp := hk.keep rp (.inr rfl)
  have hK := hK.trans hk
  have hs := hs.keep hk
  repeat (first | refine codeA (k := ?_) | refine condA (k := ?_) | refine offA (k := ?_) | refine pureA (k := ?_) | refine readA (k := ?_))
  refine At_draw [2] (fun H' => H'[p]? = some (.cells (jobC j sv).toArray 27 (0, 0))) Tryz.mixed ?_
  first | refine gA 0 (k := ?_) | refine goffA 0 (k := ?_)
  first | refine gA 1 (k := ?_) | refine goffA 1 (k := ?_)
  refine grA 2 rp (fun H' hS' => r_load rfl rfl (Cell.of hS' rfl)) (k := ?_)
  first | refine gA 3 (k := ?_) | refine goffA 3 (k := ?_)
  first | refine gA 4 (k := ?_) | refine goffA 4 (k := ?_)
  first | refine gA 5 (k := ?_) | refine goffA 5 (k := ?_)
  refine gqA 6 rfl (p_makeFuncB (first := [.tmp 49]) (cap := []) rfl rfl) (k := ?_)
  refine G_op 7 rfl (by kernel_rfl) rfl (W_call rfl rfl (wlist_int_spec j.sites hw hs ok.k ok.i (by first | omega | (simp; omega))) rfl rfl ?_) 
  rintro _ H ⟨rfl, hk, hw⟩
  refine G_free (by kernel_rfl) ?_
  refine G_done (by kernel_rfl) ?_
  have rp := hk.keep rp (.inr rfl)
  have hK := hK.trans hk
  repeat (first | refine codeA (k := ?_) | refine condA (k := ?_) | refine offA (k := ?_) | refine pureA (k := ?_) | refine readA (k := ?_))
  refine At_draw [4] (fun H' => H'[p]? = some (.cells (jobC j sv).toArray 27 (0, 0))) Tryz.mixed ?_
  first | refine gA 0 (k := ?_) | refine goffA 0 (k := ?_)
  first | refine gA 1 (k := ?_) | refine goffA 1 (k := ?_)
  first | refine gA 2 (k := ?_) | refine goffA 2 (k := ?_)
  first | refine gA 3 (k := ?_) | refine goffA 3 (k := ?_)
  refine grA 4 rp (fun H' hS' => r_load rfl rfl (Cell.of hS' rfl)) (k := ?_)
  refine G_op 5 rfl (by kernel_rfl) rfl (W_call rfl rfl (wmark_spec hw j.pact (by have := ok.i; simp; omega)) rfl rfl ?_) 
  rintro _ H ⟨rfl, hk, hw⟩
  refine G_free (by kernel_rfl) ?_
  refine G_done (by kernel_rfl) ?_
  have rp := hk.keep rp (.inr rfl)
  have hK := hK.trans hk
  repeat (first | refine codeA (k := ?_) | refine condA (k := ?_) | refine offA (k := ?_) | refine pureA (k := ?_) | refine readA (k := ?_))
  refine At_ret0 rfl ⟨rfl, (KeptD.new np).trans (hK.weak (fun k h => .inl h)), ?_⟩ (.inl rfl)
  have hw := hw.weak (fun k (h : D k) => (.inl h : D k ∨ k = p))
  simpa [jobT] using hw

set_option maxHeartbeats 4000000 in
theorem wrec_spec {D : Nat → Prop} {H : Heap} {g : Nat} {l : List Nat} (q : Rc) {sv : Value} (hw : Wt D H g l) (ok : RcOk q) (hs : VsD D nv H sv q.job.sites) (hl : l.length ≤ 8000) :
    Spc Tryz.prog 78 #[.pointer (some ⟨g, 0, none⟩), .agg (recC q sv).toArray] H fun r H' => WP D g (l ++ recT q) H r H' := by
  refine spec_of Tryz.func78 rfl Tryz.ntmps78 rfl (fun W => ?_)
  repeat (first | refine codeA (k := ?_) | refine condA (k := ?_) | refine offA (k := ?_) | refine pureA (k := ?_) | refine readA (k := ?_))
  refine At_wp (W_box (cs := (recC q sv).toArray) rfl rfl rfl ?_) rfl
  intro p H1 np
  have hw := hw.more np
  have rp := np.at_
  have hK : KeptD (fun b => D b ∨ b = p) H1 H1 := Kept.refl _ _
  have hs := (hs.keep (KeptD.new np)).weak (fun k (h : D k) => (.inl h : D k ∨ k = p))
  repeat (first | refine codeA (k := ?_) | refine condA (k := ?_) | refine offA (k := ?_) | refine pureA (k := ?_) | refine readA (k := ?_))
  refine At_draw [4] (fun H' => H'[p]? = some (.cells (recC q sv).toArray 75 (0, 0))) Tryz.mixed ?_
  first | refine gA 0 (k := ?_) | refine goffA 0 (k := ?_)
  first | refine gA 1 (k := ?_) | refine goffA 1 (k := ?_)
  first | refine gA 2 (k := ?_) | refine goffA 2 (k := ?_)
  first | refine gA 3 (k := ?_) | refine goffA 3 (k := ?_)
  refine grA 4 rp (fun H' hS' => r_load rfl rfl (Cell.of hS' rfl)) (k := ?_)
  refine G_op 5 rfl (by kernel_rfl) rfl (W_call rfl rfl (wint_spec hw q.kind ok.a (by first | omega | (simp; omega))) rfl rfl ?_) 
  rintro _ H ⟨rfl, hk, hw⟩
  refine G_free (by kernel_rfl) ?_
  refine G_done (by kernel_rfl) ?_
  have rp := hk.keep rp (.inr rfl)
  have hK := hK.trans hk
  have hs := hs.keep hk
  repeat (first | refine codeA (k := ?_) | refine condA (k := ?_) | refine offA (k := ?_) | refine pureA (k := ?_) | refine readA (k := ?_))
  refine At_read (r_loadN (cs := [.int .i64 (q.ia : Int), .int .i64 (q.inn : Int)]) rfl rfl rfl (sub_cells rp 1 rfl)) rfl rfl rfl ?_
  refine At_wp (W_call rfl rfl (wid_spec q.ia q.inn hw ok.b ok.c (by first | omega | (simp; omega))) rfl rfl ?_) rfl
  rintro _ H ⟨rfl, hk, hw⟩
  have rp := hk.keep rp (.inr rfl)
  have hK := hK.trans hk
  have hs := hs.keep hk
  repeat (first | refine codeA (k := ?_) | refine condA (k := ?_) | refine offA (k := ?_) | refine pureA (k := ?_) | refine readA (k := ?_))
  refine At_draw [4] (fun H' => H'[p]? = some (.cells (recC q sv).toArray 75 (0, 0))) Tryz.mixed ?_
  first | refine gA 0 (k := ?_) | refine goffA 0 (k := ?_)
  first | refine gA 1 (k := ?_) | refine goffA 1 (k := ?_)
  first | refine gA 2 (k := ?_) | refine goffA 2 (k := ?_)
  first | refine gA 3 (k := ?_) | refine goffA 3 (k := ?_)
  refine grA 4 rp (fun H' hS' => r_load rfl rfl (Cell.of hS' rfl)) (k := ?_)
  refine G_op 5 rfl (by kernel_rfl) rfl (W_call rfl rfl (wint_spec hw q.site ok.d (by first | omega | (simp; omega))) rfl rfl ?_) 
  rintro _ H ⟨rfl, hk, hw⟩
  refine G_free (by kernel_rfl) ?_
  refine G_done (by kernel_rfl) ?_
  have rp := hk.keep rp (.inr rfl)
  have hK := hK.trans hk
  have hs := hs.keep hk
  repeat (first | refine codeA (k := ?_) | refine condA (k := ?_) | refine offA (k := ?_) | refine pureA (k := ?_) | refine readA (k := ?_))
  refine At_draw [4] (fun H' => H'[p]? = some (.cells (recC q sv).toArray 75 (0, 0))) Tryz.mixed ?_
  first | refine gA 0 (k := ?_) | refine goffA 0 (k := ?_)
  first | refine gA 1 (k := ?_) | refine goffA 1 (k := ?_)
  first | refine gA 2 (k := ?_) | refine goffA 2 (k := ?_)
  first | refine gA 3 (k := ?_) | refine goffA 3 (k := ?_)
  refine grA 4 rp (fun H' hS' => r_load rfl rfl (Cell.of hS' rfl)) (k := ?_)
  refine G_op 5 rfl (by kernel_rfl) rfl (W_call rfl rfl (wint_spec hw q.tok ok.e (by first | omega | (simp; omega))) rfl rfl ?_) 
  rintro _ H ⟨rfl, hk, hw⟩
  refine G_free (by kernel_rfl) ?_
  refine G_done (by kernel_rfl) ?_
  have rp := hk.keep rp (.inr rfl)
  have hK := hK.trans hk
  have hs := hs.keep hk
  repeat (first | refine codeA (k := ?_) | refine condA (k := ?_) | refine offA (k := ?_) | refine pureA (k := ?_) | refine readA (k := ?_))
  refine At_draw [4] (fun H' => H'[p]? = some (.cells (recC q sv).toArray 75 (0, 0))) Tryz.mixed ?_
  first | refine gA 0 (k := ?_) | refine goffA 0 (k := ?_)
  first | refine gA 1 (k := ?_) | refine goffA 1 (k := ?_)
  first | refine gA 2 (k := ?_) | refine goffA 2 (k := ?_)
  first | refine gA 3 (k := ?_) | refine goffA 3 (k := ?_)
  refine grA 4 rp (fun H' hS' => r_load rfl rfl (Cell.of hS' rfl)) (k := ?_)
  refine G_op 5 rfl (by kernel_rfl) rfl (W_call rfl rfl (wint_spec hw q.tick ok.f (by first | omega | (simp; omega))) rfl rfl ?_) 
  rintro _ H ⟨rfl, hk, hw⟩
  refine G_free (by kernel_rfl) ?_
  refine G_done (by kernel_rfl) ?_
  have rp := hk.keep rp (.inr rfl)
  have hK := hK.trans hk
  have hs := hs.keep hk
  repeat (first | refine codeA (k := ?_) | refine condA (k := ?_) | refine offA (k := ?_) | refine pureA (k := ?_) | refine readA (k := ?_))
  refine At_draw [4] (fun H' => H'[p]? = some (.cells (recC q sv).toArray 75 (0, 0))) Tryz.mixed ?_
  first | refine gA 0 (k := ?_) | refine goffA 0 (k := ?_)
  first | refine gA 1 (k := ?_) | refine goffA 1 (k := ?_)
  first | refine gA 2 (k := ?_) | refine goffA 2 (k := ?_)
  first | refine gA 3 (k := ?_) | refine goffA 3 (k := ?_)
  refine grA 4 rp (fun H' hS' => r_load rfl rfl (Cell.of hS' rfl)) (k := ?_)
  refine G_op 5 rfl (by kernel_rfl) rfl (W_call rfl rfl (wint_spec hw q.until_ ok.g (by first | omega | (simp; omega))) rfl rfl ?_) 
  rintro _ H ⟨rfl, hk, hw⟩
  refine G_free (by kernel_rfl) ?_
  refine G_done (by kernel_rfl) ?_
  have rp := hk.keep rp (.inr rfl)
  have hK := hK.trans hk
  have hs := hs.keep hk
  repeat (first | refine codeA (k := ?_) | refine condA (k := ?_) | refine offA (k := ?_) | refine pureA (k := ?_) | refine readA (k := ?_))
  refine At_draw [4] (fun H' => H'[p]? = some (.cells (recC q sv).toArray 75 (0, 0))) Tryz.mixed ?_
  first | refine gA 0 (k := ?_) | refine goffA 0 (k := ?_)
  first | refine gA 1 (k := ?_) | refine goffA 1 (k := ?_)
  first | refine gA 2 (k := ?_) | refine goffA 2 (k := ?_)
  first | refine gA 3 (k := ?_) | refine goffA 3 (k := ?_)
  refine grA 4 rp (fun H' hS' => r_load rfl rfl (Cell.of hS' rfl)) (k := ?_)
  refine G_op 5 rfl (by kernel_rfl) rfl (W_call rfl rfl (wint_spec hw q.how ok.h (by first | omega | (simp; omega))) rfl rfl ?_) 
  rintro _ H ⟨rfl, hk, hw⟩
  refine G_free (by kernel_rfl) ?_
  refine G_done (by kernel_rfl) ?_
  have rp := hk.keep rp (.inr rfl)
  have hK := hK.trans hk
  have hs := hs.keep hk
  repeat (first | refine codeA (k := ?_) | refine condA (k := ?_) | refine offA (k := ?_) | refine pureA (k := ?_) | refine readA (k := ?_))
  refine At_draw [4] (fun H' => H'[p]? = some (.cells (recC q sv).toArray 75 (0, 0))) Tryz.mixed ?_
  first | refine gA 0 (k := ?_) | refine goffA 0 (k := ?_)
  first | refine gA 1 (k := ?_) | refine goffA 1 (k := ?_)
  first | refine gA 2 (k := ?_) | refine goffA 2 (k := ?_)
  first | refine gA 3 (k := ?_) | refine goffA 3 (k := ?_)
  refine grA 4 rp (fun H' hS' => r_load rfl rfl (Cell.of hS' rfl)) (k := ?_)
  refine G_op 5 rfl (by kernel_rfl) rfl (W_call rfl rfl (wmark_spec hw q.on (by first | omega | (simp; omega))) rfl rfl ?_) 
  rintro _ H ⟨rfl, hk, hw⟩
  refine G_free (by kernel_rfl) ?_
  refine G_done (by kernel_rfl) ?_
  have rp := hk.keep rp (.inr rfl)
  have hK := hK.trans hk
  have hs := hs.keep hk
  repeat (first | refine codeA (k := ?_) | refine condA (k := ?_) | refine offA (k := ?_) | refine pureA (k := ?_) | refine readA (k := ?_))
  refine At_read (r_loadN (cs := jobC q.job _) rfl rfl rfl (sub_cells rp 9 rfl)) rfl rfl rfl ?_
  refine At_wp (W_call rfl rfl (wjob_spec q.job hw ok.j hs (by first | omega | (simp; omega))) rfl rfl ?_) rfl
  rintro _ H ⟨rfl, hk, hw⟩
  have rp := hk.keep rp (.inr rfl)
  have hK := hK.trans hk
  repeat (first | refine codeA (k := ?_) | refine condA (k := ?_) | refine offA (k := ?_) | refine pureA (k := ?_) | refine readA (k := ?_))
  refine At_read (r_loadN (cs := [.int .i64 ((0 : Nat) : Int), .int .i64 ((0 : Nat) : Int), amt 0]) rfl rfl rfl (sub_cells rp 19 rfl)) rfl rfl rfl ?_
  refine At_wp (W_call rfl rfl (wbusy_spec 0 0 0 hw (by decide) (by decide) (by decide) (by have := jobT_len ok.j; simp; omega)) rfl rfl ?_) rfl
  rintro _ H ⟨rfl, hk, hw⟩
  have rp := hk.keep rp (.inr rfl)
  have hK := hK.trans hk
  repeat (first | refine codeA (k := ?_) | refine condA (k := ?_) | refine offA (k := ?_) | refine pureA (k := ?_) | refine readA (k := ?_))
  refine At_read (r_load rfl rfl (Cell.of rp rfl)) rfl rfl rfl ?_
  repeat (first | refine codeA (k := ?_) | refine condA (k := ?_) | refine offA (k := ?_) | refine pureA (k := ?_) | refine readA (k := ?_))
  refine At_pure (p_makeFuncB (first := [.tmp 61]) (cap := []) rfl rfl) rfl rfl rfl ?_
  refine At_wp (W_call rfl rfl (wlist_span0_spec hw (by have := jobT_len ok.j; simp; omega)) rfl rfl ?_) rfl
  rintro _ H ⟨rfl, hk, hw⟩
  have rp := hk.keep rp (.inr rfl)
  have hK := hK.trans hk
  repeat (first | refine codeA (k := ?_) | refine condA (k := ?_) | refine offA (k := ?_) | refine pureA (k := ?_) | refine readA (k := ?_))
  refine At_read (r_load rfl rfl (Cell.of rp rfl)) rfl rfl rfl ?_
  repeat (first | refine codeA (k := ?_) | refine condA (k := ?_) | refine offA (k := ?_) | refine pureA (k := ?_) | refine readA (k := ?_))
  refine At_pure (p_makeFuncB (first := [.tmp 67]) (cap := []) rfl rfl) rfl rfl rfl ?_
  refine At_wp (W_call rfl rfl (wlist_slot0_spec hw (by have := jobT_len ok.j; simp; omega)) rfl rfl ?_) rfl
  rintro _ H ⟨rfl, hk, hw⟩
  have hK := hK.trans hk
  repeat (first | refine codeA (k := ?_) | refine condA (k := ?_) | refine offA (k := ?_) | refine pureA (k := ?_) | refine readA (k := ?_))
  refine At_ret0 rfl ⟨rfl, (KeptD.new np).trans (hK.weak (fun k h => .inl h)), ?_⟩ (.inl rfl)
  have hw := hw.weak (fun k (h : D k) => (.inl h : D k ∨ k = p))
  simpa [recT] using hw

set_option maxHeartbeats 4000000 in
theorem wmsg_spec {D : Nat → Prop} {H : Heap} {g : Nat} {l : List Nat} (m : Ms) {sv : Value} (hw : Wt D H g l) (ok : MsOk m) (hs : VsD D nv H sv m.job.sites) (hl : l.length ≤ 8000) :
    Spc Tryz.prog 63 #[.pointer (some ⟨g, 0, none⟩), .agg (msgC m sv).toArray] H fun r H' => WP D g (l ++ msgT m) H r H' := by
  refine spec_of Tryz.func63 rfl Tryz.ntmps63 rfl (fun W => ?_)
  repeat (first | refine codeA (k := ?_) | refine condA (k := ?_) | refine offA (k := ?_) | refine pureA (k := ?_) | refine readA (k := ?_))
  refine At_wp (W_box (cs := (msgC m sv).toArray) rfl rfl rfl ?_) rfl
  intro p H1 np
  have hw := hw.more np
  have rp := np.at_
  have hK : KeptD (fun b => D b ∨ b = p) H1 H1 := Kept.refl _ _
  have hs := (hs.keep (KeptD.new np)).weak (fun k (h : D k) => (.inl h : D k ∨ k = p))
  repeat (first | refine codeA (k := ?_) | refine condA (k := ?_) | refine offA (k := ?_) | refine pureA (k := ?_) | refine readA (k := ?_))
  refine At_draw [4] (fun H' => H'[p]? = some (.cells (msgC m sv).toArray 49 (0, 0))) Tryz.mixed ?_
  first | refine gA 0 (k := ?_) | refine goffA 0 (k := ?_)
  first | refine gA 1 (k := ?_) | refine goffA 1 (k := ?_)
  first | refine gA 2 (k := ?_) | refine goffA 2 (k := ?_)
  first | refine gA 3 (k := ?_) | refine goffA 3 (k := ?_)
  refine grA 4 rp (fun H' hS' => r_load rfl rfl (Cell.of hS' rfl)) (k := ?_)
  refine G_op 5 rfl (by kernel_rfl) rfl (W_call rfl rfl (wint_spec hw m.kind ok.a (by first | omega | (simp; omega))) rfl rfl ?_) 
  rintro _ H ⟨rfl, hk, hw⟩
  refine G_free (by kernel_rfl) ?_
  refine G_done (by kernel_rfl) ?_
  have rp := hk.keep rp (.inr rfl)
  have hK := hK.trans hk
  have hs := hs.keep hk
  repeat (first | refine codeA (k := ?_) | refine condA (k := ?_) | refine offA (k := ?_) | refine pureA (k := ?_) | refine readA (k := ?_))
  refine At_read (r_loadN (cs := [.int .i64 (m.ia : Int), .int .i64 (m.inn : Int)]) rfl rfl rfl (sub_cells rp 1 rfl)) rfl rfl rfl ?_
  refine At_wp (W_call rfl rfl (wid_spec m.ia m.inn hw ok.b ok.c (by first | omega | (simp; omega))) rfl rfl ?_) rfl
  rintro _ H ⟨rfl, hk, hw⟩
  have rp := hk.keep rp (.inr rfl)
  have hK := hK.trans hk
  have hs := hs.keep hk
  repeat (first | refine codeA (k := ?_) | refine condA (k := ?_) | refine offA (k := ?_) | refine pureA (k := ?_) | refine readA (k := ?_))
  refine At_draw [4] (fun H' => H'[p]? = some (.cells (msgC m sv).toArray 49 (0, 0))) Tryz.mixed ?_
  first | refine gA 0 (k := ?_) | refine goffA 0 (k := ?_)
  first | refine gA 1 (k := ?_) | refine goffA 1 (k := ?_)
  first | refine gA 2 (k := ?_) | refine goffA 2 (k := ?_)
  first | refine gA 3 (k := ?_) | refine goffA 3 (k := ?_)
  refine grA 4 rp (fun H' hS' => r_load rfl rfl (Cell.of hS' rfl)) (k := ?_)
  refine G_op 5 rfl (by kernel_rfl) rfl (W_call rfl rfl (wint_spec hw m.tok ok.e (by first | omega | (simp; omega))) rfl rfl ?_) 
  rintro _ H ⟨rfl, hk, hw⟩
  refine G_free (by kernel_rfl) ?_
  refine G_done (by kernel_rfl) ?_
  have rp := hk.keep rp (.inr rfl)
  have hK := hK.trans hk
  have hs := hs.keep hk
  repeat (first | refine codeA (k := ?_) | refine condA (k := ?_) | refine offA (k := ?_) | refine pureA (k := ?_) | refine readA (k := ?_))
  refine At_draw [4] (fun H' => H'[p]? = some (.cells (msgC m sv).toArray 49 (0, 0))) Tryz.mixed ?_
  first | refine gA 0 (k := ?_) | refine goffA 0 (k := ?_)
  first | refine gA 1 (k := ?_) | refine goffA 1 (k := ?_)
  first | refine gA 2 (k := ?_) | refine goffA 2 (k := ?_)
  first | refine gA 3 (k := ?_) | refine goffA 3 (k := ?_)
  refine grA 4 rp (fun H' hS' => r_load rfl rfl (Cell.of hS' rfl)) (k := ?_)
  refine G_op 5 rfl (by kernel_rfl) rfl (W_call rfl rfl (wint_spec hw m.tick ok.f (by first | omega | (simp; omega))) rfl rfl ?_) 
  rintro _ H ⟨rfl, hk, hw⟩
  refine G_free (by kernel_rfl) ?_
  refine G_done (by kernel_rfl) ?_
  have rp := hk.keep rp (.inr rfl)
  have hK := hK.trans hk
  have hs := hs.keep hk
  repeat (first | refine codeA (k := ?_) | refine condA (k := ?_) | refine offA (k := ?_) | refine pureA (k := ?_) | refine readA (k := ?_))
  refine At_draw [4] (fun H' => H'[p]? = some (.cells (msgC m sv).toArray 49 (0, 0))) Tryz.mixed ?_
  first | refine gA 0 (k := ?_) | refine goffA 0 (k := ?_)
  first | refine gA 1 (k := ?_) | refine goffA 1 (k := ?_)
  first | refine gA 2 (k := ?_) | refine goffA 2 (k := ?_)
  first | refine gA 3 (k := ?_) | refine goffA 3 (k := ?_)
  refine grA 4 rp (fun H' hS' => r_load rfl rfl (Cell.of hS' rfl)) (k := ?_)
  refine G_op 5 rfl (by kernel_rfl) rfl (W_call rfl rfl (wint_spec hw m.how ok.h (by first | omega | (simp; omega))) rfl rfl ?_) 
  rintro _ H ⟨rfl, hk, hw⟩
  refine G_free (by kernel_rfl) ?_
  refine G_done (by kernel_rfl) ?_
  have rp := hk.keep rp (.inr rfl)
  have hK := hK.trans hk
  have hs := hs.keep hk
  repeat (first | refine codeA (k := ?_) | refine condA (k := ?_) | refine offA (k := ?_) | refine pureA (k := ?_) | refine readA (k := ?_))
  refine At_draw [4] (fun H' => H'[p]? = some (.cells (msgC m sv).toArray 49 (0, 0))) Tryz.mixed ?_
  first | refine gA 0 (k := ?_) | refine goffA 0 (k := ?_)
  first | refine gA 1 (k := ?_) | refine goffA 1 (k := ?_)
  first | refine gA 2 (k := ?_) | refine goffA 2 (k := ?_)
  first | refine gA 3 (k := ?_) | refine goffA 3 (k := ?_)
  refine grA 4 rp (fun H' hS' => r_load rfl rfl (Cell.of hS' rfl)) (k := ?_)
  refine G_op 5 rfl (by kernel_rfl) rfl (W_call rfl rfl (wmark_spec hw m.on (by first | omega | (simp; omega))) rfl rfl ?_) 
  rintro _ H ⟨rfl, hk, hw⟩
  refine G_free (by kernel_rfl) ?_
  refine G_done (by kernel_rfl) ?_
  have rp := hk.keep rp (.inr rfl)
  have hK := hK.trans hk
  have hs := hs.keep hk
  repeat (first | refine codeA (k := ?_) | refine condA (k := ?_) | refine offA (k := ?_) | refine pureA (k := ?_) | refine readA (k := ?_))
  refine At_read (r_loadN (cs := jobC m.job _) rfl rfl rfl (sub_cells rp 7 rfl)) rfl rfl rfl ?_
  refine At_wp (W_call rfl rfl (wjob_spec m.job hw ok.j hs (by first | omega | (simp; omega))) rfl rfl ?_) rfl
  rintro _ H ⟨rfl, hk, hw⟩
  have rp := hk.keep rp (.inr rfl)
  have hK := hK.trans hk
  repeat (first | refine codeA (k := ?_) | refine condA (k := ?_) | refine offA (k := ?_) | refine pureA (k := ?_) | refine readA (k := ?_))
  refine At_read (r_load rfl rfl (Cell.of rp rfl)) rfl rfl rfl ?_
  repeat (first | refine codeA (k := ?_) | refine condA (k := ?_) | refine offA (k := ?_) | refine pureA (k := ?_) | refine readA (k := ?_))
  refine At_pure (p_makeFuncB (first := [.tmp 45]) (cap := []) rfl rfl) rfl rfl rfl ?_
  refine At_wp (W_call rfl rfl (wlist_span0_spec hw (by have := jobT_len ok.j; simp; omega)) rfl rfl ?_) rfl
  rintro _ H ⟨rfl, hk, hw⟩
  have hK := hK.trans hk
  repeat (first | refine codeA (k := ?_) | refine condA (k := ?_) | refine offA (k := ?_) | refine pureA (k := ?_) | refine readA (k := ?_))
  refine At_ret0 rfl ⟨rfl, (KeptD.new np).trans (hK.weak (fun k h => .inl h)), ?_⟩ (.inl rfl)
  have hw := hw.weak (fun k (h : D k) => (.inl h : D k ∨ k = p))
  simpa [msgT] using hw

end Go.Proofs.YtlaobecajieaaaaGreat
