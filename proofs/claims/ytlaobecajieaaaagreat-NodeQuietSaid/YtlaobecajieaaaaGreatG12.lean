/- Jobs, records and messages read. Printed by wip/tools/node_gen2.py. -/
import Derived.Test.YtlaobecajieaaaaGreatG11
namespace Go.Proofs.YtlaobecajieaaaaGreat
open Go Ev
set_option linter.unusedVariables false
set_option linter.unusedSimpArgs false
/-- a job read: with sites in new memory -/
def RJ (N : Nat) (p : Nat) (l : List Nat) (cells : Value → List Value) (xs : List Nat) (H : Heap) (r : Value) (H' : Heap) : Prop :=
  ∃ q n c, r = .agg (cells (.slice q n c)).toArray ∧ Kept (· = p) H H' ∧ Rd N H' p l ∧ Vs nv H' (.slice q n c) xs ∧ ∀ b, (Value.slice q n c).ownBlock = some b → H.size ≤ b
attribute [local irreducible] Go.wpList Go.bodyPost Go.Code.wp Go.Exit.then Go.Exit.inBlock Go.Exit.noGoto Ev.wpAnyG Go.Oper.wp Ev.Back Ev.Left Ev.Spc Ev.At Ev.Pure Ev.Reads Ev.Runs Ev.Does Ev.Cell

set_option maxHeartbeats 4000000 in
theorem rid_spec {N : Nat} {H0 : Heap} {g p : Nat} {l : List Nat} (a b : Nat) (h : Rr N H0 g p ([2 * a, 2 * b] ++ l)) (ha : a < 4611686018427387904) (hb : b < 4611686018427387904) (hlen : l.length ≤ 8900) :
    Spc Tryz.prog 156 #[.pointer (some ⟨g, 0, none⟩)] H0 fun r H' => RP N p l (.agg #[.int .i64 a, .int .i64 b]) H0 r H' := by
  have hpl := h.lt
  have hgl := lt_of_heap h.blk
  have hle := h.le
  have hpe := h.rd.le
  refine spec_of Tryz.func156 rfl Tryz.ntmps156 rfl (fun W => ?_)
  repeat (first | refine codeA (k := ?_) | refine condA (k := ?_) | refine offA (k := ?_) | refine pureA (k := ?_) | refine readA (k := ?_))
  refine At_wp (W_alloc rfl rfl ?_) rfl
  intro y H1 n1
  repeat (first | refine codeA (k := ?_) | refine condA (k := ?_) | refine offA (k := ?_) | refine pureA (k := ?_) | refine readA (k := ?_))
  refine At_wp (W_alloc rfl rfl ?_) rfl
  intro x H n2
  have y1 := n1.blk
  have y2 := n2.blk
  have y3 := n1.size
  have y4 := n2.size
  have hxp : p ≠ x := by omega
  have hxp : x ≠ p := by omega
  have h2p : y ≠ p := by omega
  have h2x : y ≠ x := by omega
  have hr := (h.ext n1.ext).ext n2.ext
  have r2 := n2.ext.keep n1.at_ (fun f => f)
  have rx := n2.at_
  have hK : Kept (· = p) H0 H := (n1.ext.trans n2.ext).mono (fun _ f _ => f.elim)
  repeat (first | refine codeA (k := ?_) | refine condA (k := ?_) | refine offA (k := ?_) | refine pureA (k := ?_) | refine readA (k := ?_))
  have hr : Rr N H g p (2 * a :: 2 * b :: l) := hr
  refine At_read (r_load (v := .pointer (some ⟨p, 0, none⟩)) rfl rfl (Cell.of hr.blk rfl)) rfl rfl rfl ?_
  refine At_wp (W_call rfl rfl (rint_spec (v := a) hr.rd (by first | omega | (simp; omega)) ha) rfl rfl ?_) rfl
  rintro _ H ⟨rfl, hk, hd⟩
  have hr := hr.next hk hd
  have rx := hk.keep rx hxp
  have r2 := hk.keep r2 h2p
  have hK : Kept (· = p) H0 H := Kept.trans hK hk (fun _ s _ => s) (fun _ s _ => s)
  repeat (first | refine codeA (k := ?_) | refine condA (k := ?_) | refine offA (k := ?_) | refine pureA (k := ?_) | refine readA (k := ?_))
  refine At_wp (W_store rfl rfl rx rfl rfl rfl rfl ?_) rfl
  intro H px
  have hr := hr.keep px.kept (fun b e => ⟨by omega, by omega, by omega⟩)
  have r2 := px.kept.keep r2 h2x
  have hK : Kept (· = p) H0 H := Kept.trans hK px.kept (fun _ s _ => s) (fun b e hb => by omega)
  have rx : H[x]? = some (.cells ([.int .i64 a, .int .i64 0] : List Value).toArray 23 (0, 0)) := px.at_
  repeat (first | refine codeA (k := ?_) | refine condA (k := ?_) | refine offA (k := ?_) | refine pureA (k := ?_) | refine readA (k := ?_))
  refine At_read (r_load (v := .pointer (some ⟨p, 0, none⟩)) rfl rfl (Cell.of hr.blk rfl)) rfl rfl rfl ?_
  refine At_wp (W_call rfl rfl (rint_spec (v := b) hr.rd (by first | omega | (simp; omega)) hb) rfl rfl ?_) rfl
  rintro _ H ⟨rfl, hk, hd⟩
  have hr := hr.next hk hd
  have rx := hk.keep rx hxp
  have r2 := hk.keep r2 h2p
  have hK : Kept (· = p) H0 H := Kept.trans hK hk (fun _ s _ => s) (fun _ s _ => s)
  repeat (first | refine codeA (k := ?_) | refine condA (k := ?_) | refine offA (k := ?_) | refine pureA (k := ?_) | refine readA (k := ?_))
  refine At_wp (W_store rfl rfl rx rfl rfl rfl rfl ?_) rfl
  intro H px
  have hr := hr.keep px.kept (fun b e => ⟨by omega, by omega, by omega⟩)
  have r2 := px.kept.keep r2 h2x
  have hK : Kept (· = p) H0 H := Kept.trans hK px.kept (fun _ s _ => s) (fun b e hb => by omega)
  have rx : H[x]? = some (.cells ([.int .i64 a, .int .i64 b] : List Value).toArray 23 (0, 0)) := px.at_
  repeat (first | refine codeA (k := ?_) | refine condA (k := ?_) | refine offA (k := ?_) | refine pureA (k := ?_) | refine readA (k := ?_))
  refine At_read (r_loadB rfl rx rfl rfl) rfl rfl rfl ?_
  refine At_wp (W_storeB (cs' := ([.int .i64 a, .int .i64 b]).toArray) rfl rfl r2 rfl rfl rfl rfl ?_) rfl
  intro H py
  have hK : Kept (· = p) H0 H := Kept.trans hK py.kept (fun _ s _ => s) (fun b e hb => by omega)
  have hr := hr.keep py.kept (fun b e => ⟨by omega, by omega, by omega⟩)
  repeat (first | refine codeA (k := ?_) | refine condA (k := ?_) | refine offA (k := ?_) | refine pureA (k := ?_) | refine readA (k := ?_))
  exact At_retC1 rfl rfl py.at_ rfl rfl ⟨rfl, hK, hr.rd⟩
set_option maxHeartbeats 4000000 in
theorem rbusy0_spec {N : Nat} {H0 : Heap} {g p : Nat} {l : List Nat}  (h : Rr N H0 g p ([0, 0, 0, 0] ++ l))  (hlen : l.length ≤ 8900) :
    Spc Tryz.prog 158 #[.pointer (some ⟨g, 0, none⟩)] H0 fun r H' => RP N p l (.agg #[.int .i64 0, .int .i64 0, amt 0]) H0 r H' := by
  have hpl := h.lt
  have hgl := lt_of_heap h.blk
  have hle := h.le
  have hpe := h.rd.le
  refine spec_of Tryz.func158 rfl Tryz.ntmps158 rfl (fun W => ?_)
  repeat (first | refine codeA (k := ?_) | refine condA (k := ?_) | refine offA (k := ?_) | refine pureA (k := ?_) | refine readA (k := ?_))
  refine At_wp (W_alloc rfl rfl ?_) rfl
  intro y H1 n1
  repeat (first | refine codeA (k := ?_) | refine condA (k := ?_) | refine offA (k := ?_) | refine pureA (k := ?_) | refine readA (k := ?_))
  refine At_wp (W_alloc rfl rfl ?_) rfl
  intro x H n2
  have y1 := n1.blk
  have y2 := n2.blk
  have y3 := n1.size
  have y4 := n2.size
  have hxp : p ≠ x := by omega
  have hxp : x ≠ p := by omega
  have h2p : y ≠ p := by omega
  have h2x : y ≠ x := by omega
  have hr := (h.ext n1.ext).ext n2.ext
  have r2 := n2.ext.keep n1.at_ (fun f => f)
  have rx := n2.at_
  have hK : Kept (· = p) H0 H := (n1.ext.trans n2.ext).mono (fun _ f _ => f.elim)
  repeat (first | refine codeA (k := ?_) | refine condA (k := ?_) | refine offA (k := ?_) | refine pureA (k := ?_) | refine readA (k := ?_))
  have hr : Rr N H g p (2 * 0 :: 2 * 0 :: 0 :: 0 :: l) := hr
  refine At_read (r_load (v := .pointer (some ⟨p, 0, none⟩)) rfl rfl (Cell.of hr.blk rfl)) rfl rfl rfl ?_
  refine At_wp (W_call rfl rfl (rint_spec (v := 0) hr.rd (by first | omega | (simp; omega)) (by decide)) rfl rfl ?_) rfl
  rintro _ H ⟨rfl, hk, hd⟩
  have hr := hr.next hk hd
  have rx := hk.keep rx hxp
  have r2 := hk.keep r2 h2p
  have hK : Kept (· = p) H0 H := Kept.trans hK hk (fun _ s _ => s) (fun _ s _ => s)
  repeat (first | refine codeA (k := ?_) | refine condA (k := ?_) | refine offA (k := ?_) | refine pureA (k := ?_) | refine readA (k := ?_))
  refine At_wp (W_store rfl rfl rx rfl rfl rfl rfl ?_) rfl
  intro H px
  have hr := hr.keep px.kept (fun b e => ⟨by omega, by omega, by omega⟩)
  have r2 := px.kept.keep r2 h2x
  have hK : Kept (· = p) H0 H := Kept.trans hK px.kept (fun _ s _ => s) (fun b e hb => by omega)
  have rx : H[x]? = some (.cells ([.int .i64 0, .int .i64 0, amt 0] : List Value).toArray 73 (0, 0)) := px.at_
  repeat (first | refine codeA (k := ?_) | refine condA (k := ?_) | refine offA (k := ?_) | refine pureA (k := ?_) | refine readA (k := ?_))
  refine At_read (r_load (v := .pointer (some ⟨p, 0, none⟩)) rfl rfl (Cell.of hr.blk rfl)) rfl rfl rfl ?_
  refine At_wp (W_call rfl rfl (rint_spec (v := 0) hr.rd (by first | omega | (simp; omega)) (by decide)) rfl rfl ?_) rfl
  rintro _ H ⟨rfl, hk, hd⟩
  have hr := hr.next hk hd
  have rx := hk.keep rx hxp
  have r2 := hk.keep r2 h2p
  have hK : Kept (· = p) H0 H := Kept.trans hK hk (fun _ s _ => s) (fun _ s _ => s)
  repeat (first | refine codeA (k := ?_) | refine condA (k := ?_) | refine offA (k := ?_) | refine pureA (k := ?_) | refine readA (k := ?_))
  refine At_wp (W_store rfl rfl rx rfl rfl rfl rfl ?_) rfl
  intro H px
  have hr := hr.keep px.kept (fun b e => ⟨by omega, by omega, by omega⟩)
  have r2 := px.kept.keep r2 h2x
  have hK : Kept (· = p) H0 H := Kept.trans hK px.kept (fun _ s _ => s) (fun b e hb => by omega)
  have rx : H[x]? = some (.cells ([.int .i64 0, .int .i64 0, amt 0] : List Value).toArray 73 (0, 0)) := px.at_
  repeat (first | refine codeA (k := ?_) | refine condA (k := ?_) | refine offA (k := ?_) | refine pureA (k := ?_) | refine readA (k := ?_))
  refine At_read (r_load (v := .pointer (some ⟨p, 0, none⟩)) rfl rfl (Cell.of hr.blk rfl)) rfl rfl rfl ?_
  refine At_wp (W_call rfl rfl (ramount_spec (k := 0) hr.rd (by first | omega | (simp; omega)) (by decide)) rfl rfl ?_) rfl
  rintro _ H ⟨rfl, hk, hd⟩
  have hr := hr.next hk hd
  have rx := hk.keep rx hxp
  have r2 := hk.keep r2 h2p
  have hK : Kept (· = p) H0 H := Kept.trans hK hk (fun _ s _ => s) (fun _ s _ => s)
  repeat (first | refine codeA (k := ?_) | refine condA (k := ?_) | refine offA (k := ?_) | refine pureA (k := ?_) | refine readA (k := ?_))
  refine At_wp (W_store rfl rfl rx rfl rfl rfl rfl ?_) rfl
  intro H px
  have hr := hr.keep px.kept (fun b e => ⟨by omega, by omega, by omega⟩)
  have r2 := px.kept.keep r2 h2x
  have hK : Kept (· = p) H0 H := Kept.trans hK px.kept (fun _ s _ => s) (fun b e hb => by omega)
  have rx : H[x]? = some (.cells ([.int .i64 0, .int .i64 0, amt 0] : List Value).toArray 73 (0, 0)) := px.at_
  repeat (first | refine codeA (k := ?_) | refine condA (k := ?_) | refine offA (k := ?_) | refine pureA (k := ?_) | refine readA (k := ?_))
  refine At_read (r_loadB rfl rx rfl rfl) rfl rfl rfl ?_
  refine At_wp (W_storeB (cs' := ([.int .i64 0, .int .i64 0, amt 0]).toArray) rfl rfl r2 rfl rfl rfl rfl ?_) rfl
  intro H py
  have hK : Kept (· = p) H0 H := Kept.trans hK py.kept (fun _ s _ => s) (fun b e hb => by omega)
  have hr := hr.keep py.kept (fun b e => ⟨by omega, by omega, by omega⟩)
  repeat (first | refine codeA (k := ?_) | refine condA (k := ?_) | refine offA (k := ?_) | refine pureA (k := ?_) | refine readA (k := ?_))
  exact At_retC1 rfl rfl py.at_ rfl rfl ⟨rfl, hK, hr.rd⟩
set_option maxHeartbeats 4000000 in
theorem rjob_spec {N : Nat} {H0 : Heap} {g p : Nat} {l : List Nat} (j : Jo) (h : Rr N H0 g p (jobT j ++ l)) (ok : JoOk j) (hlen : l.length ≤ 8800) :
    Spc Tryz.prog 157 #[.pointer (some ⟨g, 0, none⟩)] H0 fun r H' => RJ N p l (jobC j) j.sites H0 r H' := by
  have hpl := h.lt
  have hgl := lt_of_heap h.blk
  have hle := h.le
  have hpe := h.rd.le
  refine spec_of Tryz.func157 rfl Tryz.ntmps157 rfl (fun W => ?_)
  repeat (first | refine codeA (k := ?_) | refine condA (k := ?_) | refine offA (k := ?_) | refine pureA (k := ?_) | refine readA (k := ?_))
  refine At_wp (W_alloc rfl rfl ?_) rfl
  intro y H1 n1
  repeat (first | refine codeA (k := ?_) | refine condA (k := ?_) | refine offA (k := ?_) | refine pureA (k := ?_) | refine readA (k := ?_))
  refine At_wp (W_alloc rfl rfl ?_) rfl
  intro x H n2
  have y1 := n1.blk
  have y2 := n2.blk
  have y3 := n1.size
  have y4 := n2.size
  have hxp : p ≠ x := by omega
  have hxp : x ≠ p := by omega
  have h2p : y ≠ p := by omega
  have h2x : y ≠ x := by omega
  have hr := (h.ext n1.ext).ext n2.ext
  have r2 := n2.ext.keep n1.at_ (fun f => f)
  have rx := n2.at_
  have hK : Kept (· = p) H0 H := (n1.ext.trans n2.ext).mono (fun _ f _ => f.elim)
  repeat (first | refine codeA (k := ?_) | refine condA (k := ?_) | refine offA (k := ?_) | refine pureA (k := ?_) | refine readA (k := ?_))
  have h8 := ok.i
  have hr : Rr N H g p ([2 * j.ia, 2 * j.inn] ++ (2 * j.user :: j.need :: 0 :: 2 * j.wall :: 2 * j.run_ :: 2 * j.base :: 2 * j.aft :: j.sites.length :: (j.sites.map (2 * ·) ++ (bt j.pact :: l)))) := by simpa [jobT] using hr
  refine At_wp (W_call rfl rfl (rid_spec j.ia j.inn hr ok.a ok.b (by first | omega | (simp; omega))) rfl rfl ?_) rfl
  rintro _ H ⟨rfl, hk, hd⟩
  have hr := hr.next hk hd
  have rx := hk.keep rx hxp
  have r2 := hk.keep r2 h2p
  have hK : Kept (· = p) H0 H := Kept.trans hK hk (fun _ s _ => s) (fun _ s _ => s)
  repeat (first | refine codeA (k := ?_) | refine condA (k := ?_) | refine offA (k := ?_) | refine pureA (k := ?_) | refine readA (k := ?_))
  refine At_wp (W_storeN rfl rfl rx rfl (fun u hu => List.all_eq_true.1 (show (([.int .i64 j.ia, .int .i64 j.inn] : List Value).all (·.oneCell')) = true from rfl) u hu) (Nat.le_of_ble_eq_true rfl) ?_) rfl
  intro H px
  have hr := hr.keep px.kept (fun b e => ⟨by omega, by omega, by omega⟩)
  have r2 := px.kept.keep r2 h2x
  have hK : Kept (· = p) H0 H := Kept.trans hK px.kept (fun _ s _ => s) (fun b e hb => by omega)
  have rx : H[x]? = some (.cells ([.int .i64 j.ia, .int .i64 j.inn, .int .i64 0, amt 0, .int .i64 0, .int .i64 0, .int .i64 0, .int .i64 0, .slice none 0 0, .bool false] : List Value).toArray 27 (0, 0)) := px.at_
  repeat (first | refine codeA (k := ?_) | refine condA (k := ?_) | refine offA (k := ?_) | refine pureA (k := ?_) | refine readA (k := ?_))
  refine At_read (r_load (v := .pointer (some ⟨p, 0, none⟩)) rfl rfl (Cell.of hr.blk rfl)) rfl rfl rfl ?_
  refine At_wp (W_call rfl rfl (rint_spec (v := j.user) hr.rd (by first | omega | (simp; omega)) ok.c) rfl rfl ?_) rfl
  rintro _ H ⟨rfl, hk, hd⟩
  have hr := hr.next hk hd
  have rx := hk.keep rx hxp
  have r2 := hk.keep r2 h2p
  have hK : Kept (· = p) H0 H := Kept.trans hK hk (fun _ s _ => s) (fun _ s _ => s)
  repeat (first | refine codeA (k := ?_) | refine condA (k := ?_) | refine offA (k := ?_) | refine pureA (k := ?_) | refine readA (k := ?_))
  refine At_wp (W_store rfl rfl rx rfl rfl rfl rfl ?_) rfl
  intro H px
  have hr := hr.keep px.kept (fun b e => ⟨by omega, by omega, by omega⟩)
  have r2 := px.kept.keep r2 h2x
  have hK : Kept (· = p) H0 H := Kept.trans hK px.kept (fun _ s _ => s) (fun b e hb => by omega)
  have rx : H[x]? = some (.cells ([.int .i64 j.ia, .int .i64 j.inn, .int .i64 j.user, amt 0, .int .i64 0, .int .i64 0, .int .i64 0, .int .i64 0, .slice none 0 0, .bool false] : List Value).toArray 27 (0, 0)) := px.at_
  repeat (first | refine codeA (k := ?_) | refine condA (k := ?_) | refine offA (k := ?_) | refine pureA (k := ?_) | refine readA (k := ?_))
  refine At_read (r_load (v := .pointer (some ⟨p, 0, none⟩)) rfl rfl (Cell.of hr.blk rfl)) rfl rfl rfl ?_
  refine At_wp (W_call rfl rfl (ramount_spec (k := j.need) hr.rd (by first | omega | (simp; omega)) ok.d) rfl rfl ?_) rfl
  rintro _ H ⟨rfl, hk, hd⟩
  have hr := hr.next hk hd
  have rx := hk.keep rx hxp
  have r2 := hk.keep r2 h2p
  have hK : Kept (· = p) H0 H := Kept.trans hK hk (fun _ s _ => s) (fun _ s _ => s)
  repeat (first | refine codeA (k := ?_) | refine condA (k := ?_) | refine offA (k := ?_) | refine pureA (k := ?_) | refine readA (k := ?_))
  refine At_wp (W_store rfl rfl rx rfl rfl rfl rfl ?_) rfl
  intro H px
  have hr := hr.keep px.kept (fun b e => ⟨by omega, by omega, by omega⟩)
  have r2 := px.kept.keep r2 h2x
  have hK : Kept (· = p) H0 H := Kept.trans hK px.kept (fun _ s _ => s) (fun b e hb => by omega)
  have rx : H[x]? = some (.cells ([.int .i64 j.ia, .int .i64 j.inn, .int .i64 j.user, amt j.need, .int .i64 0, .int .i64 0, .int .i64 0, .int .i64 0, .slice none 0 0, .bool false] : List Value).toArray 27 (0, 0)) := px.at_
  repeat (first | refine codeA (k := ?_) | refine condA (k := ?_) | refine offA (k := ?_) | refine pureA (k := ?_) | refine readA (k := ?_))
  refine At_read (r_load (v := .pointer (some ⟨p, 0, none⟩)) rfl rfl (Cell.of hr.blk rfl)) rfl rfl rfl ?_
  refine At_wp (W_call rfl rfl (rint_spec (v := j.wall) hr.rd (by first | omega | (simp; omega)) ok.e) rfl rfl ?_) rfl
  rintro _ H ⟨rfl, hk, hd⟩
  have hr := hr.next hk hd
  have rx := hk.keep rx hxp
  have r2 := hk.keep r2 h2p
  have hK : Kept (· = p) H0 H := Kept.trans hK hk (fun _ s _ => s) (fun _ s _ => s)
  repeat (first | refine codeA (k := ?_) | refine condA (k := ?_) | refine offA (k := ?_) | refine pureA (k := ?_) | refine readA (k := ?_))
  refine At_wp (W_store rfl rfl rx rfl rfl rfl rfl ?_) rfl
  intro H px
  have hr := hr.keep px.kept (fun b e => ⟨by omega, by omega, by omega⟩)
  have r2 := px.kept.keep r2 h2x
  have hK : Kept (· = p) H0 H := Kept.trans hK px.kept (fun _ s _ => s) (fun b e hb => by omega)
  have rx : H[x]? = some (.cells ([.int .i64 j.ia, .int .i64 j.inn, .int .i64 j.user, amt j.need, .int .i64 j.wall, .int .i64 0, .int .i64 0, .int .i64 0, .slice none 0 0, .bool false] : List Value).toArray 27 (0, 0)) := px.at_
  repeat (first | refine codeA (k := ?_) | refine condA (k := ?_) | refine offA (k := ?_) | refine pureA (k := ?_) | refine readA (k := ?_))
  refine At_read (r_load (v := .pointer (some ⟨p, 0, none⟩)) rfl rfl (Cell.of hr.blk rfl)) rfl rfl rfl ?_
  refine At_wp (W_call rfl rfl (rint_spec (v := j.run_) hr.rd (by first | omega | (simp; omega)) ok.f) rfl rfl ?_) rfl
  rintro _ H ⟨rfl, hk, hd⟩
  have hr := hr.next hk hd
  have rx := hk.keep rx hxp
  have r2 := hk.keep r2 h2p
  have hK : Kept (· = p) H0 H := Kept.trans hK hk (fun _ s _ => s) (fun _ s _ => s)
  repeat (first | refine codeA (k := ?_) | refine condA (k := ?_) | refine offA (k := ?_) | refine pureA (k := ?_) | refine readA (k := ?_))
  refine At_wp (W_store rfl rfl rx rfl rfl rfl rfl ?_) rfl
  intro H px
  have hr := hr.keep px.kept (fun b e => ⟨by omega, by omega, by omega⟩)
  have r2 := px.kept.keep r2 h2x
  have hK : Kept (· = p) H0 H := Kept.trans hK px.kept (fun _ s _ => s) (fun b e hb => by omega)
  have rx : H[x]? = some (.cells ([.int .i64 j.ia, .int .i64 j.inn, .int .i64 j.user, amt j.need, .int .i64 j.wall, .int .i64 j.run_, .int .i64 0, .int .i64 0, .slice none 0 0, .bool false] : List Value).toArray 27 (0, 0)) := px.at_
  repeat (first | refine codeA (k := ?_) | refine condA (k := ?_) | refine offA (k := ?_) | refine pureA (k := ?_) | refine readA (k := ?_))
  refine At_read (r_load (v := .pointer (some ⟨p, 0, none⟩)) rfl rfl (Cell.of hr.blk rfl)) rfl rfl rfl ?_
  refine At_wp (W_call rfl rfl (rint_spec (v := j.base) hr.rd (by first | omega | (simp; omega)) ok.g) rfl rfl ?_) rfl
  rintro _ H ⟨rfl, hk, hd⟩
  have hr := hr.next hk hd
  have rx := hk.keep rx hxp
  have r2 := hk.keep r2 h2p
  have hK : Kept (· = p) H0 H := Kept.trans hK hk (fun _ s _ => s) (fun _ s _ => s)
  repeat (first | refine codeA (k := ?_) | refine condA (k := ?_) | refine offA (k := ?_) | refine pureA (k := ?_) | refine readA (k := ?_))
  refine At_wp (W_store rfl rfl rx rfl rfl rfl rfl ?_) rfl
  intro H px
  have hr := hr.keep px.kept (fun b e => ⟨by omega, by omega, by omega⟩)
  have r2 := px.kept.keep r2 h2x
  have hK : Kept (· = p) H0 H := Kept.trans hK px.kept (fun _ s _ => s) (fun b e hb => by omega)
  have rx : H[x]? = some (.cells ([.int .i64 j.ia, .int .i64 j.inn, .int .i64 j.user, amt j.need, .int .i64 j.wall, .int .i64 j.run_, .int .i64 j.base, .int .i64 0, .slice none 0 0, .bool false] : List Value).toArray 27 (0, 0)) := px.at_
  repeat (first | refine codeA (k := ?_) | refine condA (k := ?_) | refine offA (k := ?_) | refine pureA (k := ?_) | refine readA (k := ?_))
  refine At_read (r_load (v := .pointer (some ⟨p, 0, none⟩)) rfl rfl (Cell.of hr.blk rfl)) rfl rfl rfl ?_
  refine At_wp (W_call rfl rfl (rint_spec (v := j.aft) hr.rd (by first | omega | (simp; omega)) ok.h) rfl rfl ?_) rfl
  rintro _ H ⟨rfl, hk, hd⟩
  have hr := hr.next hk hd
  have rx := hk.keep rx hxp
  have r2 := hk.keep r2 h2p
  have hK : Kept (· = p) H0 H := Kept.trans hK hk (fun _ s _ => s) (fun _ s _ => s)
  repeat (first | refine codeA (k := ?_) | refine condA (k := ?_) | refine offA (k := ?_) | refine pureA (k := ?_) | refine readA (k := ?_))
  refine At_wp (W_store rfl rfl rx rfl rfl rfl rfl ?_) rfl
  intro H px
  have hr := hr.keep px.kept (fun b e => ⟨by omega, by omega, by omega⟩)
  have r2 := px.kept.keep r2 h2x
  have hK : Kept (· = p) H0 H := Kept.trans hK px.kept (fun _ s _ => s) (fun b e hb => by omega)
  have rx : H[x]? = some (.cells ([.int .i64 j.ia, .int .i64 j.inn, .int .i64 j.user, amt j.need, .int .i64 j.wall, .int .i64 j.run_, .int .i64 j.base, .int .i64 j.aft, .slice none 0 0, .bool false] : List Value).toArray 27 (0, 0)) := px.at_
  repeat (first | refine codeA (k := ?_) | refine condA (k := ?_) | refine offA (k := ?_) | refine pureA (k := ?_) | refine readA (k := ?_))
  refine At_read (r_load (v := .pointer (some ⟨p, 0, none⟩)) rfl rfl (Cell.of hr.blk rfl)) rfl rfl rfl ?_
  refine At_pure (p_makeFuncB (first := [.tmp 47]) (cap := []) rfl rfl) rfl rfl rfl ?_
  refine At_wp (W_call rfl rfl (rmany_int_spec j.sites hr h8 ok.k (by first | omega | (simp; omega))) rfl rfl ?_) rfl
  have hs0 := hK.size
  have hxs0 := lt_of_heap rx
  have hys0 := lt_of_heap r2
  have hps0 := hr.lt
  rintro sv H ⟨hk, hd, hv, hnew⟩
  have hr := hr.next hk hd
  have rx := hk.keep rx hxp
  have r2 := hk.keep r2 h2p
  have hxl : ∀ b, sv.ownBlock = some b → b ≠ x ∧ b ≠ y ∧ b ≠ p := fun b e => by have := hnew b e; omega
  have hK : Kept (· = p) H0 H := Kept.trans hK hk (fun _ s _ => s) (fun _ s _ => s)
  obtain ⟨q, c, rfl, hc, _⟩ := id hv
  repeat (first | refine codeA (k := ?_) | refine condA (k := ?_) | refine offA (k := ?_) | refine pureA (k := ?_) | refine readA (k := ?_))
  refine At_wp (W_store rfl rfl rx rfl rfl rfl rfl ?_) rfl
  intro H px
  have hr := hr.keep px.kept (fun b e => ⟨by omega, by omega, by omega⟩)
  have r2 := px.kept.keep r2 h2x
  have hK : Kept (· = p) H0 H := Kept.trans hK px.kept (fun _ s _ => s) (fun b e hb => by omega)
  have hv := hv.keepS px.kept (fun b e e2 => (hxl b e).1 e2)
  have rx : H[x]? = some (.cells ([.int .i64 j.ia, .int .i64 j.inn, .int .i64 j.user, amt j.need, .int .i64 j.wall, .int .i64 j.run_, .int .i64 j.base, .int .i64 j.aft, .slice q j.sites.length c, .bool false] : List Value).toArray 27 (0, 0)) := px.at_
  repeat (first | refine codeA (k := ?_) | refine condA (k := ?_) | refine offA (k := ?_) | refine pureA (k := ?_) | refine readA (k := ?_))
  refine At_read (r_load (v := .pointer (some ⟨p, 0, none⟩)) rfl rfl (Cell.of hr.blk rfl)) rfl rfl rfl ?_
  refine At_wp (W_call rfl rfl (rmark_spec (b := j.pact) hr.rd (by first | omega | (simp; omega))) rfl rfl ?_) rfl
  rintro _ H ⟨rfl, hk, hd⟩
  have hr := hr.next hk hd
  have rx := hk.keep rx hxp
  have r2 := hk.keep r2 h2p
  have hK : Kept (· = p) H0 H := Kept.trans hK hk (fun _ s _ => s) (fun _ s _ => s)
  have hv := hv.keepS hk (fun b e e2 => (hxl b e).2.2 e2)
  repeat (first | refine codeA (k := ?_) | refine condA (k := ?_) | refine offA (k := ?_) | refine pureA (k := ?_) | refine readA (k := ?_))
  refine At_wp (W_store rfl rfl rx rfl rfl rfl rfl ?_) rfl
  intro H px
  have hr := hr.keep px.kept (fun b e => ⟨by omega, by omega, by omega⟩)
  have r2 := px.kept.keep r2 h2x
  have hK : Kept (· = p) H0 H := Kept.trans hK px.kept (fun _ s _ => s) (fun b e hb => by omega)
  have hv := hv.keepS px.kept (fun b e e2 => (hxl b e).1 e2)
  have rx : H[x]? = some (.cells ([.int .i64 j.ia, .int .i64 j.inn, .int .i64 j.user, amt j.need, .int .i64 j.wall, .int .i64 j.run_, .int .i64 j.base, .int .i64 j.aft, .slice q j.sites.length c, .bool j.pact] : List Value).toArray 27 (0, 0)) := px.at_
  repeat (first | refine codeA (k := ?_) | refine condA (k := ?_) | refine offA (k := ?_) | refine pureA (k := ?_) | refine readA (k := ?_))
  refine At_read (r_loadB rfl rx rfl rfl) rfl rfl rfl ?_
  refine At_wp (W_storeB (cs' := (jobC j (.slice q j.sites.length c)).toArray) rfl rfl r2 rfl rfl rfl rfl ?_) rfl
  intro H py
  have hK : Kept (· = p) H0 H := Kept.trans hK py.kept (fun _ s _ => s) (fun b e hb => by omega)
  have hr := hr.keep py.kept (fun b e => ⟨by omega, by omega, by omega⟩)
  repeat (first | refine codeA (k := ?_) | refine condA (k := ?_) | refine offA (k := ?_) | refine pureA (k := ?_) | refine readA (k := ?_))
  exact At_retC1 rfl rfl py.at_ rfl rfl ⟨q, j.sites.length, c, rfl, hK, hr.rd, hv.keepS py.kept (fun b e e2 => (hxl b e).2.1 e2), fun b e => Nat.le_trans hs0 (hnew b e)⟩
set_option maxHeartbeats 4000000 in
theorem rrec_spec {N : Nat} {H0 : Heap} {g p : Nat} {l : List Nat} (q : Rc) (h : Rr N H0 g p (recT q ++ l)) (ok : RcOk q) (hlen : l.length ≤ 8000) :
    Spc Tryz.prog 77 #[.pointer (some ⟨g, 0, none⟩)] H0 fun r H' => RJ N p l (recC q) q.job.sites H0 r H' := by
  have hpl := h.lt
  have hgl := lt_of_heap h.blk
  have hle := h.le
  have hpe := h.rd.le
  refine spec_of Tryz.func77 rfl Tryz.ntmps77 rfl (fun W => ?_)
  repeat (first | refine codeA (k := ?_) | refine condA (k := ?_) | refine offA (k := ?_) | refine pureA (k := ?_) | refine readA (k := ?_))
  refine At_wp (W_alloc rfl rfl ?_) rfl
  intro y H1 n1
  repeat (first | refine codeA (k := ?_) | refine condA (k := ?_) | refine offA (k := ?_) | refine pureA (k := ?_) | refine readA (k := ?_))
  refine At_wp (W_alloc rfl rfl ?_) rfl
  intro x H n2
  have y1 := n1.blk
  have y2 := n2.blk
  have y3 := n1.size
  have y4 := n2.size
  have hxp : p ≠ x := by omega
  have hxp : x ≠ p := by omega
  have h2p : y ≠ p := by omega
  have h2x : y ≠ x := by omega
  have hr := (h.ext n1.ext).ext n2.ext
  have r2 := n2.ext.keep n1.at_ (fun f => f)
  have rx := n2.at_
  have hK : Kept (· = p) H0 H := (n1.ext.trans n2.ext).mono (fun _ f _ => f.elim)
  repeat (first | refine codeA (k := ?_) | refine condA (k := ?_) | refine offA (k := ?_) | refine pureA (k := ?_) | refine readA (k := ?_))
  have hj := jobT_len ok.j
  have hr : Rr N H g p (2 * q.kind :: ([2 * q.ia, 2 * q.inn] ++ (2 * q.site :: 2 * q.tok :: 2 * q.tick :: 2 * q.until_ :: 2 * q.how :: bt q.on :: (jobT q.job ++ ([0, 0, 0, 0] ++ (0 :: 0 :: l)))))) := by simpa [recT] using hr
  refine At_read (r_load (v := .pointer (some ⟨p, 0, none⟩)) rfl rfl (Cell.of hr.blk rfl)) rfl rfl rfl ?_
  refine At_wp (W_call rfl rfl (rint_spec (v := q.kind) hr.rd (by first | omega | (simp; omega)) ok.a) rfl rfl ?_) rfl
  rintro _ H ⟨rfl, hk, hd⟩
  have hr := hr.next hk hd
  have rx := hk.keep rx hxp
  have r2 := hk.keep r2 h2p
  have hK : Kept (· = p) H0 H := Kept.trans hK hk (fun _ s _ => s) (fun _ s _ => s)
  repeat (first | refine codeA (k := ?_) | refine condA (k := ?_) | refine offA (k := ?_) | refine pureA (k := ?_) | refine readA (k := ?_))
  refine At_wp (W_store rfl rfl rx rfl rfl rfl rfl ?_) rfl
  intro H px
  have hr := hr.keep px.kept (fun b e => ⟨by omega, by omega, by omega⟩)
  have r2 := px.kept.keep r2 h2x
  have hK : Kept (· = p) H0 H := Kept.trans hK px.kept (fun _ s _ => s) (fun b e hb => by omega)
  have rx : H[x]? = some (.cells ([.int .i64 q.kind, .int .i64 0, .int .i64 0, .int .i64 0, .int .i64 0, .int .i64 0, .int .i64 0, .int .i64 0, .bool false, .int .i64 0, .int .i64 0, .int .i64 0, amt 0, .int .i64 0, .int .i64 0, .int .i64 0, .int .i64 0, .slice none 0 0, .bool false, .int .i64 0, .int .i64 0, amt 0, .slice none 0 0, .slice none 0 0] : List Value).toArray 75 (0, 0)) := px.at_
  repeat (first | refine codeA (k := ?_) | refine condA (k := ?_) | refine offA (k := ?_) | refine pureA (k := ?_) | refine readA (k := ?_))
  refine At_wp (W_call rfl rfl (rid_spec q.ia q.inn hr ok.b ok.c (by first | omega | (simp; omega))) rfl rfl ?_) rfl
  rintro _ H ⟨rfl, hk, hd⟩
  have hr := hr.next hk hd
  have rx := hk.keep rx hxp
  have r2 := hk.keep r2 h2p
  have hK : Kept (· = p) H0 H := Kept.trans hK hk (fun _ s _ => s) (fun _ s _ => s)
  repeat (first | refine codeA (k := ?_) | refine condA (k := ?_) | refine offA (k := ?_) | refine pureA (k := ?_) | refine readA (k := ?_))
  refine At_wp (W_storeN rfl rfl rx rfl (fun u hu => List.all_eq_true.1 (show (([.int .i64 q.ia, .int .i64 q.inn] : List Value).all (·.oneCell')) = true from rfl) u hu) (Nat.le_of_ble_eq_true rfl) ?_) rfl
  intro H px
  have hr := hr.keep px.kept (fun b e => ⟨by omega, by omega, by omega⟩)
  have r2 := px.kept.keep r2 h2x
  have hK : Kept (· = p) H0 H := Kept.trans hK px.kept (fun _ s _ => s) (fun b e hb => by omega)
  have rx : H[x]? = some (.cells ([.int .i64 q.kind, .int .i64 q.ia, .int .i64 q.inn, .int .i64 0, .int .i64 0, .int .i64 0, .int .i64 0, .int .i64 0, .bool false, .int .i64 0, .int .i64 0, .int .i64 0, amt 0, .int .i64 0, .int .i64 0, .int .i64 0, .int .i64 0, .slice none 0 0, .bool false, .int .i64 0, .int .i64 0, amt 0, .slice none 0 0, .slice none 0 0] : List Value).toArray 75 (0, 0)) := px.at_
  repeat (first | refine codeA (k := ?_) | refine condA (k := ?_) | refine offA (k := ?_) | refine pureA (k := ?_) | refine readA (k := ?_))
  refine At_read (r_load (v := .pointer (some ⟨p, 0, none⟩)) rfl rfl (Cell.of hr.blk rfl)) rfl rfl rfl ?_
  refine At_wp (W_call rfl rfl (rint_spec (v := q.site) hr.rd (by first | omega | (simp; omega)) ok.d) rfl rfl ?_) rfl
  rintro _ H ⟨rfl, hk, hd⟩
  have hr := hr.next hk hd
  have rx := hk.keep rx hxp
  have r2 := hk.keep r2 h2p
  have hK : Kept (· = p) H0 H := Kept.trans hK hk (fun _ s _ => s) (fun _ s _ => s)
  repeat (first | refine codeA (k := ?_) | refine condA (k := ?_) | refine offA (k := ?_) | refine pureA (k := ?_) | refine readA (k := ?_))
  refine At_wp (W_store rfl rfl rx rfl rfl rfl rfl ?_) rfl
  intro H px
  have hr := hr.keep px.kept (fun b e => ⟨by omega, by omega, by omega⟩)
  have r2 := px.kept.keep r2 h2x
  have hK : Kept (· = p) H0 H := Kept.trans hK px.kept (fun _ s _ => s) (fun b e hb => by omega)
  have rx : H[x]? = some (.cells ([.int .i64 q.kind, .int .i64 q.ia, .int .i64 q.inn, .int .i64 q.site, .int .i64 0, .int .i64 0, .int .i64 0, .int .i64 0, .bool false, .int .i64 0, .int .i64 0, .int .i64 0, amt 0, .int .i64 0, .int .i64 0, .int .i64 0, .int .i64 0, .slice none 0 0, .bool false, .int .i64 0, .int .i64 0, amt 0, .slice none 0 0, .slice none 0 0] : List Value).toArray 75 (0, 0)) := px.at_
  repeat (first | refine codeA (k := ?_) | refine condA (k := ?_) | refine offA (k := ?_) | refine pureA (k := ?_) | refine readA (k := ?_))
  refine At_read (r_load (v := .pointer (some ⟨p, 0, none⟩)) rfl rfl (Cell.of hr.blk rfl)) rfl rfl rfl ?_
  refine At_wp (W_call rfl rfl (rint_spec (v := q.tok) hr.rd (by first | omega | (simp; omega)) ok.e) rfl rfl ?_) rfl
  rintro _ H ⟨rfl, hk, hd⟩
  have hr := hr.next hk hd
  have rx := hk.keep rx hxp
  have r2 := hk.keep r2 h2p
  have hK : Kept (· = p) H0 H := Kept.trans hK hk (fun _ s _ => s) (fun _ s _ => s)
  repeat (first | refine codeA (k := ?_) | refine condA (k := ?_) | refine offA (k := ?_) | refine pureA (k := ?_) | refine readA (k := ?_))
  refine At_wp (W_store rfl rfl rx rfl rfl rfl rfl ?_) rfl
  intro H px
  have hr := hr.keep px.kept (fun b e => ⟨by omega, by omega, by omega⟩)
  have r2 := px.kept.keep r2 h2x
  have hK : Kept (· = p) H0 H := Kept.trans hK px.kept (fun _ s _ => s) (fun b e hb => by omega)
  have rx : H[x]? = some (.cells ([.int .i64 q.kind, .int .i64 q.ia, .int .i64 q.inn, .int .i64 q.site, .int .i64 q.tok, .int .i64 0, .int .i64 0, .int .i64 0, .bool false, .int .i64 0, .int .i64 0, .int .i64 0, amt 0, .int .i64 0, .int .i64 0, .int .i64 0, .int .i64 0, .slice none 0 0, .bool false, .int .i64 0, .int .i64 0, amt 0, .slice none 0 0, .slice none 0 0] : List Value).toArray 75 (0, 0)) := px.at_
  repeat (first | refine codeA (k := ?_) | refine condA (k := ?_) | refine offA (k := ?_) | refine pureA (k := ?_) | refine readA (k := ?_))
  refine At_read (r_load (v := .pointer (some ⟨p, 0, none⟩)) rfl rfl (Cell.of hr.blk rfl)) rfl rfl rfl ?_
  refine At_wp (W_call rfl rfl (rint_spec (v := q.tick) hr.rd (by first | omega | (simp; omega)) ok.f) rfl rfl ?_) rfl
  rintro _ H ⟨rfl, hk, hd⟩
  have hr := hr.next hk hd
  have rx := hk.keep rx hxp
  have r2 := hk.keep r2 h2p
  have hK : Kept (· = p) H0 H := Kept.trans hK hk (fun _ s _ => s) (fun _ s _ => s)
  repeat (first | refine codeA (k := ?_) | refine condA (k := ?_) | refine offA (k := ?_) | refine pureA (k := ?_) | refine readA (k := ?_))
  refine At_wp (W_store rfl rfl rx rfl rfl rfl rfl ?_) rfl
  intro H px
  have hr := hr.keep px.kept (fun b e => ⟨by omega, by omega, by omega⟩)
  have r2 := px.kept.keep r2 h2x
  have hK : Kept (· = p) H0 H := Kept.trans hK px.kept (fun _ s _ => s) (fun b e hb => by omega)
  have rx : H[x]? = some (.cells ([.int .i64 q.kind, .int .i64 q.ia, .int .i64 q.inn, .int .i64 q.site, .int .i64 q.tok, .int .i64 q.tick, .int .i64 0, .int .i64 0, .bool false, .int .i64 0, .int .i64 0, .int .i64 0, amt 0, .int .i64 0, .int .i64 0, .int .i64 0, .int .i64 0, .slice none 0 0, .bool false, .int .i64 0, .int .i64 0, amt 0, .slice none 0 0, .slice none 0 0] : List Value).toArray 75 (0, 0)) := px.at_
  repeat (first | refine codeA (k := ?_) | refine condA (k := ?_) | refine offA (k := ?_) | refine pureA (k := ?_) | refine readA (k := ?_))
  refine At_read (r_load (v := .pointer (some ⟨p, 0, none⟩)) rfl rfl (Cell.of hr.blk rfl)) rfl rfl rfl ?_
  refine At_wp (W_call rfl rfl (rint_spec (v := q.until_) hr.rd (by first | omega | (simp; omega)) ok.g) rfl rfl ?_) rfl
  rintro _ H ⟨rfl, hk, hd⟩
  have hr := hr.next hk hd
  have rx := hk.keep rx hxp
  have r2 := hk.keep r2 h2p
  have hK : Kept (· = p) H0 H := Kept.trans hK hk (fun _ s _ => s) (fun _ s _ => s)
  repeat (first | refine codeA (k := ?_) | refine condA (k := ?_) | refine offA (k := ?_) | refine pureA (k := ?_) | refine readA (k := ?_))
  refine At_wp (W_store rfl rfl rx rfl rfl rfl rfl ?_) rfl
  intro H px
  have hr := hr.keep px.kept (fun b e => ⟨by omega, by omega, by omega⟩)
  have r2 := px.kept.keep r2 h2x
  have hK : Kept (· = p) H0 H := Kept.trans hK px.kept (fun _ s _ => s) (fun b e hb => by omega)
  have rx : H[x]? = some (.cells ([.int .i64 q.kind, .int .i64 q.ia, .int .i64 q.inn, .int .i64 q.site, .int .i64 q.tok, .int .i64 q.tick, .int .i64 q.until_, .int .i64 0, .bool false, .int .i64 0, .int .i64 0, .int .i64 0, amt 0, .int .i64 0, .int .i64 0, .int .i64 0, .int .i64 0, .slice none 0 0, .bool false, .int .i64 0, .int .i64 0, amt 0, .slice none 0 0, .slice none 0 0] : List Value).toArray 75 (0, 0)) := px.at_
  repeat (first | refine codeA (k := ?_) | refine condA (k := ?_) | refine offA (k := ?_) | refine pureA (k := ?_) | refine readA (k := ?_))
  refine At_read (r_load (v := .pointer (some ⟨p, 0, none⟩)) rfl rfl (Cell.of hr.blk rfl)) rfl rfl rfl ?_
  refine At_wp (W_call rfl rfl (rint_spec (v := q.how) hr.rd (by first | omega | (simp; omega)) ok.h) rfl rfl ?_) rfl
  rintro _ H ⟨rfl, hk, hd⟩
  have hr := hr.next hk hd
  have rx := hk.keep rx hxp
  have r2 := hk.keep r2 h2p
  have hK : Kept (· = p) H0 H := Kept.trans hK hk (fun _ s _ => s) (fun _ s _ => s)
  repeat (first | refine codeA (k := ?_) | refine condA (k := ?_) | refine offA (k := ?_) | refine pureA (k := ?_) | refine readA (k := ?_))
  refine At_wp (W_store rfl rfl rx rfl rfl rfl rfl ?_) rfl
  intro H px
  have hr := hr.keep px.kept (fun b e => ⟨by omega, by omega, by omega⟩)
  have r2 := px.kept.keep r2 h2x
  have hK : Kept (· = p) H0 H := Kept.trans hK px.kept (fun _ s _ => s) (fun b e hb => by omega)
  have rx : H[x]? = some (.cells ([.int .i64 q.kind, .int .i64 q.ia, .int .i64 q.inn, .int .i64 q.site, .int .i64 q.tok, .int .i64 q.tick, .int .i64 q.until_, .int .i64 q.how, .bool false, .int .i64 0, .int .i64 0, .int .i64 0, amt 0, .int .i64 0, .int .i64 0, .int .i64 0, .int .i64 0, .slice none 0 0, .bool false, .int .i64 0, .int .i64 0, amt 0, .slice none 0 0, .slice none 0 0] : List Value).toArray 75 (0, 0)) := px.at_
  repeat (first | refine codeA (k := ?_) | refine condA (k := ?_) | refine offA (k := ?_) | refine pureA (k := ?_) | refine readA (k := ?_))
  refine At_read (r_load (v := .pointer (some ⟨p, 0, none⟩)) rfl rfl (Cell.of hr.blk rfl)) rfl rfl rfl ?_
  refine At_wp (W_call rfl rfl (rmark_spec (b := q.on) hr.rd (by first | omega | (simp; omega))) rfl rfl ?_) rfl
  rintro _ H ⟨rfl, hk, hd⟩
  have hr := hr.next hk hd
  have rx := hk.keep rx hxp
  have r2 := hk.keep r2 h2p
  have hK : Kept (· = p) H0 H := Kept.trans hK hk (fun _ s _ => s) (fun _ s _ => s)
  repeat (first | refine codeA (k := ?_) | refine condA (k := ?_) | refine offA (k := ?_) | refine pureA (k := ?_) | refine readA (k := ?_))
  refine At_wp (W_store rfl rfl rx rfl rfl rfl rfl ?_) rfl
  intro H px
  have hr := hr.keep px.kept (fun b e => ⟨by omega, by omega, by omega⟩)
  have r2 := px.kept.keep r2 h2x
  have hK : Kept (· = p) H0 H := Kept.trans hK px.kept (fun _ s _ => s) (fun b e hb => by omega)
  have rx : H[x]? = some (.cells ([.int .i64 q.kind, .int .i64 q.ia, .int .i64 q.inn, .int .i64 q.site, .int .i64 q.tok, .int .i64 q.tick, .int .i64 q.until_, .int .i64 q.how, .bool q.on, .int .i64 0, .int .i64 0, .int .i64 0, amt 0, .int .i64 0, .int .i64 0, .int .i64 0, .int .i64 0, .slice none 0 0, .bool false, .int .i64 0, .int .i64 0, amt 0, .slice none 0 0, .slice none 0 0] : List Value).toArray 75 (0, 0)) := px.at_
  repeat (first | refine codeA (k := ?_) | refine condA (k := ?_) | refine offA (k := ?_) | refine pureA (k := ?_) | refine readA (k := ?_))
  refine At_wp (W_call rfl rfl (rjob_spec q.job hr ok.j (by first | omega | (simp; omega))) rfl rfl ?_) rfl
  have hs0 := hK.size
  have hxs0 := lt_of_heap rx
  have hys0 := lt_of_heap r2
  have hps0 := hr.lt
  rintro _ H ⟨sq, sn, sc, rfl, hk, hd, hv, hnew⟩
  have hr := hr.next hk hd
  have rx := hk.keep rx hxp
  have r2 := hk.keep r2 h2p
  have hxl : ∀ b, (Value.slice sq sn sc).ownBlock = some b → b ≠ x ∧ b ≠ y ∧ b ≠ p := fun b e => by have := hnew b e; omega
  have hK : Kept (· = p) H0 H := Kept.trans hK hk (fun _ s _ => s) (fun _ s _ => s)
  repeat (first | refine codeA (k := ?_) | refine condA (k := ?_) | refine offA (k := ?_) | refine pureA (k := ?_) | refine readA (k := ?_))
  refine At_wp (W_storeN rfl rfl rx rfl (fun u hu => List.all_eq_true.1 (show ((jobC q.job (.slice sq sn sc)).all (·.oneCell')) = true from rfl) u hu) (Nat.le_of_ble_eq_true rfl) ?_) rfl
  intro H px
  have hr := hr.keep px.kept (fun b e => ⟨by omega, by omega, by omega⟩)
  have r2 := px.kept.keep r2 h2x
  have hK : Kept (· = p) H0 H := Kept.trans hK px.kept (fun _ s _ => s) (fun b e hb => by omega)
  have hv := hv.keepS px.kept (fun b e e2 => (hxl b e).1 e2)
  have rx : H[x]? = some (.cells ([.int .i64 q.kind, .int .i64 q.ia, .int .i64 q.inn, .int .i64 q.site, .int .i64 q.tok, .int .i64 q.tick, .int .i64 q.until_, .int .i64 q.how, .bool q.on, .int .i64 q.job.ia, .int .i64 q.job.inn, .int .i64 q.job.user, amt q.job.need, .int .i64 q.job.wall, .int .i64 q.job.run_, .int .i64 q.job.base, .int .i64 q.job.aft, .slice sq sn sc, .bool q.job.pact, .int .i64 0, .int .i64 0, amt 0, .slice none 0 0, .slice none 0 0] : List Value).toArray 75 (0, 0)) := px.at_
  repeat (first | refine codeA (k := ?_) | refine condA (k := ?_) | refine offA (k := ?_) | refine pureA (k := ?_) | refine readA (k := ?_))
  refine At_wp (W_call rfl rfl (rbusy0_spec hr (by first | omega | (simp; omega))) rfl rfl ?_) rfl
  rintro _ H ⟨rfl, hk, hd⟩
  have hr := hr.next hk hd
  have rx := hk.keep rx hxp
  have r2 := hk.keep r2 h2p
  have hK : Kept (· = p) H0 H := Kept.trans hK hk (fun _ s _ => s) (fun _ s _ => s)
  have hv := hv.keepS hk (fun b e e2 => (hxl b e).2.2 e2)
  repeat (first | refine codeA (k := ?_) | refine condA (k := ?_) | refine offA (k := ?_) | refine pureA (k := ?_) | refine readA (k := ?_))
  refine At_wp (W_storeN rfl rfl rx rfl (fun u hu => List.all_eq_true.1 (show (([.int .i64 0, .int .i64 0, amt 0] : List Value).all (·.oneCell')) = true from rfl) u hu) (Nat.le_of_ble_eq_true rfl) ?_) rfl
  intro H px
  have hr := hr.keep px.kept (fun b e => ⟨by omega, by omega, by omega⟩)
  have r2 := px.kept.keep r2 h2x
  have hK : Kept (· = p) H0 H := Kept.trans hK px.kept (fun _ s _ => s) (fun b e hb => by omega)
  have hv := hv.keepS px.kept (fun b e e2 => (hxl b e).1 e2)
  have rx : H[x]? = some (.cells ([.int .i64 q.kind, .int .i64 q.ia, .int .i64 q.inn, .int .i64 q.site, .int .i64 q.tok, .int .i64 q.tick, .int .i64 q.until_, .int .i64 q.how, .bool q.on, .int .i64 q.job.ia, .int .i64 q.job.inn, .int .i64 q.job.user, amt q.job.need, .int .i64 q.job.wall, .int .i64 q.job.run_, .int .i64 q.job.base, .int .i64 q.job.aft, .slice sq sn sc, .bool q.job.pact, .int .i64 0, .int .i64 0, amt 0, .slice none 0 0, .slice none 0 0] : List Value).toArray 75 (0, 0)) := px.at_
  repeat (first | refine codeA (k := ?_) | refine condA (k := ?_) | refine offA (k := ?_) | refine pureA (k := ?_) | refine readA (k := ?_))
  refine At_pure (p_makeFuncB (first := [.tmp 56]) (cap := []) rfl rfl) rfl rfl rfl ?_
  refine At_wp (W_call rfl rfl (rmany_span0_spec hr (by first | omega | (simp; omega))) rfl rfl ?_) rfl
  rintro _ H ⟨rfl, hk, hd⟩
  have hr := hr.next hk hd
  have rx := hk.keep rx hxp
  have r2 := hk.keep r2 h2p
  have hK : Kept (· = p) H0 H := Kept.trans hK hk (fun _ s _ => s) (fun _ s _ => s)
  have hv := hv.keepS hk (fun b e e2 => (hxl b e).2.2 e2)
  repeat (first | refine codeA (k := ?_) | refine condA (k := ?_) | refine offA (k := ?_) | refine pureA (k := ?_) | refine readA (k := ?_))
  refine At_wp (W_store rfl rfl rx rfl rfl rfl rfl ?_) rfl
  intro H px
  have hr := hr.keep px.kept (fun b e => ⟨by omega, by omega, by omega⟩)
  have r2 := px.kept.keep r2 h2x
  have hK : Kept (· = p) H0 H := Kept.trans hK px.kept (fun _ s _ => s) (fun b e hb => by omega)
  have hv := hv.keepS px.kept (fun b e e2 => (hxl b e).1 e2)
  have rx : H[x]? = some (.cells ([.int .i64 q.kind, .int .i64 q.ia, .int .i64 q.inn, .int .i64 q.site, .int .i64 q.tok, .int .i64 q.tick, .int .i64 q.until_, .int .i64 q.how, .bool q.on, .int .i64 q.job.ia, .int .i64 q.job.inn, .int .i64 q.job.user, amt q.job.need, .int .i64 q.job.wall, .int .i64 q.job.run_, .int .i64 q.job.base, .int .i64 q.job.aft, .slice sq sn sc, .bool q.job.pact, .int .i64 0, .int .i64 0, amt 0, .slice none 0 0, .slice none 0 0] : List Value).toArray 75 (0, 0)) := px.at_
  repeat (first | refine codeA (k := ?_) | refine condA (k := ?_) | refine offA (k := ?_) | refine pureA (k := ?_) | refine readA (k := ?_))
  refine At_pure (p_makeFuncB (first := [.tmp 61]) (cap := []) rfl rfl) rfl rfl rfl ?_
  refine At_wp (W_call rfl rfl (rmany_slot0_spec hr (by first | omega | (simp; omega))) rfl rfl ?_) rfl
  rintro _ H ⟨rfl, hk, hd⟩
  have hr := hr.next hk hd
  have rx := hk.keep rx hxp
  have r2 := hk.keep r2 h2p
  have hK : Kept (· = p) H0 H := Kept.trans hK hk (fun _ s _ => s) (fun _ s _ => s)
  have hv := hv.keepS hk (fun b e e2 => (hxl b e).2.2 e2)
  repeat (first | refine codeA (k := ?_) | refine condA (k := ?_) | refine offA (k := ?_) | refine pureA (k := ?_) | refine readA (k := ?_))
  refine At_wp (W_store rfl rfl rx rfl rfl rfl rfl ?_) rfl
  intro H px
  have hr := hr.keep px.kept (fun b e => ⟨by omega, by omega, by omega⟩)
  have r2 := px.kept.keep r2 h2x
  have hK : Kept (· = p) H0 H := Kept.trans hK px.kept (fun _ s _ => s) (fun b e hb => by omega)
  have hv := hv.keepS px.kept (fun b e e2 => (hxl b e).1 e2)
  have rx : H[x]? = some (.cells ([.int .i64 q.kind, .int .i64 q.ia, .int .i64 q.inn, .int .i64 q.site, .int .i64 q.tok, .int .i64 q.tick, .int .i64 q.until_, .int .i64 q.how, .bool q.on, .int .i64 q.job.ia, .int .i64 q.job.inn, .int .i64 q.job.user, amt q.job.need, .int .i64 q.job.wall, .int .i64 q.job.run_, .int .i64 q.job.base, .int .i64 q.job.aft, .slice sq sn sc, .bool q.job.pact, .int .i64 0, .int .i64 0, amt 0, .slice none 0 0, .slice none 0 0] : List Value).toArray 75 (0, 0)) := px.at_
  repeat (first | refine codeA (k := ?_) | refine condA (k := ?_) | refine offA (k := ?_) | refine pureA (k := ?_) | refine readA (k := ?_))
  refine At_read (r_loadB rfl rx rfl rfl) rfl rfl rfl ?_
  refine At_wp (W_storeB (cs' := (recC q (.slice sq sn sc)).toArray) rfl rfl r2 rfl rfl rfl rfl ?_) rfl
  intro H py
  have hK : Kept (· = p) H0 H := Kept.trans hK py.kept (fun _ s _ => s) (fun b e hb => by omega)
  have hr := hr.keep py.kept (fun b e => ⟨by omega, by omega, by omega⟩)
  repeat (first | refine codeA (k := ?_) | refine condA (k := ?_) | refine offA (k := ?_) | refine pureA (k := ?_) | refine readA (k := ?_))
  exact At_retC1 rfl rfl py.at_ rfl rfl ⟨sq, sn, sc, rfl, hK, hr.rd, hv.keepS py.kept (fun b e e2 => (hxl b e).2.1 e2), fun b e => Nat.le_trans hs0 (hnew b e)⟩
set_option maxHeartbeats 4000000 in
theorem rmsg_spec {N : Nat} {H0 : Heap} {g p : Nat} {l : List Nat} (m : Ms) (h : Rr N H0 g p (msgT m ++ l)) (ok : MsOk m) (hlen : l.length ≤ 8000) :
    Spc Tryz.prog 221 #[.pointer (some ⟨g, 0, none⟩)] H0 fun r H' => RJ N p l (msgC m) m.job.sites H0 r H' := by
  have hpl := h.lt
  have hgl := lt_of_heap h.blk
  have hle := h.le
  have hpe := h.rd.le
  refine spec_of Tryz.func221 rfl Tryz.ntmps221 rfl (fun W => ?_)
  repeat (first | refine codeA (k := ?_) | refine condA (k := ?_) | refine offA (k := ?_) | refine pureA (k := ?_) | refine readA (k := ?_))
  refine At_wp (W_alloc rfl rfl ?_) rfl
  intro y H1 n1
  repeat (first | refine codeA (k := ?_) | refine condA (k := ?_) | refine offA (k := ?_) | refine pureA (k := ?_) | refine readA (k := ?_))
  refine At_wp (W_alloc rfl rfl ?_) rfl
  intro x H n2
  have y1 := n1.blk
  have y2 := n2.blk
  have y3 := n1.size
  have y4 := n2.size
  have hxp : p ≠ x := by omega
  have hxp : x ≠ p := by omega
  have h2p : y ≠ p := by omega
  have h2x : y ≠ x := by omega
  have hr := (h.ext n1.ext).ext n2.ext
  have r2 := n2.ext.keep n1.at_ (fun f => f)
  have rx := n2.at_
  have hK : Kept (· = p) H0 H := (n1.ext.trans n2.ext).mono (fun _ f _ => f.elim)
  repeat (first | refine codeA (k := ?_) | refine condA (k := ?_) | refine offA (k := ?_) | refine pureA (k := ?_) | refine readA (k := ?_))
  have hj := jobT_len ok.j
  have hr : Rr N H g p (2 * m.kind :: ([2 * m.ia, 2 * m.inn] ++ (2 * m.tok :: 2 * m.tick :: 2 * m.how :: bt m.on :: (jobT m.job ++ (0 :: l))))) := by simpa [msgT] using hr
  refine At_read (r_load (v := .pointer (some ⟨p, 0, none⟩)) rfl rfl (Cell.of hr.blk rfl)) rfl rfl rfl ?_
  refine At_wp (W_call rfl rfl (rint_spec (v := m.kind) hr.rd (by first | omega | (simp; omega)) ok.a) rfl rfl ?_) rfl
  rintro _ H ⟨rfl, hk, hd⟩
  have hr := hr.next hk hd
  have rx := hk.keep rx hxp
  have r2 := hk.keep r2 h2p
  have hK : Kept (· = p) H0 H := Kept.trans hK hk (fun _ s _ => s) (fun _ s _ => s)
  repeat (first | refine codeA (k := ?_) | refine condA (k := ?_) | refine offA (k := ?_) | refine pureA (k := ?_) | refine readA (k := ?_))
  refine At_wp (W_store rfl rfl rx rfl rfl rfl rfl ?_) rfl
  intro H px
  have hr := hr.keep px.kept (fun b e => ⟨by omega, by omega, by omega⟩)
  have r2 := px.kept.keep r2 h2x
  have hK : Kept (· = p) H0 H := Kept.trans hK px.kept (fun _ s _ => s) (fun b e hb => by omega)
  have rx : H[x]? = some (.cells ([.int .i64 m.kind, .int .i64 0, .int .i64 0, .int .i64 0, .int .i64 0, .int .i64 0, .bool false, .int .i64 0, .int .i64 0, .int .i64 0, amt 0, .int .i64 0, .int .i64 0, .int .i64 0, .int .i64 0, .slice none 0 0, .bool false, .slice none 0 0] : List Value).toArray 49 (0, 0)) := px.at_
  repeat (first | refine codeA (k := ?_) | refine condA (k := ?_) | refine offA (k := ?_) | refine pureA (k := ?_) | refine readA (k := ?_))
  refine At_wp (W_call rfl rfl (rid_spec m.ia m.inn hr ok.b ok.c (by first | omega | (simp; omega))) rfl rfl ?_) rfl
  rintro _ H ⟨rfl, hk, hd⟩
  have hr := hr.next hk hd
  have rx := hk.keep rx hxp
  have r2 := hk.keep r2 h2p
  have hK : Kept (· = p) H0 H := Kept.trans hK hk (fun _ s _ => s) (fun _ s _ => s)
  repeat (first | refine codeA (k := ?_) | refine condA (k := ?_) | refine offA (k := ?_) | refine pureA (k := ?_) | refine readA (k := ?_))
  refine At_wp (W_storeN rfl rfl rx rfl (fun u hu => List.all_eq_true.1 (show (([.int .i64 m.ia, .int .i64 m.inn] : List Value).all (·.oneCell')) = true from rfl) u hu) (Nat.le_of_ble_eq_true rfl) ?_) rfl
  intro H px
  have hr := hr.keep px.kept (fun b e => ⟨by omega, by omega, by omega⟩)
  have r2 := px.kept.keep r2 h2x
  have hK : Kept (· = p) H0 H := Kept.trans hK px.kept (fun _ s _ => s) (fun b e hb => by omega)
  have rx : H[x]? = some (.cells ([.int .i64 m.kind, .int .i64 m.ia, .int .i64 m.inn, .int .i64 0, .int .i64 0, .int .i64 0, .bool false, .int .i64 0, .int .i64 0, .int .i64 0, amt 0, .int .i64 0, .int .i64 0, .int .i64 0, .int .i64 0, .slice none 0 0, .bool false, .slice none 0 0] : List Value).toArray 49 (0, 0)) := px.at_
  repeat (first | refine codeA (k := ?_) | refine condA (k := ?_) | refine offA (k := ?_) | refine pureA (k := ?_) | refine readA (k := ?_))
  refine At_read (r_load (v := .pointer (some ⟨p, 0, none⟩)) rfl rfl (Cell.of hr.blk rfl)) rfl rfl rfl ?_
  refine At_wp (W_call rfl rfl (rint_spec (v := m.tok) hr.rd (by first | omega | (simp; omega)) ok.e) rfl rfl ?_) rfl
  rintro _ H ⟨rfl, hk, hd⟩
  have hr := hr.next hk hd
  have rx := hk.keep rx hxp
  have r2 := hk.keep r2 h2p
  have hK : Kept (· = p) H0 H := Kept.trans hK hk (fun _ s _ => s) (fun _ s _ => s)
  repeat (first | refine codeA (k := ?_) | refine condA (k := ?_) | refine offA (k := ?_) | refine pureA (k := ?_) | refine readA (k := ?_))
  refine At_wp (W_store rfl rfl rx rfl rfl rfl rfl ?_) rfl
  intro H px
  have hr := hr.keep px.kept (fun b e => ⟨by omega, by omega, by omega⟩)
  have r2 := px.kept.keep r2 h2x
  have hK : Kept (· = p) H0 H := Kept.trans hK px.kept (fun _ s _ => s) (fun b e hb => by omega)
  have rx : H[x]? = some (.cells ([.int .i64 m.kind, .int .i64 m.ia, .int .i64 m.inn, .int .i64 m.tok, .int .i64 0, .int .i64 0, .bool false, .int .i64 0, .int .i64 0, .int .i64 0, amt 0, .int .i64 0, .int .i64 0, .int .i64 0, .int .i64 0, .slice none 0 0, .bool false, .slice none 0 0] : List Value).toArray 49 (0, 0)) := px.at_
  repeat (first | refine codeA (k := ?_) | refine condA (k := ?_) | refine offA (k := ?_) | refine pureA (k := ?_) | refine readA (k := ?_))
  refine At_read (r_load (v := .pointer (some ⟨p, 0, none⟩)) rfl rfl (Cell.of hr.blk rfl)) rfl rfl rfl ?_
  refine At_wp (W_call rfl rfl (rint_spec (v := m.tick) hr.rd (by first | omega | (simp; omega)) ok.f) rfl rfl ?_) rfl
  rintro _ H ⟨rfl, hk, hd⟩
  have hr := hr.next hk hd
  have rx := hk.keep rx hxp
  have r2 := hk.keep r2 h2p
  have hK : Kept (· = p) H0 H := Kept.trans hK hk (fun _ s _ => s) (fun _ s _ => s)
  repeat (first | refine codeA (k := ?_) | refine condA (k := ?_) | refine offA (k := ?_) | refine pureA (k := ?_) | refine readA (k := ?_))
  refine At_wp (W_store rfl rfl rx rfl rfl rfl rfl ?_) rfl
  intro H px
  have hr := hr.keep px.kept (fun b e => ⟨by omega, by omega, by omega⟩)
  have r2 := px.kept.keep r2 h2x
  have hK : Kept (· = p) H0 H := Kept.trans hK px.kept (fun _ s _ => s) (fun b e hb => by omega)
  have rx : H[x]? = some (.cells ([.int .i64 m.kind, .int .i64 m.ia, .int .i64 m.inn, .int .i64 m.tok, .int .i64 m.tick, .int .i64 0, .bool false, .int .i64 0, .int .i64 0, .int .i64 0, amt 0, .int .i64 0, .int .i64 0, .int .i64 0, .int .i64 0, .slice none 0 0, .bool false, .slice none 0 0] : List Value).toArray 49 (0, 0)) := px.at_
  repeat (first | refine codeA (k := ?_) | refine condA (k := ?_) | refine offA (k := ?_) | refine pureA (k := ?_) | refine readA (k := ?_))
  refine At_read (r_load (v := .pointer (some ⟨p, 0, none⟩)) rfl rfl (Cell.of hr.blk rfl)) rfl rfl rfl ?_
  refine At_wp (W_call rfl rfl (rint_spec (v := m.how) hr.rd (by first | omega | (simp; omega)) ok.h) rfl rfl ?_) rfl
  rintro _ H ⟨rfl, hk, hd⟩
  have hr := hr.next hk hd
  have rx := hk.keep rx hxp
  have r2 := hk.keep r2 h2p
  have hK : Kept (· = p) H0 H := Kept.trans hK hk (fun _ s _ => s) (fun _ s _ => s)
  repeat (first | refine codeA (k := ?_) | refine condA (k := ?_) | refine offA (k := ?_) | refine pureA (k := ?_) | refine readA (k := ?_))
  refine At_wp (W_store rfl rfl rx rfl rfl rfl rfl ?_) rfl
  intro H px
  have hr := hr.keep px.kept (fun b e => ⟨by omega, by omega, by omega⟩)
  have r2 := px.kept.keep r2 h2x
  have hK : Kept (· = p) H0 H := Kept.trans hK px.kept (fun _ s _ => s) (fun b e hb => by omega)
  have rx : H[x]? = some (.cells ([.int .i64 m.kind, .int .i64 m.ia, .int .i64 m.inn, .int .i64 m.tok, .int .i64 m.tick, .int .i64 m.how, .bool false, .int .i64 0, .int .i64 0, .int .i64 0, amt 0, .int .i64 0, .int .i64 0, .int .i64 0, .int .i64 0, .slice none 0 0, .bool false, .slice none 0 0] : List Value).toArray 49 (0, 0)) := px.at_
  repeat (first | refine codeA (k := ?_) | refine condA (k := ?_) | refine offA (k := ?_) | refine pureA (k := ?_) | refine readA (k := ?_))
  refine At_read (r_load (v := .pointer (some ⟨p, 0, none⟩)) rfl rfl (Cell.of hr.blk rfl)) rfl rfl rfl ?_
  refine At_wp (W_call rfl rfl (rmark_spec (b := m.on) hr.rd (by first | omega | (simp; omega))) rfl rfl ?_) rfl
  rintro _ H ⟨rfl, hk, hd⟩
  have hr := hr.next hk hd
  have rx := hk.keep rx hxp
  have r2 := hk.keep r2 h2p
  have hK : Kept (· = p) H0 H := Kept.trans hK hk (fun _ s _ => s) (fun _ s _ => s)
  repeat (first | refine codeA (k := ?_) | refine condA (k := ?_) | refine offA (k := ?_) | refine pureA (k := ?_) | refine readA (k := ?_))
  refine At_wp (W_store rfl rfl rx rfl rfl rfl rfl ?_) rfl
  intro H px
  have hr := hr.keep px.kept (fun b e => ⟨by omega, by omega, by omega⟩)
  have r2 := px.kept.keep r2 h2x
  have hK : Kept (· = p) H0 H := Kept.trans hK px.kept (fun _ s _ => s) (fun b e hb => by omega)
  have rx : H[x]? = some (.cells ([.int .i64 m.kind, .int .i64 m.ia, .int .i64 m.inn, .int .i64 m.tok, .int .i64 m.tick, .int .i64 m.how, .bool m.on, .int .i64 0, .int .i64 0, .int .i64 0, amt 0, .int .i64 0, .int .i64 0, .int .i64 0, .int .i64 0, .slice none 0 0, .bool false, .slice none 0 0] : List Value).toArray 49 (0, 0)) := px.at_
  repeat (first | refine codeA (k := ?_) | refine condA (k := ?_) | refine offA (k := ?_) | refine pureA (k := ?_) | refine readA (k := ?_))
  refine At_wp (W_call rfl rfl (rjob_spec m.job hr ok.j (by first | omega | (simp; omega))) rfl rfl ?_) rfl
  have hs0 := hK.size
  have hxs0 := lt_of_heap rx
  have hys0 := lt_of_heap r2
  have hps0 := hr.lt
  rintro _ H ⟨sq, sn, sc, rfl, hk, hd, hv, hnew⟩
  have hr := hr.next hk hd
  have rx := hk.keep rx hxp
  have r2 := hk.keep r2 h2p
  have hxl : ∀ b, (Value.slice sq sn sc).ownBlock = some b → b ≠ x ∧ b ≠ y ∧ b ≠ p := fun b e => by have := hnew b e; omega
  have hK : Kept (· = p) H0 H := Kept.trans hK hk (fun _ s _ => s) (fun _ s _ => s)
  repeat (first | refine codeA (k := ?_) | refine condA (k := ?_) | refine offA (k := ?_) | refine pureA (k := ?_) | refine readA (k := ?_))
  refine At_wp (W_storeN rfl rfl rx rfl (fun u hu => List.all_eq_true.1 (show ((jobC m.job (.slice sq sn sc)).all (·.oneCell')) = true from rfl) u hu) (Nat.le_of_ble_eq_true rfl) ?_) rfl
  intro H px
  have hr := hr.keep px.kept (fun b e => ⟨by omega, by omega, by omega⟩)
  have r2 := px.kept.keep r2 h2x
  have hK : Kept (· = p) H0 H := Kept.trans hK px.kept (fun _ s _ => s) (fun b e hb => by omega)
  have hv := hv.keepS px.kept (fun b e e2 => (hxl b e).1 e2)
  have rx : H[x]? = some (.cells ([.int .i64 m.kind, .int .i64 m.ia, .int .i64 m.inn, .int .i64 m.tok, .int .i64 m.tick, .int .i64 m.how, .bool m.on, .int .i64 m.job.ia, .int .i64 m.job.inn, .int .i64 m.job.user, amt m.job.need, .int .i64 m.job.wall, .int .i64 m.job.run_, .int .i64 m.job.base, .int .i64 m.job.aft, .slice sq sn sc, .bool m.job.pact, .slice none 0 0] : List Value).toArray 49 (0, 0)) := px.at_
  repeat (first | refine codeA (k := ?_) | refine condA (k := ?_) | refine offA (k := ?_) | refine pureA (k := ?_) | refine readA (k := ?_))
  refine At_pure (p_makeFuncB (first := [.tmp 41]) (cap := []) rfl rfl) rfl rfl rfl ?_
  refine At_wp (W_call rfl rfl (rmany_span0_spec hr (by first | omega | (simp; omega))) rfl rfl ?_) rfl
  rintro _ H ⟨rfl, hk, hd⟩
  have hr := hr.next hk hd
  have rx := hk.keep rx hxp
  have r2 := hk.keep r2 h2p
  have hK : Kept (· = p) H0 H := Kept.trans hK hk (fun _ s _ => s) (fun _ s _ => s)
  have hv := hv.keepS hk (fun b e e2 => (hxl b e).2.2 e2)
  repeat (first | refine codeA (k := ?_) | refine condA (k := ?_) | refine offA (k := ?_) | refine pureA (k := ?_) | refine readA (k := ?_))
  refine At_wp (W_store rfl rfl rx rfl rfl rfl rfl ?_) rfl
  intro H px
  have hr := hr.keep px.kept (fun b e => ⟨by omega, by omega, by omega⟩)
  have r2 := px.kept.keep r2 h2x
  have hK : Kept (· = p) H0 H := Kept.trans hK px.kept (fun _ s _ => s) (fun b e hb => by omega)
  have hv := hv.keepS px.kept (fun b e e2 => (hxl b e).1 e2)
  have rx : H[x]? = some (.cells ([.int .i64 m.kind, .int .i64 m.ia, .int .i64 m.inn, .int .i64 m.tok, .int .i64 m.tick, .int .i64 m.how, .bool m.on, .int .i64 m.job.ia, .int .i64 m.job.inn, .int .i64 m.job.user, amt m.job.need, .int .i64 m.job.wall, .int .i64 m.job.run_, .int .i64 m.job.base, .int .i64 m.job.aft, .slice sq sn sc, .bool m.job.pact, .slice none 0 0] : List Value).toArray 49 (0, 0)) := px.at_
  repeat (first | refine codeA (k := ?_) | refine condA (k := ?_) | refine offA (k := ?_) | refine pureA (k := ?_) | refine readA (k := ?_))
  refine At_read (r_loadB rfl rx rfl rfl) rfl rfl rfl ?_
  refine At_wp (W_storeB (cs' := (msgC m (.slice sq sn sc)).toArray) rfl rfl r2 rfl rfl rfl rfl ?_) rfl
  intro H py
  have hK : Kept (· = p) H0 H := Kept.trans hK py.kept (fun _ s _ => s) (fun b e hb => by omega)
  have hr := hr.keep py.kept (fun b e => ⟨by omega, by omega, by omega⟩)
  repeat (first | refine codeA (k := ?_) | refine condA (k := ?_) | refine offA (k := ?_) | refine pureA (k := ?_) | refine readA (k := ?_))
  exact At_retC1 rfl rfl py.at_ rfl rfl ⟨sq, sn, sc, rfl, hK, hr.rd, hv.keepS py.kept (fun b e e2 => (hxl b e).2.1 e2), fun b e => Nat.le_trans hs0 (hnew b e)⟩
end Go.Proofs.YtlaobecajieaaaaGreat
