/- What layers 23 and 24 share: the document's Ref, Marked, Less; bundles kept by a step of another object. The document's new world. Layer 6: contracts of At; the document's records. Layers 9, 10: a note of the document's world. Layers 12, 13: the document's Mark of one place, its Out. Layer 13: steps of the document's Out. What a step makes of counts and notes; what an Out keeps. -/
import Derived.Test.YtlcibfpibklbdaaGreatBaF
import Derived.Test.YtlcibfpibklbdaaGreatBaC
import Derived.Deep.RegionLaw
import Derived.Deep.DeepCutAuto
import Derived.Outline
import Derived.Test.YtlcibfpibklbdaaGreatBaE
import Derived.Test.YtlcibfpibklbdaaGreatBaD
namespace Go.Proofs.YtlcibfpibklbdaaGreat
set_option linter.unusedSimpArgs false
section
open Go.RowKit
set_option linter.unusedVariables false

theorem RW.up {w : World} {O : Om} {C : Wb} {f : Cf} {s : AW} {m m' : Nat} (h : RW w O C f s m) (hm : m ≤ m') : RW w O C f s m' := by
  obtain ⟨v, L, h1, h2, h3, h4, h5, h6, h7⟩ := h.ce.ex
  exact ⟨h.o, h.wo, ⟨v, L, h1, h2, h3, Nat.le_trans h4 hm, h5, h6, h7⟩, h.ar, h.no⟩
theorem Md.oth {a b k T m : Nat} {cs : List Value} {O O0 O1 : Om} {w w1 w0 : World} {B : Wb} {f : Cf} {s : AW} {S : Nat → Prop} (h : Md a b w0 O0 w O B f s m k T cs) (hk : 10 ≤ k) (e : Ext S O w O1 w1) (hS : ∀ t, S t → 10 ≤ t ∧ a ≤ t ∧ t ≤ b ∧ t ≠ k) : Md a b w0 O0 w1 O1 B f s m k T cs :=
  ⟨h.e.trans (e.mono fun t _ ht => .inr ⟨(hS t ht).2.1, (hS t ht).2.2.1⟩), h.p.ext e (fun g => by have := hS _ g; omega) (fun g => by have := hS _ g; omega) (fun g => by have := hS _ g; omega) (fun g => by have := hS _ g; omega), h.t.ext e fun g => (hS _ g).2.2.2 rfl⟩
theorem Me.oth {S : Nat → Prop} {a b k T : Nat} {cs : List Value} {O O0 O1 : Om} {w w0 w1 : World} {B : Wb} {f : Cf} {s : AW} (h : Me a b w0 O0 w O B f s k T cs) (hk : 10 ≤ k) (e : Ext S O w O1 w1) (hS : ∀ t, S t → 10 ≤ t ∧ a ≤ t ∧ t ≤ b ∧ t ≠ k) : Me a b w0 O0 w1 O1 B f s k T cs :=
  ⟨h.e.trans (e.mono fun t _ ht => .inr ⟨(hS t ht).2.1, (hS t ht).2.2.1⟩), h.p.ext e (fun g => by have := (hS 1 g).1; omega) (fun g => by have := (hS 2 g).1; omega) (fun g => by have := (hS 3 g).1; omega) (fun g => by have := (hS 4 g).1; omega), h.t.ext e fun g => (hS k g).2.2.2 rfl⟩
/-- The program's world is no other object's. -/
theorem PW.ne_obj {w : World} {O : Om} {B : Wb} {f : Cf} {s : AW} {k X : Nat} {cs : List Value} (h : PW w O B f s) (hx : Ob w O k X cs) (hk : 10 ≤ k) : B.p ≠ X := by
  intro e
  have := h.o
  rw [e, hx.o] at this
  omega
theorem c_rRef (r : Int) (w : World) (r0 : -9223372036854775808 ≤ r) (r1 : r ≤ 9223372036854775807) :
    Calls Tryz.prog 65 #[.int .i64 r] w fun e w' => e = .returned (.int .u64 (plRef r)) ∧ w = w' := by
  unfold plRef
  by_cases h : r < 1
  · have d : decide (r < 1) = true := by simp; omega
    rw [if_pos h]
    go_enter Tryz.func65, Tryz.ntmps65
    go_wp2
    go_ret
    exact ⟨rfl, rfl⟩
  · have d : decide (r < 1) = false := by simp; omega
    rw [if_neg h]
    go_enter Tryz.func65, Tryz.ntmps65
    go_wp2
    go_ret
    exact ⟨ret_int (by rw [IntKind.wrap_u64]; unfold wrap64; omega), rfl⟩
theorem c_rMarked (v : Int) (w : World) (v0 : 0 ≤ v) : Calls Tryz.prog 133 #[.int .u64 v] w fun e w' => e = .returned (.bool (rfMarked v)) ∧ w = w' := by
  go_enter Tryz.func133, Tryz.ntmps133
  go_wp2
  go_ret
  exact ⟨ret_bool (by unfold rfMarked; rw [Bool.eq_iff_iff]; simp; try omega), rfl⟩
theorem c_rLess (v : Int) (w : World) (v0 : 0 ≤ v) (v1 : v < 18446744073709551616) : Calls Tryz.prog 135 #[.int .u64 v] w fun e w' => e = .returned (.int .u64 (rfLess v)) ∧ w = w' := by
  unfold rfLess
  by_cases h : v % 2 = 1
  · have d : (v % 2 == 1) = true := by simp [h]
    go_enter Tryz.func135, Tryz.ntmps135
    go_wp2
    go_ret
    exact ⟨ret_int (by rw [IntKind.wrap_u64, h]), rfl⟩
  · have d : (v % 2 == 1) = false := by simp; omega
    go_enter Tryz.func135, Tryz.ntmps135
    go_wp2
    go_ret
    exact ⟨ret_int (by omega), rfl⟩
end
section
open Go.RowKit
set_option linter.unusedVariables false

theorem newOwn_hi {O : Om} {w w1 : World} {n m g : Nat} (h : ∀ j, O j ≠ 0 → j < w.heap.size) (hs : w.heap.size ≤ w1.heap.size) (hm : m ≤ w1.heap.size) : ∀ j, newOwn O n m g j ≠ 0 → j < w1.heap.size := by
  intro j hj
  unfold newOwn at hj
  split at hj
  · omega
  · exact Nat.lt_of_lt_of_le (h j hj) hs
theorem RC.start (w : World) (O : Om) (e : TypeId) (N : Nat) (hN : N = w.heap.size) (hhi : ∀ j, O j ≠ 0 → j < w.heap.size) :
    ∃ O', Ext (fun t => t = 6) O w O' (w.alloc (.cells #[.slice none 0 0, .int .i64 0, .int .u8 0, .int .u64 0, .int .u64 0, .int .u64 0] e)) ∧ RC (w.alloc (.cells #[.slice none 0 0, .int .i64 0, .int .u8 0, .int .u64 0, .int .u64 0, .int .u64 0] e)) O' 6 N (fun _ => 0) 0 ⟨0, 0, 0, 0⟩ 0 := by
  subst hN
  exact ⟨_, Ext.alloc (S := fun t => t = 6) (g := 6) hhi rfl _, .slice none 0 0, [], by simp [Ris], (fun x h => by cases h), fun y => rfl, Nat.le_refl _, Ob.new w O 6 #[.slice none 0 0, .int .i64 0, .int .u8 0, .int .u64 0, .int .u64 0, .int .u64 0] e, World.ownsRow_nil _ _ _ _, fun k hk => by cases hk⟩
theorem RC.drew {w : World} {O : Om} {g c m : Nat} {M : Int → Int} {n : Int} {la : La} (h : RC w O g c M n la m) : RC w.drew O g c M n la m := h.below (drew_below w)
set_option maxHeartbeats 1000000 in
set_option maxRecDepth 100000 in
theorem c_rCNew (w : World) (O : Om) (b : Nat) (x v : Int) (h0 : w.cell? ⟨b, 0, none⟩ = some (.int .u64 x)) (h1 : w.cell? ⟨b, 1, none⟩ = some (.int .u64 v)) (hb : b < w.heap.size) (hO : O b = 0) (hhi : ∀ j, O j ≠ 0 → j < w.heap.size) (x0 : 0 ≤ x) (x1 : x < 18446744073709551616) (v0 : 0 ≤ v) (v1 : v < 18446744073709551616) :
    Calls Tryz.prog 168 #[.slice (some ⟨b, 0, none⟩) 1 1] w fun e w' => ∃ c, RP (fun t => t = 6) w O (.pointer (some ⟨c, 0, none⟩)) (fun W G => RC W G 6 c (upd (fun _ => 0) x v) 0 ⟨0, 0, 0, 0⟩ 1) e w' := by
  obtain ⟨O1, e1, r1⟩ := RC.start w O 237 _ rfl hhi
  have hO1 : O1 b = 0 := (e1.lo b hb).trans hO
  have HO1 := Lib.hid hO1
  have HR := Lib.hid r1
  have HE := Lib.hid e1
  have hbn : ¬ b = w.heap.size := by omega
  clear r1 e1 hhi hO1 hO
  go_enter Tryz.func168, Tryz.ntmps168
  go_wp2
  refine wp_loop_rounds 2 ?_
  rw [rounds_succ]
  go_wp2_with fail
  go_region_held3 (fun w' => w'.cell? ⟨b, 0, none⟩ = some (.int .u64 x) ∧ w'.cell? ⟨b, 1, none⟩ = some (.int .u64 v)) (go_keep)
    ((go_at_call 208; refine (c_rput x v (HR.out.drew) (by decide) (by decide) x0 x1 v0 v1 HE.out.drew.hi).mono ?_; rintro e w1 ⟨rfl, O2, e2, r2⟩
      have HE2 := Lib.hid (HE.out.drew.trans e2)
      have HR2 := Lib.hid r2
      have k0 := (e2.wr.cell (p := ⟨b, 0, none⟩) (by simp; omega) (fun hs => hs.2 HO1.out)).trans (by go_simp : _ = some (.int .u64 x))
      have k1 := (e2.wr.cell (p := ⟨b, 1, none⟩) (by simp; omega) (fun hs => hs.2 HO1.out)).trans (by go_simp : _ = some (.int .u64 v))
      clear e2 r2))
  all_goals
    go_wp2
    rw [rounds_succ]
    go_wp2
    go_ret
    exact ⟨_, rfl, O2, HE2.out, HR2.out⟩
/-- May a config be? -/
def cfB (f : Cf) : Bool := decide (1 ≤ f.b ∧ f.b ≤ 12 ∧ 1 ≤ f.g ∧ f.g ≤ 65536 ∧ 0 ≤ f.t ∧ f.t ≤ 16 ∧ 1 ≤ f.q ∧ f.q ≤ 8 ∧ 2 ≤ f.y ∧ f.y ≤ 256)
theorem cfB_may {f : Cf} (h : cfB f = true) : f.may := by
  unfold cfB at h
  have := of_decide_eq_true h
  exact ⟨this.1, this.2.1, this.2.2.1, this.2.2.2.1, this.2.2.2.2.1, this.2.2.2.2.2.1, this.2.2.2.2.2.2.1, this.2.2.2.2.2.2.2.1, this.2.2.2.2.2.2.2.2.1, this.2.2.2.2.2.2.2.2.2⟩
theorem may_cfB {f : Cf} (h : f.may) : cfB f = true := by
  unfold cfB
  exact decide_eq_true ⟨h.b0, h.b1, h.g0, h.g1, h.t0, h.t1, h.q0, h.q1, h.y0, h.y1⟩
def cfV (f : Cf) : Value := .agg #[.int .i64 f.b, .int .i64 f.g, .int .i64 f.t, .int .i64 f.q, .int .i64 f.y]
set_option maxHeartbeats 2000000 in
theorem c_rMay10 (f : Cf) (w : World) : Calls Tryz.prog 100 #[.agg #[.int .i64 f.b, .int .i64 f.g, .int .i64 f.t, .int .i64 f.q, .int .i64 f.y]] w fun e w' => e = .returned (.bool (cfB f)) ∧ Below w.heap.size w w' := by
  obtain ⟨b, g, t, q, y⟩ := f
  dsimp only
  go_enter Tryz.func100, Tryz.ntmps100
  go_wp2
  all_goals
    go_ret
    exact ⟨ret_bool (by unfold cfB; rw [Bool.eq_iff_iff]; simp; try omega), (Below.refl _ _).alloc (Nat.le_refl _) _⟩
theorem plWord0 {b : Int} (h0 : 1 ≤ b) (h1 : b ≤ 12) : plWord b 0 = b := by unfold plWord; omega
theorem rzsize : Tryz.zeroCells226.size = 73 := by kernel_rfl
theorem rzero_tickets (j : Nat) (hj : j < 64) : Tryz.zeroCells226[8 + j]? = some (.int .u64 0) := by
  have h : (List.range 64).all (fun j => isZ (Tryz.zeroCells226[8 + j]?)) = true := by kernel_rfl
  exact isZ_eq (List.all_eq_true.1 h j (by simpa using hj))
noncomputable def rZ (c ip np : Nat) (f : Cf) : Array Value :=
  ((((((((Tryz.zeroCells226.setIfInBounds 0 (.pointer (some ⟨c, 0, none⟩))).setIfInBounds 1 (.pointer (some ⟨ip, 0, none⟩))).setIfInBounds 2 (.pointer (some ⟨np, 0, none⟩))).setIfInBounds 3 (.int .i64 f.b)).setIfInBounds 4 (.int .i64 f.g)).setIfInBounds 5 (.int .i64 f.t)).setIfInBounds 6 (.int .i64 f.q)).setIfInBounds 7 (.int .i64 f.y)).setIfInBounds 72 (.int .i64 (-1))
theorem rZ_get (c ip np : Nat) (f : Cf) (w : World) (e : TypeId) (N : Nat) (hN : N = w.heap.size) : Wo (w.alloc (.cells (rZ c ip np f) e)) N c ip np f (fun _ => 0) (-1) := by
  have hz := rzsize
  have hs : (rZ c ip np f).size = 73 := by unfold rZ; simp [hz]
  refine ⟨cell_newA _ _ _ _ hN 0 _ ?_, cell_newA _ _ _ _ hN 1 _ ?_, cell_newA _ _ _ _ hN 2 _ ?_, cell_newA _ _ _ _ hN 3 _ ?_, cell_newA _ _ _ _ hN 4 _ ?_, cell_newA _ _ _ _ hN 5 _ ?_, cell_newA _ _ _ _ hN 6 _ ?_, cell_newA _ _ _ _ hN 7 _ ?_, fun j hj => cell_newA _ _ _ _ hN _ _ ?_, cell_newA _ _ _ _ hN 72 _ ?_, fun j => frozen_newA _ _ _ _ hN j, by subst hN; simp⟩
  case refine_9 =>
    unfold rZ
    repeat rw [Array.getElem?_setIfInBounds_ne (by omega)]
    exact rzero_tickets j hj
  all_goals (unfold rZ; simp [Array.getElem?_setIfInBounds, hz])
theorem cell_lt {w : World} {b j : Nat} {u : Value} (h : w.cell? ⟨b, j, none⟩ = some u) : b < w.heap.size := by
  by_cases hb : b < w.heap.size
  · exact hb
  · exfalso
    unfold World.cell? at h
    have : w.heap[b]? = none := Array.getElem?_eq_none (by omega)
    simp [this] at h
theorem keep5 {W : World} {n : Nat} {a0 a1 a2 a3 a4 : Value} (h : W.cell? ⟨n, 0, none⟩ = some a0 ∧ W.cell? ⟨n, 1, none⟩ = some a1 ∧ W.cell? ⟨n, 2, none⟩ = some a2 ∧ W.cell? ⟨n, 3, none⟩ = some a3 ∧ W.cell? ⟨n, 4, none⟩ = some a4) (o : Obj) :
    (W.alloc o).cell? ⟨n, 0, none⟩ = some a0 ∧ (W.alloc o).cell? ⟨n, 1, none⟩ = some a1 ∧ (W.alloc o).cell? ⟨n, 2, none⟩ = some a2 ∧ (W.alloc o).cell? ⟨n, 3, none⟩ = some a3 ∧ (W.alloc o).cell? ⟨n, 4, none⟩ = some a4 := by
  have hl := cell_lt h.1
  have k : ∀ j, (W.alloc o).cell? ⟨n, j, none⟩ = W.cell? ⟨n, j, none⟩ := fun j => ((Below.refl W.heap.size W).alloc (Nat.le_refl _) o).cell (p := ⟨n, j, none⟩) hl
  exact ⟨(k 0).trans h.1, (k 1).trans h.2.1, (k 2).trans h.2.2.1, (k 3).trans h.2.2.2.1, (k 4).trans h.2.2.2.2⟩
theorem wcell (V W : World) (cs : Array Value) (e : TypeId) (j : Nat) (u : Value) (h : cs[j]? = some u) (hb : Below (V.alloc (.cells cs e)).heap.size (V.alloc (.cells cs e)) W) : W.cell? ⟨V.heap.size, j, none⟩ = some u :=
  (hb.cell (p := ⟨V.heap.size, j, none⟩) (by simp)).trans (cell_newA V cs e _ rfl j u h)
theorem NewRW.mk {w W : World} {O O1 : Om} {c ip np p : Nat} {M : Int → Int} {f : Cf} (E : Ext SR O w O1 W) (R : RC W O1 6 c M 0 ⟨0, 0, 0, 0⟩ 1) (zi : O1 ip = 0) (zn : O1 np = 0) (zp : O1 p = 0) (bi : w.heap.size ≤ ip ∧ ip < W.heap.size) (bn : w.heap.size ≤ np ∧ np < W.heap.size) (bp : w.heap.size ≤ p ∧ p < W.heap.size) (n1 : ip ≠ np) (n2 : p ≠ ip) (n3 : p ≠ np)
    (ci : W.cell? ⟨ip, 0, none⟩ = some (.slice none 0 0)) (fi : ∀ j, W.frozen? ⟨ip, j, none⟩ = false) (cn : W.cell? ⟨np, 0, none⟩ = some (.slice none 0 0)) (fn : ∀ j, W.frozen? ⟨np, j, none⟩ = false) (wo : Wo W p c ip np f (fun _ => 0) (-1)) :
    ∃ O', Ext SR O w O' W ∧ RW W O' ⟨p, c, ip, np⟩ f ⟨M, 0, ⟨0, 0, 0, 0⟩, fun _ => 0, -1, [], []⟩ 1 := by
  obtain ⟨G, hG⟩ : ∃ G : Om, ∀ j, G j = if j = p then 5 else if j = ip then 7 else if j = np then 8 else O1 j := ⟨_, fun _ => rfl⟩
  have gp : G p = 5 := by rw [hG, if_pos rfl]
  have gi : G ip = 7 := by rw [hG, if_neg (Ne.symm n2), if_pos rfl]
  have gn : G np = 8 := by rw [hG, if_neg (Ne.symm n3), if_neg (Ne.symm n1), if_pos rfl]
  have go : ∀ j, O1 j ≠ 0 → G j = O1 j := fun j hj => by rw [hG, if_neg (fun e => hj (by rw [e]; exact zp)), if_neg (fun e => hj (by rw [e]; exact zi)), if_neg (fun e => hj (by rw [e]; exact zn))]
  have gany : ∀ j, G j ≠ 0 → (j = p ∧ G j = 5) ∨ (j = ip ∧ G j = 7) ∨ (j = np ∧ G j = 8) ∨ (O1 j ≠ 0 ∧ G j = O1 j) := by
    intro j hj
    by_cases e1 : j = p
    · exact .inl ⟨e1, e1 ▸ gp⟩
    · by_cases e2 : j = ip
      · exact .inr (.inl ⟨e2, e2 ▸ gi⟩)
      · by_cases e3 : j = np
        · exact .inr (.inr (.inl ⟨e3, e3 ▸ gn⟩))
        · have : G j = O1 j := by rw [hG, if_neg e1, if_neg e2, if_neg e3]
          exact .inr (.inr (.inr ⟨this ▸ hj, this⟩))
  have hhi : ∀ j, G j ≠ 0 → j < W.heap.size := fun j hj => by
    rcases gany j hj with h | h | h | h
    · rw [h.1]; exact bp.2
    · rw [h.1]; exact bi.2
    · rw [h.1]; exact bn.2
    · exact E.hi j h.1
  refine ⟨G, ⟨fun j hj => ?_, hhi, fun j hj hn => ?_, E.wr⟩, gp, wo, ?_, ⟨.slice none 0 0, ⟨gi, bi.2, fun j u hu => ?_, fi⟩, World.ownsRow_nil _ _ _ _, fun k hk => by cases hk⟩, ⟨.slice none 0 0, ⟨gn, bn.2, fun j u hu => ?_, fn⟩, World.ownsRow_nil _ _ _ _, fun k hk => by cases hk⟩⟩
  · rw [hG, if_neg (by omega), if_neg (by omega), if_neg (by omega)]; exact E.lo j hj
  · rcases gany j hn with h | h | h | h
    · rw [h.2]; exact ⟨by decide, by decide⟩
    · rw [h.2]; exact ⟨by decide, by decide⟩
    · rw [h.2]; exact ⟨by decide, by decide⟩
    · rw [h.2]; exact E.nw j hj h.1
  · obtain ⟨v, L, h1, h2, h3, h4, h5, h6, h7⟩ := R.ex
    exact ⟨v, L, h1, h2, h3, h4, ⟨(go _ (by rw [h5.o]; decide)).trans h5.o, h5.lt, h5.c, h5.f⟩, h6, fun k hk => ⟨(go _ (by rw [(h7 k hk).1]; decide)).trans (h7 k hk).1, (h7 k hk).2⟩⟩
  · match j, hu with
    | 0, hu => cases hu; exact ci
  · match j, hu with
    | 0, hu => cases hu; exact cn
theorem ext_zero {S : Nat → Prop} {O O1 : Om} {W w1 : World} {j : Nat} (h : Ext S O W O1 w1) (hO : O j = 0) (hj : j < W.heap.size ∨ w1.heap.size ≤ j) : O1 j = 0 := by
  rcases hj with hj | hj
  · rw [h.lo j hj]; exact hO
  · by_cases hz : O1 j = 0
    · exact hz
    · exact absurd (h.hi j hz) (by omega)
theorem NewRW.fin {w W' : World} {O O1 : Om} {c ip np P : Nat} {f : Cf} {e : TypeId} (hP : P = W'.heap.size) (E : Ext SR O w O1 W') (R : RC W' O1 6 c (upd (fun _ => 0) 2 (plWord f.b 0)) 0 ⟨0, 0, 0, 0⟩ 1) (zi : O1 ip = 0) (zn : O1 np = 0) (bi : w.heap.size ≤ ip ∧ ip < W'.heap.size) (bn : w.heap.size ≤ np ∧ np < W'.heap.size) (n1 : ip ≠ np)
    (ci : W'.cell? ⟨ip, 0, none⟩ = some (.slice none 0 0)) (fi : ∀ j, W'.frozen? ⟨ip, j, none⟩ = false) (cn : W'.cell? ⟨np, 0, none⟩ = some (.slice none 0 0)) (fn : ∀ j, W'.frozen? ⟨np, j, none⟩ = false) :
    ∃ B, RP SR w O (.tuple #[.pointer (some ⟨B.p, 0, none⟩), .int .i64 0]) (fun W G => RW W G B f (aw0 f.b) 1) (.returned (.tuple #[.pointer (some ⟨P, 0, none⟩), .int .i64 0])) (W'.alloc (.cells (rZ c ip np f) e)) := by
  subst hP
  have hb : Below W'.heap.size W' (W'.alloc (.cells (rZ c ip np f) e)) := (Below.refl _ _).alloc (Nat.le_refl _) _
  have hz : (W'.alloc (.cells (rZ c ip np f) e)).heap.size = W'.heap.size + 1 := World.heap_size_alloc' _ _
  have zp : O1 W'.heap.size = 0 := by
    by_cases h : O1 W'.heap.size = 0
    · exact h
    · exact absurd (E.hi _ h) (by omega)
  have hs := E.size
  obtain ⟨G, g1, g2⟩ := NewRW.mk (p := W'.heap.size) (E.below hb) (R.below hb) zi zn zp ⟨bi.1, by omega⟩ ⟨bn.1, by omega⟩ ⟨by omega, by omega⟩ n1 (by omega) (by omega) ((hb.cell (p := ⟨ip, 0, none⟩) bi.2).trans ci) (fun j => (hb.frozen (p := ⟨ip, j, none⟩) bi.2).trans (fi j)) ((hb.cell (p := ⟨np, 0, none⟩) bn.2).trans cn) (fun j => (hb.frozen (p := ⟨np, j, none⟩) bn.2).trans (fn j)) (rZ_get c ip np f W' e _ rfl)
  exact ⟨⟨W'.heap.size, c, ip, np⟩, rfl, G, g1, g2⟩
set_option maxHeartbeats 2000000 in
set_option maxRecDepth 100000 in
theorem c_RNew10 (f : Cf) (w : World) (O : Om) (h : f.may) (hhi : ∀ j, O j ≠ 0 → j < w.heap.size) : Calls Tryz.prog 102 #[.agg #[.int .i64 f.b, .int .i64 f.g, .int .i64 f.t, .int .i64 f.q, .int .i64 f.y]] w fun e w' => ∃ B, RP SR w O (.tuple #[.pointer (some ⟨B.p, 0, none⟩), .int .i64 0]) (fun W G => RW W G B f (aw0 f.b) 1) e w' := by
  have HM := Lib.hid (may_cfB h)
  have HH := Lib.hid hhi
  obtain ⟨b, g, t, q, y⟩ := f
  obtain ⟨b0, b1, g0, g1, t0, t1, q0, q1, y0, y1⟩ := h
  dsimp only at b0 b1 g0 g1 t0 t1 q0 q1 y0 y1 ⊢
  clear hhi
  go_enter Tryz.func102, Tryz.ntmps102
  go_wp2_with fail
  refine (viaC (c_rMay10 ⟨b, g, t, q, y⟩ _)).mono ?_
  rintro e w' ⟨rfl, m, rfl⟩
  rw [HM.out]
  go_wp2_with fail
  obtain ⟨V, hV⟩ : ∃ V, V = via (w.alloc (.cells #[.int .i64 b, .int .i64 g, .int .i64 t, .int .i64 q, .int .i64 y] 207)) m := ⟨_, rfl⟩
  have hB : Below w.heap.size w V := by rw [hV]; exact below_via ((Below.refl _ _).alloc (Nat.le_refl _) _) _
  have hlt : w.heap.size < V.heap.size := by rw [hV]; exact lt_via _ _ _ (by simp)
  have q0' : ∀ j u, [Value.int .i64 b, .int .i64 g, .int .i64 t, .int .i64 q, .int .i64 y][j]? = some u → V.cell? ⟨w.heap.size, j, none⟩ = some u := by
    intro j u hu
    rw [hV, cell?_via _ _ _ _ (by simp)]
    exact cell_new w _ _ _ rfl j u hu
  have d0 := q0' 0 _ rfl
  have d1 := q0' 1 _ rfl
  have d2 := q0' 2 _ rfl
  have d3 := q0' 3 _ rfl
  have d4 := q0' 4 _ rfl
  rw [← hV]
  have hne : ¬ w.heap.size = V.heap.size := by omega
  have HB := Lib.hid hB
  have EV := Lib.hid (Ext.of_below (S := SR) HH.out hB)
  have HOV : Hid (∀ j, w.heap.size ≤ j → O j = 0) := Lib.hid (fun j hj => by
    by_cases hz : O j = 0
    · exact hz
    · exact absurd (HH.out j hz) (by omega))
  have HOV0 : Hid (O w.heap.size = 0) := Lib.hid (HOV.out _ (Nat.le_refl _))
  clear hB hV q0'
  have hwr : IntKind.u64.wrap b = b := by rw [IntKind.wrap_u64]; omega
  have hl1 : w.heap.size < V.heap.size + 1 := by omega
  have hl2 : w.heap.size < V.heap.size + 1 + 1 := by omega
  have hl3 : w.heap.size < V.heap.size + 1 + 1 + 1 := by omega
  have hn1 : ¬ w.heap.size = V.heap.size + 1 := by omega
  have hn2 : ¬ w.heap.size = V.heap.size + 1 + 1 := by omega
  have hn3 : ¬ w.heap.size = V.heap.size + 1 + 1 + 1 := by omega
  have hv1 : V.heap.size < V.heap.size + 1 + 1 := by omega
  have hv2 : ¬ V.heap.size = V.heap.size + 1 + 1 := by omega
  have hv3 : V.heap.size < V.heap.size + 1 + 1 + 1 := by omega
  have hv4 : V.heap.size + 1 < V.heap.size + 1 + 1 + 1 := by omega
  have hv5 : ¬ V.heap.size + 1 = V.heap.size + 1 + 1 + 1 := by omega
  go_region_held3 (fun w' => w'.cell? ⟨w.heap.size, 0, none⟩ = some (.int .i64 b) ∧ w'.cell? ⟨w.heap.size, 1, none⟩ = some (.int .i64 g) ∧ w'.cell? ⟨w.heap.size, 2, none⟩ = some (.int .i64 t) ∧ w'.cell? ⟨w.heap.size, 3, none⟩ = some (.int .i64 q) ∧ w'.cell? ⟨w.heap.size, 4, none⟩ = some (.int .i64 y)) (first | assumption | exact keep5 (by assumption) _ | exact ⟨e0, e1, e2, e3, e4⟩ | go_keep)
    ((go_at_call 168
      refine (c_rCNew _ O _ 2 b (by go_simp) (by go_simp) (by simp <;> omega) (HOV.out _ (by omega)) ((EV.out.below (by repeat (first | exact Below.refl _ _ | (refine Below.drew ?_) | (refine below_alloc ?_ _)))).hi) (by omega) (by omega) (by omega) (by omega)).mono ?_
      rintro e w1 ⟨c, rfl, O1, E1, R1⟩
      have e0 : w1.cell? ⟨w.heap.size, 0, none⟩ = some (.int .i64 b) := (E1.cell (p := ⟨w.heap.size, 0, none⟩) (by simp <;> omega) (by show ¬ O w.heap.size = 6; rw [HOV0.out]; decide)).trans (by go_simp)
      have e1 : w1.cell? ⟨w.heap.size, 1, none⟩ = some (.int .i64 g) := (E1.cell (p := ⟨w.heap.size, 1, none⟩) (by simp <;> omega) (by show ¬ O w.heap.size = 6; rw [HOV0.out]; decide)).trans (by go_simp)
      have e2 : w1.cell? ⟨w.heap.size, 2, none⟩ = some (.int .i64 t) := (E1.cell (p := ⟨w.heap.size, 2, none⟩) (by simp <;> omega) (by show ¬ O w.heap.size = 6; rw [HOV0.out]; decide)).trans (by go_simp)
      have e3 : w1.cell? ⟨w.heap.size, 3, none⟩ = some (.int .i64 q) := (E1.cell (p := ⟨w.heap.size, 3, none⟩) (by simp <;> omega) (by show ¬ O w.heap.size = 6; rw [HOV0.out]; decide)).trans (by go_simp)
      have e4 : w1.cell? ⟨w.heap.size, 4, none⟩ = some (.int .i64 y) := (E1.cell (p := ⟨w.heap.size, 4, none⟩) (by simp <;> omega) (by show ¬ O w.heap.size = 6; rw [HOV0.out]; decide)).trans (by go_simp)
      have HE1 := Lib.hid ((EV.out.below (by repeat (first | exact Below.refl _ _ | (refine Below.drew ?_) | (refine below_alloc ?_ _)))).trans (E1.mono (T := SR) fun t _ ht => by subst ht; exact ⟨by decide, by decide⟩))
      have HX1 := Lib.hid E1
      have HCA := Lib.hid (fun (N : Nat) (h1 : w.heap.size ≤ N) (h2 : N < _) => And.intro (E1.cell (p := ⟨N, 0, none⟩) h2 (by show ¬ O N = 6; rw [HOV.out N h1]; decide)) (fun j => E1.frozen (p := ⟨N, j, none⟩) h2 (by show ¬ O N = 6; rw [HOV.out N h1]; decide)))
      have HR1 := Lib.hid R1
      have hz1 := E1.size
      simp at hz1
      have k1 : w.heap.size < w1.heap.size := by omega
      have k2 : w.heap.size < w1.heap.size + 1 := by omega
      have k3 : w.heap.size < w1.heap.size + 1 + 1 := by omega
      have k4 : ¬ w.heap.size = w1.heap.size := by omega
      have k5 : ¬ w.heap.size = w1.heap.size + 1 := by omega
      have k6 : ¬ w.heap.size = w1.heap.size + 1 + 1 := by omega
      clear E1 R1))
  all_goals
    go_wp2
    go_ret2
    exact NewRW.fin (f := ⟨b, g, t, q, y⟩) (by simp) (HE1.out.below (by repeat (first | exact Below.refl _ _ | (refine Below.drew ?_) | (refine below_alloc ?_ _)))) (RC.below (by rw [plWord0 b0 b1]; exact HR1.out) (by repeat (first | exact Below.refl _ _ | (refine Below.drew ?_) | (refine below_alloc ?_ _)))) (ext_zero HX1.out (HOV.out _ (by omega)) (by first | (left; simp; omega) | (left; simp; done) | (right; omega))) (ext_zero HX1.out (HOV.out _ (by omega)) (by first | (left; simp; omega) | (left; simp; done) | (right; omega))) (by constructor <;> first | omega | (simp; omega) | (simp; done)) (by constructor <;> first | omega | (simp; omega) | (simp; done)) (by omega) (by first | (go_simp; done) | exact (Below.cell (B := w1.heap.size) (p := ⟨_, 0, none⟩) (by repeat (first | exact Below.refl _ _ | (refine Below.drew ?_) | (refine below_alloc ?_ _))) (by first | omega | (simp; omega) | (simp; done))).trans ((HCA.out _ (by first | omega | (simp; omega) | (simp; done)) (by first | omega | (simp; omega) | (simp; done))).1.trans (by go_simp))) (by intro j; first | (go_simp; done) | exact (Below.frozen (B := w1.heap.size) (p := ⟨_, j, none⟩) (by repeat (first | exact Below.refl _ _ | (refine Below.drew ?_) | (refine below_alloc ?_ _))) (by first | omega | (simp; omega) | (simp; done))).trans (((HCA.out _ (by first | omega | (simp; omega) | (simp; done)) (by first | omega | (simp; omega) | (simp; done))).2 j).trans (by go_simp))) (by first | (go_simp; done) | exact (Below.cell (B := w1.heap.size) (p := ⟨_, 0, none⟩) (by repeat (first | exact Below.refl _ _ | (refine Below.drew ?_) | (refine below_alloc ?_ _))) (by first | omega | (simp; omega) | (simp; done))).trans ((HCA.out _ (by first | omega | (simp; omega) | (simp; done)) (by first | omega | (simp; omega) | (simp; done))).1.trans (by go_simp))) (by intro j; first | (go_simp; done) | exact (Below.frozen (B := w1.heap.size) (p := ⟨_, j, none⟩) (by repeat (first | exact Below.refl _ _ | (refine Below.drew ?_) | (refine below_alloc ?_ _))) (by first | omega | (simp; omega) | (simp; done))).trans (((HCA.out _ (by first | omega | (simp; omega) | (simp; done)) (by first | omega | (simp; omega) | (simp; done))).2 j).trans (by go_simp)))
end
section
open Go.RowKit
set_option linter.unusedVariables false

theorem below_set6 {B : Nat} {a w : World} (h : Below B a w) {b : Nat} (hb : B ≤ b) (v0 v1 v2 v3 v4 v5 : Value) : Below B a (set6 w b 0 v0 v1 v2 v3 v4 v5) := by
  unfold set6
  exact (((((h.setCell (p := ⟨b, 0, none⟩) hb v0).setCell (p := ⟨b, 0 + 1, none⟩) hb v1).setCell (p := ⟨b, 0 + 2, none⟩) hb v2).setCell (p := ⟨b, 0 + 3, none⟩) hb v3).setCell (p := ⟨b, 0 + 4, none⟩) hb v4).setCell (p := ⟨b, 0 + 5, none⟩) hb v5
set_option maxHeartbeats 2000000 in
set_option maxRecDepth 100000 in
theorem c_IAt_no (r : Int) {w : World} {O : Om} {t ip : Nat} {l : List It} (h : Ar w O t ip l) (hl : l.length ≤ 1000000) (hr : ¬ (1 ≤ r ∧ r ≤ l.length)) :
    Calls Tryz.prog 98 #[.pointer (some ⟨ip, 0, none⟩), .int .i64 r] w fun e w' => e = .returned (.tuple #[.agg #[.string ⟨#[]⟩, .string ⟨#[]⟩, .int .u32 0, .int .u64 0, .int .i64 0, .int .i64 0], .bool false]) ∧ Below w.heap.size w w' := by
  obtain ⟨v, bl, hC, h1, h2⟩ := h.core
  have q1 := ((Below.refl w.heap.size w).alloc (Nat.le_refl _) (.cells #[.string ⟨#[]⟩, .string ⟨#[]⟩, .int .u32 0, .int .u64 0, .int .i64 0, .int .i64 0] 184)).cell (p := ⟨ip, 1, none⟩) hC.lt
  rw [hC.c1] at q1
  have hCt : ∀ W : World, W.cell? ⟨ip, 1, none⟩ = some (.int .i64 l.length) → Calls Tryz.prog 127 #[.pointer (some ⟨ip, 0, none⟩)] W fun e w' => e = .returned (.int .i64 l.length) ∧ W = w' := by
    intro W hW
    go_enter Tryz.func127, Tryz.ntmps127
    go_wp2
    go_ret
    exact ⟨rfl, rfl⟩
  have HCt := Lib.hid (hCt _ q1)
  clear hCt h hC h1 h2
  by_cases hr1 : r < 1
  · have e1 : decide (r < 1) = true := by simp [hr1]
    clear hr HCt
    go_enter Tryz.func98, Tryz.ntmps98
    go_wp2
    exact bodyPost_ret (v := .tuple #[.agg #[.string ⟨#[]⟩, .string ⟨#[]⟩, .int .u32 0, .int .u64 0, .int .i64 0, .int .i64 0], .bool false]) (by simp [results, Tryz.results98, go_sem]) rfl ⟨rfl, by first | exact (Below.refl _ _).alloc (Nat.le_refl _) _ | exact below_set6 ((Below.refl _ _).alloc (Nat.le_refl _) _) (Nat.le_refl _) _ _ _ _ _ _⟩
  · have e1 : decide (r < 1) = false := by simp; omega
    have e2 : decide ((l.length : Int) < r) = true := by simp; omega
    clear hr
    go_enter Tryz.func98, Tryz.ntmps98
    go_wp2_with fail
    refine (HCt.out).mono ?_
    rintro e w' ⟨rfl, rfl⟩
    go_wp2
    exact bodyPost_ret (v := .tuple #[.agg #[.string ⟨#[]⟩, .string ⟨#[]⟩, .int .u32 0, .int .u64 0, .int .i64 0, .int .i64 0], .bool false]) (by simp [results, Tryz.results98, go_sem]) rfl ⟨rfl, by first | exact (Below.refl _ _).alloc (Nat.le_refl _) _ | exact below_set6 ((Below.refl _ _).alloc (Nat.le_refl _) _) (Nat.le_refl _) _ _ _ _ _ _⟩
set_option maxHeartbeats 2000000 in
set_option maxRecDepth 100000 in
theorem c_IAt_yes (r : Int) (k : Nat) (x : It) {w : World} {O : Om} {t ip : Nat} {l : List It} (h : Ar w O t ip l) (hl : l.length ≤ 1000000) (hk : l[k]? = some x) (hr : r = k + 1) :
    Calls Tryz.prog 98 #[.pointer (some ⟨ip, 0, none⟩), .int .i64 r] w fun e w' => e = .returned (.tuple #[.agg #[.string x.key, .string x.val, .int .u32 x.fl, .int .u64 x.id, .int .i64 x.dies, .int .i64 x.gen], .bool true]) ∧ Below w.heap.size w w' := by
  obtain ⟨v, bl, hC0, h1, h2⟩ := h.core
  have hkl := (List.getElem?_eq_some_iff.1 hk).1
  have hb0 : Below w.heap.size w (w.alloc (.cells #[.string ⟨#[]⟩, .string ⟨#[]⟩, .int .u32 0, .int .u64 0, .int .i64 0, .int .i64 0] 184)) := (Below.refl _ _).alloc (Nat.le_refl _) _
  have hC := hC0.below hb0
  have q1 := hC.c1
  have hCt : ∀ W : World, W.cell? ⟨ip, 1, none⟩ = some (.int .i64 l.length) → Calls Tryz.prog 127 #[.pointer (some ⟨ip, 0, none⟩)] W fun e w' => e = .returned (.int .i64 l.length) ∧ W = w' := by
    intro W hW
    go_enter Tryz.func127, Tryz.ntmps127
    go_wp2
    go_ret
    exact ⟨rfl, rfl⟩
  have HCt := Lib.hid (hCt _ q1)
  have e1 : decide (r < 1) = false := by simp; omega
  have e2 : decide ((l.length : Int) < r) = false := by simp; omega
  have hbk : k / 64 < bl.length := by omega
  have HPL := Lib.hid (c_place ip k v bl _ hC.c0 (Arr.of_own hC.row) (by omega) (by omega))
  obtain ⟨b, hb⟩ : ∃ b, b = bl[k / 64] := ⟨_, rfl⟩
  rw [← hb] at HPL
  have hbm : bl[k / 64]? = some b := by rw [hb, List.getElem?_eq_getElem hbk]
  have hx := hC.it k x b hk hbm
  have hm6 : 6 * (k % 64) = k % 64 * 6 := Nat.mul_comm _ _
  rw [hm6] at hx
  have x0 := hx 0 _ rfl
  have x1 := hx 1 _ rfl
  have x2 := hx 2 _ rfl
  have x3 := hx 3 _ rfl
  have x4 := hx 4 _ rfl
  have x5 := hx 5 _ rfl
  have hrk : r - 1 = (k : Int) := by omega
  have hr9 : 1 ≤ r ∧ r ≤ 1000001 := by omega
  obtain ⟨kk, hkk⟩ : ∃ kk, kk = k % 64 * 6 := ⟨_, rfl⟩
  rw [← hkk] at HPL x0 x1 x2 x3 x4 x5
  rw [Nat.add_zero] at x0
  clear hCt h hC hC0 h1 h2 hx hm6 hb hbm hbk hkk hb0
  subst hr
  clear hrk
  go_enter Tryz.func98, Tryz.ntmps98
  go_wp2_with fail
  refine (HCt.out).mono ?_
  rintro e w' ⟨rfl, rfl⟩
  go_wp2_with fail
  refine (HPL.out).mono ?_
  rintro e w' ⟨rfl, rfl⟩
  go_wp2
  exact bodyPost_ret (v := .tuple #[.agg #[.string x.key, .string x.val, .int .u32 x.fl, .int .u64 x.id, .int .i64 x.dies, .int .i64 x.gen], .bool true]) (by simp [results, Tryz.results98, go_sem]) rfl ⟨rfl, by first | exact (Below.refl _ _).alloc (Nat.le_refl _) _ | exact below_set6 ((Below.refl _ _).alloc (Nat.le_refl _) _) (Nat.le_refl _) _ _ _ _ _ _⟩
/-- A list has one element more. -/
theorem LH.snoc {α : Type} {W w1 : World} {O : Om} {t h g cap size : Nat} {E : TypeId} {f : α → List Value} {l : List α} {x : α} {v : Value} {o : Obj} (ht : t ≠ 0) (hhi : ∀ j, O j ≠ 0 → j < W.heap.size) (hO : Ob W O t h [v]) (hr : W.ownsRow 0 E size v l.length (rowOf f l)) (hv : ∀ k, v.ownBlock = some k → O k = t ∧ k ≠ h)
    (own : w1.ownsRow 0 E size (.slice (some ⟨g, 0, none⟩) (l.length + 1) cap) (l.length + 1) (rowOf f l ++ f x)) (hg : (W.alloc o).drew.grownBy w1 v.ownBlock) (hat : v.ownBlock = some g ∨ g = W.heap.size + 1) (hgl : g < w1.heap.size) :
    ∃ O', Ext (fun j => j = t) O W O' (w1.setCell ⟨h, 0, none⟩ (.slice (some ⟨g, 0, none⟩) (l.length + 1) cap)) ∧ LH (w1.setCell ⟨h, 0, none⟩ (.slice (some ⟨g, 0, none⟩) (l.length + 1) cap)) O' t E size f h (l ++ [x]) := by
  have hw : Wrote (fun k => v.ownBlock = some k) W w1 := (((Wrote.refl _ _).alloc o).drew).grown hg fun k hk _ => hk
  have hvo : ∀ k, v.ownBlock = some k → k < W.heap.size := fun k hk => (hr.lt k hk).2
  have hvh : v.ownBlock ≠ some h := fun e => (hv h e).2 rfl
  have hlt := hO.lt
  have hgh : g ≠ h := by
    rcases hat with e | e
    · exact (hv g e).2
    · omega
  have hs := hw.size
  obtain ⟨G, hG⟩ : ∃ G : Om, ∀ j, G j = if j = g then t else O j := ⟨_, fun _ => rfl⟩
  have gold : ∀ j, j < W.heap.size → G j = O j := fun j hj => by
    rw [hG]
    by_cases e : j = g
    · rw [if_pos e]
      rcases hat with e2 | e2
      · subst e; exact ((hv j e2).1).symm
      · omega
    · rw [if_neg e]
  obtain ⟨W3, hW3⟩ : ∃ W3, W3 = w1.setCell ⟨h, 0, none⟩ (.slice (some ⟨g, 0, none⟩) (l.length + 1) cap) := ⟨_, rfl⟩
  have z3 : W3.heap.size = w1.heap.size := by rw [hW3]; simp
  have h3 : Wrote (fun k => k = h) w1 W3 := by rw [hW3]; exact Wrote.setCell (S := fun k => k = h) (Wrote.refl _ _) (p := ⟨h, 0, none⟩) (fun _ => rfl) _
  rw [← hW3]
  refine ⟨G, ⟨gold, fun j hj => ?_, fun j hj hn => ?_, ?_⟩, .slice (some ⟨g, 0, none⟩) (l.length + 1) cap, ⟨(gold h hlt).trans hO.o, by omega, fun j u hu => ?_, fun j => ?_⟩, ?_, fun k hk => ?_⟩
  · rw [hG] at hj
    by_cases e : j = g
    · omega
    · rw [if_neg e] at hj; have := hhi j hj; omega
  · rw [hG] at hn ⊢
    by_cases e : j = g
    · rw [if_pos e]
    · rw [if_neg e] at hn; have := hhi j hn; omega
  · refine (hw.mono (T := fun k => O k = t ∧ O k ≠ 0) fun k _ hk => ⟨(hv k hk).1, by rw [(hv k hk).1]; exact ht⟩).trans h3 fun n _ e => ?_
    subst e; exact ⟨hO.o, by rw [hO.o]; exact ht⟩
  · match j, hu with
    | 0, hu =>
      cases hu
      rw [hW3]
      exact World.cell?_setCell_same _ _ _ ((hw.cell (p := ⟨h, 0, none⟩) hlt hvh).trans (hO.c 0 _ rfl))
  · rw [hW3, World.frozen?_setCell]
    exact (hw.frozen (p := ⟨h, j, none⟩) hlt hvh).trans (hO.f j)
  · rw [rowOf_snoc, List.length_append]
    exact h3.own own fun k hk e => by cases hk; exact hgh e
  · cases hk
    exact ⟨by rw [hG, if_pos rfl], hgh⟩
theorem infoIt : (Tryz.prog.info? 184).map (fun i => (i.zero, i.size, i.bytes)) = some (some (.agg #[.string ⟨#[]⟩, .string ⟨#[]⟩, .int .u32 0, .int .u64 0, .int .i64 0, .int .i64 0]), 6, 64) := by kernel_rfl
set_option maxHeartbeats 2000000 in
set_option maxRecDepth 100000 in
theorem c_r6Add (x : It) {w : World} {O : Om} {t h : Nat} {l : List It} (H : LH w O t 184 6 itc h l) (ht : t ≠ 0) (hl : l.length ≤ 1000000) (hhi : ∀ j, O j ≠ 0 → j < w.heap.size) :
    Calls Tryz.prog 173 #[.pointer (some ⟨h, 0, none⟩), .agg #[.string x.key, .string x.val, .int .u32 x.fl, .int .u64 x.id, .int .i64 x.dies, .int .i64 x.gen]] w (RP (fun j => j = t) w O (.tuple #[.int .i64 ((l.length : Int) + 1), .int .i64 0]) fun W G => LH W G t 184 6 itc h (l ++ [x])) := by
  obtain ⟨v, h1, h2, h3⟩ := H.ex
  obtain ⟨i0, hi, hz0, hz1, hz2⟩ := info_parts infoIt
  obtain ⟨ao, cp, rfl, hcp, hm⟩ := (Arr.of_own h2).shape
  have hB : Below w.heap.size w (w.alloc (.cells #[.string x.key, .string x.val, .int .u32 x.fl, .int .u64 x.id, .int .i64 x.dies, .int .i64 x.gen] 184)) := (Below.refl _ _).alloc (Nat.le_refl _) _
  obtain ⟨W, hW⟩ : ∃ W, W = w.alloc (.cells #[.string x.key, .string x.val, .int .u32 x.fl, .int .u64 x.id, .int .i64 x.dies, .int .i64 x.gen] 184) := ⟨_, rfl⟩
  have hs : W.heap.size = w.heap.size + 1 := by rw [hW]; simp
  have hx : ∀ j u, (itc x)[j]? = some u → W.cell? ⟨w.heap.size, j, none⟩ = some u := fun j u hu => by rw [hW]; exact cell_newA w #[.string x.key, .string x.val, .int .u32 x.fl, .int .u64 x.id, .int .i64 x.dies, .int .i64 x.gen] _ _ rfl j u (by simpa [itc] using hu)
  rw [← hW] at hB
  have k1 := h1.below hB
  have k2 := ownsRow_below h2 hB
  have q0 := k1.c 0 _ rfl
  have qf := k1.f 0
  have hhl := k1.lt
  have hl9 : l.length ≤ 9223372036854775807 := by omega
  have hfull : decide ((1048576 : Int) ≤ (l.length : Int)) = false := by simp; omega
  have x0 := hx 0 _ rfl
  have x1 := hx 1 _ rfl
  have x2 := hx 2 _ rfl
  have x3 := hx 3 _ rfl
  have x4 := hx 4 _ rfl
  have x5 := hx 5 _ rfl
  have EW := Lib.hid (Ext.of_below (S := fun j => j = t) hhi hB)
  have K1 := Lib.hid k1
  have K2 := Lib.hid k2
  have H3 := Lib.hid h3
  have HW := Lib.hid hW
  have hwl : w.heap.size < W.heap.size := by omega
  have hne : ¬ h = W.heap.size := by omega
  have HF := Lib.hid hl
  clear H h1 h2 h3 k1 k2 hB hhi hx hs hl
  go_enter Tryz.func173, Tryz.ntmps173
  go_upto_region 1 with (fail)
  rw [← hW]
  clear hW
  go_wp2_with fail
  go_region_law
    ((refine step_append_lies _ (by rfl) _ _ _ (by rfl) 0 184 i0 _ 6 64 Tryz.underlying96 hi hz0 hz1 hz2 rfl (by omega) (.slice ao l.length cp) l.length (rowOf itc l) (by rfl) ((K2.out.alloc _).drew) ⟨W.heap.size, 0, none⟩ 1 1 (itc x) (by rfl) (by rfl) (World.news_of_block (cs := (itc x).toArray) (t := 184) (fr := (0, 0)) (heap_alloc_new W _)) (by simp [Value.oneCell', itc]) (by omega) (by have := HF.out; unfold maxLen; omega) (by have := HF.out; omega) (by simp) (W.heap.size + 1) (by simp) ?_
      intro gg cap w1 hown1 hgrow hat hlt1
      have hvh : (Value.slice ao l.length cp).ownBlock ≠ some h := fun e => (H3.out h e).2 rfl
      have hh1 : w1.cell? ⟨h, 0, none⟩ = some (.slice ao l.length cp) := (hgrow.cell_far _ (by simp; omega) (Ne.symm hvh)).trans ((((Below.refl W.heap.size W).alloc (Nat.le_refl _) _).cell (p := ⟨h, 0, none⟩) hhl).trans q0)
      have hh2 : w1.frozen? ⟨h, 0, none⟩ = false := (hgrow.frozen_far _ (by simp; omega) (Ne.symm hvh)).trans ((((Below.refl W.heap.size W).alloc (Nat.le_refl _) _).frozen (p := ⟨h, 0, none⟩) hhl).trans qf)))
  all_goals
    go_wp2
    go_ret2
    obtain ⟨G, g1, g2⟩ := LH.snoc ht EW.out.hi K1.out K2.out H3.out hown1 hgrow hat hlt1
    first
      | exact ⟨rfl, G, EW.out.trans g1, g2⟩
      | exact ⟨rfl, G, (EW.out.trans g1).drew, g2.ext (S := fun _ => False) (Ext.of_below g1.hi (drew_below _)) id⟩
theorem c_r6Count {w : World} {O : Om} {t h : Nat} {l : List It} (H : LH w O t 184 6 itc h l) :
    Calls Tryz.prog 112 #[.pointer (some ⟨h, 0, none⟩)] w fun e w' => e = .returned (.int .i64 l.length) ∧ w = w' := by
  obtain ⟨v, h1, h2, h3⟩ := H.ex
  obtain ⟨ao, cp, rfl, hcp, hm⟩ := (Arr.of_own h2).shape
  have q0 := h1.c 0 _ rfl
  clear H h1 h2 h3
  go_enter Tryz.func112, Tryz.ntmps112
  go_wp2
  go_ret
  exact ⟨rfl, rfl⟩
theorem it_cells {w : World} {b o : Nat} {L : List It} (h : ∀ j u, (rowOf itc L)[j]? = some u → w.cell? ⟨b, o + j, none⟩ = some u) (i : Nat) (x : It) (hi : L[i]? = some x) (j : Nat) (u : Value) (hu : (itc x)[j]? = some u) : w.cell? ⟨b, o + (i * 6 + j), none⟩ = some u := by
  have hil := (List.getElem?_eq_some_iff.1 hi).1
  have hx := (List.getElem?_eq_some_iff.1 hi).2
  have hj : j < 6 := by have := (List.getElem?_eq_some_iff.1 hu).1; rwa [itc_len] at this
  exact h _ _ ((rowOf_get itc_len L i j hil hj).trans (by rw [hx]; exact hu))
set_option maxHeartbeats 2000000 in
set_option maxRecDepth 100000 in
theorem c_r6At_yes (r : Int) (k : Nat) (x : It) {w : World} {O : Om} {t h : Nat} {l : List It} (H : LH w O t 184 6 itc h l) (hl : l.length ≤ 1000000) (hk : l[k]? = some x) (hr : r = k + 1) :
    Calls Tryz.prog 113 #[.pointer (some ⟨h, 0, none⟩), .int .i64 r] w fun e w' => e = .returned (.tuple #[.agg #[.string x.key, .string x.val, .int .u32 x.fl, .int .u64 x.id, .int .i64 x.dies, .int .i64 x.gen], .bool true]) ∧ Below w.heap.size w w' := by
  obtain ⟨v, h1, h2, h3⟩ := H.ex
  have hkl := (List.getElem?_eq_some_iff.1 hk).1
  have hb0 : Below w.heap.size w (w.alloc (.cells #[.string ⟨#[]⟩, .string ⟨#[]⟩, .int .u32 0, .int .u64 0, .int .i64 0, .int .i64 0] 184)) := (Below.refl _ _).alloc (Nat.le_refl _) _
  obtain ⟨b, o, cp, rfl, hcp, hcm, hlt, hx⟩ := (Arr.below (Arr.of_own h2) hb0).open (by omega) (by omega)
  have q0 := (h1.below hb0).c 0 _ rfl
  have x0 := it_cells hx k x hk 0 _ rfl
  have x1 := it_cells hx k x hk 1 _ rfl
  have x2 := it_cells hx k x hk 2 _ rfl
  have x3 := it_cells hx k x hk 3 _ rfl
  have x4 := it_cells hx k x hk 4 _ rfl
  have x5 := it_cells hx k x hk 5 _ rfl
  simp only [← Nat.add_assoc, Nat.add_zero] at x0 x1 x2 x3 x4 x5
  have e1 : decide (r < 1) = false := by simp; omega
  have e2 : decide ((l.length : Int) < r) = false := by simp; omega
  have hr9 : 1 ≤ r ∧ r ≤ 1000001 := by omega
  clear H h1 h2 h3 hx hb0
  subst hr
  go_enter Tryz.func113, Tryz.ntmps113
  go_wp2
  exact bodyPost_ret (v := .tuple #[.agg #[.string x.key, .string x.val, .int .u32 x.fl, .int .u64 x.id, .int .i64 x.dies, .int .i64 x.gen], .bool true]) (by simp [results, Tryz.results113, go_sem]) rfl ⟨rfl, by first | exact (Below.refl _ _).alloc (Nat.le_refl _) _ | exact below_set6 ((Below.refl _ _).alloc (Nat.le_refl _) _) (Nat.le_refl _) _ _ _ _ _ _⟩
set_option maxHeartbeats 2000000 in
set_option maxRecDepth 100000 in
theorem c_r6At_no (r : Int) {w : World} {O : Om} {t h : Nat} {l : List It} (H : LH w O t 184 6 itc h l) (hl : l.length ≤ 1000000) (hr : ¬ (1 ≤ r ∧ r ≤ l.length)) :
    Calls Tryz.prog 113 #[.pointer (some ⟨h, 0, none⟩), .int .i64 r] w fun e w' => e = .returned (.tuple #[.agg #[.string ⟨#[]⟩, .string ⟨#[]⟩, .int .u32 0, .int .u64 0, .int .i64 0, .int .i64 0], .bool false]) ∧ Below w.heap.size w w' := by
  obtain ⟨v, h1, h2, h3⟩ := H.ex
  have hb0 : Below w.heap.size w (w.alloc (.cells #[.string ⟨#[]⟩, .string ⟨#[]⟩, .int .u32 0, .int .u64 0, .int .i64 0, .int .i64 0] 184)) := (Below.refl _ _).alloc (Nat.le_refl _) _
  obtain ⟨ao, cp, rfl, hcp, hm⟩ := (Arr.of_own h2).shape
  have q0 := (h1.below hb0).c 0 _ rfl
  clear H h1 h2 h3 hb0
  by_cases hr1 : r < 1
  · have e1 : decide (r < 1) = true := by simp [hr1]
    clear hr
    go_enter Tryz.func113, Tryz.ntmps113
    go_wp2
    exact bodyPost_ret (v := .tuple #[.agg #[.string ⟨#[]⟩, .string ⟨#[]⟩, .int .u32 0, .int .u64 0, .int .i64 0, .int .i64 0], .bool false]) (by simp [results, Tryz.results113, go_sem]) rfl ⟨rfl, by first | exact (Below.refl _ _).alloc (Nat.le_refl _) _ | exact below_set6 ((Below.refl _ _).alloc (Nat.le_refl _) _) (Nat.le_refl _) _ _ _ _ _ _⟩
  · have e1 : decide (r < 1) = false := by simp; omega
    have e2 : decide ((l.length : Int) < r) = true := by simp; omega
    clear hr
    go_enter Tryz.func113, Tryz.ntmps113
    go_wp2
    exact bodyPost_ret (v := .tuple #[.agg #[.string ⟨#[]⟩, .string ⟨#[]⟩, .int .u32 0, .int .u64 0, .int .i64 0, .int .i64 0], .bool false]) (by simp [results, Tryz.results113, go_sem]) rfl ⟨rfl, by first | exact (Below.refl _ _).alloc (Nat.le_refl _) _ | exact below_set6 ((Below.refl _ _).alloc (Nat.le_refl _) _) (Nat.le_refl _) _ _ _ _ _ _⟩
end
section
open Go.RowKit
set_option linter.unusedVariables false

theorem infoRn : (Tryz.prog.info? 231).map (fun i => (i.zero, i.size, i.bytes)) = some (some (.agg #[.int .i64 0, .int .i64 0, .int .i64 0, .int .i64 0, .int .i64 0, .int .i64 0, .int .i64 0, .int .i64 0]), 8, 64) := by kernel_rfl
def rnObj (n : Nt) : Obj := .cells #[.int .i64 n.step, .int .i64 n.thread, .int .i64 n.kind, .int .i64 n.ref, .int .i64 n.bits, .int .i64 n.bucket, .int .i64 n.slot, .int .i64 n.value] 231
set_option maxHeartbeats 1000000 in
set_option maxRecDepth 100000 in
theorem c_r9Add (n : Nt) {w : World} {O : Om} {t h : Nat} {l : List Nt} (H : LH w O t 231 8 ntr h l) (ht : t ≠ 0) (hhi : ∀ j, O j ≠ 0 → j < w.heap.size) (k0 : 0 ≤ n.kind) (k1 : n.kind ≤ 255) :
    Calls Tryz.prog 189 #[.pointer (some ⟨h, 0, none⟩), .agg #[.int .i64 n.step, .int .i64 n.thread, .int .i64 n.kind, .int .i64 n.ref, .int .i64 n.bits, .int .i64 n.bucket, .int .i64 n.slot, .int .i64 n.value]] w (RP (fun j => j = t) w O (.int .i64 (ntErr l n)) fun W G => LH W G t 231 8 ntr h (ntAdd l n)) := by
  obtain ⟨v, h1, h2, h3⟩ := H.ex
  have hno : ∀ w', Below w.heap.size w w' → ntErr l n ≠ 0 → ∃ G, Ext (fun j => j = t) O w G w' ∧ LH w' G t 231 8 ntr h (ntAdd l n) := fun w' hb he => ⟨O, Ext.of_below hhi hb, by rw [ntAdd_no he]; exact H.ext (S := fun _ => False) (Ext.of_below hhi hb) id⟩
  have HN := Lib.hid hno
  have H1 := Lib.hid h1
  have H3 := Lib.hid h3
  have HH := Lib.hid hhi
  have hlt := h1.lt
  have hc := h1.c 0 _ rfl
  have hfz := h1.f 0
  have hap : v.ownBlock ≠ some h := fun e => (h3 h e).2 rfl
  have hown := h2
  obtain ⟨ao, cp, rfl, hcp, hm⟩ := (Arr.of_own h2).shape
  have hm' : l.length ≤ 9223372036854775807 := by unfold maxLen at hm; omega
  have hne : ¬ h = w.heap.size := by omega
  have hcA := (((Below.refl w.heap.size w).alloc (Nat.le_refl _) (rnObj n)).cell (p := ⟨h, 0, none⟩) hlt).trans hc
  unfold rnObj at hcA
  clear H h1 h2 h3 hno hhi
  by_cases hk1 : n.kind < 1
  · have HE := Lib.hid (show ntErr l n = 1 from ntErr_bad (by unfold ntBad; simp; omega))
    clear hown
    go_enter Tryz.func189, Tryz.ntmps189
    go_wp2
    go_ret
    exact ⟨ret_int HE.out.symm, HN.out _ ((Below.refl _ _).alloc (Nat.le_refl _) _) (by rw [HE.out]; omega)⟩
  · by_cases hk9 : 9 < n.kind
    · have HE := Lib.hid (show ntErr l n = 1 from ntErr_bad (by unfold ntBad; simp; omega))
      clear hown
      go_enter Tryz.func189, Tryz.ntmps189
      go_wp2
      go_ret
      exact ⟨ret_int HE.out.symm, HN.out _ ((Below.refl _ _).alloc (Nat.le_refl _) _) (by rw [HE.out]; omega)⟩
    · have hBL : ntBad l n = ntLow l n := by unfold ntBad; rw [decide_eq_false (by omega)]; rfl
      have HBL := Lib.hid hBL
      clear hBL
      go_enter Tryz.func189, Tryz.ntmps189
      go_upto_region 3 with fail
      go_cut [36] (fun s wx => s = .bool (ntLow l n) ∧ ∃ nq, wx = (w.alloc (rnObj n)).drewN nq)
      case first =>
        by_cases hz : l.length = 0
        · have ez : decide (0 < l.length) = false := by simp [hz]
          have hB : ntLow l n = false := by rw [List.eq_nil_of_length_eq_zero hz]; rfl
          have HB2 := Lib.hid hB
          clear hB hz
          go_quiet (fail)
          go_wp2
          go_meet
          exact ⟨by rw [HB2.out], _, rfl⟩
        · have ez : decide (0 < l.length) = true := by simp; omega
          have hB := ntLow_get n (show 0 < l.length by omega)
          obtain ⟨b, o, c', he, -, -, hb, hx⟩ := (Arr.of_own hown).open (show 0 < l.length by omega) (by omega)
          cases he
          have hi0 : (0 : Int) ≤ (l.length : Int) - 1 := by omega
          have hi1 : (l.length : Int) - 1 < (l.length : Int) := by omega
          obtain ⟨m, hmm⟩ : ∃ m, m = l[l.length - 1] := ⟨_, rfl⟩
          have g0 := nt_cells ntr_len hx (l.length - 1) (by omega) 0 (by omega) (u := .int .i64 m.step) (by rw [hmm]; rfl)
          rw [Nat.add_zero] at g0
          have hbn : ¬ b = w.heap.size := by omega
          rw [← hmm] at hB
          have HB2 := Lib.hid hB
          clear hx hB hmm hz hown
          go_quiet (fail)
          go_wp2
          go_meet
          exact ⟨by rw [HB2.out], _, rfl⟩
      case rest =>
        obtain ⟨rfl, nq, rfl⟩ := hcut
        cases hB : ntLow l n
        · have HB : Hid (ntBad l n = false) := by have := HBL.out; rw [hB] at this; exact this
          by_cases hfull : 1048576 ≤ l.length
          · have hd : decide ((1048576 : Int) ≤ (l.length : Int)) = true := by simp only [decide_eq_true_eq]; omega
            have HF := Lib.hid hfull
            have hcB : ((w.alloc (rnObj n)).drewN nq).cell? ⟨h, 0, none⟩ = some (.slice ao l.length cp) := hcA
            clear hown hfull
            go_wp2
            have hfull := HF.out
            go_ret
            exact ⟨ret_int (ntErr_full HB.out hfull).symm, HN.out _ (ntbelow_drewN ((Below.refl _ _).alloc (Nat.le_refl _) _) _) (by rw [ntErr_full HB.out hfull]; omega)⟩
          · obtain ⟨i0, hi, hz0, hz1, hz2⟩ := info_parts infoRn
            have HE := Lib.hid (ntErr_ok HB.out hfull)
            obtain ⟨W, hW⟩ : ∃ W, W = (w.alloc (rnObj n)).drewN nq := ⟨_, rfl⟩
            have hlW : h < W.heap.size := by rw [hW]; simp; omega
            have hbel : Below w.heap.size w W := by rw [hW]; exact ntbelow_drewN ((Below.refl _ _).alloc (Nat.le_refl _) _) _
            have EW := Lib.hid (Ext.of_below (S := fun j => j = t) HH.out hbel)
            have K1 := Lib.hid (H1.out.below hbel)
            have hcW : W.cell? ⟨h, 0, none⟩ = some (.slice ao l.length cp) := (hbel.cell (p := ⟨h, 0, none⟩) hlt).trans hc
            have hfW : W.frozen? ⟨h, 0, none⟩ = false := (hbel.frozen (p := ⟨h, 0, none⟩) hlt).trans hfz
            have hownW : W.ownsRow 0 231 8 (.slice ao l.length cp) l.length (rowOf ntr l) := by rw [hW]; exact ownsRow_below hown (ntbelow_drewN ((Below.refl _ _).alloc (Nat.le_refl _) _) _)
            obtain ⟨B, hBB⟩ : ∃ B, B = w.heap.size := ⟨_, rfl⟩
            rw [← hBB]
            have hcell : ∀ j u, (ntr n)[j]? = some u → W.cell? ⟨B, j, none⟩ = some u := by
              intro j u hu
              rw [hW, hBB]
              have : (w.alloc (rnObj n)).cell? ⟨w.heap.size, j, none⟩ = some u := by
                unfold World.cell? rnObj
                rw [heap_alloc_new]
                simpa [ntr] using hu
              exact this
            have b0 : W.cell? ⟨B, 0, none⟩ = some (.int .i64 n.step) := hcell 0 _ rfl
            have b1 : W.cell? ⟨B, 1, none⟩ = some (.int .i64 n.thread) := hcell 1 _ rfl
            have b2 : W.cell? ⟨B, 2, none⟩ = some (.int .i64 n.kind) := hcell 2 _ rfl
            have b3 : W.cell? ⟨B, 3, none⟩ = some (.int .i64 n.ref) := hcell 3 _ rfl
            have b4 : W.cell? ⟨B, 4, none⟩ = some (.int .i64 n.bits) := hcell 4 _ rfl
            have b5 : W.cell? ⟨B, 5, none⟩ = some (.int .i64 n.bucket) := hcell 5 _ rfl
            have b6 : W.cell? ⟨B, 6, none⟩ = some (.int .i64 n.slot) := hcell 6 _ rfl
            have b7 : W.cell? ⟨B, 7, none⟩ = some (.int .i64 n.value) := hcell 7 _ rfl
            have hBW : B < W.heap.size := by rw [hBB, hW]; simp
            have hBo : (Value.slice ao l.length cp).ownBlock ≠ some B := fun he => by have := (hown.lt _ he).2; omega
            have hd : decide ((1048576 : Int) ≤ (l.length : Int)) = false := by simp only [decide_eq_false_iff_not]; omega
            have HF := Lib.hid hfull
            have hfA : ∀ o, (W.alloc o).frozen? ⟨h, 0, none⟩ = false := fun o => (((Below.refl W.heap.size W).alloc (Nat.le_refl _) o).frozen (p := ⟨h, 0, none⟩) hlW).trans hfW
            have HW := Lib.hid hW
            have HBB := Lib.hid hBB
            rw [← hW]
            clear hcell hW hc hfz hown hbel hcA hfull hBB
            go_wp2
            go_region_law ((refine step_append_lies _ (by rfl) _ _ _ (by rfl) 0 231 i0 _ 8 64 Tryz.underlying227 hi hz0 hz1 hz2 rfl (by omega) (.slice ao l.length cp) l.length (rowOf ntr l) (by rfl) ((hownW.alloc _).drew) ⟨W.heap.size, 0, none⟩ 1 1 (ntr n) (by rfl) (by rfl) (World.news_of_block (cs := (ntr n).toArray) (t := 231) (fr := (0, 0)) (heap_alloc_new W _)) (by simp [Value.oneCell', ntr]) (by omega) (by have := HF.out; unfold maxLen; omega) (by have := HF.out; omega) (by simp) (W.heap.size + 1) (by simp) ?_; intro gg cap w1 hown1 hgrow hat hlt1; have hh1 : w1.cell? ⟨h, 0, none⟩ = some (.slice ao l.length cp) := (hgrow.cell_far _ (by simp; omega) (Ne.symm hap)).trans ((((Below.refl W.heap.size W).alloc (Nat.le_refl _) _).cell (p := ⟨h, 0, none⟩) hlW).trans hcW); have hh2 : w1.frozen? ⟨h, 0, none⟩ = false := (hgrow.frozen_far _ (by simp; omega) (Ne.symm hap)).trans (hfA _)))
            all_goals
              go_wp2
              go_ret
              obtain ⟨G, g1, g2⟩ := LH.snoc ht EW.out.hi K1.out hownW H3.out hown1 hgrow hat hlt1
              rw [← ntAdd_ok HE.out] at g2
              first
                | exact ⟨ret_int HE.out.symm, G, EW.out.trans g1, g2⟩
                | exact ⟨ret_int HE.out.symm, G, (EW.out.trans g1).drew, g2.ext (S := fun _ => False) (Ext.of_below g1.hi (drew_below _)) id⟩
        · have HB : Hid (ntBad l n = true) := by have := HBL.out; rw [hB] at this; exact this
          clear hown
          go_wp2
          go_ret
          exact ⟨ret_int (ntErr_bad HB.out).symm, HN.out _ (ntbelow_drewN ((Below.refl _ _).alloc (Nat.le_refl _) _) _) (by rw [ntErr_bad HB.out]; omega)⟩
theorem RW.notes {w w' : World} {O O' : Om} {B : Wb} {f : Cf} {s : AW} {m : Nat} {l : List Nt} (h : RW w O B f s m) (e : Ext (fun t => t = 8) O w O' w') (hc : LH w' O' 8 231 8 ntr B.np l) : RW w' O' B f ⟨s.M, s.n, s.la, s.tk, s.ho, s.it, l⟩ m :=
  ⟨(e.lo _ h.wo.lt).trans h.o, h.wo.wrote e.wr (fun k => absurd (show (5 : Nat) = 8 from by have := k.1; rwa [h.o] at this) (by decide)), h.ce.ext e (by decide), h.ar.ext e (by decide), hc⟩
set_option maxHeartbeats 2000000 in
set_option maxRecDepth 100000 in
theorem c_rwNote (k ref b q sl v : Int) {w : World} {O : Om} {B : Wb} {f : Cf} {s : AW} {m : Nat} (h : RW w O B f s m) (hhi : ∀ j, O j ≠ 0 → j < w.heap.size) (k0 : 0 ≤ k) (k1 : k ≤ 255) :
    Calls Tryz.prog 140 #[.pointer (some ⟨B.p, 0, none⟩), .int .i64 k, .int .i64 ref, .agg #[.int .i64 b, .int .i64 q, .int .i64 sl], .int .i64 v] w (RP SR w O (.tuple #[]) fun W G => RW W G B f (awNote k ref b q sl v s) m) := by
  have HP := Lib.hid h
  have HH := Lib.hid hhi
  clear h hhi
  go_enter Tryz.func140, Tryz.ntmps140
  go_wp2_with fail
  obtain ⟨W, hW⟩ : ∃ W, W = w.alloc (.cells #[.int .i64 b, .int .i64 q, .int .i64 sl] 45) := ⟨_, rfl⟩
  have y0 : W.cell? ⟨w.heap.size, 0, none⟩ = some (.int .i64 b) := by rw [hW]; simp
  have y1 : W.cell? ⟨w.heap.size, 1, none⟩ = some (.int .i64 q) := by rw [hW]; simp
  have y2 : W.cell? ⟨w.heap.size, 2, none⟩ = some (.int .i64 sl) := by rw [hW]; simp
  have hB : Below w.heap.size w W := by rw [hW]; exact (Below.refl _ _).alloc (Nat.le_refl _) _
  have E1 := Lib.hid (Ext.of_below (S := SR) HH.out hB)
  have P1 := Lib.hid (HP.out.below HH.out hB)
  have c2 := P1.out.wo.c2
  have ch := P1.out.wo.ho
  have hlt : w.heap.size < W.heap.size := by rw [hW]; simp
  have hO0 := Lib.hid (zero_own1 HH.out (Nat.le_refl w.heap.size))
  rw [← hW]
  clear hW hB
  go_region_held3 (fun w' => w'.cell? ⟨w.heap.size, 0, none⟩ = some (.int .i64 b) ∧ w'.cell? ⟨w.heap.size, 1, none⟩ = some (.int .i64 q) ∧ w'.cell? ⟨w.heap.size, 2, none⟩ = some (.int .i64 sl) ∧ w'.cell? ⟨B.p, 2, none⟩ = some (.pointer (some ⟨B.np, 0, none⟩)) ∧ w'.cell? ⟨B.p, 72, none⟩ = some (.int .i64 s.ho)) (go_keep)
    ((first
      | (go_at_call 125
         refine (c_rwSteps (P1.out.below E1.out.hi (drew_below W))).mono ?_
         rintro e w' ⟨rfl, rfl⟩)
      | (go_at_call 189
         refine (c_r9Add (w := W.drew) ⟨s.n, s.ho, k, ref, b, q, sl, v⟩ (P1.out.below E1.out.hi (drew_below W)).no (by decide) E1.out.drew.hi k0 k1).mono ?_
         rintro e w1 ⟨rfl, G, e1, no1⟩
         have Q1 := Lib.hid ((P1.out.below E1.out.hi (drew_below W)).notes e1 no1)
         have F1 := Lib.hid (E1.out.drew.trans (e1.mono fun t _ h => by subst h; exact ⟨by decide, by decide⟩))
         have x0 := (e1.cell (p := ⟨w.heap.size, 0, none⟩) hlt (by show ¬ (O w.heap.size = 8); rw [hO0.out]; decide)).trans y0
         have x1 := (e1.cell (p := ⟨w.heap.size, 1, none⟩) hlt (by show ¬ (O w.heap.size = 8); rw [hO0.out]; decide)).trans y1
         have x2 := (e1.cell (p := ⟨w.heap.size, 2, none⟩) hlt (by show ¬ (O w.heap.size = 8); rw [hO0.out]; decide)).trans y2
         have x3 := Q1.out.wo.c2
         have x4 := Q1.out.wo.ho
         clear e1 no1)))
  all_goals
    go_wp2_with fail
    go_end0
    exact ⟨rfl, G, F1.out, Q1.out⟩
end
section
open Go.RowKit Go.Shelf
set_option linter.unusedVariables false

/-- The document's Mark in block R that has l to add to. -/
structure RmAt (W : World) (G : Om) (k R : Nat) (l : List Int) : Prop where
  ex : ∃ (A off c : Nat) (full : List Int), Ob W G k R [.int .i64 (if l = [] then 0 else 1), .slice (some ⟨A, 0, none⟩) full.length c, .int .i64 off] ∧ Ob W G (k + 1) A (u64s full) ∧ full.drop off = l ∧ full.length ≤ 10
theorem RmAt.ext {S : Nat → Prop} {O O' : Om} {w w' : World} {k R : Nat} {l : List Int} (h : RmAt w O k R l) (e : Ext S O w O' w') (h1 : ¬ S k) (h2 : ¬ S (k + 1)) : RmAt w' O' k R l := by
  obtain ⟨A, off, c, full, a, b, d⟩ := h.ex
  exact ⟨A, off, c, full, a.ext e h1, b.ext e h2, d⟩
theorem RmAt.below {O : Om} {w w' : World} {k R : Nat} {l : List Int} (h : RmAt w O k R l) (hb : Below w.heap.size w w') : RmAt w' O k R l := by
  obtain ⟨A, off, c, full, a, b, d⟩ := h.ex
  exact ⟨A, off, c, full, a.below hb, b.below hb, d⟩
theorem RmAt.cell {O : Om} {w : World} {k R : Nat} {l : List Int} (h : RmAt w O k R l) : w.cell? ⟨R, 0, none⟩ = some (.int .i64 (if l = [] then 0 else 1)) := by
  obtain ⟨A, off, c, full, a, b, d⟩ := h.ex
  exact a.c 0 _ rfl
section
variable {R : Nat} {w : World} {O : Om} {C : Wb} {f : Cf} {s : AW} {m k : Nat}
set_option maxHeartbeats 2000000 in
set_option maxRecDepth 100000 in
theorem c_rMkStep (a : Int) (l : List Int) (h : RW w O C f s m) (hR : RmAt w O k R (a :: l)) (hk : 10 ≤ k) (hm : m ≤ 900000) (hhi : ∀ j, O j ≠ 0 → j < w.heap.size) (a0 : 0 ≤ a) (a1 : a < 18446744073709551616) (n0 : 0 ≤ s.n) (n1 : s.n ≤ 4611686018427387904) :
    Calls Tryz.prog 137 #[.pointer (some ⟨R, 0, none⟩), .pointer (some ⟨C.p, 0, none⟩)] w (RP (SD k k) w O (.tuple #[]) fun W G => RW W G C f (awAdd a 1 s) (m + 1) ∧ RmAt W G k R l) := by
  obtain ⟨A, off, c, full, hx, ha, hd, hfl⟩ := hR.ex
  rw [if_neg (by simp)] at hx
  have HM : Hid (Md k k w O w O C f s m k R [.int .i64 1, .slice (some ⟨A, 0, none⟩) full.length c, .int .i64 off]) := Lib.hid (Md.start hhi h hx)
  have hfo : full[off]? = some a := by
    have := congrArg (fun z : List Int => z[0]?) hd
    simpa using this
  have hol : off < full.length := (List.getElem?_eq_some_iff.1 hfo).1
  have hfu : (u64s full)[off]? = some (.int .u64 a) := by unfold u64s; rw [List.getElem?_map, hfo]; rfl
  have HFU := Lib.hid hfu
  have hd2 : full.drop (off + 1) = l := by
    have := congrArg List.tail hd
    simpa using this
  have HD := Lib.hid (And.intro hd2 hfl)
  have HA0 := Lib.hid ha
  have x0 := hx.c 0 _ rfl
  have x1 := hx.c 1 _ rfl
  have x2 := hx.c 2 _ rfl
  have q0 := ha.c off _ hfu
  obtain ⟨n, hn⟩ : ∃ n, n = full.length := ⟨_, rfl⟩
  rw [← hn] at hol x1 HM hfl
  have HN := Lib.hid hn
  have HA := Lib.hid (c_rwAdd a 1 (w := w.drew) (h.below hhi (drew_below w)) (by omega) a0 a1 (by decide) (by decide) HM.out.drew.e.hi n0 n1)
  have ho0 : (0 : Int) ≤ (off : Int) := by omega
  have ho1 : (off : Int) < (n : Int) := by omega
  have hw1 : wrap64 ((off : Int) + 1) = (off : Int) + 1 := by unfold wrap64; omega
  have hw2 : IntKind.i64.wrap ((off : Int) + 1) = (off : Int) + 1 := by simp [IntKind.wrap, IntKind.bits, IntKind.signed]; omega
  have hlen : l.length + (off + 1) = n := by rw [← hd2, List.length_drop, ← hn]; omega
  clear h hR hx ha hd hfo hfu hd2 hhi hn
  by_cases hl : l = []
  · have de : ((off : Int) + 1 == (n : Int)) = true := by subst hl; simp at hlen; simp; omega
    have HL := Lib.hid hl
    clear hl hlen
    go_enter Tryz.func137, Tryz.ntmps137
    go_wp2_with fail
    go_region_held3 (fun w' => w'.cell? ⟨R, 1, none⟩ = some (.slice (some ⟨A, 0, none⟩) n c) ∧ w'.cell? ⟨R, 2, none⟩ = some (.int .i64 off) ∧ w'.cell? ⟨A, off, none⟩ = some (.int .u64 a)) (go_keep)
      ((go_at_call 141
        refine HA.out.mono ?_
        rintro e w1 ⟨rfl, G1, e1, P1⟩
        have M1 := Lib.hid (HM.out.drew.world hk e1 P1)
        have A1 := Lib.hid ((HA0.out.below (drew_below w)).ext e1 (by unfold SR; omega))
        have y1 := M1.out.t.c 1 _ rfl
        have y2 := M1.out.t.c 2 _ rfl
        have y3 := A1.out.c off _ HFU.out
        clear e1 P1))
    all_goals
      clear x0 x1 x2 q0
      have f2 := M1.out.t.f 2
      have E2 := ext_set (j := 2) (v := .int .i64 ((off : Int) + 1)) M1.out.e.hi M1.out.t hk
      have M2 := Lib.hid (M1.out.set hk (Nat.le_refl _) (Nat.le_refl _) 2 (.int .i64 ((off : Int) + 1)) (by simp))
      have A2 := Lib.hid (A1.out.ext E2 (by omega))
      obtain ⟨w2, hw⟩ : ∃ w2, w2 = w1.setCell ⟨R, 2, none⟩ (.int .i64 ((off : Int) + 1)) := ⟨_, rfl⟩
      clear E2
      go_wp2_with fail
      rw [← hw] at M2 A2 ⊢
      clear hw y1 y2 y3 f2
      have y1 := M2.out.t.c 1 _ rfl
      have y2 := M2.out.t.c 2 _ rfl
      go_quiet (fail)
      have M3 := Lib.hid (M2.out.below (w1 := w2.drewN nq) ⟨rfl, rfl, rfl, Nat.le_refl _, fun _ _ => rfl⟩)
      have A3 := Lib.hid (A2.out.below (w' := w2.drewN nq) ⟨rfl, rfl, rfl, Nat.le_refl _, fun _ _ => rfl⟩)
      obtain ⟨w3, hw⟩ : ∃ w3, w3 = w2.drewN nq := ⟨_, rfl⟩
      rw [← hw] at M3 A3 ⊢
      clear hw y1 y2
      have y0 := M3.out.t.c 0 _ rfl
      have f0 := M3.out.t.f 0
      have E4 := Lib.hid (ext_set (j := 0) (v := .int .i64 0) M3.out.e.hi M3.out.t hk)
      have M4 := Lib.hid (M3.out.set hk (Nat.le_refl _) (Nat.le_refl _) 0 (.int .i64 0) (by simp))
      go_wp2_with fail
      go_end0
      exact ⟨rfl, _, M4.out.e, M4.out.p, ⟨A, off + 1, c, full, by rw [if_pos HL.out, ← HN.out]; exact M4.out.t, A3.out.ext E4.out (by omega), HD.out⟩⟩
  · have de : ((off : Int) + 1 == (n : Int)) = false := by
      have : 0 < l.length := List.length_pos_iff.2 hl
      rw [beq_eq_false_iff_ne]; omega
    have HL := Lib.hid hl
    clear hl hlen
    go_enter Tryz.func137, Tryz.ntmps137
    go_wp2_with fail
    go_region_held3 (fun w' => w'.cell? ⟨R, 1, none⟩ = some (.slice (some ⟨A, 0, none⟩) n c) ∧ w'.cell? ⟨R, 2, none⟩ = some (.int .i64 off) ∧ w'.cell? ⟨A, off, none⟩ = some (.int .u64 a)) (go_keep)
      ((go_at_call 141
        refine HA.out.mono ?_
        rintro e w1 ⟨rfl, G1, e1, P1⟩
        have M1 := Lib.hid (HM.out.drew.world hk e1 P1)
        have A1 := Lib.hid ((HA0.out.below (drew_below w)).ext e1 (by unfold SR; omega))
        have y1 := M1.out.t.c 1 _ rfl
        have y2 := M1.out.t.c 2 _ rfl
        have y3 := A1.out.c off _ HFU.out
        clear e1 P1))
    all_goals
      clear x0 x1 x2 q0
      have f2 := M1.out.t.f 2
      have E2 := ext_set (j := 2) (v := .int .i64 ((off : Int) + 1)) M1.out.e.hi M1.out.t hk
      have M2 := Lib.hid (M1.out.set hk (Nat.le_refl _) (Nat.le_refl _) 2 (.int .i64 ((off : Int) + 1)) (by simp))
      have A2 := Lib.hid (A1.out.ext E2 (by omega))
      obtain ⟨w2, hw⟩ : ∃ w2, w2 = w1.setCell ⟨R, 2, none⟩ (.int .i64 ((off : Int) + 1)) := ⟨_, rfl⟩
      clear E2
      go_wp2_with fail
      rw [← hw] at M2 A2 ⊢
      clear hw y1 y2 y3 f2
      have y1 := M2.out.t.c 1 _ rfl
      have y2 := M2.out.t.c 2 _ rfl
      go_quiet (fail)
      have M3 := Lib.hid (M2.out.below (w1 := w2.drewN nq) ⟨rfl, rfl, rfl, Nat.le_refl _, fun _ _ => rfl⟩)
      have A3 := Lib.hid (A2.out.below (w' := w2.drewN nq) ⟨rfl, rfl, rfl, Nat.le_refl _, fun _ _ => rfl⟩)
      clear y1 y2
      go_wp2_with fail
      go_end0
      exact ⟨rfl, _, M3.out.e, M3.out.p, ⟨A, off + 1, c, full, by rw [if_neg HL.out, ← HN.out]; exact M3.out.t, A3.out, HD.out⟩⟩
set_option maxHeartbeats 2000000 in
set_option maxRecDepth 100000 in
theorem c_rOf1 (p : Spt) (hp : p.ok) {b o c : Nat} (g : Nat) (hg : g ≠ 0) (hc : 1 ≤ c ∧ c ≤ maxLen) (hb : b < w.heap.size) (x0 : w.cell? ⟨b, o, none⟩ = some (.int .i64 p.b)) (x1 : w.cell? ⟨b, o + 1, none⟩ = some (.int .i64 p.q)) (hhi : ∀ j, O j ≠ 0 → j < w.heap.size) :
    Calls Tryz.prog 188 #[.slice (some ⟨b, o, none⟩) 1 c] w fun e w' => ∃ A cp, e = .returned (.slice (some ⟨A, 0, none⟩) 1 cp) ∧ ∃ G, Ext (fun j => j = g) O w G w' ∧ Ob w' G g A [.int .u64 p.ver] := by
  obtain ⟨i0, hi, hz0, hz1, hz2⟩ := info_parts infoAd
  have HI := Lib.hid (And.intro hi (And.intro hz0 (And.intro hz1 hz2)))
  have hq := hp.q2
  have hv := hp.ver
  have HV := Lib.hid (fun W => c_rVersion p.b p.q W (by have := hp.b0; omega) (by have := hp.b1; omega) (by have := hp.q0; omega) (by omega))
  obtain ⟨ve, hve⟩ : ∃ ve, ve = p.ver := ⟨_, rfl⟩
  have hve2 : plVersion p.b p.q = ve := hve.symm
  rw [hve2] at HV
  rw [← hve] at hv ⊢
  obtain ⟨pb, hpb⟩ : ∃ z, z = p.b := ⟨_, rfl⟩
  obtain ⟨pq, hpq⟩ : ∃ z, z = p.q := ⟨_, rfl⟩
  rw [← hpb, ← hpq] at HV
  rw [← hpb] at x0
  rw [← hpq] at x1
  have dv : (ve == 0) = false := by rw [beq_eq_false_iff_ne]; omega
  have HH := Lib.hid hhi
  clear hp hq hv hve hve2 hpb hpq hhi hi hz0 hz1 hz2
  go_enter Tryz.func188, Tryz.ntmps188
  go_wp2_with fail
  refine wp_loop_rounds 2 ?_
  rw [rounds_succ]
  go_wp2_with fail
  refine (HV.out _).mono ?_
  rintro e w1 ⟨rfl, hb1⟩
  have HB1 : Hid (Below w.heap.size w w1) := Lib.hid (by first | exact ((Below.refl _ _).alloc (Nat.le_refl _) _).trans (hb1.mono (by simp)) | exact hb1)
  have E1 := Lib.hid (Ext.of_below (S := fun j => j = g) HH.out HB1.out)
  clear hb1
  go_wp2_with fail
  refine wp_loop_rounds 1 ?_
  rw [rounds_succ]
  go_wp2_with (at_builtin; refine append_row w1 rfl _ _ 239 rfl 40 i0 (.int .u64 0) 1 8 Tryz.underlying239 HI.out.1 HI.out.2.1 HI.out.2.2.1 HI.out.2.2.2 rfl (by decide) (by decide) O g hg E1.out.hi (.slice none 0 0) 0 [] rfl (Row.nil _ _ _ _ _) [.int .u64 ve] _ rfl rfl (by simp [Value.oneCell']) (by omega) ?_; intro gg cap w2 G2 e2 r2; have HR2 := Lib.hid r2; have E2 := Lib.hid (E1.out.trans e2); clear e2 r2)
  rw [rounds_succ]
  go_wp2_with fail
  go_ret
  exact ⟨gg, cap, rfl, G2, E2.out, HR2.out.ob (by decide)⟩
set_option maxHeartbeats 2000000 in
set_option maxRecDepth 100000 in
theorem c_rNewMark1 (p : Spt) (hp : p.ok) {b o c : Nat} (k : Nat) (hk : 10 ≤ k) (hc : 1 ≤ c ∧ c ≤ maxLen) (hb : b < w.heap.size) (x0 : w.cell? ⟨b, o, none⟩ = some (.int .i64 p.b)) (x1 : w.cell? ⟨b, o + 1, none⟩ = some (.int .i64 p.q)) (hhi : ∀ j, O j ≠ 0 → j < w.heap.size) :
    Calls Tryz.prog 122 #[.slice (some ⟨b, o, none⟩) 1 c] w fun e w' => ∃ X, RP (fun t => t = k ∨ t = k + 1) w O (.pointer (some ⟨X, 0, none⟩)) (fun W G => RmAt W G k X [p.ver]) e w' := by
  have HO := Lib.hid (c_rOf1 p hp (k + 1) (by omega) hc hb x0 x1 hhi)
  clear hp hb x0 x1 hhi
  go_enter Tryz.func122, Tryz.ntmps122
  go_wp2_with fail
  refine HO.out.mono ?_
  rintro e w1 ⟨A, cp, rfl, G1, e1, a1⟩
  obtain ⟨G2, e2, x2, k2⟩ := alloc_ob e1.hi k #[.int .i64 1, .slice (some ⟨A, 0, none⟩) 1 cp, .int .i64 0] 241 w1.heap.size rfl
  have HE := Lib.hid (And.intro ((e1.mono (T := fun t => t = k ∨ t = k + 1) fun t _ h => .inr h).trans (e2.mono fun t _ h => .inl h)) (And.intro x2 (k2 _ _ _ a1)))
  clear e1 a1 e2 x2 k2
  go_wp2_with fail
  go_ret
  exact ⟨_, rfl, G2, HE.out.1, ⟨A, 0, cp, [p.ver], HE.out.2.1, HE.out.2.2, rfl, by simp⟩⟩
end
/-- The document's Out. -/
def roCs (p : Spt) (o : Otm) : List Value := [.int .i64 (if o.ln = 3 then 0 else (o.ln : Int) + 1), .bool (decide (2 ≤ o.ln)), .bool true, .int .i64 p.b, .int .i64 p.q, .int .i64 p.s, .int .i64 0, .int .i64 0, .int .u64 o.w]
structure RoAt (W : World) (G : Om) (k R : Nat) (p : Spt) (o : Otm) : Prop where
  ob : Ob W G k R (roCs p o)
theorem RoAt.ext {S : Nat → Prop} {O O' : Om} {w w' : World} {k U : Nat} {p : Spt} {o : Otm} (h : RoAt w O k U p o) (e : Ext S O w O' w') (h1 : ¬ S k) : RoAt w' O' k U p o := ⟨h.ob.ext e h1⟩
theorem RoAt.below {O : Om} {w w' : World} {k U : Nat} {p : Spt} {o : Otm} (h : RoAt w O k U p o) (hb : Below w.heap.size w w') : RoAt w' O k U p o := ⟨h.ob.below hb⟩
section
variable {R : Nat} {w : World} {O : Om} {C : Wb} {f : Cf} {s : AW} {m k : Nat} {p : Spt}
set_option maxHeartbeats 1000000 in
set_option maxRecDepth 100000 in
theorem c_rNewOut (hp : p.ok) (hk : 10 ≤ k) (hhi : ∀ j, O j ≠ 0 → j < w.heap.size) : Calls Tryz.prog 138 #[.agg #[.int .i64 p.b, .int .i64 p.q, .int .i64 p.s]] w fun e w' => ∃ U, RP (fun t => t = k) w O (.pointer (some ⟨U, 0, none⟩)) (fun W G => RoAt W G k U p ⟨0, 0⟩) e w' := by
  have hit := hp.item
  have hq2 := hp.q2
  have HI := Lib.hid (fun W => c_rItem p.b p.q p.s W (by have := hp.b0; omega) (by have := hp.b1; omega) (by have := hp.q0; omega) (by omega) (by have := hp.s0; omega) (by have := hp.s1; omega))
  obtain ⟨ia, hia⟩ : ∃ ia, ia = p.item := ⟨_, rfl⟩
  have hia2 : plItem p.b p.q p.s = ia := hia.symm
  rw [hia2] at HI
  rw [← hia] at hit
  have di : (ia != 0) = true := by simp; omega
  obtain ⟨b, hb⟩ : ∃ z, z = p.b := ⟨_, rfl⟩
  obtain ⟨q, hq⟩ : ∃ z, z = p.q := ⟨_, rfl⟩
  obtain ⟨sl, hs⟩ : ∃ z, z = p.s := ⟨_, rfl⟩
  rw [← hb, ← hq, ← hs] at HI
  rw [← hb, ← hq, ← hs]
  obtain ⟨O1, e1, -, -⟩ := alloc_ob hhi 0 #[.int .i64 b, .int .i64 q, .int .i64 sl] 45 w.heap.size rfl
  have hhi1 : ∀ (o : Obj) (j : Nat), O j ≠ 0 → j < (w.alloc o).heap.size := fun o j hj => by have := hhi j hj; simp; omega
  obtain ⟨O2, e2, x2, -⟩ := alloc_ob (hhi1 (.cells #[.int .i64 b, .int .i64 q, .int .i64 sl] 45)) k #[.int .i64 0, .bool false, .bool true, .int .i64 b, .int .i64 q, .int .i64 sl, .int .i64 0, .int .i64 0, .int .u64 0] 244 (w.heap.size + 1) (by simp)
  have E0 : Ext (fun t => t = k) O w O (w.alloc (.cells #[.int .i64 b, .int .i64 q, .int .i64 sl] 45)) := Ext.of_below hhi ((Below.refl _ _).alloc (Nat.le_refl _) _)
  have HE := Lib.hid (And.intro (E0.trans e2) x2)
  have HP := Lib.hid (And.intro hb (And.intro hq hs))
  clear hit hq2 hia hia2 hp hb hq hs e1 e2 x2 hhi1 E0 hhi
  go_enter Tryz.func138, Tryz.ntmps138
  go_wp2_with fail
  obtain ⟨W, hW⟩ : ∃ W, W = (w.alloc (.cells #[.int .i64 b, .int .i64 q, .int .i64 sl] 45)).alloc (.cells #[.int .i64 0, .bool false, .bool true, .int .i64 b, .int .i64 q, .int .i64 sl, .int .i64 0, .int .i64 0, .int .u64 0] 244) := ⟨_, rfl⟩
  rw [← hW] at HE ⊢
  clear hW
  refine (HI.out _).mono ?_
  rintro e w1 ⟨rfl, hb1⟩
  have X1 := Lib.hid (HE.out.2.below hb1)
  have E1 := Lib.hid (HE.out.1.below hb1)
  have y0 := X1.out.c 0 _ rfl
  have f0 := X1.out.f 0
  clear hb1
  go_wp2_with fail
  go_ret
  have E3 := ext_set (j := 0) (v := .int .i64 1) E1.out.hi X1.out hk
  have x3 := X1.out.set 0 (.int .i64 1) (by simp)
  rw [HP.out.1, HP.out.2.1, HP.out.2.2] at x3
  exact ⟨_, rfl, O2, E1.out.trans E3, ⟨x3⟩⟩
end
end
section
open Go.RowKit Go.Shelf
set_option linter.unusedVariables false

section
variable {R : Nat} {w : World} {O : Om} {C : Wb} {f : Cf} {s : AW} {m k : Nat} {p : Spt}
set_option maxHeartbeats 4000000 in
set_option maxRecDepth 100000 in
theorem c_rOut0 (o : Otm) (h : RW w O C f s m) (hR : RoAt w O k R p o) (hp : p.ok) (ho : o.ln = 0) (hk : 10 ≤ k) (hm : m ≤ 900000) (hhi : ∀ j, O j ≠ 0 → j < w.heap.size) (n0 : 0 ≤ s.n) (n1 : s.n ≤ 4611686018427387904) :
    Calls Tryz.prog 139 #[.pointer (some ⟨R, 0, none⟩), .pointer (some ⟨C.p, 0, none⟩)] w (RP (SD k k) w O (.tuple #[]) fun W G => RW W G C f (outStep p s o).1 (m + 1) ∧ RoAt W G k R p (outStep p s o).2) := by
  obtain ⟨oln, ow⟩ := o
  dsimp only at ho
  subst ho
  have hx := hR.ob
  have HM : Hid (Md k k w O w O C f s m k R (roCs p ⟨0, ow⟩)) := Lib.hid (Md.start hhi h hx)
  have hit := hp.item
  have htg := hp.tags
  have hq2 := hp.q2
  have hs0 := hp.s0
  have hs1 := hp.s1
  have HI := Lib.hid (fun W => c_rItem p.b p.q p.s W (by have := hp.b0; omega) (by have := hp.b1; omega) (by have := hp.q0; omega) (by omega) (by omega) (by omega))
  have HT := Lib.hid (fun W => c_rTags p.b p.q W (by have := hp.b0; omega) (by have := hp.b1; omega) (by have := hp.q0; omega) (by omega))
  have x0 := hx.c 0 _ rfl
  have x1 := hx.c 1 _ rfl
  have x2 := hx.c 2 _ rfl
  have x3 := hx.c 3 _ rfl
  have x4 := hx.c 4 _ rfl
  have x5 := hx.c 5 _ rfl
  have x8 := hx.c 8 _ rfl
  obtain ⟨ia, hia⟩ : ∃ ia, ia = p.item := ⟨_, rfl⟩
  obtain ⟨ta, hta⟩ : ∃ ta, ta = p.tags := ⟨_, rfl⟩
  have hia2 : plItem p.b p.q p.s = ia := hia.symm
  have hta2 : plTags p.b p.q = ta := hta.symm
  rw [hia2] at HI
  rw [hta2] at HT
  rw [← hia] at hit
  rw [← hta] at htg
  have hib : 0 ≤ ia ∧ ia < 18446744073709551616 := by omega
  have htb : 0 ≤ ta ∧ ta < 18446744073709551616 := by omega
  obtain ⟨b, hb⟩ : ∃ z, z = p.b := ⟨_, rfl⟩
  obtain ⟨q, hq⟩ : ∃ z, z = p.q := ⟨_, rfl⟩
  obtain ⟨sl, hs⟩ : ∃ z, z = p.s := ⟨_, rfl⟩
  rw [← hb, ← hq, ← hs] at HI
  rw [← hb, ← hq] at HT
  rw [← hb] at x3
  rw [← hq] at x4
  rw [← hs] at x5 hs0 hs1
  dsimp only at x0 x1 x8
  have HEQ := Lib.hid (And.intro hia (And.intro hta (And.intro hb (And.intro hq hs))))
  have x0 : w.cell? ⟨R, 0, none⟩ = some (.int .i64 1) := x0
  have x1 : w.cell? ⟨R, 1, none⟩ = some (.bool false) := x1
  have hrl := hx.lt

  clear h hR hp hhi hx hit htg hq2 hia hta hia2 hta2 hb hq hs
  go_enter Tryz.func139, Tryz.ntmps139
  go_wp2_with fail
  refine (HT.out _).mono ?_
  rintro e w1 ⟨rfl, hb1⟩
  have M1 := Lib.hid (HM.out.below hb1)
  have k3 := (hb1.cell (p := ⟨R, 3, none⟩) hrl).trans x3
  have k4 := (hb1.cell (p := ⟨R, 4, none⟩) hrl).trans x4
  have k5 := (hb1.cell (p := ⟨R, 5, none⟩) hrl).trans x5
  have k0 := (hb1.cell (p := ⟨R, 0, none⟩) hrl).trans x0
  have k1 := (hb1.cell (p := ⟨R, 1, none⟩) hrl).trans x1
  have k2 := (hb1.cell (p := ⟨R, 2, none⟩) hrl).trans x2
  have k8 := (hb1.cell (p := ⟨R, 8, none⟩) hrl).trans x8
  have hrl1 : R < w1.heap.size := Nat.lt_of_lt_of_le hrl hb1.size
  clear hb1 x0 x1 x2 x3 x4 x5 x8 hrl
  go_wp2_with fail
  refine (HI.out _).mono ?_
  rintro e w2 ⟨rfl, hb2⟩
  have M2 := Lib.hid (M1.out.below hb2)
  have x0 := (hb2.cell (p := ⟨R, 0, none⟩) hrl1).trans k0
  have x1 := (hb2.cell (p := ⟨R, 1, none⟩) hrl1).trans k1
  have x2 := (hb2.cell (p := ⟨R, 2, none⟩) hrl1).trans k2
  have x5 := (hb2.cell (p := ⟨R, 5, none⟩) hrl1).trans k5
  have x8 := (hb2.cell (p := ⟨R, 8, none⟩) hrl1).trans k8
  clear hb2 k0 k1 k2 k3 k4 k5 k8 hrl1
  go_wp2_with fail
  refine (c_rwLoad ta M2.out.p (by omega) htb.1 htb.2 M2.out.e.hi n0 n1).mono ?_
  rintro e w3 ⟨rfl, G3, e3, P3⟩
  have M3 := Lib.hid (M2.out.world hk e3 P3)
  have y8 := M3.out.t.c 8 _ rfl
  have f8 := M3.out.t.f 8
  have y0 := M3.out.t.c 0 _ rfl
  have f0 := M3.out.t.f 0
  have M4 := M3.out.set hk (Nat.le_refl _) (Nat.le_refl _) 8 (.int .u64 (s.M ta)) (by simp [roCs])
  have M5 := Lib.hid (M4.set hk (Nat.le_refl _) (Nat.le_refl _) 0 (.int .i64 2) (by simp [roCs]))
  have y0 : w3.cell? ⟨R, 0, none⟩ = some (.int .i64 1) := y0
  clear e3 P3 M4 x0 x1 x2 x5 x8
  go_wp2_with fail
  go_end0
  obtain ⟨e0, G, E, P, T⟩ := M5.out.rp (v := .tuple #[])
  have hs : outStep p s ⟨0, ow⟩ = (awLoad ta s, ⟨1, s.M ta⟩) := by rw [HEQ.out.2.1]; rfl
  refine ⟨rfl, G, E, ?_, ?_⟩
  · rw [hs]; exact P
  · rw [hs]; exact ⟨T⟩
set_option maxHeartbeats 4000000 in
set_option maxRecDepth 100000 in
theorem c_rOut1 (o : Otm) (h : RW w O C f s m) (hR : RoAt w O k R p o) (hp : p.ok) (ho : o.ln = 1) (w0 : 0 ≤ o.w) (w1 : o.w < 18446744073709551616) (hk : 10 ≤ k) (hm : m ≤ 900000) (hhi : ∀ j, O j ≠ 0 → j < w.heap.size) (n0 : 0 ≤ s.n) (n1 : s.n ≤ 4611686018427387904) :
    Calls Tryz.prog 139 #[.pointer (some ⟨R, 0, none⟩), .pointer (some ⟨C.p, 0, none⟩)] w (RP (SD k k) w O (.tuple #[]) fun W G => RW W G C f (outStep p s o).1 (m + 1) ∧ RoAt W G k R p (outStep p s o).2) := by
  obtain ⟨oln, ow⟩ := o
  dsimp only at ho
  subst ho
  have hx := hR.ob
  have HM : Hid (Md k k w O w O C f s m k R (roCs p ⟨1, ow⟩)) := Lib.hid (Md.start hhi h hx)
  have hit := hp.item
  have htg := hp.tags
  have hq2 := hp.q2
  have hs0 := hp.s0
  have hs1 := hp.s1
  have HI := Lib.hid (fun W => c_rItem p.b p.q p.s W (by have := hp.b0; omega) (by have := hp.b1; omega) (by have := hp.q0; omega) (by omega) (by omega) (by omega))
  have HT := Lib.hid (fun W => c_rTags p.b p.q W (by have := hp.b0; omega) (by have := hp.b1; omega) (by have := hp.q0; omega) (by omega))
  have x0 := hx.c 0 _ rfl
  have x1 := hx.c 1 _ rfl
  have x2 := hx.c 2 _ rfl
  have x3 := hx.c 3 _ rfl
  have x4 := hx.c 4 _ rfl
  have x5 := hx.c 5 _ rfl
  have x8 := hx.c 8 _ rfl
  obtain ⟨ia, hia⟩ : ∃ ia, ia = p.item := ⟨_, rfl⟩
  obtain ⟨ta, hta⟩ : ∃ ta, ta = p.tags := ⟨_, rfl⟩
  have hia2 : plItem p.b p.q p.s = ia := hia.symm
  have hta2 : plTags p.b p.q = ta := hta.symm
  rw [hia2] at HI
  rw [hta2] at HT
  rw [← hia] at hit
  rw [← hta] at htg
  have hib : 0 ≤ ia ∧ ia < 18446744073709551616 := by omega
  have htb : 0 ≤ ta ∧ ta < 18446744073709551616 := by omega
  obtain ⟨b, hb⟩ : ∃ z, z = p.b := ⟨_, rfl⟩
  obtain ⟨q, hq⟩ : ∃ z, z = p.q := ⟨_, rfl⟩
  obtain ⟨sl, hs⟩ : ∃ z, z = p.s := ⟨_, rfl⟩
  rw [← hb, ← hq, ← hs] at HI
  rw [← hb, ← hq] at HT
  rw [← hb] at x3
  rw [← hq] at x4
  rw [← hs] at x5 hs0 hs1
  dsimp only at x0 x1 x8
  have HEQ := Lib.hid (And.intro hia (And.intro hta (And.intro hb (And.intro hq hs))))
  have x0 : w.cell? ⟨R, 0, none⟩ = some (.int .i64 2) := x0
  have x1 : w.cell? ⟨R, 1, none⟩ = some (.bool false) := x1
  have hrl := hx.lt
  have hwb := twWith_bd (s := sl) (t := 0) w0 w1
  have HW := Lib.hid (fun W => c_rTwWith ow sl 0 W w0 w1 hs0 hs1 (by decide) (by decide))
  obtain ⟨z, hz⟩ : ∃ z, z = twWith ow sl 0 := ⟨_, rfl⟩
  rw [← hz] at HW hwb
  have HZ := Lib.hid hz
  clear hz
  clear h hR hp hhi hx hit htg hq2 hia hta hia2 hta2 hb hq hs
  go_enter Tryz.func139, Tryz.ntmps139
  go_wp2_with fail
  refine (HT.out _).mono ?_
  rintro e w1 ⟨rfl, hb1⟩
  have M1 := Lib.hid (HM.out.below hb1)
  have k3 := (hb1.cell (p := ⟨R, 3, none⟩) hrl).trans x3
  have k4 := (hb1.cell (p := ⟨R, 4, none⟩) hrl).trans x4
  have k5 := (hb1.cell (p := ⟨R, 5, none⟩) hrl).trans x5
  have k0 := (hb1.cell (p := ⟨R, 0, none⟩) hrl).trans x0
  have k1 := (hb1.cell (p := ⟨R, 1, none⟩) hrl).trans x1
  have k2 := (hb1.cell (p := ⟨R, 2, none⟩) hrl).trans x2
  have k8 := (hb1.cell (p := ⟨R, 8, none⟩) hrl).trans x8
  have hrl1 : R < w1.heap.size := Nat.lt_of_lt_of_le hrl hb1.size
  clear hb1 x0 x1 x2 x3 x4 x5 x8 hrl
  go_wp2_with fail
  refine (HI.out _).mono ?_
  rintro e w2 ⟨rfl, hb2⟩
  have M2 := Lib.hid (M1.out.below hb2)
  have x0 := (hb2.cell (p := ⟨R, 0, none⟩) hrl1).trans k0
  have x1 := (hb2.cell (p := ⟨R, 1, none⟩) hrl1).trans k1
  have x2 := (hb2.cell (p := ⟨R, 2, none⟩) hrl1).trans k2
  have x5 := (hb2.cell (p := ⟨R, 5, none⟩) hrl1).trans k5
  have x8 := (hb2.cell (p := ⟨R, 8, none⟩) hrl1).trans k8
  clear hb2 k0 k1 k2 k3 k4 k5 k8 hrl1
  go_wp2_with fail
  go_region_held3 (fun w' => w'.cell? ⟨R, 5, none⟩ = some (.int .i64 sl) ∧ w'.cell? ⟨R, 8, none⟩ = some (.int .u64 ow)) (go_keep)
    ((first
      | (go_at_call 178
         refine (HW.out _).mono ?_
         rintro e w' ⟨rfl, rfl⟩)
      | (go_at_call 116
         refine (c_rwStore ta z (w := w2.drew) M2.out.drew.p (by omega) htb.1 htb.2 hwb.1 hwb.2 M2.out.drew.e.hi n0 n1).mono ?_
         rintro e w3 ⟨rfl, G3, e3, P3⟩
         have M3 := Lib.hid (M2.out.drew.world hk e3 P3)
         have y5 := M3.out.t.c 5 _ rfl
         have y8 := M3.out.t.c 8 _ rfl
         rw [← HEQ.out.2.2.2.2] at y5
         clear e3 P3)))
  all_goals
    clear x0 x1 x2 x5 x8 y5 y8
    have y1 := M3.out.t.c 1 _ rfl
    have f1 := M3.out.t.f 1
    have y0 := M3.out.t.c 0 _ rfl
    have f0 := M3.out.t.f 0
    have M4 := M3.out.set hk (Nat.le_refl _) (Nat.le_refl _) 1 (.bool true) (by simp [roCs])
    have M5 := Lib.hid (M4.set hk (Nat.le_refl _) (Nat.le_refl _) 0 (.int .i64 3) (by simp [roCs]))
    have y0 : w3.cell? ⟨R, 0, none⟩ = some (.int .i64 2) := y0
    have y1 : w3.cell? ⟨R, 1, none⟩ = some (.bool false) := y1
    clear M4
    go_wp2_with fail
    go_end0
    obtain ⟨e0, G, E, P, T⟩ := M5.out.rp (v := .tuple #[])
    refine ⟨rfl, G, E, ?_, ⟨T⟩⟩
    have := P
    rw [HEQ.out.2.1, HZ.out, HEQ.out.2.2.2.2] at this
    exact this
set_option maxHeartbeats 4000000 in
set_option maxRecDepth 100000 in
theorem c_rOut2 (o : Otm) (h : RW w O C f s m) (hR : RoAt w O k R p o) (hp : p.ok) (ho : o.ln = 2) (hk : 10 ≤ k) (hm : m ≤ 900000) (hhi : ∀ j, O j ≠ 0 → j < w.heap.size) (n0 : 0 ≤ s.n) (n1 : s.n ≤ 4611686018427387904) :
    Calls Tryz.prog 139 #[.pointer (some ⟨R, 0, none⟩), .pointer (some ⟨C.p, 0, none⟩)] w (RP (SD k k) w O (.tuple #[]) fun W G => RW W G C f (outStep p s o).1 (m + 1) ∧ RoAt W G k R p (outStep p s o).2) := by
  obtain ⟨oln, ow⟩ := o
  dsimp only at ho
  subst ho
  have hx := hR.ob
  have HM : Hid (Md k k w O w O C f s m k R (roCs p ⟨2, ow⟩)) := Lib.hid (Md.start hhi h hx)
  have hit := hp.item
  have htg := hp.tags
  have hq2 := hp.q2
  have hs0 := hp.s0
  have hs1 := hp.s1
  have HI := Lib.hid (fun W => c_rItem p.b p.q p.s W (by have := hp.b0; omega) (by have := hp.b1; omega) (by have := hp.q0; omega) (by omega) (by omega) (by omega))
  have HT := Lib.hid (fun W => c_rTags p.b p.q W (by have := hp.b0; omega) (by have := hp.b1; omega) (by have := hp.q0; omega) (by omega))
  have x0 := hx.c 0 _ rfl
  have x1 := hx.c 1 _ rfl
  have x2 := hx.c 2 _ rfl
  have x3 := hx.c 3 _ rfl
  have x4 := hx.c 4 _ rfl
  have x5 := hx.c 5 _ rfl
  have x8 := hx.c 8 _ rfl
  obtain ⟨ia, hia⟩ : ∃ ia, ia = p.item := ⟨_, rfl⟩
  obtain ⟨ta, hta⟩ : ∃ ta, ta = p.tags := ⟨_, rfl⟩
  have hia2 : plItem p.b p.q p.s = ia := hia.symm
  have hta2 : plTags p.b p.q = ta := hta.symm
  rw [hia2] at HI
  rw [hta2] at HT
  rw [← hia] at hit
  rw [← hta] at htg
  have hib : 0 ≤ ia ∧ ia < 18446744073709551616 := by omega
  have htb : 0 ≤ ta ∧ ta < 18446744073709551616 := by omega
  obtain ⟨b, hb⟩ : ∃ z, z = p.b := ⟨_, rfl⟩
  obtain ⟨q, hq⟩ : ∃ z, z = p.q := ⟨_, rfl⟩
  obtain ⟨sl, hs⟩ : ∃ z, z = p.s := ⟨_, rfl⟩
  rw [← hb, ← hq, ← hs] at HI
  rw [← hb, ← hq] at HT
  rw [← hb] at x3
  rw [← hq] at x4
  rw [← hs] at x5 hs0 hs1
  dsimp only at x0 x1 x8
  have HEQ := Lib.hid (And.intro hia (And.intro hta (And.intro hb (And.intro hq hs))))
  have x0 : w.cell? ⟨R, 0, none⟩ = some (.int .i64 3) := x0
  have x1 : w.cell? ⟨R, 1, none⟩ = some (.bool true) := x1
  have hrl := hx.lt

  clear h hR hp hhi hx hit htg hq2 hia hta hia2 hta2 hb hq hs
  go_enter Tryz.func139, Tryz.ntmps139
  go_wp2_with fail
  refine (HT.out _).mono ?_
  rintro e w1 ⟨rfl, hb1⟩
  have M1 := Lib.hid (HM.out.below hb1)
  have k3 := (hb1.cell (p := ⟨R, 3, none⟩) hrl).trans x3
  have k4 := (hb1.cell (p := ⟨R, 4, none⟩) hrl).trans x4
  have k5 := (hb1.cell (p := ⟨R, 5, none⟩) hrl).trans x5
  have k0 := (hb1.cell (p := ⟨R, 0, none⟩) hrl).trans x0
  have k1 := (hb1.cell (p := ⟨R, 1, none⟩) hrl).trans x1
  have k2 := (hb1.cell (p := ⟨R, 2, none⟩) hrl).trans x2
  have k8 := (hb1.cell (p := ⟨R, 8, none⟩) hrl).trans x8
  have hrl1 : R < w1.heap.size := Nat.lt_of_lt_of_le hrl hb1.size
  clear hb1 x0 x1 x2 x3 x4 x5 x8 hrl
  go_wp2_with fail
  refine (HI.out _).mono ?_
  rintro e w2 ⟨rfl, hb2⟩
  have M2 := Lib.hid (M1.out.below hb2)
  have x0 := (hb2.cell (p := ⟨R, 0, none⟩) hrl1).trans k0
  have x1 := (hb2.cell (p := ⟨R, 1, none⟩) hrl1).trans k1
  have x2 := (hb2.cell (p := ⟨R, 2, none⟩) hrl1).trans k2
  have x5 := (hb2.cell (p := ⟨R, 5, none⟩) hrl1).trans k5
  have x8 := (hb2.cell (p := ⟨R, 8, none⟩) hrl1).trans k8
  clear hb2 k0 k1 k2 k3 k4 k5 k8 hrl1
  go_wp2_with fail
  refine (c_rwStore ia 0 M2.out.p (by omega) hib.1 hib.2 (by decide) (by decide) M2.out.e.hi n0 n1).mono ?_
  rintro e w3 ⟨rfl, G3, e3, P3⟩
  have M3 := Lib.hid (M2.out.world hk e3 P3)
  have y0 := M3.out.t.c 0 _ rfl
  have f0 := M3.out.t.f 0
  have M5 := Lib.hid (M3.out.set hk (Nat.le_refl _) (Nat.le_refl _) 0 (.int .i64 0) (by simp [roCs]))
  have y0 : w3.cell? ⟨R, 0, none⟩ = some (.int .i64 3) := y0
  clear e3 P3 x0 x1 x2 x5 x8
  go_wp2_with fail
  go_end0
  obtain ⟨e0, G, E, P, T⟩ := M5.out.rp (v := .tuple #[])
  refine ⟨rfl, G, E, ?_, ⟨T⟩⟩
  have := P
  rw [HEQ.out.1] at this
  exact this
theorem c_rOutStep (o : Otm) (h : RW w O C f s m) (hR : RoAt w O k R p o) (hp : p.ok) (ho : o.ln < 3) (w0 : 0 ≤ o.w) (w1 : o.w < 18446744073709551616) (hk : 10 ≤ k) (hm : m ≤ 900000) (hhi : ∀ j, O j ≠ 0 → j < w.heap.size) (n0 : 0 ≤ s.n) (n1 : s.n ≤ 4611686018427387904) :
    Calls Tryz.prog 139 #[.pointer (some ⟨R, 0, none⟩), .pointer (some ⟨C.p, 0, none⟩)] w (RP (SD k k) w O (.tuple #[]) fun W G => RW W G C f (outStep p s o).1 (m + 1) ∧ RoAt W G k R p (outStep p s o).2) := by
  have h3 : o.ln = 0 ∨ o.ln = 1 ∨ o.ln = 2 := by omega
  rcases h3 with e | e | e
  · exact c_rOut0 o h hR hp e hk hm hhi n0 n1
  · exact c_rOut1 o h hR hp e w0 w1 hk hm hhi n0 n1
  · exact c_rOut2 o h hR hp e hk hm hhi n0 n1
end
end
section
open Go.RowKit
set_option linter.unusedVariables false

theorem wrap64_bd (x : Int) : -9223372036854775808 ≤ wrap64 x ∧ wrap64 x ≤ 9223372036854775807 := by unfold wrap64; omega
theorem outStep_w {p : Spt} {s : AW} {o : Otm} (hb : Bd s.M) (w0 : 0 ≤ o.w) (w1 : o.w < 18446744073709551616) : 0 ≤ (outStep p s o).2.w ∧ (outStep p s o).2.w < 18446744073709551616 := by
  unfold outStep
  split
  · exact hb _
  · split
    · exact ⟨w0, w1⟩
    · split
      · exact ⟨w0, w1⟩
      · exact ⟨w0, w1⟩
theorem outStep_lnH {p : Spt} {s : AW} {o : Otm} (h : o.ln < 3) : (outStep p s o).2.ln = o.ln + 1 := by
  have h3 : o.ln = 0 ∨ o.ln = 1 ∨ o.ln = 2 := by omega
  rcases h3 with e | e | e <;> (unfold outStep; simp [e])
/-- What a step makes of counts, items and notes: at most one access and one note, of kind 1 or 8. -/
structure Aw1 (s r : AW) : Prop where
  n0 : s.n ≤ r.n
  n1 : r.n ≤ s.n + 1
  it : r.it = s.it
  nt : r.nt.length ≤ s.nt.length + 1
  nk : ∀ x ∈ r.nt, x ∈ s.nt ∨ (0 ≤ x.kind ∧ x.kind ≤ 255)
theorem Aw1.refl (s : AW) : Aw1 s s := ⟨Int.le_refl _, by omega, rfl, by omega, fun x h => .inl h⟩
theorem Aw1.note {s r : AW} (h : Aw1 s r) (hn : r.nt = s.nt) (k ref b q sl v : Int) (k0 : 0 ≤ k) (k1 : k ≤ 255) : Aw1 s (awNote k ref b q sl v r) := by
  refine ⟨h.n0, h.n1, h.it, ?_, ?_⟩
  · show (ntAdd r.nt _).length ≤ _
    unfold ntAdd
    split
    · rw [List.length_append, hn]; simp
    · rw [hn]; omega
  · intro x hx
    have hx : x ∈ ntAdd r.nt ⟨r.n, r.ho, k, ref, b, q, sl, v⟩ := hx
    unfold ntAdd at hx
    split at hx
    · rw [List.mem_append, hn] at hx
      rcases hx with hx | hx
      · exact .inl hx
      · rw [List.mem_singleton] at hx
        subst hx
        exact .inr ⟨k0, k1⟩
    · rw [hn] at hx; exact .inl hx
theorem aw1_load (a : Int) (s : AW) : Aw1 s (awLoad a s) := ⟨by show s.n ≤ s.n + 1; omega, Int.le_refl _, rfl, by show s.nt.length ≤ _; omega, fun x h => .inl h⟩
theorem aw1_store (a v : Int) (s : AW) : Aw1 s (awStore a v s) := ⟨by show s.n ≤ s.n + 1; omega, Int.le_refl _, rfl, by show s.nt.length ≤ _; omega, fun x h => .inl h⟩
theorem aw1_add (a v : Int) (s : AW) : Aw1 s (awAdd a v s) := ⟨by show s.n ≤ s.n + 1; omega, Int.le_refl _, rfl, by show s.nt.length ≤ _; omega, fun x h => .inl h⟩
theorem outStep_aw (p : Spt) (s : AW) (o : Otm) : Aw1 s (outStep p s o).1 ∧ (outStep p s o).1.nt = s.nt := by
  unfold outStep
  split
  · exact ⟨aw1_load _ _, rfl⟩
  · split
    · exact ⟨aw1_store _ _ _, rfl⟩
    · split
      · exact ⟨aw1_store _ _ _, rfl⟩
      · exact ⟨Aw1.refl _, rfl⟩
end
end Go.Proofs.YtlcibfpibklbdaaGreat
