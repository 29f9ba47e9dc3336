/- What layers 23 and 24 share. -/
import Derived.Test.YthbodknlhkapdaaGreatBaF
import Derived.Test.YthbodknlhkapdaaGreatBaC
import Derived.Test.YthbodknlhkapdaaGreatBaE
import Derived.Test.YthbodknlhkapdaaGreatBaD
import Derived.Deep.DeepCutAuto
import Derived.Deep.RegionLaw
import Derived.Outline
namespace Go.Proofs.YthbodknlhkapdaaGreat
set_option linter.unusedSimpArgs false
set_option linter.unusedVariables false
set_option maxHeartbeats 4000000
set_option maxRecDepth 100000
section
open Go.RowKit
theorem RW.up {w : World} {O : Om} {C : Wb} {f : Cf} {s : AW} {m m' : Nat} (h : RW w O C f s m) (hm : m ≤ m') : RW w O C f s m' := by
 obtain ⟨v, L, h1, h2, h3, h4, h5, h6, h7⟩ := h.ce.ex
 exact ⟨h.o, h.wo, ⟨v, L, h1, h2, h3, Nat.le_trans h4 hm, h5, h6, h7⟩, h.ar, h.no⟩
theorem Md.oth {a b k T m : Nat} {cs : List Value} {O O0 O1 : Om} {w w1 w0 : World} {B : Wb} {f : Cf} {s : AW} {S : Nat → Prop} (h : Md a b w0 O0 w O B f s m k T cs) (hk : 10 ≤ k) (e : Ext S O w O1 w1) (hS : ∀ t, S t → 10 ≤ t ∧ a ≤ t ∧ t ≤ b ∧ t ≠ k) : Md a b w0 O0 w1 O1 B f s m k T cs :=
 ⟨h.e.trans (e.mono fun t _ ht => .inr ⟨(hS t ht).2.1, (hS t ht).2.2.1⟩), h.p.ext e (fun g => by have := hS _ g; omega) (fun g => by have := hS _ g; omega) (fun g => by have := hS _ g; omega) (fun g => by have := hS _ g; omega), h.t.ext e fun g => (hS _ g).2.2.2 rfl⟩
theorem Me.oth {S : Nat → Prop} {a b k T : Nat} {cs : List Value} {O O0 O1 : Om} {w w0 w1 : World} {B : Wb} {f : Cf} {s : AW} (h : Me a b w0 O0 w O B f s k T cs) (hk : 10 ≤ k) (e : Ext S O w O1 w1) (hS : ∀ t, S t → 10 ≤ t ∧ a ≤ t ∧ t ≤ b ∧ t ≠ k) : Me a b w0 O0 w1 O1 B f s k T cs :=
 ⟨h.e.trans (e.mono fun t _ ht => .inr ⟨(hS t ht).2.1, (hS t ht).2.2.1⟩), h.p.ext e (fun g => by have := (hS 1 g).1; omega) (fun g => by have := (hS 2 g).1; omega) (fun g => by have := (hS 3 g).1; omega) (fun g => by have := (hS 4 g).1; omega), h.t.ext e fun g => (hS k g).2.2.2 rfl⟩
theorem PW.ne_obj {w : World} {O : Om} {B : Wb} {f : Cf} {s : AW} {k X : Nat} {cs : List Value} (h : PW w O B f s) (hx : Ob w O k X cs) (hk : 10 ≤ k) : B.p ≠ X := by
 intro e
 have := h.o
 rw [e, hx.o] at this
 omega
end
section
open Go.RowKit
theorem RC.start (w : World) (O : Om) (e : TypeId) (N : Nat) (hN : N = w.heap.size) (hhi : Hh O w) :
 ∃ O', Ext (fun t => t = 6) O w O' (w.alloc (.cells #[.slice none 0 0, .int .i64 0, .int .u8 0, .int .u64 0, .int .u64 0, .int .u64 0] e)) ∧ RC (w.alloc (.cells #[.slice none 0 0, .int .i64 0, .int .u8 0, .int .u64 0, .int .u64 0, .int .u64 0] e)) O' 6 N (fun _ => 0) 0 ⟨0, 0, 0, 0⟩ 0 := by
 subst hN
 exact ⟨_, Ext.alloc (S := fun t => t = 6) (g := 6) hhi rfl _, .slice none 0 0, [], by simp [Ris], (fun x h => by cases h), fun y => rfl, Nat.le_refl _, Ob.new w O 6 #[.slice none 0 0, .int .i64 0, .int .u8 0, .int .u64 0, .int .u64 0, .int .u64 0] e, World.ownsRow_nil _ _ _ _, fun k hk => by cases hk⟩
theorem RC.drew {w : World} {O : Om} {g c m : Nat} {M : Int → Int} {n : Int} {la : La} (h : RC w O g c M n la m) : RC w.drew O g c M n la m := h.below (Aaa w)
theorem Ayk (w : World) (O : Om) (b : Nat) (x v : Int) (h0 : w.cell? ⟨b, 0, none⟩ = some (.int .u64 x)) (h1 : w.cell? ⟨b, 1, none⟩ = some (.int .u64 v)) (hb : b < w.heap.size) (hO : O b = 0) (hhi : Hh O w) (x0 : 0 ≤ x) (x1 : x < 18446744073709551616) (v0 : 0 ≤ v) (v1 : v < 18446744073709551616) :
 Calls Tryz.prog 57 #[.slice (some ⟨b, 0, none⟩) 1 1] w fun e w' => ∃ c, RP (fun t => t = 6) w O (.pointer (some ⟨c, 0, none⟩)) (fun W G => RC W G 6 c (upd (fun _ => 0) x v) 0 ⟨0, 0, 0, 0⟩ 1) e w' := by
 obtain ⟨O1, e1, r1⟩ := RC.start w O 115 _ rfl hhi
 have hO1 : O1 b = 0 := (e1.lo b hb).trans hO
 have HO1 := hQd hO1
 have HR := hQd r1
 have HE := hQd e1
 have hbn : ¬ b = w.heap.size := by omega
 clear r1 e1 hhi hO1 hO
 go_enter Tryz.func57, Tryz.ntmps57
 go_wp2
 refine wp_loop_rounds 2 ?_
 rw [rounds_succ]
 go_wp2_with fail
 go_region_held3 (fun w' => w'.cell? ⟨b, 0, none⟩ = some (.int .u64 x) ∧ w'.cell? ⟨b, 1, none⟩ = some (.int .u64 v)) (go_keep)
  ((go_at_call 101; refine (Aws x v (HR.out.drew) (by decide) (by decide) x0 x1 v0 v1 HE.out.drew.hi).mono ?_; rintro e w1 ⟨rfl, O2, e2, r2⟩
    have HE2 := hQd (HE.out.drew.trans e2)
    have HR2 := hQd r2
    have k0 := (e2.wr.cell (p := ⟨b, 0, none⟩) (by simp; omega) (fun hs => hs.2 HO1.out)).trans (by go_simp : _ = some (.int .u64 x))
    have k1 := (e2.wr.cell (p := ⟨b, 1, none⟩) (by simp; omega) (fun hs => hs.2 HO1.out)).trans (by go_simp : _ = some (.int .u64 v))
    clear e2 r2))
 all_goals
  go_wp2
  rw [rounds_succ]
  go_wp2
  go_ret
  exact ⟨_, rfl, O2, HE2.out, HR2.out⟩
def cfB (f : Cf) : Bool := decide (1 ≤ f.b ∧ f.b ≤ 12 ∧ 1 ≤ f.g ∧ f.g ≤ 65536 ∧ 0 ≤ f.t ∧ f.t ≤ 16 ∧ 1 ≤ f.q ∧ f.q ≤ 8 ∧ 2 ≤ f.y ∧ f.y ≤ 256)
theorem Asp {f : Cf} (h : cfB f = true) : f.may := by
 unfold cfB at h
 have := of_decide_eq_true h
 exact ⟨this.1, this.2.1, this.2.2.1, this.2.2.2.1, this.2.2.2.2.1, this.2.2.2.2.2.1, this.2.2.2.2.2.2.1, this.2.2.2.2.2.2.2.1, this.2.2.2.2.2.2.2.2.1, this.2.2.2.2.2.2.2.2.2⟩
theorem Axu {f : Cf} (h : f.may) : cfB f = true := by
 unfold cfB
 exact decide_eq_true ⟨h.b0, h.b1, h.g0, h.g1, h.t0, h.t1, h.q0, h.q1, h.y0, h.y1⟩
theorem Apf (f : Cf) (w : World) : Calls Tryz.prog 20 #[.agg #[.int .i64 f.b, .int .i64 f.g, .int .i64 f.t, .int .i64 f.q, .int .i64 f.y]] w fun e w' => e = .returned (.bool (cfB f)) ∧ Below w.heap.size w w' := by
 obtain ⟨b, g, t, q, y⟩ := f
 dsimp only
 go_enter Tryz.func20, Tryz.ntmps20
 go_wp2
 all_goals
  go_ret
  exact ⟨Adp (by unfold cfB; rw [Bool.eq_iff_iff]; simp; try omega), bal _ _⟩
theorem Axp {b : Int} (h0 : 1 ≤ b) (h1 : b ≤ 12) : Ab1 b 0 = b := by unfold Ab1; omega
theorem Baa : Tryz.zeroCells105.size = 73 := by kernel_rfl
theorem Aj7 (j : Nat) (hj : j < 64) : Tryz.zeroCells105[8 + j]? = some (.int .u64 0) := by
 have h : (List.range 64).all (fun j => isZ (Tryz.zeroCells105[8 + j]?)) = true := by kernel_rfl
 exact Awp (List.all_eq_true.1 h j (by simpa using hj))
noncomputable def rZ (c ip np : Nat) (f : Cf) : Array Value :=
 ((((((((Tryz.zeroCells105.setIfInBounds 0 (.pointer (some ⟨c, 0, none⟩))).setIfInBounds 1 (.pointer (some ⟨ip, 0, none⟩))).setIfInBounds 2 (.pointer (some ⟨np, 0, none⟩))).setIfInBounds 3 (.int .i64 f.b)).setIfInBounds 4 (.int .i64 f.g)).setIfInBounds 5 (.int .i64 f.t)).setIfInBounds 6 (.int .i64 f.q)).setIfInBounds 7 (.int .i64 f.y)).setIfInBounds 72 (.int .i64 (-1))
theorem Bac (c ip np : Nat) (f : Cf) (w : World) (e : TypeId) (N : Nat) (hN : N = w.heap.size) : Wo (w.alloc (.cells (rZ c ip np f) e)) N c ip np f (fun _ => 0) (-1) := by
 have hz := Baa
 have hs : (rZ c ip np f).size = 73 := by unfold rZ; simp [hz]
 refine ⟨Aak _ _ _ _ hN 0 _ ?_, Aak _ _ _ _ hN 1 _ ?_, Aak _ _ _ _ hN 2 _ ?_, Aak _ _ _ _ hN 3 _ ?_, Aak _ _ _ _ hN 4 _ ?_, Aak _ _ _ _ hN 5 _ ?_, Aak _ _ _ _ hN 6 _ ?_, Aak _ _ _ _ hN 7 _ ?_, fun j hj => Aak _ _ _ _ hN _ _ ?_, Aak _ _ _ _ hN 72 _ ?_, fun j => Acy _ _ _ _ hN j, by subst hN; simp⟩
 case refine_9 =>
  unfold rZ
  repeat rw [Array.getElem?_setIfInBounds_ne (by omega)]
  exact Aj7 j hj
 all_goals (unfold rZ; simp [Array.getElem?_setIfInBounds, hz])
theorem Ax8 {w : World} {b j : Nat} {u : Value} (h : w.cell? ⟨b, j, none⟩ = some u) : b < w.heap.size := by
 by_cases hb : b < w.heap.size
 · exact hb
 exfalso
 unfold World.cell? at h
 have : w.heap[b]? = none := Array.getElem?_eq_none (by omega)
 simp [this] at h
theorem Bcc {W : World} {n : Nat} {a0 a1 a2 a3 a4 : Value} (h : W.cell? ⟨n, 0, none⟩ = some a0 ∧ W.cell? ⟨n, 1, none⟩ = some a1 ∧ W.cell? ⟨n, 2, none⟩ = some a2 ∧ W.cell? ⟨n, 3, none⟩ = some a3 ∧ W.cell? ⟨n, 4, none⟩ = some a4) (o : Obj) :
 (W.alloc o).cell? ⟨n, 0, none⟩ = some a0 ∧ (W.alloc o).cell? ⟨n, 1, none⟩ = some a1 ∧ (W.alloc o).cell? ⟨n, 2, none⟩ = some a2 ∧ (W.alloc o).cell? ⟨n, 3, none⟩ = some a3 ∧ (W.alloc o).cell? ⟨n, 4, none⟩ = some a4 := by
 have hl := Ax8 h.1
 have k : ∀ j, (W.alloc o).cell? ⟨n, j, none⟩ = W.cell? ⟨n, j, none⟩ := fun j => (bal W o).cell (p := ⟨n, j, none⟩) hl
 exact ⟨(k 0).trans h.1, (k 1).trans h.2.1, (k 2).trans h.2.2.1, (k 3).trans h.2.2.2.1, (k 4).trans h.2.2.2.2⟩
theorem NewRW.mk {w W : World} {O O1 : Om} {c ip np p : Nat} {M : Int → Int} {f : Cf} (E : Ext SR O w O1 W) (R : RC W O1 6 c M 0 ⟨0, 0, 0, 0⟩ 1) (zi : O1 ip = 0) (zn : O1 np = 0) (zp : O1 p = 0) (bi : w.heap.size ≤ ip ∧ ip < W.heap.size) (bn : w.heap.size ≤ np ∧ np < W.heap.size) (bp : w.heap.size ≤ p ∧ p < W.heap.size) (n1 : ip ≠ np) (n2 : p ≠ ip) (n3 : p ≠ np)
 (ci : W.cell? ⟨ip, 0, none⟩ = some (.slice none 0 0)) (fi : ∀ j, W.frozen? ⟨ip, j, none⟩ = false) (cn : W.cell? ⟨np, 0, none⟩ = some (.slice none 0 0)) (fn : ∀ j, W.frozen? ⟨np, j, none⟩ = false) (wo : Wo W p c ip np f (fun _ => 0) (-1)) :
 ∃ O', Ext SR O w O' W ∧ RW W O' ⟨p, c, ip, np⟩ f ⟨M, 0, ⟨0, 0, 0, 0⟩, fun _ => 0, -1, [], []⟩ 1 := by
 obtain ⟨G, hG⟩ : ∃ G : Om, ∀ j, G j = if j = p then 5 else if j = ip then 7 else if j = np then 8 else O1 j := ⟨_, fun _ => rfl⟩
 have gp : G p = 5 := by rw [hG, if_pos rfl]
 have gi : G ip = 7 := by rw [hG, if_neg (Ne.symm n2), if_pos rfl]
 have gn : G np = 8 := by rw [hG, if_neg (Ne.symm n3), if_neg (Ne.symm n1), if_pos rfl]
 have go : ∀ j, O1 j ≠ 0 → G j = O1 j := fun j hj => by rw [hG, if_neg (fun e => hj (by rw [e]; exact zp)), if_neg (fun e => hj (by rw [e]; exact zi)), if_neg (fun e => hj (by rw [e]; exact zn))]
 have gany : ∀ j, G j ≠ 0 → (j = p ∧ G j = 5) ∨ (j = ip ∧ G j = 7) ∨ (j = np ∧ G j = 8) ∨ (O1 j ≠ 0 ∧ G j = O1 j) := by
  intro j hj
  by_cases e1 : j = p
  · exact .inl ⟨e1, e1 ▸ gp⟩
  by_cases e2 : j = ip
  · exact .inr (.inl ⟨e2, e2 ▸ gi⟩)
  by_cases e3 : j = np
  · exact .inr (.inr (.inl ⟨e3, e3 ▸ gn⟩))
  have : G j = O1 j := by rw [hG, if_neg e1, if_neg e2, if_neg e3]
  exact .inr (.inr (.inr ⟨this ▸ hj, this⟩))
 have hhi : Hh G W := fun j hj => by
  rcases gany j hj with h | h | h | h
  · rw [h.1]; exact bp.2
  · rw [h.1]; exact bi.2
  · rw [h.1]; exact bn.2
  exact E.hi j h.1
 refine ⟨G, ⟨fun j hj => ?_, hhi, fun j hj hn => ?_, E.wr⟩, gp, wo, ?_, ⟨.slice none 0 0, ⟨gi, bi.2, fun j u hu => ?_, fi⟩, World.ownsRow_nil _ _ _ _, fun k hk => by cases hk⟩, ⟨.slice none 0 0, ⟨gn, bn.2, fun j u hu => ?_, fn⟩, World.ownsRow_nil _ _ _ _, fun k hk => by cases hk⟩⟩
 · rw [hG, if_neg (by omega), if_neg (by omega), if_neg (by omega)]; exact E.lo j hj
 · rcases gany j hn with h | h | h | h
   · rw [h.2]; exact ⟨by decide, by decide⟩
   · rw [h.2]; exact ⟨by decide, by decide⟩
   · rw [h.2]; exact ⟨by decide, by decide⟩
   rw [h.2]; exact E.nw j hj h.1
 · obtain ⟨v, L, h1, h2, h3, h4, h5, h6, h7⟩ := R.ex
   exact ⟨v, L, h1, h2, h3, h4, ⟨(go _ (by rw [h5.o]; decide)).trans h5.o, h5.lt, h5.c, h5.f⟩, h6, fun k hk => ⟨(go _ (by rw [(h7 k hk).1]; decide)).trans (h7 k hk).1, (h7 k hk).2⟩⟩
 · match j, hu with
   | 0, hu => cases hu; exact ci
 match j, hu with
 | 0, hu => cases hu; exact cn
theorem Ao7 {S : Nat → Prop} {O O1 : Om} {W w1 : World} {j : Nat} (h : Ext S O W O1 w1) (hO : O j = 0) (hj : j < W.heap.size ∨ w1.heap.size ≤ j) : O1 j = 0 := by
 rcases hj with hj | hj
 · rw [h.lo j hj]; exact hO
 by_cases hz : O1 j = 0
 · exact hz
 exact absurd (h.hi j hz) (by omega)
theorem NewRW.fin {w W' : World} {O O1 : Om} {c ip np P : Nat} {f : Cf} {e : TypeId} (hP : P = W'.heap.size) (E : Ext SR O w O1 W') (R : RC W' O1 6 c (upd (fun _ => 0) 2 (Ab1 f.b 0)) 0 ⟨0, 0, 0, 0⟩ 1) (zi : O1 ip = 0) (zn : O1 np = 0) (bi : w.heap.size ≤ ip ∧ ip < W'.heap.size) (bn : w.heap.size ≤ np ∧ np < W'.heap.size) (n1 : ip ≠ np)
 (ci : W'.cell? ⟨ip, 0, none⟩ = some (.slice none 0 0)) (fi : ∀ j, W'.frozen? ⟨ip, j, none⟩ = false) (cn : W'.cell? ⟨np, 0, none⟩ = some (.slice none 0 0)) (fn : ∀ j, W'.frozen? ⟨np, j, none⟩ = false) :
 ∃ B, RP SR w O (.tuple #[.pointer (some ⟨B.p, 0, none⟩), .int .i64 0]) (fun W G => RW W G B f (aw0 f.b) 1) (.returned (.tuple #[.pointer (some ⟨P, 0, none⟩), .int .i64 0])) (W'.alloc (.cells (rZ c ip np f) e)) := by
 subst hP
 have hb : Below W'.heap.size W' (W'.alloc (.cells (rZ c ip np f) e)) := bal _ _
 have hz : (W'.alloc (.cells (rZ c ip np f) e)).heap.size = W'.heap.size + 1 := World.heap_size_alloc' _ _
 have zp : O1 W'.heap.size = 0 := by
  by_cases h : O1 W'.heap.size = 0
  · exact h
  exact absurd (E.hi _ h) (by omega)
 have hs := E.size
 obtain ⟨G, g1, g2⟩ := NewRW.mk (p := W'.heap.size) (E.below hb) (R.below hb) zi zn zp ⟨bi.1, by omega⟩ ⟨bn.1, by omega⟩ ⟨by omega, by omega⟩ n1 (by omega) (by omega) ((hb.cell (p := ⟨ip, 0, none⟩) bi.2).trans ci) (fun j => (hb.frozen (p := ⟨ip, j, none⟩) bi.2).trans (fi j)) ((hb.cell (p := ⟨np, 0, none⟩) bn.2).trans cn) (fun j => (hb.frozen (p := ⟨np, j, none⟩) bn.2).trans (fn j)) (Bac c ip np f W' e _ rfl)
 exact ⟨⟨W'.heap.size, c, ip, np⟩, rfl, G, g1, g2⟩
theorem Av4 (f : Cf) (w : World) (O : Om) (h : f.may) (hhi : Hh O w) : Calls Tryz.prog 22 #[.agg #[.int .i64 f.b, .int .i64 f.g, .int .i64 f.t, .int .i64 f.q, .int .i64 f.y]] w fun e w' => ∃ B, RP SR w O (.tuple #[.pointer (some ⟨B.p, 0, none⟩), .int .i64 0]) (fun W G => RW W G B f (aw0 f.b) 1) e w' := by
 have HM := hQd (Axu h)
 have HH := hQd hhi
 obtain ⟨b, g, t, q, y⟩ := f
 obtain ⟨b0, b1, g0, g1, t0, t1, q0, q1, y0, y1⟩ := h
 dsimp only at b0 b1 g0 g1 t0 t1 q0 q1 y0 y1 ⊢
 clear hhi
 go_enter Tryz.func22, Tryz.ntmps22
 go_wp2_with fail
 refine (Aue (Apf ⟨b, g, t, q, y⟩ _)).mono ?_
 rintro e w' ⟨rfl, m, rfl⟩
 rw [HM.out]
 go_wp2_with fail
 obtain ⟨V, hV⟩ := exq (via (w.alloc (.cells #[.int .i64 b, .int .i64 g, .int .i64 t, .int .i64 q, .int .i64 y] 71)) m)
 have hB : Below w.heap.size w V := by rw [hV]; exact Acl (bal _ _) _
 have hlt : w.heap.size < V.heap.size := by rw [hV]; exact Awo _ _ _ (by simp)
 have q0' : ∀ j u, [Value.int .i64 b, .int .i64 g, .int .i64 t, .int .i64 q, .int .i64 y][j]? = some u → V.cell? ⟨w.heap.size, j, none⟩ = some u := by
  intro j u hu
  rw [hV, cell?_via _ _ _ _ (by simp)]
  exact Acd w _ _ _ rfl j u hu
 have d0 := q0' 0 _ rfl
 have d1 := q0' 1 _ rfl
 have d2 := q0' 2 _ rfl
 have d3 := q0' 3 _ rfl
 have d4 := q0' 4 _ rfl
 rw [← hV]
 have hne : ¬ w.heap.size = V.heap.size := by omega
 have HB := hQd hB
 have EV := hQd (Ext.of_below (S := SR) HH.out hB)
 have HOV : Hid (∀ j, w.heap.size ≤ j → O j = 0) := hQd (fun j hj => by
  by_cases hz : O j = 0
  · exact hz
  exact absurd (HH.out j hz) (by omega))
 have HOV0 : Hid (O w.heap.size = 0) := hQd (HOV.out _ (Nat.le_refl _))
 clear hB hV q0'
 have hwr : IntKind.u64.wrap b = b := by rw [IntKind.wrap_u64]; omega
 have hl1 : w.heap.size < V.heap.size + 1 := by omega
 have hl2 : w.heap.size < V.heap.size + 1 + 1 := by omega
 have hl3 : w.heap.size < V.heap.size + 1 + 1 + 1 := by omega
 have hn1 : ¬ w.heap.size = V.heap.size + 1 := by omega
 have hn2 : ¬ w.heap.size = V.heap.size + 1 + 1 := by omega
 have hn3 : ¬ w.heap.size = V.heap.size + 1 + 1 + 1 := by omega
 have hv1 : V.heap.size < V.heap.size + 1 + 1 := by omega
 have hv2 : ¬ V.heap.size = V.heap.size + 1 + 1 := by omega
 have hv3 : V.heap.size < V.heap.size + 1 + 1 + 1 := by omega
 have hv4 : V.heap.size + 1 < V.heap.size + 1 + 1 + 1 := by omega
 have hv5 : ¬ V.heap.size + 1 = V.heap.size + 1 + 1 + 1 := by omega
 go_region_held3 (fun w' => w'.cell? ⟨w.heap.size, 0, none⟩ = some (.int .i64 b) ∧ w'.cell? ⟨w.heap.size, 1, none⟩ = some (.int .i64 g) ∧ w'.cell? ⟨w.heap.size, 2, none⟩ = some (.int .i64 t) ∧ w'.cell? ⟨w.heap.size, 3, none⟩ = some (.int .i64 q) ∧ w'.cell? ⟨w.heap.size, 4, none⟩ = some (.int .i64 y)) (first | assumption | exact Bcc (by assumption) _ | exact ⟨e0, e1, e2, e3, e4⟩ | go_keep)
  ((go_at_call 57
    refine (Ayk _ O _ 2 b (by go_simp) (by go_simp) (by simp <;> omega) (HOV.out _ (by omega)) ((EV.out.below (by repeat (first | exact Below.refl _ _ | (refine Below.drew ?_) | (refine Abz ?_ _)))).hi) (by omega) (by omega) (by omega) (by omega)).mono ?_
    rintro e w1 ⟨c, rfl, O1, E1, R1⟩
    have e0 : w1.cell? ⟨w.heap.size, 0, none⟩ = some (.int .i64 b) := (E1.cell (p := ⟨w.heap.size, 0, none⟩) (by simp <;> omega) (by show ¬ O w.heap.size = 6; rw [HOV0.out]; decide)).trans (by go_simp)
    have e1 : w1.cell? ⟨w.heap.size, 1, none⟩ = some (.int .i64 g) := (E1.cell (p := ⟨w.heap.size, 1, none⟩) (by simp <;> omega) (by show ¬ O w.heap.size = 6; rw [HOV0.out]; decide)).trans (by go_simp)
    have e2 : w1.cell? ⟨w.heap.size, 2, none⟩ = some (.int .i64 t) := (E1.cell (p := ⟨w.heap.size, 2, none⟩) (by simp <;> omega) (by show ¬ O w.heap.size = 6; rw [HOV0.out]; decide)).trans (by go_simp)
    have e3 : w1.cell? ⟨w.heap.size, 3, none⟩ = some (.int .i64 q) := (E1.cell (p := ⟨w.heap.size, 3, none⟩) (by simp <;> omega) (by show ¬ O w.heap.size = 6; rw [HOV0.out]; decide)).trans (by go_simp)
    have e4 : w1.cell? ⟨w.heap.size, 4, none⟩ = some (.int .i64 y) := (E1.cell (p := ⟨w.heap.size, 4, none⟩) (by simp <;> omega) (by show ¬ O w.heap.size = 6; rw [HOV0.out]; decide)).trans (by go_simp)
    have HE1 := hQd ((EV.out.below (by repeat (first | exact Below.refl _ _ | (refine Below.drew ?_) | (refine Abz ?_ _)))).trans (E1.mono (T := SR) fun t _ ht => by subst ht; exact ⟨by decide, by decide⟩))
    have HX1 := hQd E1
    have HCA := hQd (fun (N : Nat) (h1 : w.heap.size ≤ N) (h2 : N < _) => aN (E1.cell (p := ⟨N, 0, none⟩) h2 (by show ¬ O N = 6; rw [HOV.out N h1]; decide)) (fun j => E1.frozen (p := ⟨N, j, none⟩) h2 (by show ¬ O N = 6; rw [HOV.out N h1]; decide)))
    have HR1 := hQd R1
    have hz1 := E1.size
    simp at hz1
    have k1 : w.heap.size < w1.heap.size := by omega
    have k2 : w.heap.size < w1.heap.size + 1 := by omega
    have k3 : w.heap.size < w1.heap.size + 1 + 1 := by omega
    have k4 : ¬ w.heap.size = w1.heap.size := by omega
    have k5 : ¬ w.heap.size = w1.heap.size + 1 := by omega
    have k6 : ¬ w.heap.size = w1.heap.size + 1 + 1 := by omega
    clear E1 R1))
 all_goals
  go_wp2
  go_ret2
  exact NewRW.fin (f := ⟨b, g, t, q, y⟩) (by simp) (HE1.out.below (by repeat (first | exact Below.refl _ _ | (refine Below.drew ?_) | (refine Abz ?_ _)))) (RC.below (by rw [Axp b0 b1]; exact HR1.out) (by repeat (first | exact Below.refl _ _ | (refine Below.drew ?_) | (refine Abz ?_ _)))) (Ao7 HX1.out (HOV.out _ (by omega)) (by first | (left; simp; omega) | (left; simp; done) | (right; omega))) (Ao7 HX1.out (HOV.out _ (by omega)) (by first | (left; simp; omega) | (left; simp; done) | (right; omega))) (by constructor <;> first | omega | (simp; omega) | (simp; done)) (by constructor <;> first | omega | (simp; omega) | (simp; done)) (by omega) (by first | (go_simp; done) | exact (Below.cell (B := w1.heap.size) (p := ⟨_, 0, none⟩) (by repeat (first | exact Below.refl _ _ | (refine Below.drew ?_) | (refine Abz ?_ _))) (by first | omega | (simp; omega) | (simp; done))).trans ((HCA.out _ (by first | omega | (simp; omega) | (simp; done)) (by first | omega | (simp; omega) | (simp; done))).1.trans (by go_simp))) (by intro j; first | (go_simp; done) | exact (Below.frozen (B := w1.heap.size) (p := ⟨_, j, none⟩) (by repeat (first | exact Below.refl _ _ | (refine Below.drew ?_) | (refine Abz ?_ _))) (by first | omega | (simp; omega) | (simp; done))).trans (((HCA.out _ (by first | omega | (simp; omega) | (simp; done)) (by first | omega | (simp; omega) | (simp; done))).2 j).trans (by go_simp))) (by first | (go_simp; done) | exact (Below.cell (B := w1.heap.size) (p := ⟨_, 0, none⟩) (by repeat (first | exact Below.refl _ _ | (refine Below.drew ?_) | (refine Abz ?_ _))) (by first | omega | (simp; omega) | (simp; done))).trans ((HCA.out _ (by first | omega | (simp; omega) | (simp; done)) (by first | omega | (simp; omega) | (simp; done))).1.trans (by go_simp))) (by intro j; first | (go_simp; done) | exact (Below.frozen (B := w1.heap.size) (p := ⟨_, j, none⟩) (by repeat (first | exact Below.refl _ _ | (refine Below.drew ?_) | (refine Abz ?_ _))) (by first | omega | (simp; omega) | (simp; done))).trans (((HCA.out _ (by first | omega | (simp; omega) | (simp; done)) (by first | omega | (simp; omega) | (simp; done))).2 j).trans (by go_simp)))
end
section
open Go.RowKit
theorem Acr {B : Nat} {a w : World} (h : Below B a w) {b : Nat} (hb : B ≤ b) (v0 v1 v2 v3 v4 v5 : Value) : Below B a (Am1 w b 0 v0 v1 v2 v3 v4 v5) := by
 unfold Am1
 exact (((((h.setCell (p := ⟨b, 0, none⟩) hb v0).setCell (p := ⟨b, 0 + 1, none⟩) hb v1).setCell (p := ⟨b, 0 + 2, none⟩) hb v2).setCell (p := ⟨b, 0 + 3, none⟩) hb v3).setCell (p := ⟨b, 0 + 4, none⟩) hb v4).setCell (p := ⟨b, 0 + 5, none⟩) hb v5
theorem Aps (r : Int) {w : World} {O : Om} {t ip : Nat} {l : List It} (h : Ar w O t ip l) (hl : l.length ≤ 1000000) (hr : ¬ (1 ≤ r ∧ r ≤ l.length)) :
 Calls Tryz.prog 52 #[.pointer (some ⟨ip, 0, none⟩), .int .i64 r] w fun e w' => e = .returned (.tuple #[.agg #[.string ⟨#[]⟩, .string ⟨#[]⟩, .int .u32 0, .int .u64 0, .int .i64 0, .int .i64 0], .bool false]) ∧ Below w.heap.size w w' := by
 obtain ⟨v, bl, hC, h1, h2⟩ := h.core
 have q1 := (bal w (.cells #[.string ⟨#[]⟩, .string ⟨#[]⟩, .int .u32 0, .int .u64 0, .int .i64 0, .int .i64 0] 58)).cell (p := ⟨ip, 1, none⟩) hC.lt
 rw [hC.c1] at q1
 have hCt : ∀ W : World, W.cell? ⟨ip, 1, none⟩ = some (.int .i64 l.length) → C1 48 ip W fun e w' => e = .returned (.int .i64 l.length) ∧ W = w' := by
  intro W hW
  go_enter Tryz.func48, Tryz.ntmps48
  go_wp2
  go_ret
  exact ⟨rfl, rfl⟩
 have HCt := hQd (hCt _ q1)
 clear hCt h hC h1 h2
 by_cases hr1 : r < 1
 · have e1 : decide (r < 1) = true := by simp [hr1]
   clear hr HCt
   go_enter Tryz.func52, Tryz.ntmps52
   go_wp2
   exact bodyPost_ret (v := .tuple #[.agg #[.string ⟨#[]⟩, .string ⟨#[]⟩, .int .u32 0, .int .u64 0, .int .i64 0, .int .i64 0], .bool false]) (by simp [results, Tryz.results52, go_sem]) rfl ⟨rfl, by first | exact bal _ _ | exact Acr (bal _ _) (Nat.le_refl _) _ _ _ _ _ _⟩
 have e1 : decide (r < 1) = false := by simp; omega
 have e2 : decide ((l.length : Int) < r) = true := by simp; omega
 clear hr
 go_enter Tryz.func52, Tryz.ntmps52
 go_wp2_with fail
 refine (HCt.out).mono ?_
 rintro e w' ⟨rfl, rfl⟩
 go_wp2
 exact bodyPost_ret (v := .tuple #[.agg #[.string ⟨#[]⟩, .string ⟨#[]⟩, .int .u32 0, .int .u64 0, .int .i64 0, .int .i64 0], .bool false]) (by simp [results, Tryz.results52, go_sem]) rfl ⟨rfl, by first | exact bal _ _ | exact Acr (bal _ _) (Nat.le_refl _) _ _ _ _ _ _⟩
theorem Ams (r : Int) (k : Nat) (x : It) {w : World} {O : Om} {t ip : Nat} {l : List It} (h : Ar w O t ip l) (hl : l.length ≤ 1000000) (hk : l[k]? = some x) (hr : r = k + 1) :
 Calls Tryz.prog 52 #[.pointer (some ⟨ip, 0, none⟩), .int .i64 r] w fun e w' => e = .returned (.tuple #[.agg #[.string x.key, .string x.val, .int .u32 x.fl, .int .u64 x.id, .int .i64 x.dies, .int .i64 x.gen], .bool true]) ∧ Below w.heap.size w w' := by
 obtain ⟨v, bl, hC0, h1, h2⟩ := h.core
 have hkl := (List.getElem?_eq_some_iff.1 hk).1
 have hb0 : Below w.heap.size w (w.alloc (.cells #[.string ⟨#[]⟩, .string ⟨#[]⟩, .int .u32 0, .int .u64 0, .int .i64 0, .int .i64 0] 58)) := bal _ _
 have hC := hC0.below hb0
 have q1 := hC.c1
 have hCt : ∀ W : World, W.cell? ⟨ip, 1, none⟩ = some (.int .i64 l.length) → C1 48 ip W fun e w' => e = .returned (.int .i64 l.length) ∧ W = w' := by
  intro W hW
  go_enter Tryz.func48, Tryz.ntmps48
  go_wp2
  go_ret
  exact ⟨rfl, rfl⟩
 have HCt := hQd (hCt _ q1)
 have e1 : decide (r < 1) = false := by simp; omega
 have e2 : decide ((l.length : Int) < r) = false := by simp; omega
 have hbk : k / 64 < bl.length := by omega
 have HPL := hQd (Anw ip k v bl _ hC.c0 (Arr.of_own hC.row) (by omega) (by omega))
 obtain ⟨b, hb⟩ := exq (bl[k / 64])
 rw [← hb] at HPL
 have hbm : bl[k / 64]? = some b := by rw [hb, List.getElem?_eq_getElem hbk]
 have hx := hC.it k x b hk hbm
 have hm6 : 6 * (k % 64) = k % 64 * 6 := Nat.mul_comm _ _
 rw [hm6] at hx
 have x0 := hx 0 _ rfl
 have x1 := hx 1 _ rfl
 have x2 := hx 2 _ rfl
 have x3 := hx 3 _ rfl
 have x4 := hx 4 _ rfl
 have x5 := hx 5 _ rfl
 have hrk : r - 1 = (k : Int) := by omega
 have hr9 : 1 ≤ r ∧ r ≤ 1000001 := by omega
 obtain ⟨kk, hkk⟩ := exq (k % 64 * 6)
 rw [← hkk] at HPL x0 x1 x2 x3 x4 x5
 rw [Nat.add_zero] at x0
 clear hCt h hC hC0 h1 h2 hx hm6 hb hbm hbk hkk hb0
 subst hr
 clear hrk
 go_enter Tryz.func52, Tryz.ntmps52
 go_wp2_with fail
 refine (HCt.out).mono ?_
 rintro e w' ⟨rfl, rfl⟩
 go_wp2_with fail
 refine (HPL.out).mono ?_
 rintro e w' ⟨rfl, rfl⟩
 go_wp2
 exact bodyPost_ret (v := .tuple #[.agg #[.string x.key, .string x.val, .int .u32 x.fl, .int .u64 x.id, .int .i64 x.dies, .int .i64 x.gen], .bool true]) (by simp [results, Tryz.results52, go_sem]) rfl ⟨rfl, by first | exact bal _ _ | exact Acr (bal _ _) (Nat.le_refl _) _ _ _ _ _ _⟩
theorem LH.snoc {α : Type} {W w1 : World} {O : Om} {t h g cap size : Nat} {E : TypeId} {f : α → List Value} {l : List α} {x : α} {v : Value} {o : Obj} (ht : t ≠ 0) (hhi : Hh O W) (hO : Ob W O t h [v]) (hr : W.ownsRow 0 E size v l.length (Aa2 f l)) (hv : ∀ k, v.ownBlock = some k → O k = t ∧ k ≠ h)
 (own : w1.ownsRow 0 E size (.slice (some ⟨g, 0, none⟩) (l.length + 1) cap) (l.length + 1) (Aa2 f l ++ f x)) (hg : (W.alloc o).drew.grownBy w1 v.ownBlock) (hat : v.ownBlock = some g ∨ g = W.heap.size + 1) (hgl : g < w1.heap.size) :
 ∃ O', Ext (fun j => j = t) O W O' (w1.setCell ⟨h, 0, none⟩ (.slice (some ⟨g, 0, none⟩) (l.length + 1) cap)) ∧ LH (w1.setCell ⟨h, 0, none⟩ (.slice (some ⟨g, 0, none⟩) (l.length + 1) cap)) O' t E size f h (l ++ [x]) := by
 have hw : Aag (fun k => v.ownBlock = some k) W w1 := (((Aag.refl _ _).alloc o).drew).grown hg fun k hk _ => hk
 have hvo : ∀ k, v.ownBlock = some k → k < W.heap.size := fun k hk => (hr.lt k hk).2
 have hvh : v.ownBlock ≠ some h := fun e => (hv h e).2 rfl
 have hlt := hO.lt
 have hgh : g ≠ h := by
  rcases hat with e | e
  · exact (hv g e).2
  omega
 have hs := hw.size
 obtain ⟨G, hG⟩ : ∃ G : Om, ∀ j, G j = if j = g then t else O j := ⟨_, fun _ => rfl⟩
 have gold : ∀ j, j < W.heap.size → G j = O j := fun j hj => by
  rw [hG]
  by_cases e : j = g
  · rw [if_pos e]
    rcases hat with e2 | e2
    · subst e; exact ((hv j e2).1).symm
    omega
  rw [if_neg e]
 obtain ⟨W3, hW3⟩ := exq (w1.setCell ⟨h, 0, none⟩ (.slice (some ⟨g, 0, none⟩) (l.length + 1) cap))
 have z3 : W3.heap.size = w1.heap.size := by rw [hW3]; simp
 have h3 : Aag (fun k => k = h) w1 W3 := by rw [hW3]; exact Aag.setCell (S := fun k => k = h) (Aag.refl _ _) (p := ⟨h, 0, none⟩) (fun _ => rfl) _
 rw [← hW3]
 refine ⟨G, ⟨gold, fun j hj => ?_, fun j hj hn => ?_, ?_⟩, .slice (some ⟨g, 0, none⟩) (l.length + 1) cap, ⟨(gold h hlt).trans hO.o, by omega, fun j u hu => ?_, fun j => ?_⟩, ?_, fun k hk => ?_⟩
 · rw [hG] at hj
   by_cases e : j = g
   · omega
   rw [if_neg e] at hj; have := hhi j hj; omega
 · rw [hG] at hn ⊢
   by_cases e : j = g
   · rw [if_pos e]
   rw [if_neg e] at hn; have := hhi j hn; omega
 · refine (hw.mono (T := fun k => O k = t ∧ O k ≠ 0) fun k _ hk => ⟨(hv k hk).1, by rw [(hv k hk).1]; exact ht⟩).trans h3 fun n _ e => ?_
   subst e; exact ⟨hO.o, by rw [hO.o]; exact ht⟩
 · match j, hu with
   | 0, hu =>
     cases hu
     rw [hW3]
     exact World.cell?_setCell_same _ _ _ ((hw.cell (p := ⟨h, 0, none⟩) hlt hvh).trans (hO.c 0 _ rfl))
 · rw [hW3, World.frozen?_setCell]
   exact (hw.frozen (p := ⟨h, j, none⟩) hlt hvh).trans (hO.f j)
 · rw [Abw, List.length_append]
   exact h3.own own fun k hk e => by cases hk; exact hgh e
 cases hk
 exact ⟨by rw [hG, if_pos rfl], hgh⟩
theorem Bas : (Tryz.prog.info? 58).map (fun i => (i.zero, i.size, i.bytes)) = some (some (.agg #[.string ⟨#[]⟩, .string ⟨#[]⟩, .int .u32 0, .int .u64 0, .int .i64 0, .int .i64 0]), 6, 64) := by kernel_rfl
theorem Aym (x : It) {w : World} {O : Om} {t h : Nat} {l : List It} (H : LH w O t 58 6 itc h l) (ht : t ≠ 0) (hl : l.length ≤ 1000000) (hhi : Hh O w) :
 Calls Tryz.prog 63 #[.pointer (some ⟨h, 0, none⟩), .agg #[.string x.key, .string x.val, .int .u32 x.fl, .int .u64 x.id, .int .i64 x.dies, .int .i64 x.gen]] w (RP (fun j => j = t) w O (.tuple #[.int .i64 ((l.length : Int) + 1), .int .i64 0]) fun W G => LH W G t 58 6 itc h (l ++ [x])) := by
 obtain ⟨v, h1, h2, h3⟩ := H.ex
 obtain ⟨i0, hi, hz0, hz1, hz2⟩ := info_parts Bas
 obtain ⟨ao, cp, rfl, hcp, hm⟩ := (Arr.of_own h2).shape
 have hB : Below w.heap.size w (w.alloc (.cells #[.string x.key, .string x.val, .int .u32 x.fl, .int .u64 x.id, .int .i64 x.dies, .int .i64 x.gen] 58)) := bal _ _
 obtain ⟨W, hW⟩ := exq (w.alloc (.cells #[.string x.key, .string x.val, .int .u32 x.fl, .int .u64 x.id, .int .i64 x.dies, .int .i64 x.gen] 58))
 have hs : W.heap.size = w.heap.size + 1 := by rw [hW]; simp
 have hx : ∀ j u, (itc x)[j]? = some u → W.cell? ⟨w.heap.size, j, none⟩ = some u := fun j u hu => by rw [hW]; exact Aak w #[.string x.key, .string x.val, .int .u32 x.fl, .int .u64 x.id, .int .i64 x.dies, .int .i64 x.gen] _ _ rfl j u (by simpa [itc] using hu)
 rw [← hW] at hB
 have k1 := h1.below hB
 have k2 := Abi h2 hB
 have q0 := k1.c 0 _ rfl
 have qf := k1.f 0
 have hhl := k1.lt
 have hl9 : l.length ≤ 9223372036854775807 := by omega
 have hfull : decide ((1048576 : Int) ≤ (l.length : Int)) = false := by simp; omega
 have x0 := hx 0 _ rfl
 have x1 := hx 1 _ rfl
 have x2 := hx 2 _ rfl
 have x3 := hx 3 _ rfl
 have x4 := hx 4 _ rfl
 have x5 := hx 5 _ rfl
 have EW := hQd (Ext.of_below (S := fun j => j = t) hhi hB)
 have K1 := hQd k1
 have K2 := hQd k2
 have H3 := hQd h3
 have HW := hQd hW
 have hwl : w.heap.size < W.heap.size := by omega
 have hne : ¬ h = W.heap.size := by omega
 have HF := hQd hl
 clear H h1 h2 h3 k1 k2 hB hhi hx hs hl
 go_enter Tryz.func63, Tryz.ntmps63
 go_upto_region 1 with (fail)
 rw [← hW]
 clear hW
 go_wp2_with fail
 go_region_law
  ((refine step_append_lies _ (by rfl) _ _ _ (by rfl) 0 58 i0 _ 6 64 Tryz.underlying24 hi hz0 hz1 hz2 rfl (by omega) (.slice ao l.length cp) l.length (Aa2 itc l) (by rfl) ((K2.out.alloc _).drew) ⟨W.heap.size, 0, none⟩ 1 1 (itc x) (by rfl) (by rfl) (World.news_of_block (cs := (itc x).toArray) (t := 58) (fr := (0, 0)) (heap_alloc_new W _)) (by simp [Value.oneCell', itc]) (by omega) (by have := HF.out; unfold maxLen; omega) (by have := HF.out; omega) (by simp) (W.heap.size + 1) (by simp) ?_
    intro gg cap w1 hown1 hgrow hat hlt1
    have hvh : (Value.slice ao l.length cp).ownBlock ≠ some h := fun e => (H3.out h e).2 rfl
    have hh1 : w1.cell? ⟨h, 0, none⟩ = some (.slice ao l.length cp) := (hgrow.cell_far _ (by simp; omega) (Ne.symm hvh)).trans (((bal W _).cell (p := ⟨h, 0, none⟩) hhl).trans q0)
    have hh2 : w1.frozen? ⟨h, 0, none⟩ = false := (hgrow.frozen_far _ (by simp; omega) (Ne.symm hvh)).trans (((bal W _).frozen (p := ⟨h, 0, none⟩) hhl).trans qf)))
 all_goals
  go_wp2
  go_ret2
  obtain ⟨G, g1, g2⟩ := LH.snoc ht EW.out.hi K1.out K2.out H3.out hown1 hgrow hat hlt1
  first
   | exact ⟨rfl, G, EW.out.trans g1, g2⟩
   | exact ⟨rfl, G, (EW.out.trans g1).drew, g2.ext (S := fun _ => False) (Ext.of_below g1.hi (Aaa _)) id⟩
theorem Amf {w : World} {O : Om} {t h : Nat} {l : List It} (H : LH w O t 58 6 itc h l) :
 C1 49 h w fun e w' => e = .returned (.int .i64 l.length) ∧ w = w' := by
 obtain ⟨v, h1, h2, h3⟩ := H.ex
 obtain ⟨ao, cp, rfl, hcp, hm⟩ := (Arr.of_own h2).shape
 have q0 := h1.c 0 _ rfl
 clear H h1 h2 h3
 go_enter Tryz.func49, Tryz.ntmps49
 go_wp2
 go_ret
 exact ⟨rfl, rfl⟩
theorem Ae7 {w : World} {b o : Nat} {L : List It} (h : ∀ j u, (Aa2 itc L)[j]? = some u → w.cell? ⟨b, o + j, none⟩ = some u) (i : Nat) (x : It) (hi : L[i]? = some x) (j : Nat) (u : Value) (hu : (itc x)[j]? = some u) : w.cell? ⟨b, o + (i * 6 + j), none⟩ = some u := by
 have hil := (List.getElem?_eq_some_iff.1 hi).1
 have hx := (List.getElem?_eq_some_iff.1 hi).2
 have hj : j < 6 := by have := (List.getElem?_eq_some_iff.1 hu).1; rwa [Agk] at this
 exact h _ _ ((Abk Agk L i j hil hj).trans (by rw [hx]; exact hu))
theorem Agr (r : Int) (k : Nat) (x : It) {w : World} {O : Om} {t h : Nat} {l : List It} (H : LH w O t 58 6 itc h l) (hl : l.length ≤ 1000000) (hk : l[k]? = some x) (hr : r = k + 1) :
 Calls Tryz.prog 53 #[.pointer (some ⟨h, 0, none⟩), .int .i64 r] w fun e w' => e = .returned (.tuple #[.agg #[.string x.key, .string x.val, .int .u32 x.fl, .int .u64 x.id, .int .i64 x.dies, .int .i64 x.gen], .bool true]) ∧ Below w.heap.size w w' := by
 obtain ⟨v, h1, h2, h3⟩ := H.ex
 have hkl := (List.getElem?_eq_some_iff.1 hk).1
 have hb0 : Below w.heap.size w (w.alloc (.cells #[.string ⟨#[]⟩, .string ⟨#[]⟩, .int .u32 0, .int .u64 0, .int .i64 0, .int .i64 0] 58)) := bal _ _
 obtain ⟨b, o, cp, rfl, hcp, hcm, hlt, hx⟩ := (Arr.below (Arr.of_own h2) hb0).open (by omega) (by omega)
 have q0 := (h1.below hb0).c 0 _ rfl
 have x0 := Ae7 hx k x hk 0 _ rfl
 have x1 := Ae7 hx k x hk 1 _ rfl
 have x2 := Ae7 hx k x hk 2 _ rfl
 have x3 := Ae7 hx k x hk 3 _ rfl
 have x4 := Ae7 hx k x hk 4 _ rfl
 have x5 := Ae7 hx k x hk 5 _ rfl
 simp only [← Nat.add_assoc, Nat.add_zero] at x0 x1 x2 x3 x4 x5
 have e1 : decide (r < 1) = false := by simp; omega
 have e2 : decide ((l.length : Int) < r) = false := by simp; omega
 have hr9 : 1 ≤ r ∧ r ≤ 1000001 := by omega
 clear H h1 h2 h3 hx hb0
 subst hr
 go_enter Tryz.func53, Tryz.ntmps53
 go_wp2
 exact bodyPost_ret (v := .tuple #[.agg #[.string x.key, .string x.val, .int .u32 x.fl, .int .u64 x.id, .int .i64 x.dies, .int .i64 x.gen], .bool true]) (by simp [results, Tryz.results53, go_sem]) rfl ⟨rfl, by first | exact bal _ _ | exact Acr (bal _ _) (Nat.le_refl _) _ _ _ _ _ _⟩
theorem Amg (r : Int) {w : World} {O : Om} {t h : Nat} {l : List It} (H : LH w O t 58 6 itc h l) (hl : l.length ≤ 1000000) (hr : ¬ (1 ≤ r ∧ r ≤ l.length)) :
 Calls Tryz.prog 53 #[.pointer (some ⟨h, 0, none⟩), .int .i64 r] w fun e w' => e = .returned (.tuple #[.agg #[.string ⟨#[]⟩, .string ⟨#[]⟩, .int .u32 0, .int .u64 0, .int .i64 0, .int .i64 0], .bool false]) ∧ Below w.heap.size w w' := by
 obtain ⟨v, h1, h2, h3⟩ := H.ex
 have hb0 : Below w.heap.size w (w.alloc (.cells #[.string ⟨#[]⟩, .string ⟨#[]⟩, .int .u32 0, .int .u64 0, .int .i64 0, .int .i64 0] 58)) := bal _ _
 obtain ⟨ao, cp, rfl, hcp, hm⟩ := (Arr.of_own h2).shape
 have q0 := (h1.below hb0).c 0 _ rfl
 clear H h1 h2 h3 hb0
 by_cases hr1 : r < 1
 · have e1 : decide (r < 1) = true := by simp [hr1]
   clear hr
   go_enter Tryz.func53, Tryz.ntmps53
   go_wp2
   exact bodyPost_ret (v := .tuple #[.agg #[.string ⟨#[]⟩, .string ⟨#[]⟩, .int .u32 0, .int .u64 0, .int .i64 0, .int .i64 0], .bool false]) (by simp [results, Tryz.results53, go_sem]) rfl ⟨rfl, by first | exact bal _ _ | exact Acr (bal _ _) (Nat.le_refl _) _ _ _ _ _ _⟩
 have e1 : decide (r < 1) = false := by simp; omega
 have e2 : decide ((l.length : Int) < r) = true := by simp; omega
 clear hr
 go_enter Tryz.func53, Tryz.ntmps53
 go_wp2
 exact bodyPost_ret (v := .tuple #[.agg #[.string ⟨#[]⟩, .string ⟨#[]⟩, .int .u32 0, .int .u64 0, .int .i64 0, .int .i64 0], .bool false]) (by simp [results, Tryz.results53, go_sem]) rfl ⟨rfl, by first | exact bal _ _ | exact Acr (bal _ _) (Nat.le_refl _) _ _ _ _ _ _⟩
end
section
open Go.RowKit
theorem Baq : (Tryz.prog.info? 123).map (fun i => (i.zero, i.size, i.bytes)) = some (some (.agg #[.int .i64 0, .int .i64 0, .int .i64 0, .int .i64 0, .int .i64 0, .int .i64 0, .int .i64 0, .int .i64 0]), 8, 64) := by kernel_rfl
def Anh (n : Nt) : Obj := .cells #[.int .i64 n.step, .int .i64 n.thread, .int .i64 n.kind, .int .i64 n.ref, .int .i64 n.bits, .int .i64 n.bucket, .int .i64 n.slot, .int .i64 n.value] 123
theorem Ayl (n : Nt) {w : World} {O : Om} {t h : Nat} {l : List Nt} (H : LH w O t 123 8 ntr h l) (ht : t ≠ 0) (hhi : Hh O w) (k0 : 0 ≤ n.kind) (k1 : n.kind ≤ 255) :
 Calls Tryz.prog 113 #[.pointer (some ⟨h, 0, none⟩), .agg #[.int .i64 n.step, .int .i64 n.thread, .int .i64 n.kind, .int .i64 n.ref, .int .i64 n.bits, .int .i64 n.bucket, .int .i64 n.slot, .int .i64 n.value]] w (RP (fun j => j = t) w O (.int .i64 (Afe l n)) fun W G => LH W G t 123 8 ntr h (Af0 l n)) := by
 obtain ⟨v, h1, h2, h3⟩ := H.ex
 have hno : ∀ w', Below w.heap.size w w' → Afe l n ≠ 0 → ∃ G, Ext (fun j => j = t) O w G w' ∧ LH w' G t 123 8 ntr h (Af0 l n) := fun w' hb he => ⟨O, Ext.of_below hhi hb, by rw [Akf he]; exact H.ext (S := fun _ => False) (Ext.of_below hhi hb) id⟩
 have HN := hQd hno
 have H1 := hQd h1
 have H3 := hQd h3
 have HH := hQd hhi
 have hlt := h1.lt
 have hc := h1.c 0 _ rfl
 have hfz := h1.f 0
 have hap : v.ownBlock ≠ some h := fun e => (h3 h e).2 rfl
 have hown := h2
 obtain ⟨ao, cp, rfl, hcp, hm⟩ := (Arr.of_own h2).shape
 have hm' : l.length ≤ 9223372036854775807 := by unfold maxLen at hm; omega
 have hne : ¬ h = w.heap.size := by omega
 have hcA := ((bal w (Anh n)).cell (p := ⟨h, 0, none⟩) hlt).trans hc
 unfold Anh at hcA
 clear H h1 h2 h3 hno hhi
 by_cases hk1 : n.kind < 1
 · have HE := hQd (show Afe l n = 1 from Ady (by unfold Aek; simp; omega))
   clear hown
   go_enter Tryz.func113, Tryz.ntmps113
   go_wp2
   go_ret
   exact ⟨Aa6 HE.out.symm, HN.out _ (bal _ _) (by rw [HE.out]; omega)⟩
 by_cases hk9 : 9 < n.kind
 · have HE := hQd (show Afe l n = 1 from Ady (by unfold Aek; simp; omega))
   clear hown
   go_enter Tryz.func113, Tryz.ntmps113
   go_wp2
   go_ret
   exact ⟨Aa6 HE.out.symm, HN.out _ (bal _ _) (by rw [HE.out]; omega)⟩
 have hBL : Aek l n = Ake l n := by unfold Aek; rw [decide_eq_false (by omega)]; rfl
 have HBL := hQd hBL
 clear hBL
 go_enter Tryz.func113, Tryz.ntmps113
 go_upto_region 3 with fail
 go_cut [36] (fun s wx => s = .bool (Ake l n) ∧ ∃ nq, wx = (w.alloc (Anh n)).drewN nq)
 case first =>
  by_cases hz : l.length = 0
  · have ez : decide (0 < l.length) = false := by simp [hz]
    have hB : Ake l n = false := by rw [List.eq_nil_of_length_eq_zero hz]; rfl
    have HB2 := hQd hB
    clear hB hz
    go_quiet (fail)
    go_wp2
    go_meet
    exact ⟨by rw [HB2.out], _, rfl⟩
  have ez : decide (0 < l.length) = true := by simp; omega
  have hB := Alw n (show 0 < l.length by omega)
  obtain ⟨b, o, c', he, -, -, hb, hx⟩ := (Arr.of_own hown).open (show 0 < l.length by omega) (by omega)
  cases he
  have hi0 : (0 : Int) ≤ (l.length : Int) - 1 := by omega
  have hi1 : (l.length : Int) - 1 < (l.length : Int) := by omega
  obtain ⟨m, hmm⟩ := exq (l[l.length - 1])
  have g0 := Ahk Ar4 hx (l.length - 1) (by omega) 0 (by omega) (u := .int .i64 m.step) (by rw [hmm]; rfl)
  rw [Nat.add_zero] at g0
  have hbn : ¬ b = w.heap.size := by omega
  rw [← hmm] at hB
  have HB2 := hQd hB
  clear hx hB hmm hz hown
  go_quiet (fail)
  go_wp2
  go_meet
  exact ⟨by rw [HB2.out], _, rfl⟩
 obtain ⟨rfl, nq, rfl⟩ := hcut
 cases hB : Ake l n
 · have HB : Hid (Aek l n = false) := by have := HBL.out; rw [hB] at this; exact this
   by_cases hfull : 1048576 ≤ l.length
   · have hd : decide ((1048576 : Int) ≤ (l.length : Int)) = true := by simp only [decide_eq_true_eq]; omega
     have HF := hQd hfull
     have hcB : ((w.alloc (Anh n)).drewN nq).cell? ⟨h, 0, none⟩ = some (.slice ao l.length cp) := hcA
     clear hown hfull
     go_wp2
     have hfull := HF.out
     go_ret
     exact ⟨Aa6 (Ae5 HB.out hfull).symm, HN.out _ (Abn (bal _ _) _) (by rw [Ae5 HB.out hfull]; omega)⟩
   obtain ⟨i0, hi, hz0, hz1, hz2⟩ := info_parts Baq
   have HE := hQd (Aos HB.out hfull)
   obtain ⟨W, hW⟩ := exq ((w.alloc (Anh n)).drewN nq)
   have hlW : h < W.heap.size := by rw [hW]; simp; omega
   have hbel : Below w.heap.size w W := by rw [hW]; exact Abn (bal _ _) _
   have EW := hQd (Ext.of_below (S := fun j => j = t) HH.out hbel)
   have K1 := hQd (H1.out.below hbel)
   have hcW : W.cell? ⟨h, 0, none⟩ = some (.slice ao l.length cp) := (hbel.cell (p := ⟨h, 0, none⟩) hlt).trans hc
   have hfW : W.frozen? ⟨h, 0, none⟩ = false := (hbel.frozen (p := ⟨h, 0, none⟩) hlt).trans hfz
   have hownW : W.ownsRow 0 123 8 (.slice ao l.length cp) l.length (Aa2 ntr l) := by rw [hW]; exact Abi hown (Abn (bal _ _) _)
   obtain ⟨B, hBB⟩ := exq w.heap.size
   rw [← hBB]
   have hcell : ∀ j u, (ntr n)[j]? = some u → W.cell? ⟨B, j, none⟩ = some u := by
    intro j u hu
    rw [hW, hBB]
    have : (w.alloc (Anh n)).cell? ⟨w.heap.size, j, none⟩ = some u := by
     unfold World.cell? Anh
     rw [heap_alloc_new]
     simpa [ntr] using hu
    exact this
   have b0 : W.cell? ⟨B, 0, none⟩ = some (.int .i64 n.step) := hcell 0 _ rfl
   have b1 : W.cell? ⟨B, 1, none⟩ = some (.int .i64 n.thread) := hcell 1 _ rfl
   have b2 : W.cell? ⟨B, 2, none⟩ = some (.int .i64 n.kind) := hcell 2 _ rfl
   have b3 : W.cell? ⟨B, 3, none⟩ = some (.int .i64 n.ref) := hcell 3 _ rfl
   have b4 : W.cell? ⟨B, 4, none⟩ = some (.int .i64 n.bits) := hcell 4 _ rfl
   have b5 : W.cell? ⟨B, 5, none⟩ = some (.int .i64 n.bucket) := hcell 5 _ rfl
   have b6 : W.cell? ⟨B, 6, none⟩ = some (.int .i64 n.slot) := hcell 6 _ rfl
   have b7 : W.cell? ⟨B, 7, none⟩ = some (.int .i64 n.value) := hcell 7 _ rfl
   have hBW : B < W.heap.size := by rw [hBB, hW]; simp
   have hBo : (Value.slice ao l.length cp).ownBlock ≠ some B := fun he => by have := (hown.lt _ he).2; omega
   have hd : decide ((1048576 : Int) ≤ (l.length : Int)) = false := by simp only [decide_eq_false_iff_not]; omega
   have HF := hQd hfull
   have hfA : ∀ o, (W.alloc o).frozen? ⟨h, 0, none⟩ = false := fun o => ((bal W o).frozen (p := ⟨h, 0, none⟩) hlW).trans hfW
   have HW := hQd hW
   have HBB := hQd hBB
   rw [← hW]
   clear hcell hW hc hfz hown hbel hcA hfull hBB
   go_wp2
   go_region_law ((refine step_append_lies _ (by rfl) _ _ _ (by rfl) 0 123 i0 _ 8 64 Tryz.underlying116 hi hz0 hz1 hz2 rfl (by omega) (.slice ao l.length cp) l.length (Aa2 ntr l) (by rfl) ((hownW.alloc _).drew) ⟨W.heap.size, 0, none⟩ 1 1 (ntr n) (by rfl) (by rfl) (World.news_of_block (cs := (ntr n).toArray) (t := 123) (fr := (0, 0)) (heap_alloc_new W _)) (by simp [Value.oneCell', ntr]) (by omega) (by have := HF.out; unfold maxLen; omega) (by have := HF.out; omega) (by simp) (W.heap.size + 1) (by simp) ?_; intro gg cap w1 hown1 hgrow hat hlt1; have hh1 : w1.cell? ⟨h, 0, none⟩ = some (.slice ao l.length cp) := (hgrow.cell_far _ (by simp; omega) (Ne.symm hap)).trans (((bal W _).cell (p := ⟨h, 0, none⟩) hlW).trans hcW); have hh2 : w1.frozen? ⟨h, 0, none⟩ = false := (hgrow.frozen_far _ (by simp; omega) (Ne.symm hap)).trans (hfA _)))
   all_goals
    go_wp2
    go_ret
    obtain ⟨G, g1, g2⟩ := LH.snoc ht EW.out.hi K1.out hownW H3.out hown1 hgrow hat hlt1
    rw [← Aou HE.out] at g2
    first
     | exact ⟨Aa6 HE.out.symm, G, EW.out.trans g1, g2⟩
     | exact ⟨Aa6 HE.out.symm, G, (EW.out.trans g1).drew, g2.ext (S := fun _ => False) (Ext.of_below g1.hi (Aaa _)) id⟩
 have HB : Hid (Aek l n = true) := by have := HBL.out; rw [hB] at this; exact this
 clear hown
 go_wp2
 go_ret
 exact ⟨Aa6 (Ady HB.out).symm, HN.out _ (Abn (bal _ _) _) (by rw [Ady HB.out]; omega)⟩
theorem RW.notes {w w' : World} {O O' : Om} {B : Wb} {f : Cf} {s : AW} {m : Nat} {l : List Nt} (h : RW w O B f s m) (e : Ext (fun t => t = 8) O w O' w') (hc : LH w' O' 8 123 8 ntr B.np l) : RW w' O' B f ⟨s.M, s.n, s.la, s.tk, s.ho, s.it, l⟩ m :=
 ⟨(e.lo _ h.wo.lt).trans h.o, h.wo.wrote e.wr (fun k => absurd (show (5 : Nat) = 8 from by have := k.1; rwa [h.o] at this) (by decide)), h.ce.ext e (by decide), h.ar.ext e (by decide), hc⟩
theorem Aho (k ref b q sl v : Int) {w : World} {O : Om} {B : Wb} {f : Cf} {s : AW} {m : Nat} (h : RW w O B f s m) (hhi : Hh O w) (k0 : 0 ≤ k) (k1 : k ≤ 255) :
 Calls Tryz.prog 76 #[.pointer (some ⟨B.p, 0, none⟩), .int .i64 k, .int .i64 ref, .agg #[.int .i64 b, .int .i64 q, .int .i64 sl], .int .i64 v] w (RP SR w O (.tuple #[]) fun W G => RW W G B f (Abr k ref b q sl v s) m) := by
 have HP := hQd h
 have HH := hQd hhi
 clear h hhi
 go_enter Tryz.func76, Tryz.ntmps76
 go_wp2_with fail
 obtain ⟨W, hW⟩ := exq (w.alloc (.cells #[.int .i64 b, .int .i64 q, .int .i64 sl] 95))
 have y0 : W.cell? ⟨w.heap.size, 0, none⟩ = some (.int .i64 b) := by rw [hW]; simp
 have y1 : W.cell? ⟨w.heap.size, 1, none⟩ = some (.int .i64 q) := by rw [hW]; simp
 have y2 : W.cell? ⟨w.heap.size, 2, none⟩ = some (.int .i64 sl) := by rw [hW]; simp
 have hB : Below w.heap.size w W := by rw [hW]; exact bal _ _
 have E1 := hQd (Ext.of_below (S := SR) HH.out hB)
 have P1 := hQd (HP.out.below HH.out hB)
 have c2 := P1.out.wo.c2
 have ch := P1.out.wo.ho
 have hlt : w.heap.size < W.heap.size := by rw [hW]; simp
 have hO0 := hQd (Ald HH.out (Nat.le_refl w.heap.size))
 rw [← hW]
 clear hW hB
 go_region_held3 (fun w' => w'.cell? ⟨w.heap.size, 0, none⟩ = some (.int .i64 b) ∧ w'.cell? ⟨w.heap.size, 1, none⟩ = some (.int .i64 q) ∧ w'.cell? ⟨w.heap.size, 2, none⟩ = some (.int .i64 sl) ∧ w'.cell? ⟨B.p, 2, none⟩ = some (.pointer (some ⟨B.np, 0, none⟩)) ∧ w'.cell? ⟨B.p, 72, none⟩ = some (.int .i64 s.ho)) (go_keep)
  ((first
    | (go_at_call 45
       refine (Amb (P1.out.below E1.out.hi (Aaa W))).mono ?_
       rintro e w' ⟨rfl, rfl⟩)
    | (go_at_call 113
       refine (Ayl (w := W.drew) ⟨s.n, s.ho, k, ref, b, q, sl, v⟩ (P1.out.below E1.out.hi (Aaa W)).no (by decide) E1.out.drew.hi k0 k1).mono ?_
       rintro e w1 ⟨rfl, G, e1, no1⟩
       have Q1 := hQd ((P1.out.below E1.out.hi (Aaa W)).notes e1 no1)
       have F1 := hQd (E1.out.drew.trans (e1.mono fun t _ h => by subst h; exact ⟨by decide, by decide⟩))
       have x0 := (e1.cell (p := ⟨w.heap.size, 0, none⟩) hlt (by show ¬ (O w.heap.size = 8); rw [hO0.out]; decide)).trans y0
       have x1 := (e1.cell (p := ⟨w.heap.size, 1, none⟩) hlt (by show ¬ (O w.heap.size = 8); rw [hO0.out]; decide)).trans y1
       have x2 := (e1.cell (p := ⟨w.heap.size, 2, none⟩) hlt (by show ¬ (O w.heap.size = 8); rw [hO0.out]; decide)).trans y2
       have x3 := Q1.out.wo.c2
       have x4 := Q1.out.wo.ho
       clear e1 no1)))
 all_goals
  go_wp2_with fail
  go_end0
  exact ⟨rfl, G, F1.out, Q1.out⟩
end
section
open Go.RowKit Go.Shelf
structure Ajd (W : World) (G : Om) (k R : Nat) (l : List Int) : Prop where
 ex : ∃ (A off c : Nat) (full : List Int), Ob W G k R [.int .i64 (if l = [] then 0 else 1), .slice (some ⟨A, 0, none⟩) full.length c, .int .i64 off] ∧ Ob W G (k + 1) A (Awj full) ∧ full.drop off = l ∧ full.length ≤ 10
theorem Ajd.ext {S : Nat → Prop} {O O' : Om} {w w' : World} {k R : Nat} {l : List Int} (h : Ajd w O k R l) (e : Ext S O w O' w') (h1 : ¬ S k := by omega) (h2 : ¬ S (k + 1) := by omega) : Ajd w' O' k R l := by
 obtain ⟨A, off, c, full, a, b, d⟩ := h.ex
 exact ⟨A, off, c, full, a.ext e h1, b.ext e h2, d⟩
theorem Ajd.below {O : Om} {w w' : World} {k R : Nat} {l : List Int} (h : Ajd w O k R l) (hb : Below w.heap.size w w') : Ajd w' O k R l := by
 obtain ⟨A, off, c, full, a, b, d⟩ := h.ex
 exact ⟨A, off, c, full, a.below hb, b.below hb, d⟩
theorem Ajd.cell {O : Om} {w : World} {k R : Nat} {l : List Int} (h : Ajd w O k R l) : w.cell? ⟨R, 0, none⟩ = some (.int .i64 (if l = [] then 0 else 1)) := by
 obtain ⟨A, off, c, full, a, b, d⟩ := h.ex
 exact a.c 0 _ rfl
section
variable {R : Nat} {w : World} {O : Om} {C : Wb} {f : Cf} {s : AW} {m k : Nat}
theorem Ad2 (a : Int) (l : List Int) (h : RW w O C f s m) (hR : Ajd w O k R (a :: l)) (hk : 10 ≤ k) (hm : m ≤ 900000) (hhi : Hh O w) (a0 : 0 ≤ a) (a1 : a < 18446744073709551616) (n0 : 0 ≤ s.n) (n1 : s.n ≤ 4611686018427387904) :
 C2 83 R C.p w (RP (SD k k) w O (.tuple #[]) fun W G => RW W G C f (Ab0 a 1 s) (m + 1) ∧ Ajd W G k R l) := by
 obtain ⟨A, off, c, full, hx, ha, hd, hfl⟩ := hR.ex
 rw [if_neg (by simp)] at hx
 have HM : Hid (Md k k w O w O C f s m k R [.int .i64 1, .slice (some ⟨A, 0, none⟩) full.length c, .int .i64 off]) := hQd (Md.start hhi h hx)
 have hfo : full[off]? = some a := by
  have := congrArg (fun z : List Int => z[0]?) hd
  simpa using this
 have hol : off < full.length := (List.getElem?_eq_some_iff.1 hfo).1
 have hfu : (Awj full)[off]? = some (.int .u64 a) := by unfold Awj; rw [List.getElem?_map, hfo]; rfl
 have HFU := hQd hfu
 have hd2 : full.drop (off + 1) = l := by
  have := congrArg List.tail hd
  simpa using this
 have HD := hQd (aN hd2 hfl)
 have HA0 := hQd ha
 obtain ⟨x0, x1, x2⟩ := hx.c3
 have q0 := ha.c off _ hfu
 obtain ⟨n, hn⟩ := exq full.length
 rw [← hn] at hol x1 HM hfl
 have HN := hQd hn
 have HA := hQd (Asq a 1 (w := w.drew) (h.below hhi (Aaa w)) (by omega) a0 a1 (by decide) (by decide) HM.out.drew.e.hi n0 n1)
 have ho0 : (0 : Int) ≤ (off : Int) := by omega
 have ho1 : (off : Int) < (n : Int) := by omega
 have hw1 : wrap64 ((off : Int) + 1) = (off : Int) + 1 := by unfold wrap64; omega
 have hw2 : IntKind.i64.wrap ((off : Int) + 1) = (off : Int) + 1 := by simp [IntKind.wrap, IntKind.bits, IntKind.signed]; omega
 have hlen : l.length + (off + 1) = n := by rw [← hd2, List.length_drop, ← hn]; omega
 clear h hR hx ha hd hfo hfu hd2 hhi hn
 by_cases hl : l = []
 · have de : ((off : Int) + 1 == (n : Int)) = true := by subst hl; simp at hlen; simp; omega
   have HL := hQd hl
   clear hl hlen
   go_enter Tryz.func83, Tryz.ntmps83
   go_wp2_with fail
   go_region_held3 (fun w' => w'.cell? ⟨R, 1, none⟩ = some (.slice (some ⟨A, 0, none⟩) n c) ∧ w'.cell? ⟨R, 2, none⟩ = some (.int .i64 off) ∧ w'.cell? ⟨A, off, none⟩ = some (.int .u64 a)) (go_keep)
    ((go_at_call 86
      refine HA.out.mono ?_
      rintro e w1 ⟨rfl, G1, e1, P1⟩
      have M1 := hQd (HM.out.drew.world hk e1 P1)
      have A1 := hQd ((HA0.out.below (Aaa w)).ext e1 (by unfold SR; omega))
      obtain ⟨-, y1, y2⟩ := M1.out.t.c3
      have y3 := A1.out.c off _ HFU.out
      clear e1 P1))
   all_goals
    clear x0 x1 x2 q0
    have f2 := M1.out.t.f 2
    have E2 := Aaf (j := 2) (v := .int .i64 ((off : Int) + 1)) M1.out.e.hi M1.out.t hk
    have M2 := hQd (M1.out.set hk (Nat.le_refl _) (Nat.le_refl _) 2 (.int .i64 ((off : Int) + 1)) (by simp))
    have A2 := hQd (A1.out.ext E2)
    obtain ⟨w2, hw⟩ := exq (w1.setCell ⟨R, 2, none⟩ (.int .i64 ((off : Int) + 1)))
    clear E2
    go_wp2_with fail
    rw [← hw] at M2 A2 ⊢
    clear hw y1 y2 y3 f2
    obtain ⟨-, y1, y2⟩ := M2.out.t.c3
    go_quiet (fail)
    have M3 := hQd (M2.out.below (w1 := w2.drewN nq) ⟨rfl, rfl, rfl, Nat.le_refl _, fun _ _ => rfl⟩)
    have A3 := hQd (A2.out.below (w' := w2.drewN nq) ⟨rfl, rfl, rfl, Nat.le_refl _, fun _ _ => rfl⟩)
    obtain ⟨w3, hw⟩ := exq (w2.drewN nq)
    rw [← hw] at M3 A3 ⊢
    clear hw y1 y2
    have y0 := M3.out.t.c 0 _ rfl
    have f0 := M3.out.t.f 0
    have E4 := hQd (Aaf (j := 0) (v := .int .i64 0) M3.out.e.hi M3.out.t hk)
    have M4 := hQd (M3.out.set hk (Nat.le_refl _) (Nat.le_refl _) 0 (.int .i64 0) (by simp))
    go_wp2_with fail
    go_end0
    exact ⟨rfl, _, M4.out.e, M4.out.p, ⟨A, off + 1, c, full, by rw [if_pos HL.out, ← HN.out]; exact M4.out.t, A3.out.ext E4.out, HD.out⟩⟩
 have de : ((off : Int) + 1 == (n : Int)) = false := by
  have : 0 < l.length := List.length_pos_iff.2 hl
  rw [beq_eq_false_iff_ne]; omega
 have HL := hQd hl
 clear hl hlen
 go_enter Tryz.func83, Tryz.ntmps83
 go_wp2_with fail
 go_region_held3 (fun w' => w'.cell? ⟨R, 1, none⟩ = some (.slice (some ⟨A, 0, none⟩) n c) ∧ w'.cell? ⟨R, 2, none⟩ = some (.int .i64 off) ∧ w'.cell? ⟨A, off, none⟩ = some (.int .u64 a)) (go_keep)
  ((go_at_call 86
    refine HA.out.mono ?_
    rintro e w1 ⟨rfl, G1, e1, P1⟩
    have M1 := hQd (HM.out.drew.world hk e1 P1)
    have A1 := hQd ((HA0.out.below (Aaa w)).ext e1 (by unfold SR; omega))
    obtain ⟨-, y1, y2⟩ := M1.out.t.c3
    have y3 := A1.out.c off _ HFU.out
    clear e1 P1))
 all_goals
  clear x0 x1 x2 q0
  have f2 := M1.out.t.f 2
  have E2 := Aaf (j := 2) (v := .int .i64 ((off : Int) + 1)) M1.out.e.hi M1.out.t hk
  have M2 := hQd (M1.out.set hk (Nat.le_refl _) (Nat.le_refl _) 2 (.int .i64 ((off : Int) + 1)) (by simp))
  have A2 := hQd (A1.out.ext E2)
  obtain ⟨w2, hw⟩ := exq (w1.setCell ⟨R, 2, none⟩ (.int .i64 ((off : Int) + 1)))
  clear E2
  go_wp2_with fail
  rw [← hw] at M2 A2 ⊢
  clear hw y1 y2 y3 f2
  obtain ⟨-, y1, y2⟩ := M2.out.t.c3
  go_quiet (fail)
  have M3 := hQd (M2.out.below (w1 := w2.drewN nq) ⟨rfl, rfl, rfl, Nat.le_refl _, fun _ _ => rfl⟩)
  have A3 := hQd (A2.out.below (w' := w2.drewN nq) ⟨rfl, rfl, rfl, Nat.le_refl _, fun _ _ => rfl⟩)
  clear y1 y2
  go_wp2_with fail
  go_end0
  exact ⟨rfl, _, M3.out.e, M3.out.p, ⟨A, off + 1, c, full, by rw [if_neg HL.out, ← HN.out]; exact M3.out.t, A3.out, HD.out⟩⟩
theorem Bay (p : Spt) (hp : p.ok) {b o c : Nat} (g : Nat) (hg : g ≠ 0) (hc : 1 ≤ c ∧ c ≤ maxLen) (hb : b < w.heap.size) (x0 : w.cell? ⟨b, o, none⟩ = some (.int .i64 p.b)) (x1 : w.cell? ⟨b, o + 1, none⟩ = some (.int .i64 p.q)) (hhi : Hh O w) :
 Calls Tryz.prog 151 #[.slice (some ⟨b, o, none⟩) 1 c] w fun e w' => ∃ A cp, e = .returned (.slice (some ⟨A, 0, none⟩) 1 cp) ∧ ∃ G, Ext (fun j => j = g) O w G w' ∧ Ob w' G g A [.int .u64 p.ver] := by
 obtain ⟨i0, hi, hz0, hz1, hz2⟩ := info_parts Ao5
 have HI := hQd (aN hi (aN hz0 (aN hz1 hz2)))
 have hq := hp.q2
 have hv := hp.ver
 have HV := hQd (fun W => Agp p.b p.q W (by have := hp.b0; omega) (by have := hp.b1; omega) (by have := hp.q0; omega) (by omega))
 obtain ⟨ve, hve⟩ := exq p.ver
 have hve2 : Abm p.b p.q = ve := hve.symm
 rw [hve2] at HV
 rw [← hve] at hv ⊢
 obtain ⟨pb, hpb⟩ := exq p.b
 obtain ⟨pq, hpq⟩ := exq p.q
 rw [← hpb, ← hpq] at HV
 rw [← hpb] at x0
 rw [← hpq] at x1
 have dv : (ve == 0) = false := by rw [beq_eq_false_iff_ne]; omega
 have HH := hQd hhi
 clear hp hq hv hve hve2 hpb hpq hhi hi hz0 hz1 hz2
 go_enter Tryz.func151, Tryz.ntmps151
 go_wp2_with fail
 refine wp_loop_rounds 2 ?_
 rw [rounds_succ]
 go_wp2_with fail
 refine (HV.out _).mono ?_
 rintro e w1 ⟨rfl, hb1⟩
 have HB1 : Hid (Below w.heap.size w w1) := hQd (by first | exact (bal _ _).trans (hb1.mono (by simp)) | exact hb1)
 have E1 := hQd (Ext.of_below (S := fun j => j = g) HH.out HB1.out)
 clear hb1
 go_wp2_with fail
 refine wp_loop_rounds 1 ?_
 rw [rounds_succ]
 go_wp2_with (at_builtin; refine Ace w1 rfl _ _ 170 rfl 38 i0 (.int .u64 0) 1 8 Tryz.underlying170 HI.out.1 HI.out.2.1 HI.out.2.2.1 HI.out.2.2.2 rfl (by decide) (by decide) O g hg E1.out.hi (.slice none 0 0) 0 [] rfl (Row.nil _ _ _ _ _) [.int .u64 ve] _ rfl rfl (by simp [Value.oneCell']) (by omega) ?_; intro gg cap w2 G2 e2 r2; have HR2 := hQd r2; have E2 := hQd (E1.out.trans e2); clear e2 r2)
 rw [rounds_succ]
 go_wp2_with fail
 go_ret
 exact ⟨gg, cap, rfl, G2, E2.out, HR2.out.ob (by decide)⟩
theorem Aio (p : Spt) (hp : p.ok) {b o c : Nat} (k : Nat) (hk : 10 ≤ k) (hc : 1 ≤ c ∧ c ≤ maxLen) (hb : b < w.heap.size) (x0 : w.cell? ⟨b, o, none⟩ = some (.int .i64 p.b)) (x1 : w.cell? ⟨b, o + 1, none⟩ = some (.int .i64 p.q)) (hhi : Hh O w) :
 Calls Tryz.prog 119 #[.slice (some ⟨b, o, none⟩) 1 c] w fun e w' => ∃ X, RP (fun t => t = k ∨ t = k + 1) w O (.pointer (some ⟨X, 0, none⟩)) (fun W G => Ajd W G k X [p.ver]) e w' := by
 have HO := hQd (Bay p hp (k + 1) (by omega) hc hb x0 x1 hhi)
 clear hp hb x0 x1 hhi
 go_enter Tryz.func119, Tryz.ntmps119
 go_wp2_with fail
 refine HO.out.mono ?_
 rintro e w1 ⟨A, cp, rfl, G1, e1, a1⟩
 obtain ⟨G2, e2, x2, k2⟩ := Aar e1.hi k #[.int .i64 1, .slice (some ⟨A, 0, none⟩) 1 cp, .int .i64 0] 172 w1.heap.size rfl
 have HE := hQd (aN ((e1.mono (T := fun t => t = k ∨ t = k + 1) fun t _ h => .inr h).trans (e2.mono fun t _ h => .inl h)) (aN x2 (k2 _ _ _ a1)))
 clear e1 a1 e2 x2 k2
 go_wp2_with fail
 go_ret
 exact ⟨_, rfl, G2, HE.out.1, ⟨A, 0, cp, [p.ver], HE.out.2.1, HE.out.2.2, rfl, by simp⟩⟩
end
def Aus (p : Spt) (o : Otm) : List Value := [.int .i64 (if o.ln = 3 then 0 else (o.ln : Int) + 1), .bool (decide (2 ≤ o.ln)), .bool true, .int .i64 p.b, .int .i64 p.q, .int .i64 p.s, .int .i64 0, .int .i64 0, .int .u64 o.w]
structure Ajc (W : World) (G : Om) (k R : Nat) (p : Spt) (o : Otm) : Prop where
 ob : Ob W G k R (Aus p o)
theorem Ajc.ext {S : Nat → Prop} {O O' : Om} {w w' : World} {k U : Nat} {p : Spt} {o : Otm} (h : Ajc w O k U p o) (e : Ext S O w O' w') (h1 : ¬ S k := by omega) : Ajc w' O' k U p o := ⟨h.ob.ext e h1⟩
theorem Ajc.below {O : Om} {w w' : World} {k U : Nat} {p : Spt} {o : Otm} (h : Ajc w O k U p o) (hb : Below w.heap.size w w') : Ajc w' O k U p o := ⟨h.ob.below hb⟩
section
variable {R : Nat} {w : World} {O : Om} {C : Wb} {f : Cf} {s : AW} {m k : Nat} {p : Spt}
theorem Ain (hp : p.ok) (hk : 10 ≤ k) (hhi : Hh O w) : Calls Tryz.prog 120 #[.agg #[.int .i64 p.b, .int .i64 p.q, .int .i64 p.s]] w fun e w' => ∃ U, RP (fun t => t = k) w O (.pointer (some ⟨U, 0, none⟩)) (fun W G => Ajc W G k U p ⟨0, 0⟩) e w' := by
 have hit := hp.item
 have hq2 := hp.q2
 have HI := hQd (fun W => Adh p.b p.q p.s W (by have := hp.b0; omega) (by have := hp.b1; omega) (by have := hp.q0; omega) (by omega) (by have := hp.s0; omega) (by have := hp.s1; omega))
 obtain ⟨ia, hia⟩ := exq p.item
 have hia2 : Aca p.b p.q p.s = ia := hia.symm
 rw [hia2] at HI
 rw [← hia] at hit
 have di : (ia != 0) = true := by simp; omega
 obtain ⟨b, hb⟩ := exq p.b
 obtain ⟨q, hq⟩ := exq p.q
 obtain ⟨sl, hs⟩ := exq p.s
 rw [← hb, ← hq, ← hs] at HI
 rw [← hb, ← hq, ← hs]
 obtain ⟨O1, e1, -, -⟩ := Aar hhi 0 #[.int .i64 b, .int .i64 q, .int .i64 sl] 95 w.heap.size rfl
 have hhi1 : ∀ (o : Obj) (j : Nat), O j ≠ 0 → j < (w.alloc o).heap.size := fun o j hj => by have := hhi j hj; simp; omega
 obtain ⟨O2, e2, x2, -⟩ := Aar (hhi1 (.cells #[.int .i64 b, .int .i64 q, .int .i64 sl] 95)) k #[.int .i64 0, .bool false, .bool true, .int .i64 b, .int .i64 q, .int .i64 sl, .int .i64 0, .int .i64 0, .int .u64 0] 174 (w.heap.size + 1) (by simp)
 have E0 : Ext (fun t => t = k) O w O (w.alloc (.cells #[.int .i64 b, .int .i64 q, .int .i64 sl] 95)) := Ext.of_below hhi (bal _ _)
 have HE := hQd (aN (E0.trans e2) x2)
 have HP := hQd (aN hb (aN hq hs))
 clear hit hq2 hia hia2 hp hb hq hs e1 e2 x2 hhi1 E0 hhi
 go_enter Tryz.func120, Tryz.ntmps120
 go_wp2_with fail
 generalize (w.alloc (.cells #[.int .i64 b, .int .i64 q, .int .i64 sl] 95)).alloc (.cells #[.int .i64 0, .bool false, .bool true, .int .i64 b, .int .i64 q, .int .i64 sl, .int .i64 0, .int .i64 0, .int .u64 0] 174) = W at HE ⊢
 refine (HI.out _).mono ?_
 rintro e w1 ⟨rfl, hb1⟩
 have X1 := hQd (HE.out.2.below hb1)
 have E1 := hQd (HE.out.1.below hb1)
 have y0 := X1.out.c 0 _ rfl
 have f0 := X1.out.f 0
 clear hb1
 go_wp2_with fail
 go_ret
 have E3 := Aaf (j := 0) (v := .int .i64 1) E1.out.hi X1.out hk
 have x3 := X1.out.set 0 (.int .i64 1) (by simp)
 rw [HP.out.1, HP.out.2.1, HP.out.2.2] at x3
 exact ⟨_, rfl, O2, E1.out.trans E3, ⟨x3⟩⟩
end
end
section
open Go.RowKit Go.Shelf
section
variable {R : Nat} {w : World} {O : Om} {C : Wb} {f : Cf} {s : AW} {m k : Nat} {p : Spt}
theorem Ayi (o : Otm) (h : RW w O C f s m) (hR : Ajc w O k R p o) (hp : p.ok) (ho : o.ln = 0) (hk : 10 ≤ k) (hm : m ≤ 900000) (hhi : Hh O w) (n0 : 0 ≤ s.n) (n1 : s.n ≤ 4611686018427387904) :
 C2 85 R C.p w (RP (SD k k) w O (.tuple #[]) fun W G => RW W G C f (Aaj p s o).1 (m + 1) ∧ Ajc W G k R p (Aaj p s o).2) := by
 obtain ⟨oln, ow⟩ := o
 dsimp only at ho
 subst ho
 have hx := hR.ob
 have HM : Hid (Md k k w O w O C f s m k R (Aus p ⟨0, ow⟩)) := hQd (Md.start hhi h hx)
 have hit := hp.item
 have htg := hp.tags
 have hq2 := hp.q2
 have hs0 := hp.s0
 have hs1 := hp.s1
 have HI := hQd (fun W => Adh p.b p.q p.s W (by have := hp.b0; omega) (by have := hp.b1; omega) (by have := hp.q0; omega) (by omega) (by omega) (by omega))
 have HT := hQd (fun W => Ac8 p.b p.q W (by have := hp.b0; omega) (by have := hp.b1; omega) (by have := hp.q0; omega) (by omega))
 obtain ⟨x0, x1, x2, x3, x4, x5, -, -, x8⟩ := hx.c9
 obtain ⟨ia, hia⟩ := exq p.item
 obtain ⟨ta, hta⟩ := exq p.tags
 have hia2 : Aca p.b p.q p.s = ia := hia.symm
 have hta2 : Aai p.b p.q = ta := hta.symm
 rw [hia2] at HI
 rw [hta2] at HT
 rw [← hia] at hit
 rw [← hta] at htg
 have hib : 0 ≤ ia ∧ ia < 18446744073709551616 := by omega
 have htb : 0 ≤ ta ∧ ta < 18446744073709551616 := by omega
 obtain ⟨b, hb⟩ := exq p.b
 obtain ⟨q, hq⟩ := exq p.q
 obtain ⟨sl, hs⟩ := exq p.s
 rw [← hb, ← hq, ← hs] at HI
 rw [← hb, ← hq] at HT
 rw [← hb] at x3
 rw [← hq] at x4
 rw [← hs] at x5 hs0 hs1
 dsimp only at x0 x1 x8
 have HEQ := hQd (aN hia (aN hta (aN hb (aN hq hs))))
 have x0 : w.cell? ⟨R, 0, none⟩ = some (.int .i64 1) := x0
 have x1 : w.cell? ⟨R, 1, none⟩ = some (.bool false) := x1
 have hrl := hx.lt
 clear h hR hp hhi hx hit htg hq2 hia hta hia2 hta2 hb hq hs
 go_enter Tryz.func85, Tryz.ntmps85
 go_wp2_with fail
 refine (HT.out _).mono ?_
 rintro e w1 ⟨rfl, hb1⟩
 have M1 := hQd (HM.out.below hb1)
 have k3 := (hb1.cell (p := ⟨R, 3, none⟩) hrl).trans x3
 have k4 := (hb1.cell (p := ⟨R, 4, none⟩) hrl).trans x4
 have k5 := (hb1.cell (p := ⟨R, 5, none⟩) hrl).trans x5
 have k0 := (hb1.cell (p := ⟨R, 0, none⟩) hrl).trans x0
 have k1 := (hb1.cell (p := ⟨R, 1, none⟩) hrl).trans x1
 have k2 := (hb1.cell (p := ⟨R, 2, none⟩) hrl).trans x2
 have k8 := (hb1.cell (p := ⟨R, 8, none⟩) hrl).trans x8
 have hrl1 : R < w1.heap.size := Nat.lt_of_lt_of_le hrl hb1.size
 clear hb1 x0 x1 x2 x3 x4 x5 x8 hrl
 go_wp2_with fail
 refine (HI.out _).mono ?_
 rintro e w2 ⟨rfl, hb2⟩
 have M2 := hQd (M1.out.below hb2)
 have x0 := (hb2.cell (p := ⟨R, 0, none⟩) hrl1).trans k0
 have x1 := (hb2.cell (p := ⟨R, 1, none⟩) hrl1).trans k1
 have x2 := (hb2.cell (p := ⟨R, 2, none⟩) hrl1).trans k2
 have x5 := (hb2.cell (p := ⟨R, 5, none⟩) hrl1).trans k5
 have x8 := (hb2.cell (p := ⟨R, 8, none⟩) hrl1).trans k8
 clear hb2 k0 k1 k2 k3 k4 k5 k8 hrl1
 go_wp2_with fail
 refine (Ac1 ta M2.out.p (by omega) htb.1 htb.2 M2.out.e.hi n0 n1).mono ?_
 rintro e w3 ⟨rfl, G3, e3, P3⟩
 have M3 := hQd (M2.out.world hk e3 P3)
 have y8 := M3.out.t.c 8 _ rfl
 have f8 := M3.out.t.f 8
 have y0 := M3.out.t.c 0 _ rfl
 have f0 := M3.out.t.f 0
 have M4 := M3.out.set hk (Nat.le_refl _) (Nat.le_refl _) 8 (.int .u64 (s.M ta)) (by simp [Aus])
 have M5 := hQd (M4.set hk (Nat.le_refl _) (Nat.le_refl _) 0 (.int .i64 2) (by simp [Aus]))
 have y0 : w3.cell? ⟨R, 0, none⟩ = some (.int .i64 1) := y0
 clear e3 P3 M4 x0 x1 x2 x5 x8
 go_wp2_with fail
 go_end0
 obtain ⟨e0, G, E, P, T⟩ := M5.out.rp (v := .tuple #[])
 have hs : Aaj p s ⟨0, ow⟩ = (Aan ta s, ⟨1, s.M ta⟩) := by rw [HEQ.out.2.1]; rfl
 refine ⟨rfl, G, E, ?_, ?_⟩
 · rw [hs]; exact P
 rw [hs]; exact ⟨T⟩
theorem Ayh (o : Otm) (h : RW w O C f s m) (hR : Ajc w O k R p o) (hp : p.ok) (ho : o.ln = 1) (w0 : 0 ≤ o.w) (w1 : o.w < 18446744073709551616) (hk : 10 ≤ k) (hm : m ≤ 900000) (hhi : Hh O w) (n0 : 0 ≤ s.n) (n1 : s.n ≤ 4611686018427387904) :
 C2 85 R C.p w (RP (SD k k) w O (.tuple #[]) fun W G => RW W G C f (Aaj p s o).1 (m + 1) ∧ Ajc W G k R p (Aaj p s o).2) := by
 obtain ⟨oln, ow⟩ := o
 dsimp only at ho
 subst ho
 have hx := hR.ob
 have HM : Hid (Md k k w O w O C f s m k R (Aus p ⟨1, ow⟩)) := hQd (Md.start hhi h hx)
 have hit := hp.item
 have htg := hp.tags
 have hq2 := hp.q2
 have hs0 := hp.s0
 have hs1 := hp.s1
 have HI := hQd (fun W => Adh p.b p.q p.s W (by have := hp.b0; omega) (by have := hp.b1; omega) (by have := hp.q0; omega) (by omega) (by omega) (by omega))
 have HT := hQd (fun W => Ac8 p.b p.q W (by have := hp.b0; omega) (by have := hp.b1; omega) (by have := hp.q0; omega) (by omega))
 obtain ⟨x0, x1, x2, x3, x4, x5, -, -, x8⟩ := hx.c9
 obtain ⟨ia, hia⟩ := exq p.item
 obtain ⟨ta, hta⟩ := exq p.tags
 have hia2 : Aca p.b p.q p.s = ia := hia.symm
 have hta2 : Aai p.b p.q = ta := hta.symm
 rw [hia2] at HI
 rw [hta2] at HT
 rw [← hia] at hit
 rw [← hta] at htg
 have hib : 0 ≤ ia ∧ ia < 18446744073709551616 := by omega
 have htb : 0 ≤ ta ∧ ta < 18446744073709551616 := by omega
 obtain ⟨b, hb⟩ := exq p.b
 obtain ⟨q, hq⟩ := exq p.q
 obtain ⟨sl, hs⟩ := exq p.s
 rw [← hb, ← hq, ← hs] at HI
 rw [← hb, ← hq] at HT
 rw [← hb] at x3
 rw [← hq] at x4
 rw [← hs] at x5 hs0 hs1
 dsimp only at x0 x1 x8
 have HEQ := hQd (aN hia (aN hta (aN hb (aN hq hs))))
 have x0 : w.cell? ⟨R, 0, none⟩ = some (.int .i64 2) := x0
 have x1 : w.cell? ⟨R, 1, none⟩ = some (.bool false) := x1
 have hrl := hx.lt
 have hwb := Afu (s := sl) (t := 0) w0 w1
 have HW := hQd (fun W => Amc ow sl 0 W w0 w1 hs0 hs1 (by decide) (by decide))
 obtain ⟨z, hz⟩ := exq (Acp ow sl 0)
 rw [← hz] at HW hwb
 have HZ := hQd hz
 clear hz
 clear h hR hp hhi hx hit htg hq2 hia hta hia2 hta2 hb hq hs
 go_enter Tryz.func85, Tryz.ntmps85
 go_wp2_with fail
 refine (HT.out _).mono ?_
 rintro e w1 ⟨rfl, hb1⟩
 have M1 := hQd (HM.out.below hb1)
 have k3 := (hb1.cell (p := ⟨R, 3, none⟩) hrl).trans x3
 have k4 := (hb1.cell (p := ⟨R, 4, none⟩) hrl).trans x4
 have k5 := (hb1.cell (p := ⟨R, 5, none⟩) hrl).trans x5
 have k0 := (hb1.cell (p := ⟨R, 0, none⟩) hrl).trans x0
 have k1 := (hb1.cell (p := ⟨R, 1, none⟩) hrl).trans x1
 have k2 := (hb1.cell (p := ⟨R, 2, none⟩) hrl).trans x2
 have k8 := (hb1.cell (p := ⟨R, 8, none⟩) hrl).trans x8
 have hrl1 : R < w1.heap.size := Nat.lt_of_lt_of_le hrl hb1.size
 clear hb1 x0 x1 x2 x3 x4 x5 x8 hrl
 go_wp2_with fail
 refine (HI.out _).mono ?_
 rintro e w2 ⟨rfl, hb2⟩
 have M2 := hQd (M1.out.below hb2)
 have x0 := (hb2.cell (p := ⟨R, 0, none⟩) hrl1).trans k0
 have x1 := (hb2.cell (p := ⟨R, 1, none⟩) hrl1).trans k1
 have x2 := (hb2.cell (p := ⟨R, 2, none⟩) hrl1).trans k2
 have x5 := (hb2.cell (p := ⟨R, 5, none⟩) hrl1).trans k5
 have x8 := (hb2.cell (p := ⟨R, 8, none⟩) hrl1).trans k8
 clear hb2 k0 k1 k2 k3 k4 k5 k8 hrl1
 go_wp2_with fail
 go_region_held3 (fun w' => w'.cell? ⟨R, 5, none⟩ = some (.int .i64 sl) ∧ w'.cell? ⟨R, 8, none⟩ = some (.int .u64 ow)) (go_keep)
  ((first
    | (go_at_call 69
       refine (HW.out _).mono ?_
       rintro e w' ⟨rfl, rfl⟩)
    | (go_at_call 27
       refine (Adg ta z (w := w2.drew) M2.out.drew.p (by omega) htb.1 htb.2 hwb.1 hwb.2 M2.out.drew.e.hi n0 n1).mono ?_
       rintro e w3 ⟨rfl, G3, e3, P3⟩
       have M3 := hQd (M2.out.drew.world hk e3 P3)
       obtain ⟨-, -, -, -, -, y5, -, -, y8⟩ := M3.out.t.c9
       rw [← HEQ.out.2.2.2.2] at y5
       clear e3 P3)))
 all_goals
  clear x0 x1 x2 x5 x8 y5 y8
  have y1 := M3.out.t.c 1 _ rfl
  have f1 := M3.out.t.f 1
  have y0 := M3.out.t.c 0 _ rfl
  have f0 := M3.out.t.f 0
  have M4 := M3.out.set hk (Nat.le_refl _) (Nat.le_refl _) 1 (.bool true) (by simp [Aus])
  have M5 := hQd (M4.set hk (Nat.le_refl _) (Nat.le_refl _) 0 (.int .i64 3) (by simp [Aus]))
  have y0 : w3.cell? ⟨R, 0, none⟩ = some (.int .i64 2) := y0
  have y1 : w3.cell? ⟨R, 1, none⟩ = some (.bool false) := y1
  clear M4
  go_wp2_with fail
  go_end0
  obtain ⟨e0, G, E, P, T⟩ := M5.out.rp (v := .tuple #[])
  refine ⟨rfl, G, E, ?_, ⟨T⟩⟩
  have := P
  rw [HEQ.out.2.1, HZ.out, HEQ.out.2.2.2.2] at this
  exact this
theorem Ayg (o : Otm) (h : RW w O C f s m) (hR : Ajc w O k R p o) (hp : p.ok) (ho : o.ln = 2) (hk : 10 ≤ k) (hm : m ≤ 900000) (hhi : Hh O w) (n0 : 0 ≤ s.n) (n1 : s.n ≤ 4611686018427387904) :
 C2 85 R C.p w (RP (SD k k) w O (.tuple #[]) fun W G => RW W G C f (Aaj p s o).1 (m + 1) ∧ Ajc W G k R p (Aaj p s o).2) := by
 obtain ⟨oln, ow⟩ := o
 dsimp only at ho
 subst ho
 have hx := hR.ob
 have HM : Hid (Md k k w O w O C f s m k R (Aus p ⟨2, ow⟩)) := hQd (Md.start hhi h hx)
 have hit := hp.item
 have htg := hp.tags
 have hq2 := hp.q2
 have hs0 := hp.s0
 have hs1 := hp.s1
 have HI := hQd (fun W => Adh p.b p.q p.s W (by have := hp.b0; omega) (by have := hp.b1; omega) (by have := hp.q0; omega) (by omega) (by omega) (by omega))
 have HT := hQd (fun W => Ac8 p.b p.q W (by have := hp.b0; omega) (by have := hp.b1; omega) (by have := hp.q0; omega) (by omega))
 obtain ⟨x0, x1, x2, x3, x4, x5, -, -, x8⟩ := hx.c9
 obtain ⟨ia, hia⟩ := exq p.item
 obtain ⟨ta, hta⟩ := exq p.tags
 have hia2 : Aca p.b p.q p.s = ia := hia.symm
 have hta2 : Aai p.b p.q = ta := hta.symm
 rw [hia2] at HI
 rw [hta2] at HT
 rw [← hia] at hit
 rw [← hta] at htg
 have hib : 0 ≤ ia ∧ ia < 18446744073709551616 := by omega
 have htb : 0 ≤ ta ∧ ta < 18446744073709551616 := by omega
 obtain ⟨b, hb⟩ := exq p.b
 obtain ⟨q, hq⟩ := exq p.q
 obtain ⟨sl, hs⟩ := exq p.s
 rw [← hb, ← hq, ← hs] at HI
 rw [← hb, ← hq] at HT
 rw [← hb] at x3
 rw [← hq] at x4
 rw [← hs] at x5 hs0 hs1
 dsimp only at x0 x1 x8
 have HEQ := hQd (aN hia (aN hta (aN hb (aN hq hs))))
 have x0 : w.cell? ⟨R, 0, none⟩ = some (.int .i64 3) := x0
 have x1 : w.cell? ⟨R, 1, none⟩ = some (.bool true) := x1
 have hrl := hx.lt
 clear h hR hp hhi hx hit htg hq2 hia hta hia2 hta2 hb hq hs
 go_enter Tryz.func85, Tryz.ntmps85
 go_wp2_with fail
 refine (HT.out _).mono ?_
 rintro e w1 ⟨rfl, hb1⟩
 have M1 := hQd (HM.out.below hb1)
 have k3 := (hb1.cell (p := ⟨R, 3, none⟩) hrl).trans x3
 have k4 := (hb1.cell (p := ⟨R, 4, none⟩) hrl).trans x4
 have k5 := (hb1.cell (p := ⟨R, 5, none⟩) hrl).trans x5
 have k0 := (hb1.cell (p := ⟨R, 0, none⟩) hrl).trans x0
 have k1 := (hb1.cell (p := ⟨R, 1, none⟩) hrl).trans x1
 have k2 := (hb1.cell (p := ⟨R, 2, none⟩) hrl).trans x2
 have k8 := (hb1.cell (p := ⟨R, 8, none⟩) hrl).trans x8
 have hrl1 : R < w1.heap.size := Nat.lt_of_lt_of_le hrl hb1.size
 clear hb1 x0 x1 x2 x3 x4 x5 x8 hrl
 go_wp2_with fail
 refine (HI.out _).mono ?_
 rintro e w2 ⟨rfl, hb2⟩
 have M2 := hQd (M1.out.below hb2)
 have x0 := (hb2.cell (p := ⟨R, 0, none⟩) hrl1).trans k0
 have x1 := (hb2.cell (p := ⟨R, 1, none⟩) hrl1).trans k1
 have x2 := (hb2.cell (p := ⟨R, 2, none⟩) hrl1).trans k2
 have x5 := (hb2.cell (p := ⟨R, 5, none⟩) hrl1).trans k5
 have x8 := (hb2.cell (p := ⟨R, 8, none⟩) hrl1).trans k8
 clear hb2 k0 k1 k2 k3 k4 k5 k8 hrl1
 go_wp2_with fail
 refine (Adg ia 0 M2.out.p (by omega) hib.1 hib.2 (by decide) (by decide) M2.out.e.hi n0 n1).mono ?_
 rintro e w3 ⟨rfl, G3, e3, P3⟩
 have M3 := hQd (M2.out.world hk e3 P3)
 have y0 := M3.out.t.c 0 _ rfl
 have f0 := M3.out.t.f 0
 have M5 := hQd (M3.out.set hk (Nat.le_refl _) (Nat.le_refl _) 0 (.int .i64 0) (by simp [Aus]))
 have y0 : w3.cell? ⟨R, 0, none⟩ = some (.int .i64 3) := y0
 clear e3 P3 x0 x1 x2 x5 x8
 go_wp2_with fail
 go_end0
 obtain ⟨e0, G, E, P, T⟩ := M5.out.rp (v := .tuple #[])
 refine ⟨rfl, G, E, ?_, ⟨T⟩⟩
 have := P
 rw [HEQ.out.1] at this
 exact this
theorem Agq (o : Otm) (h : RW w O C f s m) (hR : Ajc w O k R p o) (hp : p.ok) (ho : o.ln < 3) (w0 : 0 ≤ o.w) (w1 : o.w < 18446744073709551616) (hk : 10 ≤ k) (hm : m ≤ 900000) (hhi : Hh O w) (n0 : 0 ≤ s.n) (n1 : s.n ≤ 4611686018427387904) :
 C2 85 R C.p w (RP (SD k k) w O (.tuple #[]) fun W G => RW W G C f (Aaj p s o).1 (m + 1) ∧ Ajc W G k R p (Aaj p s o).2) := by
 have h3 : o.ln = 0 ∨ o.ln = 1 ∨ o.ln = 2 := by omega
 rcases h3 with e | e | e
 · exact Ayi o h hR hp e hk hm hhi n0 n1
 · exact Ayh o h hR hp e w0 w1 hk hm hhi n0 n1
 exact Ayg o h hR hp e hk hm hhi n0 n1
end
end
section
open Go.RowKit
theorem Ahw (x : Int) : -9223372036854775808 ≤ wrap64 x ∧ wrap64 x ≤ 9223372036854775807 := by unfold wrap64; omega
theorem Ah7 {p : Spt} {s : AW} {o : Otm} (hb : Bd s.M) (w0 : 0 ≤ o.w) (w1 : o.w < 18446744073709551616) : 0 ≤ (Aaj p s o).2.w ∧ (Aaj p s o).2.w < 18446744073709551616 := by
 unfold Aaj
 split
 · exact hb _
 split
 · exact ⟨w0, w1⟩
 split
 · exact ⟨w0, w1⟩
 exact ⟨w0, w1⟩
structure Aw1 (s r : AW) : Prop where
 n0 : s.n ≤ r.n
 n1 : r.n ≤ s.n + 1
 it : r.it = s.it
 nt : r.nt.length ≤ s.nt.length + 1
 nk : ∀ x ∈ r.nt, x ∈ s.nt ∨ (0 ≤ x.kind ∧ x.kind ≤ 255)
theorem Aw1.refl (s : AW) : Aw1 s s := ⟨Int.le_refl _, by omega, rfl, by omega, fun x h => .inl h⟩
theorem Aw1.note {s r : AW} (h : Aw1 s r) (hn : r.nt = s.nt) (k ref b q sl v : Int) (k0 : 0 ≤ k) (k1 : k ≤ 255) : Aw1 s (Abr k ref b q sl v r) := by
 refine ⟨h.n0, h.n1, h.it, ?_, ?_⟩
 · show (Af0 r.nt _).length ≤ _
   unfold Af0
   split
   · rw [List.length_append, hn]; simp
   rw [hn]; omega
 intro x hx
 have hx : x ∈ Af0 r.nt ⟨r.n, r.ho, k, ref, b, q, sl, v⟩ := hx
 unfold Af0 at hx
 split at hx
 · rw [List.mem_append, hn] at hx
   rcases hx with hx | hx
   · exact .inl hx
   rw [List.mem_singleton] at hx
   subst hx
   exact .inr ⟨k0, k1⟩
 rw [hn] at hx; exact .inl hx
theorem Apu (a : Int) (s : AW) : Aw1 s (Aan a s) := ⟨by show s.n ≤ s.n + 1; omega, Int.le_refl _, rfl, by show s.nt.length ≤ _; omega, fun x h => .inl h⟩
theorem Ai3 (a v : Int) (s : AW) : Aw1 s (Aax a v s) := ⟨by show s.n ≤ s.n + 1; omega, Int.le_refl _, rfl, by show s.nt.length ≤ _; omega, fun x h => .inl h⟩
theorem Azj (a v : Int) (s : AW) : Aw1 s (Ab0 a v s) := ⟨by show s.n ≤ s.n + 1; omega, Int.le_refl _, rfl, by show s.nt.length ≤ _; omega, fun x h => .inl h⟩
theorem Ae4 (p : Spt) (s : AW) (o : Otm) : Aw1 s (Aaj p s o).1 ∧ (Aaj p s o).1.nt = s.nt := by
 unfold Aaj
 split
 · exact ⟨Apu _ _, rfl⟩
 split
 · exact ⟨Ai3 _ _ _, rfl⟩
 split
 · exact ⟨Ai3 _ _ _, rfl⟩
 exact ⟨Aw1.refl _, rfl⟩
end
end Go.Proofs.YthbodknlhkapdaaGreat
