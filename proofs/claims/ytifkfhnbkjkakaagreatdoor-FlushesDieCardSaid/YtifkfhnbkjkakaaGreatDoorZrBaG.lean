/- What layers 23 and 24 share: the document's Ref, Marked, Less; bundles kept by a step of another object. The document's new world. Layer 6: contracts of At; the document's records. Layers 9, 10: a note of the document's world. Layers 12, 13: the document's Mark of one place, its Out. Layer 13: steps of the document's Out. What a step makes of counts and notes; what an Out keeps. -/
import Derived.Test.YtifkfhnbkjkakaaGreatDoorZrBaF
import Derived.Test.YtifkfhnbkjkakaaGreatDoorZrBaC
import Derived.Test.YtifkfhnbkjkakaaGreatDoorZrBaE
import Derived.Test.YtifkfhnbkjkakaaGreatDoorZrBaD
import Derived.Deep.DeepCutAuto
import Derived.Deep.RegionLaw
import Derived.Outline
namespace Go.Proofs.YtifkfhnbkjkakaaGreatDoor
set_option linter.unusedSimpArgs false
set_option linter.unusedVariables false
set_option maxHeartbeats 2000000
set_option maxRecDepth 100000
section
open Go.RowKit
theorem Me.oth {S : Nat → Prop} {a b k T : Nat} {cs : List Value} {O O0 O1 : Om} {w w0 w1 : World} {B : Wb} {f : Cf} {s : AW} (h : Me a b w0 O0 w O B f s k T cs) (hk : 10 ≤ k) (e : Ext S O w O1 w1) (hS : ∀ t, S t → 10 ≤ t ∧ a ≤ t ∧ t ≤ b ∧ t ≠ k) : Me a b w0 O0 w1 O1 B f s k T cs :=
 ⟨h.e.trans (e.mono fun t _ ht => .inr ⟨(hS t ht).2.1, (hS t ht).2.2.1⟩), h.p.ext e (fun g => by have := (hS 1 g).1; omega) (fun g => by have := (hS 2 g).1; omega) (fun g => by have := (hS 3 g).1; omega) (fun g => by have := (hS 4 g).1; omega), h.t.ext e fun g => (hS k g).2.2.2 rfl⟩
theorem PW.ne_obj {w : World} {O : Om} {B : Wb} {f : Cf} {s : AW} {k X : Nat} {cs : List Value} (h : PW w O B f s) (hx : Ob w O k X cs) (hk : 10 ≤ k) : B.p ≠ X := by
 intro e
 have := h.o
 rw [e, hx.o] at this
 omega
end
section
open Go.RowKit
theorem RC.start (w : World) (O : Om) (e : TypeId) (N : Nat) (hN : N = w.heap.size) (hhi : ∀ j, O j ≠ 0 → j < w.heap.size) :
 ∃ O', Ext (fun t => t = 6) O w O' (w.alloc (.cells #[.slice none 0 0, .int .i64 0, .int .u8 0, .int .u64 0, .int .u64 0, .int .u64 0] e)) ∧ RC (w.alloc (.cells #[.slice none 0 0, .int .i64 0, .int .u8 0, .int .u64 0, .int .u64 0, .int .u64 0] e)) O' 6 N (fun _ => 0) 0 ⟨0, 0, 0, 0⟩ 0 := by
 subst hN
 exact ⟨_, Ext.alloc (S := fun t => t = 6) (g := 6) hhi rfl _, .slice none 0 0, [], by simp [Ris], (fun x h => by cases h), fun y => rfl, Nat.le_refl _, Ob.new w O 6 #[.slice none 0 0, .int .i64 0, .int .u8 0, .int .u64 0, .int .u64 0, .int .u64 0] e, World.ownsRow_nil _ _ _ _, fun k hk => by cases hk⟩
theorem RC.drew {w : World} {O : Om} {g c m : Nat} {M : Int → Int} {n : Int} {la : La} (h : RC w O g c M n la m) : RC w.drew O g c M n la m := h.below (drew_below w)
theorem plWord0 {b : Int} (h0 : 1 ≤ b) (h1 : b ≤ 12) : plWord b 0 = b := by unfold plWord; omega
theorem rzsize : Tryz.zeroCells167.size = 73 := by kernel_rfl
theorem rzero_tickets (j : Nat) (hj : j < 64) : Tryz.zeroCells167[8 + j]? = some (.int .u64 0) := by
 have h : (List.range 64).all (fun j => isZ (Tryz.zeroCells167[8 + j]?)) = true := by kernel_rfl
 exact isZ_eq (List.all_eq_true.1 h j (by simpa using hj))
noncomputable def rZ (c ip np : Nat) (f : Cf) : Array Value :=
 ((((((((Tryz.zeroCells167.setIfInBounds 0 (.pointer (some ⟨c, 0, none⟩))).setIfInBounds 1 (.pointer (some ⟨ip, 0, none⟩))).setIfInBounds 2 (.pointer (some ⟨np, 0, none⟩))).setIfInBounds 3 (.int .i64 f.b)).setIfInBounds 4 (.int .i64 f.g)).setIfInBounds 5 (.int .i64 f.t)).setIfInBounds 6 (.int .i64 f.q)).setIfInBounds 7 (.int .i64 f.y)).setIfInBounds 72 (.int .i64 (-1))
theorem rZ_get (c ip np : Nat) (f : Cf) (w : World) (e : TypeId) (N : Nat) (hN : N = w.heap.size) : Wo (w.alloc (.cells (rZ c ip np f) e)) N c ip np f (fun _ => 0) (-1) := by
 have hz := rzsize
 have hs : (rZ c ip np f).size = 73 := by unfold rZ; simp [hz]
 refine ⟨cell_newA _ _ _ _ hN 0 _ ?_, cell_newA _ _ _ _ hN 1 _ ?_, cell_newA _ _ _ _ hN 2 _ ?_, cell_newA _ _ _ _ hN 3 _ ?_, cell_newA _ _ _ _ hN 4 _ ?_, cell_newA _ _ _ _ hN 5 _ ?_, cell_newA _ _ _ _ hN 6 _ ?_, cell_newA _ _ _ _ hN 7 _ ?_, fun j hj => cell_newA _ _ _ _ hN _ _ ?_, cell_newA _ _ _ _ hN 72 _ ?_, fun j => frozen_newA _ _ _ _ hN j, by subst hN; simp⟩
 case refine_9 =>
  unfold rZ
  repeat rw [Array.getElem?_setIfInBounds_ne (by omega)]
  exact rzero_tickets j hj
 all_goals (unfold rZ; simp [Array.getElem?_setIfInBounds, hz])
theorem NewRW.mk {w W : World} {O O1 : Om} {c ip np p : Nat} {M : Int → Int} {f : Cf} (E : Ext SR O w O1 W) (R : RC W O1 6 c M 0 ⟨0, 0, 0, 0⟩ 1) (zi : O1 ip = 0) (zn : O1 np = 0) (zp : O1 p = 0) (bi : w.heap.size ≤ ip ∧ ip < W.heap.size) (bn : w.heap.size ≤ np ∧ np < W.heap.size) (bp : w.heap.size ≤ p ∧ p < W.heap.size) (n1 : ip ≠ np) (n2 : p ≠ ip) (n3 : p ≠ np)
 (ci : W.cell? ⟨ip, 0, none⟩ = some (.slice none 0 0)) (fi : ∀ j, W.frozen? ⟨ip, j, none⟩ = false) (cn : W.cell? ⟨np, 0, none⟩ = some (.slice none 0 0)) (fn : ∀ j, W.frozen? ⟨np, j, none⟩ = false) (wo : Wo W p c ip np f (fun _ => 0) (-1)) :
 ∃ O', Ext SR O w O' W ∧ RW W O' ⟨p, c, ip, np⟩ f ⟨M, 0, ⟨0, 0, 0, 0⟩, fun _ => 0, -1, [], []⟩ 1 := by
 obtain ⟨G, hG⟩ : ∃ G : Om, ∀ j, G j = if j = p then 5 else if j = ip then 7 else if j = np then 8 else O1 j := ⟨_, fun _ => rfl⟩
 have gp : G p = 5 := by rw [hG, if_pos rfl]
 have gi : G ip = 7 := by rw [hG, if_neg (Ne.symm n2), if_pos rfl]
 have gn : G np = 8 := by rw [hG, if_neg (Ne.symm n3), if_neg (Ne.symm n1), if_pos rfl]
 have go : ∀ j, O1 j ≠ 0 → G j = O1 j := fun j hj => by rw [hG, if_neg (fun e => hj (by rw [e]; exact zp)), if_neg (fun e => hj (by rw [e]; exact zi)), if_neg (fun e => hj (by rw [e]; exact zn))]
 have gany : ∀ j, G j ≠ 0 → (j = p ∧ G j = 5) ∨ (j = ip ∧ G j = 7) ∨ (j = np ∧ G j = 8) ∨ (O1 j ≠ 0 ∧ G j = O1 j) := by
  intro j hj
  by_cases e1 : j = p
  · exact .inl ⟨e1, e1 ▸ gp⟩
  · by_cases e2 : j = ip
    · exact .inr (.inl ⟨e2, e2 ▸ gi⟩)
    · by_cases e3 : j = np
      · exact .inr (.inr (.inl ⟨e3, e3 ▸ gn⟩))
      · have : G j = O1 j := by rw [hG, if_neg e1, if_neg e2, if_neg e3]
        exact .inr (.inr (.inr ⟨this ▸ hj, this⟩))
 have hhi : ∀ j, G j ≠ 0 → j < W.heap.size := fun j hj => by
  rcases gany j hj with h | h | h | h
  · rw [h.1]; exact bp.2
  · rw [h.1]; exact bi.2
  · rw [h.1]; exact bn.2
  · exact E.hi j h.1
 refine ⟨G, ⟨fun j hj => ?_, hhi, fun j hj hn => ?_, E.wr⟩, gp, wo, ?_, ⟨.slice none 0 0, ⟨gi, bi.2, fun j u hu => ?_, fi⟩, World.ownsRow_nil _ _ _ _, fun k hk => by cases hk⟩, ⟨.slice none 0 0, ⟨gn, bn.2, fun j u hu => ?_, fn⟩, World.ownsRow_nil _ _ _ _, fun k hk => by cases hk⟩⟩
 · rw [hG, if_neg (by omega), if_neg (by omega), if_neg (by omega)]; exact E.lo j hj
 · rcases gany j hn with h | h | h | h
   · rw [h.2]; exact ⟨by decide, by decide⟩
   · rw [h.2]; exact ⟨by decide, by decide⟩
   · rw [h.2]; exact ⟨by decide, by decide⟩
   · rw [h.2]; exact E.nw j hj h.1
 · obtain ⟨v, L, h1, h2, h3, h4, h5, h6, h7⟩ := R.ex
   exact ⟨v, L, h1, h2, h3, h4, ⟨(go _ (by rw [h5.o]; decide)).trans h5.o, h5.lt, h5.c, h5.f⟩, h6, fun k hk => ⟨(go _ (by rw [(h7 k hk).1]; decide)).trans (h7 k hk).1, (h7 k hk).2⟩⟩
 · match j, hu with
   | 0, hu => cases hu; exact ci
 · match j, hu with
   | 0, hu => cases hu; exact cn
theorem NewRW.fin {w W' : World} {O O1 : Om} {c ip np P : Nat} {f : Cf} {e : TypeId} (hP : P = W'.heap.size) (E : Ext SR O w O1 W') (R : RC W' O1 6 c (upd (fun _ => 0) 2 (plWord f.b 0)) 0 ⟨0, 0, 0, 0⟩ 1) (zi : O1 ip = 0) (zn : O1 np = 0) (bi : w.heap.size ≤ ip ∧ ip < W'.heap.size) (bn : w.heap.size ≤ np ∧ np < W'.heap.size) (n1 : ip ≠ np)
 (ci : W'.cell? ⟨ip, 0, none⟩ = some (.slice none 0 0)) (fi : ∀ j, W'.frozen? ⟨ip, j, none⟩ = false) (cn : W'.cell? ⟨np, 0, none⟩ = some (.slice none 0 0)) (fn : ∀ j, W'.frozen? ⟨np, j, none⟩ = false) :
 ∃ B, RP SR w O (.tuple #[.pointer (some ⟨B.p, 0, none⟩), .int .i64 0]) (fun W G => RW W G B f (aw0 f.b) 1) (.returned (.tuple #[.pointer (some ⟨P, 0, none⟩), .int .i64 0])) (W'.alloc (.cells (rZ c ip np f) e)) := by
 subst hP
 have hb : Below W'.heap.size W' (W'.alloc (.cells (rZ c ip np f) e)) := (Below.refl _ _).alloc (Nat.le_refl _) _
 have hz : (W'.alloc (.cells (rZ c ip np f) e)).heap.size = W'.heap.size + 1 := World.heap_size_alloc' _ _
 have zp : O1 W'.heap.size = 0 := by
  by_cases h : O1 W'.heap.size = 0
  · exact h
  · exact absurd (E.hi _ h) (by omega)
 have hs := E.size
 obtain ⟨G, g1, g2⟩ := NewRW.mk (p := W'.heap.size) (E.below hb) (R.below hb) zi zn zp ⟨bi.1, by omega⟩ ⟨bn.1, by omega⟩ ⟨by omega, by omega⟩ n1 (by omega) (by omega) ((hb.cell (p := ⟨ip, 0, none⟩) bi.2).trans ci) (fun j => (hb.frozen (p := ⟨ip, j, none⟩) bi.2).trans (fi j)) ((hb.cell (p := ⟨np, 0, none⟩) bn.2).trans cn) (fun j => (hb.frozen (p := ⟨np, j, none⟩) bn.2).trans (fn j)) (rZ_get c ip np f W' e _ rfl)
 exact ⟨⟨W'.heap.size, c, ip, np⟩, rfl, G, g1, g2⟩
end
section
open Go.RowKit
theorem below_set6 {B : Nat} {a w : World} (h : Below B a w) {b : Nat} (hb : B ≤ b) (v0 v1 v2 v3 v4 v5 : Value) : Below B a (set6 w b 0 v0 v1 v2 v3 v4 v5) := by
 unfold set6
 exact (((((h.setCell (p := ⟨b, 0, none⟩) hb v0).setCell (p := ⟨b, 0 + 1, none⟩) hb v1).setCell (p := ⟨b, 0 + 2, none⟩) hb v2).setCell (p := ⟨b, 0 + 3, none⟩) hb v3).setCell (p := ⟨b, 0 + 4, none⟩) hb v4).setCell (p := ⟨b, 0 + 5, none⟩) hb v5
theorem c_IAt_no (r : Int) {w : World} {O : Om} {t ip : Nat} {l : List It} (h : Ar w O t ip l) (hl : l.length ≤ 1000000) (hr : ¬ (1 ≤ r ∧ r ≤ l.length)) :
 Calls Tryz.prog 35 #[.pointer (some ⟨ip, 0, none⟩), .int .i64 r] w fun e w' => e = .returned (.tuple #[.agg #[.string ⟨#[]⟩, .string ⟨#[]⟩, .int .u32 0, .int .u64 0, .int .i64 0, .int .i64 0], .bool false]) ∧ Below w.heap.size w w' := by
 obtain ⟨v, bl, hC, h1, h2⟩ := h.core
 have q1 := ((Below.refl w.heap.size w).alloc (Nat.le_refl _) (.cells #[.string ⟨#[]⟩, .string ⟨#[]⟩, .int .u32 0, .int .u64 0, .int .i64 0, .int .i64 0] 34)).cell (p := ⟨ip, 1, none⟩) hC.lt
 rw [hC.c1] at q1
 have hCt : ∀ W : World, W.cell? ⟨ip, 1, none⟩ = some (.int .i64 l.length) → Calls Tryz.prog 86 #[.pointer (some ⟨ip, 0, none⟩)] W fun e w' => e = .returned (.int .i64 l.length) ∧ W = w' := by
  intro W hW
  go_enter Tryz.func86, Tryz.ntmps86
  go_wp2
  go_ret
  exact ⟨rfl, rfl⟩
 have HCt := Lib.hid (hCt _ q1)
 clear hCt h hC h1 h2
 by_cases hr1 : r < 1
 · have e1 : decide (r < 1) = true := by simp [hr1]
   clear hr HCt
   go_enter Tryz.func35, Tryz.ntmps35
   go_wp2
   exact bodyPost_ret (v := .tuple #[.agg #[.string ⟨#[]⟩, .string ⟨#[]⟩, .int .u32 0, .int .u64 0, .int .i64 0, .int .i64 0], .bool false]) (by simp [results, Tryz.results35, go_sem]) rfl ⟨rfl, by first | exact (Below.refl _ _).alloc (Nat.le_refl _) _ | exact below_set6 ((Below.refl _ _).alloc (Nat.le_refl _) _) (Nat.le_refl _) _ _ _ _ _ _⟩
 · have e1 : decide (r < 1) = false := by simp; omega
   have e2 : decide ((l.length : Int) < r) = true := by simp; omega
   clear hr
   go_enter Tryz.func35, Tryz.ntmps35
   go_wp2_with fail
   refine (HCt.out).mono ?_
   rintro e w' ⟨rfl, rfl⟩
   go_wp2
   exact bodyPost_ret (v := .tuple #[.agg #[.string ⟨#[]⟩, .string ⟨#[]⟩, .int .u32 0, .int .u64 0, .int .i64 0, .int .i64 0], .bool false]) (by simp [results, Tryz.results35, go_sem]) rfl ⟨rfl, by first | exact (Below.refl _ _).alloc (Nat.le_refl _) _ | exact below_set6 ((Below.refl _ _).alloc (Nat.le_refl _) _) (Nat.le_refl _) _ _ _ _ _ _⟩
theorem c_IAt_yes (r : Int) (k : Nat) (x : It) {w : World} {O : Om} {t ip : Nat} {l : List It} (h : Ar w O t ip l) (hl : l.length ≤ 1000000) (hk : l[k]? = some x) (hr : r = k + 1) :
 Calls Tryz.prog 35 #[.pointer (some ⟨ip, 0, none⟩), .int .i64 r] w fun e w' => e = .returned (.tuple #[.agg #[.string x.key, .string x.val, .int .u32 x.fl, .int .u64 x.id, .int .i64 x.dies, .int .i64 x.gen], .bool true]) ∧ Below w.heap.size w w' := by
 obtain ⟨v, bl, hC0, h1, h2⟩ := h.core
 have hkl := (List.getElem?_eq_some_iff.1 hk).1
 have hb0 : Below w.heap.size w (w.alloc (.cells #[.string ⟨#[]⟩, .string ⟨#[]⟩, .int .u32 0, .int .u64 0, .int .i64 0, .int .i64 0] 34)) := (Below.refl _ _).alloc (Nat.le_refl _) _
 have hC := hC0.below hb0
 have q1 := hC.c1
 have hCt : ∀ W : World, W.cell? ⟨ip, 1, none⟩ = some (.int .i64 l.length) → Calls Tryz.prog 86 #[.pointer (some ⟨ip, 0, none⟩)] W fun e w' => e = .returned (.int .i64 l.length) ∧ W = w' := by
  intro W hW
  go_enter Tryz.func86, Tryz.ntmps86
  go_wp2
  go_ret
  exact ⟨rfl, rfl⟩
 have HCt := Lib.hid (hCt _ q1)
 have e1 : decide (r < 1) = false := by simp; omega
 have e2 : decide ((l.length : Int) < r) = false := by simp; omega
 have hbk : k / 64 < bl.length := by omega
 have HPL := Lib.hid (c_place ip k v bl _ hC.c0 (Arr.of_own hC.row) (by omega) (by omega))
 obtain ⟨b, hb⟩ : ∃ b, b = bl[k / 64] := ⟨_, rfl⟩
 rw [← hb] at HPL
 have hbm : bl[k / 64]? = some b := by rw [hb, List.getElem?_eq_getElem hbk]
 have hx := hC.it k x b hk hbm
 have hm6 : 6 * (k % 64) = k % 64 * 6 := Nat.mul_comm _ _
 rw [hm6] at hx
 have x0 := hx 0 _ rfl
 have x1 := hx 1 _ rfl
 have x2 := hx 2 _ rfl
 have x3 := hx 3 _ rfl
 have x4 := hx 4 _ rfl
 have x5 := hx 5 _ rfl
 have hrk : r - 1 = (k : Int) := by omega
 have hr9 : 1 ≤ r ∧ r ≤ 1000001 := by omega
 obtain ⟨kk, hkk⟩ : ∃ kk, kk = k % 64 * 6 := ⟨_, rfl⟩
 rw [← hkk] at HPL x0 x1 x2 x3 x4 x5
 rw [Nat.add_zero] at x0
 clear hCt h hC hC0 h1 h2 hx hm6 hb hbm hbk hkk hb0
 subst hr
 clear hrk
 go_enter Tryz.func35, Tryz.ntmps35
 go_wp2_with fail
 refine (HCt.out).mono ?_
 rintro e w' ⟨rfl, rfl⟩
 go_wp2_with fail
 refine (HPL.out).mono ?_
 rintro e w' ⟨rfl, rfl⟩
 go_wp2
 exact bodyPost_ret (v := .tuple #[.agg #[.string x.key, .string x.val, .int .u32 x.fl, .int .u64 x.id, .int .i64 x.dies, .int .i64 x.gen], .bool true]) (by simp [results, Tryz.results35, go_sem]) rfl ⟨rfl, by first | exact (Below.refl _ _).alloc (Nat.le_refl _) _ | exact below_set6 ((Below.refl _ _).alloc (Nat.le_refl _) _) (Nat.le_refl _) _ _ _ _ _ _⟩
theorem LH.snoc {α : Type} {W w1 : World} {O : Om} {t h g cap size : Nat} {E : TypeId} {f : α → List Value} {l : List α} {x : α} {v : Value} {o : Obj} (ht : t ≠ 0) (hhi : ∀ j, O j ≠ 0 → j < W.heap.size) (hO : Ob W O t h [v]) (hr : W.ownsRow 0 E size v l.length (rowOf f l)) (hv : ∀ k, v.ownBlock = some k → O k = t ∧ k ≠ h)
 (own : w1.ownsRow 0 E size (.slice (some ⟨g, 0, none⟩) (l.length + 1) cap) (l.length + 1) (rowOf f l ++ f x)) (hg : (W.alloc o).drew.grownBy w1 v.ownBlock) (hat : v.ownBlock = some g ∨ g = W.heap.size + 1) (hgl : g < w1.heap.size) :
 ∃ O', Ext (fun j => j = t) O W O' (w1.setCell ⟨h, 0, none⟩ (.slice (some ⟨g, 0, none⟩) (l.length + 1) cap)) ∧ LH (w1.setCell ⟨h, 0, none⟩ (.slice (some ⟨g, 0, none⟩) (l.length + 1) cap)) O' t E size f h (l ++ [x]) := by
 have hw : Wrote (fun k => v.ownBlock = some k) W w1 := (((Wrote.refl _ _).alloc o).drew).grown hg fun k hk _ => hk
 have hvo : ∀ k, v.ownBlock = some k → k < W.heap.size := fun k hk => (hr.lt k hk).2
 have hvh : v.ownBlock ≠ some h := fun e => (hv h e).2 rfl
 have hlt := hO.lt
 have hgh : g ≠ h := by
  rcases hat with e | e
  · exact (hv g e).2
  · omega
 have hs := hw.size
 obtain ⟨G, hG⟩ : ∃ G : Om, ∀ j, G j = if j = g then t else O j := ⟨_, fun _ => rfl⟩
 have gold : ∀ j, j < W.heap.size → G j = O j := fun j hj => by
  rw [hG]
  by_cases e : j = g
  · rw [if_pos e]
    rcases hat with e2 | e2
    · subst e; exact ((hv j e2).1).symm
    · omega
  · rw [if_neg e]
 obtain ⟨W3, hW3⟩ : ∃ W3, W3 = w1.setCell ⟨h, 0, none⟩ (.slice (some ⟨g, 0, none⟩) (l.length + 1) cap) := ⟨_, rfl⟩
 have z3 : W3.heap.size = w1.heap.size := by rw [hW3]; simp
 have h3 : Wrote (fun k => k = h) w1 W3 := by rw [hW3]; exact Wrote.setCell (S := fun k => k = h) (Wrote.refl _ _) (p := ⟨h, 0, none⟩) (fun _ => rfl) _
 rw [← hW3]
 refine ⟨G, ⟨gold, fun j hj => ?_, fun j hj hn => ?_, ?_⟩, .slice (some ⟨g, 0, none⟩) (l.length + 1) cap, ⟨(gold h hlt).trans hO.o, by omega, fun j u hu => ?_, fun j => ?_⟩, ?_, fun k hk => ?_⟩
 · rw [hG] at hj
   by_cases e : j = g
   · omega
   · rw [if_neg e] at hj; have := hhi j hj; omega
 · rw [hG] at hn ⊢
   by_cases e : j = g
   · rw [if_pos e]
   · rw [if_neg e] at hn; have := hhi j hn; omega
 · refine (hw.mono (T := fun k => O k = t ∧ O k ≠ 0) fun k _ hk => ⟨(hv k hk).1, by rw [(hv k hk).1]; exact ht⟩).trans h3 fun n _ e => ?_
   subst e; exact ⟨hO.o, by rw [hO.o]; exact ht⟩
 · match j, hu with
   | 0, hu =>
     cases hu
     rw [hW3]
     exact World.cell?_setCell_same _ _ _ ((hw.cell (p := ⟨h, 0, none⟩) hlt hvh).trans (hO.c 0 _ rfl))
 · rw [hW3, World.frozen?_setCell]
   exact (hw.frozen (p := ⟨h, j, none⟩) hlt hvh).trans (hO.f j)
 · rw [rowOf_snoc, List.length_append]
   exact h3.own own fun k hk e => by cases hk; exact hgh e
 · cases hk
   exact ⟨by rw [hG, if_pos rfl], hgh⟩
end
section
open Go.RowKit
theorem RW.notes {w w' : World} {O O' : Om} {B : Wb} {f : Cf} {s : AW} {m : Nat} {l : List Nt} (h : RW w O B f s m) (e : Ext (fun t => t = 8) O w O' w') (hc : LH w' O' 8 172 8 ntr B.np l) : RW w' O' B f ⟨s.M, s.n, s.la, s.tk, s.ho, s.it, l⟩ m :=
 ⟨(e.lo _ h.wo.lt).trans h.o, h.wo.wrote e.wr (fun k => absurd (show (5 : Nat) = 8 from by have := k.1; rwa [h.o] at this) (by decide)), h.ce.ext e (by decide), h.ar.ext e (by decide), hc⟩
end
end Go.Proofs.YtifkfhnbkjkakaaGreatDoor
