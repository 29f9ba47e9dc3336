/- Layer 10: contracts of a new world. Whose a block is: one map of owners for all objects that a law's run makes; what a step leaves as it was. Contracts that other seats of ours hold too (taken by sub.py). Layer 10: a new world, all that belongs to it told by its owners. What layer 7 computes, in plain Lean: an epoch's word, a tick, a flush, when an item dies, whether it is alive. Contracts of layer 7's functions. Contracts of layer 7's functions: a tick, a flush. Layer 10: the world's tick; what the world tells. Layers 2, 10: of a word that is 0 each tag is 0; a note of a world. -/
import Derived.Test.YtifkfhnbkjkakaaGreatDoorZrBaB
import Derived.Test.YtifkfhnbkjkakaaGreatDoorZrBaA
import Derived.BigRegion
import Derived.Deep.DeepCutAuto
import Derived.Deep.RegionHeld3
import Derived.Deep.RegionLaw
import Derived.Laws.AppendOwnNone
import Derived.Laws.BitsAllLaws
import Derived.Laws.BitsLemmas
import Derived.Outline
import Derived.Test.YtifkfhnbkjkakaaGreatDoorRows
namespace Go.Proofs.YtifkfhnbkjkakaaGreatDoor
set_option linter.unusedSimpArgs false
set_option linter.unusedVariables false
set_option maxHeartbeats 2000000
set_option maxRecDepth 100000
section
open Go.RowKit
theorem cell_new (w : World) (cs : List Value) (e : TypeId) (N : Nat) (hN : N = w.heap.size) (j : Nat) (u : Value) (hj : cs[j]? = some u) : (w.alloc (.cells cs.toArray e)).cell? ⟨N, j, none⟩ = some u := by
 subst hN
 unfold World.cell?
 rw [heap_alloc_new]
 simpa using hj
theorem frozen_new (w : World) (cs : List Value) (e : TypeId) (N : Nat) (hN : N = w.heap.size) (j : Nat) : (w.alloc (.cells cs.toArray e)).frozen? ⟨N, j, none⟩ = false := by
 subst hN
 unfold World.frozen?
 rw [heap_alloc_new]
 simp
theorem World.heap_size_alloc' (w : World) (o : Obj) : (w.alloc o).heap.size = w.heap.size + 1 := by simp
theorem cell_newA (w : World) (cs : Array Value) (e : TypeId) (N : Nat) (hN : N = w.heap.size) (j : Nat) (u : Value) (hj : cs[j]? = some u) : (w.alloc (.cells cs e)).cell? ⟨N, j, none⟩ = some u := by
 subst hN
 unfold World.cell?
 rw [heap_alloc_new]
 simpa using hj
theorem frozen_newA (w : World) (cs : Array Value) (e : TypeId) (N : Nat) (hN : N = w.heap.size) (j : Nat) : (w.alloc (.cells cs e)).frozen? ⟨N, j, none⟩ = false := by
 subst hN
 unfold World.frozen?
 rw [heap_alloc_new]
 simp
theorem Cl.start (w : World) (e : TypeId) (N : Nat) (hN : N = w.heap.size) : Cl (w.alloc (.cells #[.map none, .int .i64 0, .int .u8 0, .int .u64 0, .int .u64 0, .int .u64 0] e)) (fun j => j = N) N [] 0 0 0 0 0 :=
 ⟨.inl ⟨rfl, cell_new w [.map none, .int .i64 0, .int .u8 0, .int .u64 0, .int .u64 0, .int .u64 0] e N hN 0 _ rfl⟩, cell_new w [.map none, .int .i64 0, .int .u8 0, .int .u64 0, .int .u64 0, .int .u64 0] e N hN 1 _ rfl, cell_new w [.map none, .int .i64 0, .int .u8 0, .int .u64 0, .int .u64 0, .int .u64 0] e N hN 2 _ rfl, cell_new w [.map none, .int .i64 0, .int .u8 0, .int .u64 0, .int .u64 0, .int .u64 0] e N hN 3 _ rfl, cell_new w [.map none, .int .i64 0, .int .u8 0, .int .u64 0, .int .u64 0, .int .u64 0] e N hN 4 _ rfl, cell_new w [.map none, .int .i64 0, .int .u8 0, .int .u64 0, .int .u64 0, .int .u64 0] e N hN 5 _ rfl,
   fun j => frozen_new w [.map none, .int .i64 0, .int .u8 0, .int .u64 0, .int .u64 0, .int .u64 0] e N hN j, by subst hN; simp, rfl, (fun d hd => by cases hd), by simp, by simp⟩
def CNewPost (w : World) (x v : Int) (e : Ending) (w' : World) : Prop :=
 ∃ c F', e = .returned (.pointer (some ⟨c, 0, none⟩)) ∧ Ce w' F' c (upd (fun _ => 0) x v) 0 ⟨0, 0, 0, 0⟩ ∧ (∀ j, F' j → w.heap.size ≤ j) ∧ Below w.heap.size w w'
theorem c_CNew (w : World) (b : Nat) (x v : Int) (h0 : w.cell? ⟨b, 0, none⟩ = some (.int .u64 x)) (h1 : w.cell? ⟨b, 1, none⟩ = some (.int .u64 v)) (hb : b < w.heap.size) (x0 : 0 ≤ x) (x1 : x < 18446744073709551616) (v0 : 0 ≤ v) (v1 : v < 18446744073709551616) :
 Calls Tryz.prog 79 #[.slice (some ⟨b, 0, none⟩) 1 1] w (CNewPost w x v) := by
 have hs := Cl.start w 115 w.heap.size rfl
 have HS := Lib.hid (hs.below ((Below.refl _ _).alloc (Nat.le_refl _) (.cells #[.int .u64 x, .int .u64 v] 178)))
 clear hs
 go_enter Tryz.func79, Tryz.ntmps79
 go_wp2
 refine wp_loop_rounds 2 ?_
 rw [rounds_succ]
 go_wp2
 obtain ⟨W, hW⟩ : ∃ W, W = (w.alloc (.cells #[.map none, .int .i64 0, .int .u8 0, .int .u64 0, .int .u64 0, .int .u64 0] 115)).alloc (.cells #[.int .u64 x, .int .u64 v] 178) := ⟨_, rfl⟩
 have hz : W.heap.size = w.heap.size + 2 := by rw [hW]; simp
 have k0 : W.cell? ⟨w.heap.size + 1, 0, none⟩ = some (.int .u64 x) := by rw [hW]; exact cell_new _ [.int .u64 x, .int .u64 v] _ _ (by simp) 0 _ rfl
 have k1 : W.cell? ⟨w.heap.size + 1, 1, none⟩ = some (.int .u64 v) := by rw [hW]; exact cell_new _ [.int .u64 x, .int .u64 v] _ _ (by simp) 1 _ rfl
 have hB : Below w.heap.size w W := by rw [hW]; exact ((Below.refl _ _).alloc (Nat.le_refl _) _).alloc (by simp) _
 have HS2 := HS.out
 rw [← hW] at HS2 ⊢
 have Hat := Lib.hid (c_at W.drew (fun j => j = w.heap.size) w.heap.size [] 0 0 0 0 0 x (HS2.wrote (S := fun _ => False) (Wrote.refl _ _).drew fun _ _ h => h) (fun j hj => by subst hj; show _ < W.heap.size; omega) x0 x1)
 have HB := Lib.hid hB
 have HZ := Lib.hid hz
 clear HS HS2 hW hB hz h0 h1
 go_region_held3 (fun w' => w'.cell? ⟨w.heap.size + 1, 0, none⟩ = some (.int .u64 x) ∧ w'.cell? ⟨w.heap.size + 1, 1, none⟩ = some (.int .u64 v)) (go_keep)
  (first
    | (go_at_call 145; refine (Hat.out).mono ?_; rintro e w1 ⟨L1, F1, d, rfl, h1, hd1, hda, hv1, hg1, hw1⟩
       have q0 := (hw1.cell (p := ⟨w.heap.size + 1, 0, none⟩) (by have := HZ.out; show w.heap.size + 1 < W.heap.size; omega) (by show ¬ w.heap.size + 1 = w.heap.size; omega)).trans k0
       have q1 := (hw1.cell (p := ⟨w.heap.size + 1, 1, none⟩) (by have := HZ.out; show w.heap.size + 1 < W.heap.size; omega) (by show ¬ w.heap.size + 1 = w.heap.size; omega)).trans k1
       have hdn : d.b ≠ w.heap.size + 1 := by
        intro e
        have hz := HZ.out
        rcases hg1.new _ (h1.wd d hd1).mem with h | h
        · omega
        · have h2 : W.heap.size ≤ d.b := h
          omega
       have H1 := Lib.hid h1
       have Hd1 := Lib.hid hd1
       have Hda := Lib.hid hda
       have Hv1 := Lib.hid hv1
       have Hg1 := Lib.hid hg1
       have Hw1 := Lib.hid hw1
       clear h1 hd1 hda hv1 hg1 hw1)
    | (go_at_call 146; refine (c_aStore (H1.out.wd d Hd1.out).cell (H1.out.wd d Hd1.out).free v).mono ?_; rintro e w3 ⟨rfl, rfl⟩))
 all_goals
  have HE : Hid (CNewPost w x v (.returned (.pointer (some ⟨w.heap.size, 0, none⟩))) (w1.setCell ⟨d.b, 0, none⟩ (.int .u64 v))) := by
   have h1 := H1.out
   have hd1 := Hd1.out
   have hda := Hda.out
   have hz := HZ.out
   have hwd := h1.wd d hd1
   have hsw : Wrote (fun j => j = d.b) w1 (w1.setCell ⟨d.b, 0, none⟩ (.int .u64 v)) := Wrote.setCell (S := fun j => j = d.b) (Wrote.refl _ _) (p := ⟨d.b, 0, none⟩) (fun _ => rfl) _
   have h2 := Cl.put (v := v) h1 hd1 v0 v1 hsw (fun j _ h => h) (World.cell?_setCell_same _ _ _ hwd.cell) ((World.frozen?_setCell _ _ _ _).trans hwd.free)
   refine Lib.hid ⟨w.heap.size, F1, rfl, ⟨⟨_, h2, fun y => ?_⟩, fun j hj => Nat.lt_of_lt_of_le (Hg1.out.lts j hj) hsw.size⟩, fun j hj => ?_, ?_⟩
   · rw [cval_put hd1, Hv1.out, hda]; rfl
   · rcases Hg1.out.new j hj with h | h
     · omega
     · have h2 : W.heap.size ≤ j := h
       omega
   · refine (HB.out.drew.trans (Hw1.out.below (B := w.heap.size) (fun k _ h => by omega) (by show w.heap.size ≤ W.heap.size; omega))).trans (hsw.below (B := w.heap.size) (fun k _ h => ?_) (by have := Hw1.out.size; have h2 : W.heap.size ≤ w1.heap.size := this; omega))
     subst h
     rcases Hg1.out.new _ hwd.mem with h | h
     · omega
     · have h2 : W.heap.size ≤ d.b := h
       omega
  go_wp2
  rw [rounds_succ]
  go_wp2
  go_ret
  exact HE.out
structure Cf where
 b : Int
 g : Int
 t : Int
 q : Int
 y : Int
structure Cf.may (f : Cf) : Prop where
 b0 : 1 ≤ f.b
 b1 : f.b ≤ 12
 g0 : 1 ≤ f.g
 g1 : f.g ≤ 65536
 t0 : 0 ≤ f.t
 t1 : f.t ≤ 16
 q0 : 1 ≤ f.q
 q1 : f.q ≤ 8
 y0 : 2 ≤ f.y
 y1 : f.y ≤ 256
theorem c_WMay (f : Cf) (w : World) (h : f.may) : Calls Tryz.prog 77 #[.agg #[.int .i64 f.b, .int .i64 f.g, .int .i64 f.t, .int .i64 f.q, .int .i64 f.y]] w fun e w' => e = .returned (.bool true) ∧ Below w.heap.size w w' := by
 obtain ⟨b, g, t, q, y⟩ := f
 obtain ⟨b0, b1, g0, g1, t0, t1, q0, q1, y0, y1⟩ := h
 dsimp only at b0 b1 g0 g1 t0 t1 q0 q1 y0 y1 ⊢
 have i0 : ∀ W : World, (Instr.index 258 (.agg #[.int .i64 b, .int .i64 1, .int .i64 12, .int .i64 g, .int .i64 1, .int .i64 65536, .int .i64 t, .int .i64 0, .int .i64 16, .int .i64 q, .int .i64 1, .int .i64 8, .int .i64 y, .int .i64 2, .int .i64 256]) (.int .i64 0)).run Tryz.prog W = .ok (.agg #[.int .i64 b, .int .i64 1, .int .i64 12]) W := fun _ => by kernel_rfl
 have i1 : ∀ W : World, (Instr.index 258 (.agg #[.int .i64 b, .int .i64 1, .int .i64 12, .int .i64 g, .int .i64 1, .int .i64 65536, .int .i64 t, .int .i64 0, .int .i64 16, .int .i64 q, .int .i64 1, .int .i64 8, .int .i64 y, .int .i64 2, .int .i64 256]) (.int .i64 1)).run Tryz.prog W = .ok (.agg #[.int .i64 g, .int .i64 1, .int .i64 65536]) W := fun _ => by kernel_rfl
 have i2 : ∀ W : World, (Instr.index 258 (.agg #[.int .i64 b, .int .i64 1, .int .i64 12, .int .i64 g, .int .i64 1, .int .i64 65536, .int .i64 t, .int .i64 0, .int .i64 16, .int .i64 q, .int .i64 1, .int .i64 8, .int .i64 y, .int .i64 2, .int .i64 256]) (.int .i64 2)).run Tryz.prog W = .ok (.agg #[.int .i64 t, .int .i64 0, .int .i64 16]) W := fun _ => by kernel_rfl
 have i3 : ∀ W : World, (Instr.index 258 (.agg #[.int .i64 b, .int .i64 1, .int .i64 12, .int .i64 g, .int .i64 1, .int .i64 65536, .int .i64 t, .int .i64 0, .int .i64 16, .int .i64 q, .int .i64 1, .int .i64 8, .int .i64 y, .int .i64 2, .int .i64 256]) (.int .i64 3)).run Tryz.prog W = .ok (.agg #[.int .i64 q, .int .i64 1, .int .i64 8]) W := fun _ => by kernel_rfl
 have i4 : ∀ W : World, (Instr.index 258 (.agg #[.int .i64 b, .int .i64 1, .int .i64 12, .int .i64 g, .int .i64 1, .int .i64 65536, .int .i64 t, .int .i64 0, .int .i64 16, .int .i64 q, .int .i64 1, .int .i64 8, .int .i64 y, .int .i64 2, .int .i64 256]) (.int .i64 4)).run Tryz.prog W = .ok (.agg #[.int .i64 y, .int .i64 2, .int .i64 256]) W := fun _ => by kernel_rfl
 go_enter Tryz.func77, Tryz.ntmps77
 go_wp2
 refine wp_loop_rounds 6 ?_
 rw [rounds_succ]
 go_wp2
 rw [rounds_succ]
 go_wp2
 rw [rounds_succ]
 go_wp2
 rw [rounds_succ]
 go_wp2
 rw [rounds_succ]
 go_wp2
 rw [rounds_succ]
 go_wp2
 go_ret
 exact ⟨rfl, by repeat (first | exact Below.refl _ _ | refine below_alloc ?_ _)⟩
theorem c_INew (w : World) : Calls Tryz.prog 80 #[] w fun e w' => e = .returned (.pointer (some ⟨w.heap.size, 0, none⟩)) ∧ w.alloc (.cells #[.slice none 0 0, .int .i64 0] 263) = w' := by
 go_enter Tryz.func80, Tryz.ntmps80
 go_wp2
 go_ret
 exact ⟨rfl, rfl⟩
theorem c_NNew (w : World) : Calls Tryz.prog 81 #[] w fun e w' => e = .returned (.pointer (some ⟨w.heap.size, 0, none⟩)) ∧ w.alloc (.cells #[.slice none 0 0] 208) = w' := by
 go_enter Tryz.func81, Tryz.ntmps81
 go_wp2
 go_ret
 exact ⟨rfl, rfl⟩
def isZ : Option Value → Bool
 | some (.int .u64 0) => true
 | _ => false
theorem isZ_eq {o : Option Value} (h : isZ o = true) : o = some (.int .u64 0) := by
 unfold isZ at h
 split at h
 · rfl
 · cases h
theorem zero_tickets (j : Nat) (hj : j < 64) : Tryz.zeroCells47[8 + j]? = some (.int .u64 0) := by
 have h : (List.range 64).all (fun j => isZ (Tryz.zeroCells47[8 + j]?)) = true := by kernel_rfl
 exact isZ_eq (List.all_eq_true.1 h j (by simpa using hj))
structure Wo (w : World) (p c ip np : Nat) (f : Cf) (tk : Nat → Int) (ho : Int) : Prop where
 c0 : w.cell? ⟨p, 0, none⟩ = some (.pointer (some ⟨c, 0, none⟩))
 c1 : w.cell? ⟨p, 1, none⟩ = some (.pointer (some ⟨ip, 0, none⟩))
 c2 : w.cell? ⟨p, 2, none⟩ = some (.pointer (some ⟨np, 0, none⟩))
 c3 : w.cell? ⟨p, 3, none⟩ = some (.int .i64 f.b)
 c4 : w.cell? ⟨p, 4, none⟩ = some (.int .i64 f.g)
 c5 : w.cell? ⟨p, 5, none⟩ = some (.int .i64 f.t)
 c6 : w.cell? ⟨p, 6, none⟩ = some (.int .i64 f.q)
 c7 : w.cell? ⟨p, 7, none⟩ = some (.int .i64 f.y)
 tk : ∀ j, j < 64 → w.cell? ⟨p, 8 + j, none⟩ = some (.int .u64 (tk j))
 ho : w.cell? ⟨p, 72, none⟩ = some (.int .i64 ho)
 fr : ∀ j, w.frozen? ⟨p, j, none⟩ = false
 lt : p < w.heap.size
theorem Wo.wrote {w w' : World} {S : Nat → Prop} {p c ip np : Nat} {f : Cf} {tk : Nat → Int} {ho : Int} (h : Wo w p c ip np f tk ho) (hw : Wrote S w w') (hs : ¬ S p) : Wo w' p c ip np f tk ho := by
 have hc : ∀ j, w'.cell? ⟨p, j, none⟩ = w.cell? ⟨p, j, none⟩ := fun j => hw.cell (p := ⟨p, j, none⟩) h.lt hs
 exact ⟨(hc 0).trans h.c0, (hc 1).trans h.c1, (hc 2).trans h.c2, (hc 3).trans h.c3, (hc 4).trans h.c4, (hc 5).trans h.c5, (hc 6).trans h.c6, (hc 7).trans h.c7, fun j hj => (hc (8 + j)).trans (h.tk j hj), (hc 72).trans h.ho, fun j => (hw.frozen (p := ⟨p, j, none⟩) h.lt hs).trans (h.fr j), Nat.lt_of_lt_of_le h.lt hw.size⟩
noncomputable def wZ (c ip np : Nat) (f : Cf) : Array Value :=
 ((((((((Tryz.zeroCells47.setIfInBounds 0 (.pointer (some ⟨c, 0, none⟩))).setIfInBounds 1 (.pointer (some ⟨ip, 0, none⟩))).setIfInBounds 2 (.pointer (some ⟨np, 0, none⟩))).setIfInBounds 3 (.int .i64 f.b)).setIfInBounds 4 (.int .i64 f.g)).setIfInBounds 5 (.int .i64 f.t)).setIfInBounds 6 (.int .i64 f.q)).setIfInBounds 7 (.int .i64 f.y)).setIfInBounds 72 (.int .i64 (-1))
theorem zsize : Tryz.zeroCells47.size = 73 := by kernel_rfl
theorem wZ_get (c ip np : Nat) (f : Cf) (w : World) (e : TypeId) (N : Nat) (hN : N = w.heap.size) : Wo (w.alloc (.cells (wZ c ip np f) e)) N c ip np f (fun _ => 0) (-1) := by
 have hz := zsize
 have hs : (wZ c ip np f).size = 73 := by unfold wZ; simp [hz]
 refine ⟨cell_newA _ _ _ _ hN 0 _ ?_, cell_newA _ _ _ _ hN 1 _ ?_, cell_newA _ _ _ _ hN 2 _ ?_, cell_newA _ _ _ _ hN 3 _ ?_, cell_newA _ _ _ _ hN 4 _ ?_, cell_newA _ _ _ _ hN 5 _ ?_, cell_newA _ _ _ _ hN 6 _ ?_, cell_newA _ _ _ _ hN 7 _ ?_, fun j hj => cell_newA _ _ _ _ hN _ _ ?_, cell_newA _ _ _ _ hN 72 _ ?_, fun j => frozen_newA _ _ _ _ hN j, by subst hN; simp⟩
 case refine_9 =>
  unfold wZ
  repeat rw [Array.getElem?_setIfInBounds_ne (by omega)]
  exact zero_tickets j hj
 all_goals (unfold wZ; simp [Array.getElem?_setIfInBounds, hz])
structure Sy (w0 w : World) (F : Nat → Prop) (p c ip np : Nat) (f : Cf) (M : Int → Int) (n : Int) (la : La) (tk : Nat → Int) (ho : Int) : Prop where
 ce : Ce w F c M n la
 wo : Wo w p c ip np f tk ho
 pn : ¬ F p
 base : ∀ j, F j → w0.heap.size ≤ j
 pb : w0.heap.size ≤ p
 bel : Below w0.heap.size w0 w
end
section
open Go.RowKit
abbrev Om := Nat → Nat
structure Ext (S : Nat → Prop) (O : Om) (w : World) (O' : Om) (w' : World) : Prop where
 lo : ∀ j, j < w.heap.size → O' j = O j
 hi : ∀ j, O' j ≠ 0 → j < w'.heap.size
 nw : ∀ j, w.heap.size ≤ j → O' j ≠ 0 → S (O' j)
 wr : Wrote (fun j => S (O j) ∧ O j ≠ 0) w w'
structure Env (w0 : World) (O : Om) (w : World) : Prop where
 base : ∀ j, O j ≠ 0 → w0.heap.size ≤ j
 hi : ∀ j, O j ≠ 0 → j < w.heap.size
 bel : Below w0.heap.size w0 w
section
variable {S T : Nat → Prop} {O O' O1 O2 : Om} {w0 w w' w1 w2 : World} {g : Nat}
theorem Ext.refl (h : ∀ j, O j ≠ 0 → j < w.heap.size) : Ext S O w O w := ⟨fun _ _ => rfl, h, fun j hj hn => by have := h j hn; omega, Wrote.refl _ _⟩
theorem Ext.size (h : Ext S O w O' w') : w.heap.size ≤ w'.heap.size := h.wr.size
theorem Ext.trans (h : Ext S O w O1 w1) (k : Ext S O1 w1 O2 w2) : Ext S O w O2 w2 := by
 have hs := h.size
 refine ⟨fun j hj => (k.lo j (by omega)).trans (h.lo j hj), k.hi, fun j hj hn => ?_, h.wr.trans k.wr fun n hn ⟨hS, hz⟩ => ?_⟩
 · by_cases hj2 : j < w1.heap.size
   · rw [k.lo j hj2] at hn ⊢; exact h.nw j hj hn
   · exact k.nw j (by omega) hn
 · rw [h.lo n hn] at hS hz; exact ⟨hS, hz⟩
theorem Ext.mono (h : Ext S O w O' w') (hs : ∀ t, t ≠ 0 → S t → T t) : Ext T O w O' w' :=
 ⟨h.lo, h.hi, fun j hj hn => hs _ hn (h.nw j hj hn), h.wr.mono fun k _ ⟨a, b⟩ => ⟨hs _ b a, b⟩⟩
theorem Ext.of_below (h : ∀ j, O j ≠ 0 → j < w.heap.size) (hb : Below w.heap.size w w') : Ext S O w O w' :=
 ⟨fun _ _ => rfl, fun j hj => Nat.lt_of_lt_of_le (h j hj) hb.size, fun j hj hn => by have := h j hn; omega, Wrote.of_below hb⟩
theorem Ext.of_set {b j : Nat} {v : Value} (h : ∀ j, O j ≠ 0 → j < w.heap.size) (hb : O b = g) (hg : g ≠ 0) (hS : S g) : Ext S O w O (w.setCell ⟨b, j, none⟩ v) :=
 ⟨fun _ _ => rfl, fun j hj => by simpa using h j hj, fun j hj hn => by have := h j hn; omega, Wrote.setCell (Wrote.refl _ _) (p := ⟨b, j, none⟩) (fun _ => ⟨by show S (O b); rw [hb]; exact hS, by show O b ≠ 0; rw [hb]; exact hg⟩) _⟩
theorem Env.ext (e : Env w0 O w) (h : Ext S O w O' w') : Env w0 O' w' := by
 have hs := e.bel.size
 refine ⟨fun j hn => ?_, h.hi, e.bel.trans (h.wr.below (fun k _ ⟨_, hz⟩ => e.base k hz) hs)⟩
 by_cases hj : j < w.heap.size
 · rw [h.lo j hj] at hn; exact e.base j hn
 · omega
theorem Ext.cell (h : Ext S O w O' w') {p : Addr} (hp : p.block < w.heap.size) (hs : ¬ S (O p.block)) : w'.cell? p = w.cell? p := h.wr.cell hp fun k => hs k.1
theorem Ext.frozen (h : Ext S O w O' w') {p : Addr} (hp : p.block < w.heap.size) (hs : ¬ S (O p.block)) : w'.frozen? p = w.frozen? p := h.wr.frozen hp fun k => hs k.1
noncomputable def newOwn (O : Om) (n m g : Nat) : Om := fun j => if n ≤ j ∧ j < m then g else O j
theorem Ext.alloc {g : Nat} (h : ∀ j, O j ≠ 0 → j < w.heap.size) (hS : S g) (o : Obj) : Ext S O w (newOwn O w.heap.size (w.heap.size + 1) g) (w.alloc o) := by
 refine ⟨fun j hj => by unfold newOwn; rw [if_neg (by omega)], fun j hj => ?_, fun j hj hn => ?_, (Wrote.refl _ _).alloc o⟩
 · unfold newOwn at hj
   split at hj
   · simp; omega
   · have := h j hj; simp; omega
 · unfold newOwn at hn ⊢
   split at hn
   · rename_i hc; rw [if_pos hc]; exact hS
   · have := h j hn; omega
theorem newOwn_at {n m : Nat} (hg : n < m) : newOwn O n m g n = g := by unfold newOwn; rw [if_pos ⟨Nat.le_refl _, hg⟩]
end
structure Ob (w : World) (O : Om) (g b : Nat) (cs : List Value) : Prop where
 o : O b = g
 lt : b < w.heap.size
 c : ∀ j u, cs[j]? = some u → w.cell? ⟨b, j, none⟩ = some u
 f : ∀ j, w.frozen? ⟨b, j, none⟩ = false
section
variable {S : Nat → Prop} {O O' : Om} {w w' : World} {g b : Nat} {cs : List Value}
theorem Ob.ext (h : Ob w O g b cs) (e : Ext S O w O' w') (hs : ¬ S g) : Ob w' O' g b cs :=
 ⟨(e.lo b h.lt).trans h.o, Nat.lt_of_lt_of_le h.lt e.size, fun j u hu => (e.cell (p := ⟨b, j, none⟩) h.lt (by rw [h.o]; exact hs)).trans (h.c j u hu), fun j => (e.frozen (p := ⟨b, j, none⟩) h.lt (by rw [h.o]; exact hs)).trans (h.f j)⟩
theorem Ob.below (h : Ob w O g b cs) (hb : Below w.heap.size w w') : Ob w' O g b cs :=
 ⟨h.o, Nat.lt_of_lt_of_le h.lt hb.size, fun j u hu => (hb.cell (p := ⟨b, j, none⟩) h.lt).trans (h.c j u hu), fun j => (hb.frozen (p := ⟨b, j, none⟩) h.lt).trans (h.f j)⟩
theorem Ob.set (h : Ob w O g b cs) (j : Nat) (v : Value) (hj : j < cs.length) : Ob (w.setCell ⟨b, j, none⟩ v) O g b (cs.set j v) := by
 refine ⟨h.o, by simpa using h.lt, fun i u hu => ?_, fun i => (World.frozen?_setCell _ _ _ _).trans (h.f i)⟩
 by_cases e : i = j
 · subst e
   rw [List.getElem?_set_self hj] at hu
   cases hu
   exact World.cell?_setCell_same _ _ _ (h.c i _ (List.getElem?_eq_getElem hj))
 · rw [List.getElem?_set_ne (Ne.symm e)] at hu
   exact (World.cell?_setCell_other _ _ _ _ (by simp; try omega)).trans (h.c i u hu)
theorem Ob.other (h : Ob w O g b cs) {b2 j : Nat} {v : Value} (hb : b2 ≠ b) : Ob (w.setCell ⟨b2, j, none⟩ v) O g b cs :=
 ⟨h.o, by simpa using h.lt, fun i u hu => (World.cell?_setCell_other _ _ _ _ (by simp; try omega)).trans (h.c i u hu), fun i => (World.frozen?_setCell _ _ _ _).trans (h.f i)⟩
theorem Ob.new (w : World) (O : Om) (g : Nat) (cs : Array Value) (e : TypeId) : Ob (w.alloc (.cells cs e)) (newOwn O w.heap.size (w.heap.size + 1) g) g w.heap.size cs.toList :=
 ⟨newOwn_at (by omega), by simp, fun j u hu => cell_newA w cs e _ rfl j u (by simpa using hu), fun j => frozen_newA w cs e _ rfl j⟩
theorem Ob.ne {g2 b2 : Nat} {ds : List Value} (h : Ob w O g b cs) (k : Ob w O g2 b2 ds) (hg : g ≠ g2) : b ≠ b2 := by
 intro e; subst e; exact hg (h.o.symm.trans k.o)
end
theorem Cl.mono {w : World} {F G : Nat → Prop} {c : Nat} {L : List Wde} {n k a s i : Int} (h : Cl w F c L n k a s i) (hF : ∀ j, F j → G j) : Cl w G c L n k a s i :=
 ⟨h.mp.imp id (fun ⟨m, h1, h2, h3, h4, h5⟩ => ⟨m, h1, h2, hF m h3, h4, h5⟩), h.c1, h.c2, h.c3, h.c4, h.c5, h.fr, h.lt, hF c h.mem, fun d hd => (h.wd d hd).mono hF, h.na, h.nb⟩
theorem Ce.mono {w : World} {F G : Nat → Prop} {c : Nat} {M : Int → Int} {n : Int} {la : La} (h : Ce w F c M n la) (hF : ∀ j, F j → G j) (hG : ∀ j, G j → j < w.heap.size) : Ce w G c M n la := by
 obtain ⟨L, hL, hv⟩ := h.ex
 exact ⟨⟨L, hL.mono hF, hv⟩, hG⟩
def CO (w : World) (O : Om) (g c : Nat) (M : Int → Int) (n : Int) (la : La) : Prop := Ce w (fun j => O j = g) c M n la
def RP (S : Nat → Prop) (w : World) (O : Om) (v : Value) (Q : World → Om → Prop) (e : Ending) (w' : World) : Prop := e = .returned v ∧ ∃ O', Ext S O w O' w' ∧ Q w' O'
section
variable {S T : Nat → Prop} {O O' : Om} {w w' : World} {g c : Nat} {M : Int → Int} {n : Int} {la : La}
theorem CO.ext (h : CO w O g c M n la) (e : Ext S O w O' w') (hs : ¬ S g) (hg : g ≠ 0) : CO w' O' g c M n la := by
 have h1 := Ce.wrote (S := fun j => S (O j) ∧ O j ≠ 0) h e.wr (fun j hj k => hs (by have := k.1; rwa [hj] at this))
 refine h1.mono (fun j hj => (e.lo j (h.lts j hj)).trans hj) fun j hj => e.hi j (by rw [hj]; exact hg)
theorem CO.o (h : CO w O g c M n la) : O c = g := Ce.mem (F := fun j => O j = g) h
theorem CO.lt (h : CO w O g c M n la) : c < w.heap.size := Ce.lts h _ (Ce.mem (F := fun j => O j = g) h)
theorem CO.of {F : Nat → Prop} {M1 : Int → Int} {n1 : Int} {la1 : La} (hhi : ∀ j, O j ≠ 0 → j < w.heap.size) (hg : g ≠ 0) (hC : Ce w' F c M1 n1 la1) (hG : Grow w (fun j => O j = g) w' F) (hw : Wrote (fun j => O j = g) w w') :
 ∃ O', Ext (fun t => t = g) O w O' w' ∧ CO w' O' g c M1 n1 la1 := by
 classical
 obtain ⟨O', hO⟩ : ∃ O' : Om, ∀ j, O' j = if j < w.heap.size then O j else if F j then g else 0 := ⟨_, fun _ => rfl⟩
 refine ⟨O', ⟨fun j hj => by rw [hO, if_pos hj], fun j hj => ?_, fun j hj hn => ?_, hw.mono fun k _ hk => ⟨hk, by rw [hk]; exact hg⟩⟩, hC.mono (fun j hj => ?_) (fun j hj => ?_)⟩
 · rw [hO] at hj
   split at hj
   · exact Nat.lt_of_lt_of_le ‹_› hw.size
   · split at hj
     · exact hG.lts j ‹_›
     · exact absurd rfl hj
 · rw [hO, if_neg (by omega)] at hn ⊢
   split at hn
   · rw [if_pos ‹_›]
   · exact absurd rfl hn
 · rw [hO]
   split
   · rcases hG.new j hj with h | h
     · exact h
     · omega
   · first | rfl | rw [if_pos hj]
 · rw [hO] at hj
   split at hj
   · exact Nat.lt_of_lt_of_le ‹_› hw.size
   · split at hj
     · exact hG.lts j ‹_›
     · exact absurd hj.symm hg
theorem CePost.rp {M1 : Int → Int} {n1 : Int} {la1 : La} {v : Value} {e : Ending} (h : CePost w (fun j => O j = g) c M1 n1 la1 v e w') (hhi : ∀ j, O j ≠ 0 → j < w.heap.size) (hg : g ≠ 0) : RP (fun t => t = g) w O v (fun W G => CO W G g c M1 n1 la1) e w' := by
 obtain ⟨rfl, F, h1, h2, h3⟩ := h
 exact ⟨rfl, CO.of hhi hg h1 h2 h3⟩
theorem RP.mono {v : Value} {Q R : World → Om → Prop} {e : Ending} (h : RP S w O v Q e w') (hs : ∀ t, t ≠ 0 → S t → T t) (hQ : ∀ W G, Q W G → R W G) : RP T w O v R e w' := by
 obtain ⟨rfl, O', h1, h2⟩ := h
 exact ⟨rfl, O', h1.mono hs, hQ _ _ h2⟩
end
structure It where
 key : ByteArray
 val : ByteArray
 fl : Int
 id : Int
 dies : Int
 gen : Int
def itc (x : It) : List Value := [.string x.key, .string x.val, .int .u32 x.fl, .int .u64 x.id, .int .i64 x.dies, .int .i64 x.gen]
theorem itc_len (x : It) : (itc x).length = 6 := rfl
structure Ar (w : World) (O : Om) (t ip : Nat) (l : List It) : Prop where
 o : O ip = t
 lt : ip < w.heap.size
 fr : ∀ j, w.frozen? ⟨ip, j, none⟩ = false
 c1 : w.cell? ⟨ip, 1, none⟩ = some (.int .i64 l.length)
 ex : ∃ (v : Value) (bl : List Nat), w.cell? ⟨ip, 0, none⟩ = some v ∧ w.ownsRow 0 271 1 v bl.length (bl.map fun b => .pointer (some ⟨b, 0, none⟩)) ∧ (∀ k, v.ownBlock = some k → O k = t ∧ k ≠ ip ∧ k ∉ bl) ∧ bl.Nodup ∧ ip ∉ bl ∧
  l.length ≤ 64 * bl.length ∧ 64 * bl.length < l.length + 64 ∧ (∀ b ∈ bl, O b = t ∧ b < w.heap.size ∧ (∀ j, w.frozen? ⟨b, j, none⟩ = false) ∧ ∀ j, j < 384 → ∃ u, w.cell? ⟨b, j, none⟩ = some u) ∧
  ∀ (i : Nat) (x : It) (b : Nat), l[i]? = some x → bl[i / 64]? = some b → ∀ j u, (itc x)[j]? = some u → w.cell? ⟨b, 6 * (i % 64) + j, none⟩ = some u
structure No (w : World) (O : Om) (t np : Nat) (l : List Nt) : Prop where
 ex : ∃ v, NL w 175 ntc np v l ∧ ∀ k, NLset np v k → O k = t
section
variable {S : Nat → Prop} {O O' : Om} {w w' : World} {t ip np : Nat}
theorem Ext.own {base : Nat} {ty : TypeId} {size : Nat} {v : Value} {n : Nat} {xs : List Value} (e : Ext S O w O' w') (h : w.ownsRow base ty size v n xs) (hv : ∀ k, v.ownBlock = some k → ¬ S (O k)) : w'.ownsRow base ty size v n xs := e.wr.own h fun k hk hs => hv k hk hs.1
theorem Ar.ext {l : List It} (h : Ar w O t ip l) (e : Ext S O w O' w') (hs : ¬ S t) : Ar w' O' t ip l := by
 have hc : ∀ b j, O b = t → b < w.heap.size → w'.cell? ⟨b, j, none⟩ = w.cell? ⟨b, j, none⟩ := fun b j hb hl => e.cell (p := ⟨b, j, none⟩) hl (by rw [hb]; exact hs)
 have hf : ∀ b j, O b = t → b < w.heap.size → w'.frozen? ⟨b, j, none⟩ = w.frozen? ⟨b, j, none⟩ := fun b j hb hl => e.frozen (p := ⟨b, j, none⟩) hl (by rw [hb]; exact hs)
 obtain ⟨v, bl, h0, h1, h2, h3, h4, h5, h6, h7, h8⟩ := h.ex
 refine ⟨(e.lo _ h.lt).trans h.o, Nat.lt_of_lt_of_le h.lt e.size, fun j => (hf _ _ h.o h.lt).trans (h.fr j), (hc _ _ h.o h.lt).trans h.c1, v, bl, (hc _ _ h.o h.lt).trans h0, e.own h1 fun k hk => by rw [(h2 k hk).1]; exact hs, fun k hk => ?_, h3, h4, h5, h6, fun b hb => ?_, fun i x b hi hb j u hu => ?_⟩
 · obtain ⟨q1, q2, q3⟩ := h2 k hk
   exact ⟨(e.lo _ (h1.lt k hk).2).trans q1, q2, q3⟩
 · obtain ⟨q1, q2, q3, q4⟩ := h7 b hb
   exact ⟨(e.lo _ q2).trans q1, Nat.lt_of_lt_of_le q2 e.size, fun j => (hf _ _ q1 q2).trans (q3 j), fun j hj => (q4 j hj).imp fun u hu => (hc _ _ q1 q2).trans hu⟩
 · obtain ⟨q1, q2, q3, q4⟩ := h7 b (List.mem_of_getElem? hb)
   exact (hc _ _ q1 q2).trans (h8 i x b hi hb j u hu)
theorem No.ext {l : List Nt} (h : No w O t np l) (e : Ext S O w O' w') (hs : ¬ S t) : No w' O' t np l := by
 obtain ⟨v, h1, h2⟩ := h.ex
 refine ⟨v, h1.wrote e.wr fun k hk hS => hs ?_, fun k hk => (e.lo k (h1.lts k hk)).trans (h2 k hk)⟩
 have := hS.1
 rwa [h2 k hk] at this
end
structure AW where
 M : Int → Int
 n : Int
 la : La
 tk : Nat → Int
 ho : Int
 it : List It
 nt : List Nt
structure Wb where
 p : Nat
 c : Nat
 ip : Nat
 np : Nat
structure PW (w : World) (O : Om) (B : Wb) (f : Cf) (s : AW) : Prop where
 o : O B.p = 1
 wo : Wo w B.p B.c B.ip B.np f s.tk s.ho
 ce : CO w O 2 B.c s.M s.n s.la
 ar : Ar w O 3 B.ip s.it
 no : No w O 4 B.np s.nt
def SW (t : Nat) : Prop := 1 ≤ t ∧ t ≤ 4
def SX (a b t : Nat) : Prop := (1 ≤ t ∧ t ≤ 4) ∨ (a ≤ t ∧ t ≤ b)
theorem SX.of_sw {a b t : Nat} (h : SW t) : SX a b t := .inl h
theorem SX.not {a b t : Nat} (h : 5 ≤ t) (h2 : t < a ∨ b < t) : ¬ SX a b t := fun k => by unfold SX at k; omega
theorem SX.mono {a b c d t : Nat} (h1 : c ≤ a) (h2 : b ≤ d) (h : SX a b t) : SX c d t := by unfold SX at h ⊢; omega
section
variable {S : Nat → Prop} {O O' : Om} {w w' : World} {B : Wb} {f : Cf} {s : AW}
theorem PW.ext (h : PW w O B f s) (e : Ext S O w O' w') (h1 : ¬ S 1) (h2 : ¬ S 2) (h3 : ¬ S 3) (h4 : ¬ S 4) : PW w' O' B f s :=
 ⟨(e.lo _ h.wo.lt).trans h.o, h.wo.wrote e.wr fun k => h1 (by have := k.1; rwa [h.o] at this), h.ce.ext e h2 (by decide), h.ar.ext e h3, h.no.ext e h4⟩
theorem PW.below (h : PW w O B f s) (hhi : ∀ j, O j ≠ 0 → j < w.heap.size) (hb : Below w.heap.size w w') : PW w' O B f s := h.ext (S := fun _ => False) (Ext.of_below hhi hb) id id id id
theorem PW.cells {M : Int → Int} {n : Int} {la : La} (h : PW w O B f s) (e : Ext (fun t => t = 2) O w O' w') (hc : CO w' O' 2 B.c M n la) : PW w' O' B f ⟨M, n, la, s.tk, s.ho, s.it, s.nt⟩ :=
 ⟨(e.lo _ h.wo.lt).trans h.o, h.wo.wrote e.wr (fun k => absurd (show (1 : Nat) = 2 from by have := k.1; rwa [h.o] at this) (by decide)), hc, h.ar.ext e (by decide), h.no.ext e (by decide)⟩
theorem PW.rp_cells {M : Int → Int} {n : Int} {la : La} {v : Value} {e : Ending} (h : PW w O B f s) (hhi : ∀ j, O j ≠ 0 → j < w.heap.size) (hp : CePost w (fun j => O j = 2) B.c M n la v e w') : RP SW w O v (fun W G => PW W G B f ⟨M, n, la, s.tk, s.ho, s.it, s.nt⟩) e w' := by
 obtain ⟨rfl, O', h1, h2⟩ := hp.rp hhi (by decide)
 exact ⟨rfl, O', h1.mono fun t _ ht => by subst ht; exact ⟨by decide, by decide⟩, h.cells h1 h2⟩
theorem drew_below (w : World) : Below w.heap.size w w.drew := (Below.refl _ _).drew
theorem Ext.drew (h : Ext S O w O' w') : Ext S O w O' w'.drew := ⟨h.lo, h.hi, h.nw, h.wr.drew⟩
theorem Ext.below {w1 : World} (h : Ext S O w O' w') (hb : Below w'.heap.size w' w1) : Ext S O w O' w1 := h.trans (Ext.of_below h.hi hb)
structure Me (a b : Nat) (w0 : World) (O0 : Om) (w : World) (O : Om) (B : Wb) (f : Cf) (s : AW) (k T : Nat) (cs : List Value) : Prop where
 e : Ext (SX a b) O0 w0 O w
 p : PW w O B f s
 t : Ob w O k T cs
theorem Me.start {a b k T : Nat} {cs : List Value} (hhi : ∀ j, O j ≠ 0 → j < w.heap.size) (hp : PW w O B f s) (ht : Ob w O k T cs) : Me a b w O w O B f s k T cs := ⟨Ext.refl hhi, hp, ht⟩
section
variable {a b k T : Nat} {cs : List Value} {O0 O1 : Om} {w1 w0 : World} {s1 : AW}
theorem Me.set (h : Me a b w0 O0 w O B f s k T cs) (hk : 10 ≤ k) (ha : a ≤ k) (hb : k ≤ b) (j : Nat) (v : Value) (hj : j < cs.length) : Me a b w0 O0 (w.setCell ⟨T, j, none⟩ v) O B f s k T (cs.set j v) := by
 have e : Ext (fun t => t = k) O w O (w.setCell ⟨T, j, none⟩ v) := Ext.of_set h.e.hi h.t.o (by omega) rfl
 exact ⟨h.e.trans (e.mono fun t _ ht => .inr (by omega)), h.p.ext e (by omega) (by omega) (by omega) (by omega), h.t.set j v hj⟩
theorem Me.drew (h : Me a b w0 O0 w O B f s k T cs) : Me a b w0 O0 w.drew O B f s k T cs := ⟨h.e.drew, h.p.below h.e.hi (drew_below w), h.t.below (drew_below w)⟩
theorem Me.below (h : Me a b w0 O0 w O B f s k T cs) (hb : Below w.heap.size w w1) : Me a b w0 O0 w1 O B f s k T cs := ⟨h.e.below hb, h.p.below h.e.hi hb, h.t.below hb⟩
theorem Me.world (h : Me a b w0 O0 w O B f s k T cs) (hk : 10 ≤ k) (e : Ext SW O w O1 w1) (hp : PW w1 O1 B f s1) : Me a b w0 O0 w1 O1 B f s1 k T cs := ⟨h.e.trans (e.mono fun t _ ht => SX.of_sw ht), hp, h.t.ext e fun h => by have := h.2; omega⟩
theorem Me.call {c d : Nat} (h : Me a b w0 O0 w O B f s k T cs) (hk : 10 ≤ k) (hkc : k < c ∨ d < k) (ha : a ≤ c) (hb : d ≤ b) (e : Ext (SX c d) O w O1 w1) (hp : PW w1 O1 B f s1) : Me a b w0 O0 w1 O1 B f s1 k T cs :=
 ⟨h.e.trans (e.mono fun t _ ht => SX.mono ha hb ht), hp, h.t.ext e (SX.not (by omega) hkc)⟩
end
theorem PW.bd (h : PW w O B f s) : Bd s.M := Ce.bd h.ce
end
end
section
open Go.RowKit
theorem c_Ntnotes (h : Nat) (v : Value) (w : World) (hc : w.cell? ⟨h, 0, none⟩ = some v) :
 Calls Tryz.prog 47 #[.pointer (some ⟨h, 0, none⟩)] w fun e w' => e = .returned v ∧ w = w' := by
 go_enter Tryz.func47, Tryz.ntmps47
 go_wp2
 go_ret
 exact ⟨rfl, rfl⟩
theorem c_NtCount (h : Nat) (ao : Option Addr) (n c : Nat) (w : World) (hc : w.cell? ⟨h, 0, none⟩ = some (.slice ao n c)) :
 Calls Tryz.prog 16 #[.pointer (some ⟨h, 0, none⟩)] w fun e w' => e = .returned (.int .i64 n) ∧ w = w' := by
 go_enter Tryz.func16, Tryz.ntmps16
 go_wp2_with (go_at_call 47; refine (c_Ntnotes h _ _ hc).mono ?_; rintro e w' ⟨rfl, rfl⟩)
 go_ret
 exact ⟨rfl, rfl⟩
end
section
open Go.RowKit
def aw0 (b : Int) : AW := ⟨upd (fun _ => 0) 2 (plWord b 0), 0, ⟨0, 0, 0, 0⟩, fun _ => 0, -1, [], []⟩
def NewW (w : World) (f : Cf) (r : Nat → Value) (e : Ending) (w' : World) : Prop := ∃ B O, e = .returned (r B.p) ∧ PW w' O B f (aw0 f.b) ∧ Env w O w'
def NewW2 (w : World) (f : Cf) (r : Nat → Value) (e : Ending) (w' : World) : Prop := ∃ B O, e = .returned (r B.p) ∧ PW w' O B f (aw0 f.b) ∧ Env w O w' ∧ ∀ j, O j ≤ 4
theorem NewW2.one {w : World} {f : Cf} {r : Nat → Value} {e : Ending} {w' : World} (h : NewW2 w f r e w') : NewW w f r e w' := by
 obtain ⟨B, O, h1, h2, h3, -⟩ := h
 exact ⟨B, O, h1, h2, h3⟩
theorem NewW2.mk {w w1 : World} {F1 : Nat → Prop} {c : Nat} {M : Int → Int} (f : Cf) (hb : Below w.heap.size w w1) (hc : Ce w1 F1 c M 0 ⟨0, 0, 0, 0⟩) (hF : ∀ j, F1 j → w.heap.size ≤ j) :
 ∃ B O, Ending.returned (Value.tuple #[.pointer (some ⟨w1.heap.size + 2, 0, none⟩), .int .i64 0]) = .returned (.tuple #[.pointer (some ⟨B.p, 0, none⟩), .int .i64 0]) ∧
  PW (((w1.alloc (.cells #[.slice none 0 0, .int .i64 0] 263)).alloc (.cells #[.slice none 0 0] 208)).alloc (.cells (wZ c w1.heap.size (w1.heap.size + 1) f) 47)) O B f ⟨M, 0, ⟨0, 0, 0, 0⟩, fun _ => 0, -1, [], []⟩ ∧
  Env w O (((w1.alloc (.cells #[.slice none 0 0, .int .i64 0] 263)).alloc (.cells #[.slice none 0 0] 208)).alloc (.cells (wZ c w1.heap.size (w1.heap.size + 1) f) 47)) ∧ ∀ j, O j ≤ 4 := by
 classical
 obtain ⟨W1, hW1⟩ : ∃ W1, W1 = w1.alloc (.cells #[.slice none 0 0, .int .i64 0] 263) := ⟨_, rfl⟩
 obtain ⟨W2, hW2⟩ : ∃ W2, W2 = W1.alloc (.cells #[.slice none 0 0] 208) := ⟨_, rfl⟩
 obtain ⟨W3, hW3⟩ : ∃ W3, W3 = W2.alloc (.cells (wZ c w1.heap.size (w1.heap.size + 1) f) 47) := ⟨_, rfl⟩
 have z1 : W1.heap.size = w1.heap.size + 1 := by rw [hW1]; simp
 have z2 : W2.heap.size = w1.heap.size + 2 := by rw [hW2]; simp; omega
 have z3 : W3.heap.size = w1.heap.size + 3 := by rw [hW3]; simp; omega
 have b01 : Below w1.heap.size w1 W1 := by rw [hW1]; exact (Below.refl _ _).alloc (Nat.le_refl _) _
 have b12 : Below W1.heap.size W1 W2 := by rw [hW2]; exact (Below.refl _ _).alloc (Nat.le_refl _) _
 have b23 : Below W2.heap.size W2 W3 := by rw [hW3]; exact (Below.refl _ _).alloc (Nat.le_refl _) _
 have b13 := b12.trans (b23.mono b12.size)
 have b03 := b01.trans (b13.mono b01.size)
 have hz := hb.size
 rw [← hW1, ← hW2, ← hW3]
 obtain ⟨O, hO⟩ : ∃ O : Om, ∀ j, O j = if j = w1.heap.size + 2 then 1 else if j = w1.heap.size then 3 else if j = w1.heap.size + 1 then 4 else if F1 j then 2 else 0 := ⟨_, fun _ => rfl⟩
 have hp : O (w1.heap.size + 2) = 1 := by rw [hO, if_pos rfl]
 have hip : O w1.heap.size = 3 := by rw [hO, if_neg (by omega), if_pos rfl]
 have hnp : O (w1.heap.size + 1) = 4 := by rw [hO, if_neg (by omega), if_neg (by omega), if_pos rfl]
 have hF2 : ∀ j, F1 j → O j = 2 := fun j hj => by have := hc.lts j hj; rw [hO, if_neg (by omega), if_neg (by omega), if_neg (by omega), if_pos hj]
 have hany : ∀ j, O j ≠ 0 → (w1.heap.size ≤ j ∧ j ≤ w1.heap.size + 2) ∨ F1 j := by
  intro j hj
  rw [hO] at hj
  by_cases e1 : j = w1.heap.size + 2
  · left; omega
  · by_cases e2 : j = w1.heap.size
    · left; omega
    · by_cases e3 : j = w1.heap.size + 1
      · left; omega
      · rw [if_neg e1, if_neg e2, if_neg e3] at hj
        by_cases e4 : F1 j
        · exact .inr e4
        · rw [if_neg e4] at hj; exact absurd rfl hj
 have hhi : ∀ j, O j ≠ 0 → j < W3.heap.size := fun j hj => (hany j hj).elim (fun h => by omega) fun h => by have := hc.lts j h; omega
 refine ⟨⟨w1.heap.size + 2, c, w1.heap.size, w1.heap.size + 1⟩, O, rfl, ⟨hp, by rw [hW3]; exact wZ_get _ _ _ _ _ _ _ z2.symm, ?_, ?_, ?_⟩, ⟨fun j hj => (hany j hj).elim (fun h => by omega) (hF j), hhi, hb.trans (b03.mono hz)⟩, fun j => ?_⟩
 · exact (hc.below b03).mono hF2 fun j hj => hhi j (by rw [hj]; decide)
 · have k0 : W1.cell? ⟨w1.heap.size, 0, none⟩ = some (.slice none 0 0) := by rw [hW1]; exact cell_new w1 [.slice none 0 0, .int .i64 0] _ _ rfl 0 _ rfl
   have k1 : W1.cell? ⟨w1.heap.size, 1, none⟩ = some (.int .i64 0) := by rw [hW1]; exact cell_new w1 [.slice none 0 0, .int .i64 0] _ _ rfl 1 _ rfl
   have kf : ∀ j, W1.frozen? ⟨w1.heap.size, j, none⟩ = false := fun j => by rw [hW1]; exact frozen_new w1 [.slice none 0 0, .int .i64 0] _ _ rfl j
   have hl : w1.heap.size < W1.heap.size := by omega
   exact ⟨hip, (show w1.heap.size < W3.heap.size by omega), fun j => (b13.frozen (p := ⟨_, j, none⟩) hl).trans (kf j), (b13.cell (p := ⟨_, 1, none⟩) hl).trans k1, .slice none 0 0, [], (b13.cell (p := ⟨_, 0, none⟩) hl).trans k0, World.ownsRow_nil _ _ _ _, (fun k hk => by cases hk), by simp, by simp, by simp, by simp, (fun b hb => by cases hb), (fun i x b hi => by cases hi)⟩
 · have k0 : W2.cell? ⟨w1.heap.size + 1, 0, none⟩ = some (.slice none 0 0) := by rw [hW2]; exact cell_new W1 [.slice none 0 0] _ _ z1.symm 0 _ rfl
   have kf : W2.frozen? ⟨w1.heap.size + 1, 0, none⟩ = false := by rw [hW2]; exact frozen_new W1 [.slice none 0 0] _ _ z1.symm 0
   have hl : w1.heap.size + 1 < W2.heap.size := by omega
   refine ⟨.slice none 0 0, ⟨(b23.cell (p := ⟨_, 0, none⟩) hl).trans k0, (b23.frozen (p := ⟨_, 0, none⟩) hl).trans kf, (show w1.heap.size + 1 < W3.heap.size by omega), (fun e => by cases e), World.ownsRow_nil _ _ _ _⟩, ?_⟩
   rintro k (rfl | hk)
   · exact hnp
   · cases hk
 · rw [hO]
   repeat' split
   all_goals omega
theorem c_WNewQ (f : Cf) (w : World) (h : f.may) : Calls Tryz.prog 28 #[.agg #[.int .i64 f.b, .int .i64 f.g, .int .i64 f.t, .int .i64 f.q, .int .i64 f.y]] w fun e w' => NewW2 w f (fun p => .tuple #[.pointer (some ⟨p, 0, none⟩), .int .i64 0]) e w' := by
 have HM := Lib.hid h
 obtain ⟨b, g, t, q, y⟩ := f
 obtain ⟨b0, b1, g0, g1, t0, t1, q0, q1, y0, y1⟩ := h
 dsimp only at b0 b1 g0 g1 t0 t1 q0 q1 y0 y1 ⊢
 have hwb := plWord_bd b 0
 go_enter Tryz.func28, Tryz.ntmps28
 go_wp2_with fail
 refine (viaC (c_WMay ⟨b, g, t, q, y⟩ _ HM.out)).mono ?_
 rintro e w' ⟨rfl, m, rfl⟩
 go_wp2_with fail
 refine (c_Word b 0 _).mono ?_
 rintro e w' ⟨rfl, rfl⟩
 go_wp2_with fail
 obtain ⟨V, hV⟩ : ∃ V, V = via (w.alloc (.cells #[.int .i64 b, .int .i64 g, .int .i64 t, .int .i64 q, .int .i64 y] 44)) m := ⟨_, rfl⟩
 have hB : Below w.heap.size w V := by rw [hV]; exact below_via ((Below.refl _ _).alloc (Nat.le_refl _) _) _
 have hlt : w.heap.size < V.heap.size := by rw [hV]; exact lt_via _ _ _ (by simp)
 have q0' : ∀ j u, [Value.int .i64 b, .int .i64 g, .int .i64 t, .int .i64 q, .int .i64 y][j]? = some u → V.cell? ⟨w.heap.size, j, none⟩ = some u := by
  intro j u hu
  rw [hV, cell?_via _ _ _ _ (by simp)]
  exact cell_new w _ _ _ rfl j u hu
 have d0 := q0' 0 _ rfl
 have d1 := q0' 1 _ rfl
 have d2 := q0' 2 _ rfl
 have d3 := q0' 3 _ rfl
 have d4 := q0' 4 _ rfl
 rw [← hV]
 have hne : ¬ w.heap.size = V.heap.size := by omega
 have HB := Lib.hid hB
 obtain ⟨pw, hpw⟩ : ∃ pw, pw = plWord b 0 := ⟨_, rfl⟩
 rw [← hpw] at hwb ⊢
 have Hpw := Lib.hid hpw
 clear hB hV q0' hpw
 go_region_held3 (fun w' => w'.cell? ⟨w.heap.size, 0, none⟩ = some (.int .i64 b) ∧ w'.cell? ⟨w.heap.size, 1, none⟩ = some (.int .i64 g) ∧ w'.cell? ⟨w.heap.size, 2, none⟩ = some (.int .i64 t) ∧ w'.cell? ⟨w.heap.size, 3, none⟩ = some (.int .i64 q) ∧ w'.cell? ⟨w.heap.size, 4, none⟩ = some (.int .i64 y) ∧ w'.cell? ⟨V.heap.size, 0, none⟩ = some (.int .u64 2) ∧ w'.cell? ⟨V.heap.size, 1, none⟩ = some (.int .u64 pw)) (go_keep)
  (first
    | (go_at_call 79
       refine (c_CNew _ (V.heap.size + 1) 2 pw (by go_simp) (by go_simp) (by simp) (by omega) (by omega) hwb.1 (by omega)).mono ?_
       rintro e w1 ⟨c, F1, rfl, ce1, hb1, bel1⟩
       have e0 : w1.cell? ⟨w.heap.size, 0, none⟩ = some (.int .i64 b) := (bel1.cell (p := ⟨w.heap.size, 0, none⟩) (by simp <;> omega)).trans (by go_simp)
       have e1 : w1.cell? ⟨w.heap.size, 1, none⟩ = some (.int .i64 g) := (bel1.cell (p := ⟨w.heap.size, 1, none⟩) (by simp <;> omega)).trans (by go_simp)
       have e2 : w1.cell? ⟨w.heap.size, 2, none⟩ = some (.int .i64 t) := (bel1.cell (p := ⟨w.heap.size, 2, none⟩) (by simp <;> omega)).trans (by go_simp)
       have e3 : w1.cell? ⟨w.heap.size, 3, none⟩ = some (.int .i64 q) := (bel1.cell (p := ⟨w.heap.size, 3, none⟩) (by simp <;> omega)).trans (by go_simp)
       have e4 : w1.cell? ⟨w.heap.size, 4, none⟩ = some (.int .i64 y) := (bel1.cell (p := ⟨w.heap.size, 4, none⟩) (by simp <;> omega)).trans (by go_simp)
       have e5 : w1.cell? ⟨V.heap.size, 0, none⟩ = some (.int .u64 2) := (bel1.cell (p := ⟨V.heap.size, 0, none⟩) (by simp <;> omega)).trans (by go_simp)
       have e6 : w1.cell? ⟨V.heap.size, 1, none⟩ = some (.int .u64 pw) := (bel1.cell (p := ⟨V.heap.size, 1, none⟩) (by simp <;> omega)).trans (by go_simp)
       have HC1 := Lib.hid ce1
       have HF1 := Lib.hid hb1
       have HB1 := Lib.hid bel1
       have hz1 : V.heap.size + 2 ≤ w1.heap.size := by have := bel1.size; simp at this; omega
       clear ce1 hb1 bel1)
    | (go_at_call 80; refine (c_INew _).mono ?_; rintro e w2 ⟨rfl, rfl⟩)
    | (go_at_call 81; refine (c_NNew _).mono ?_; rintro e w3 ⟨rfl, rfl⟩))
 all_goals
  go_wp2
  rename_i hheld
  clear hheld
  have hz := hz1
  have hbs := HB.out.size
  have HE : NewW2 w ⟨b, g, t, q, y⟩ (fun p => .tuple #[.pointer (some ⟨p, 0, none⟩), .int .i64 0]) (.returned (.tuple #[.pointer (some ⟨w1.heap.size + 2, 0, none⟩), .int .i64 0])) (((w1.alloc (.cells #[.slice none 0 0, .int .i64 0] 263)).alloc (.cells #[.slice none 0 0] 208)).alloc (.cells (wZ c w1.heap.size (w1.heap.size + 1) ⟨b, g, t, q, y⟩) 47)) := by
   have hbb : Below w.heap.size w w1 := by
    have h1 := ((HB.out.alloc hbs (.cells #[.int .u64 2, .int .u64 pw] 178)).alloc (by rw [World.heap_size_alloc']; omega) (.cells #[.int .u64 2, .int .u64 pw] 178)).drew
    exact h1.trans (HB1.out.mono h1.size)
   have hcb : ∀ j, F1 j → w.heap.size ≤ j := fun j hj => by have := HF1.out j hj; simp at this; omega
   have := NewW2.mk ⟨b, g, t, q, y⟩ hbb HC1.out hcb
   rw [Hpw.out] at this
   exact this
  exact bodyPost_ret (v := .tuple #[.pointer (some ⟨w1.heap.size + 2, 0, none⟩), .int .i64 0]) (by simp [results, Tryz.results28, go_sem]) rfl HE
theorem c_WNewP (f : Cf) (w : World) (h : f.may) : Calls Tryz.prog 28 #[.agg #[.int .i64 f.b, .int .i64 f.g, .int .i64 f.t, .int .i64 f.q, .int .i64 f.y]] w fun e w' => NewW w f (fun p => .tuple #[.pointer (some ⟨p, 0, none⟩), .int .i64 0]) e w' :=
 (c_WNewQ f w h).mono fun _ _ h => h.one
theorem PW.congr {w : World} {O G : Om} {B : Wb} {f : Cf} {s : AW} (h : PW w O B f s) (hO : ∀ j, O j ≠ 0 → G j = O j) (hhi : ∀ j, G j ≠ 0 → j < w.heap.size) : PW w G B f s := by
 have k : ∀ j t, O j = t → t ≠ 0 → G j = t := fun j t hj ht => (hO j (by rw [hj]; exact ht)).trans hj
 refine ⟨k _ _ h.o (by decide), h.wo, Ce.mono h.ce (fun j hj => k _ _ hj (by decide)) (fun j hj => hhi j (by rw [hj]; decide)), ?_, ?_⟩
 · obtain ⟨v, bl, h0, h1, h2, h3, h4, h5, h6, h7, h8⟩ := h.ar.ex
   exact ⟨k _ _ h.ar.o (by decide), h.ar.lt, h.ar.fr, h.ar.c1, v, bl, h0, h1, fun j hj => ⟨k _ _ (h2 j hj).1 (by decide), (h2 j hj).2⟩, h3, h4, h5, h6, fun b hb => ⟨k _ _ (h7 b hb).1 (by decide), (h7 b hb).2⟩, h8⟩
 · obtain ⟨v, h1, h2⟩ := h.no.ex
   exact ⟨v, h1, fun j hj => k _ _ (h2 j hj) (by decide)⟩
theorem NewW2.rp {w w' : World} {O : Om} {f : Cf} {r : Nat → Value} {e : Ending} (h : NewW2 w f r e w') (hhi : ∀ j, O j ≠ 0 → j < w.heap.size) : ∃ B, RP SW w O (r B.p) (fun W G => PW W G B f (aw0 f.b)) e w' := by
 obtain ⟨B, N, rfl, hP, hE, h4⟩ := h
 obtain ⟨G, hG⟩ : ∃ G : Om, ∀ j, G j = if j < w.heap.size then O j else N j := ⟨_, fun _ => rfl⟩
 have hhi2 : ∀ j, G j ≠ 0 → j < w'.heap.size := fun j hj => by
  rw [hG] at hj
  split at hj
  · exact Nat.lt_of_lt_of_le ‹_› hE.bel.size
  · exact hE.hi j hj
 refine ⟨B, rfl, G, ⟨fun j hj => by rw [hG, if_pos hj], hhi2, fun j hj hn => ?_, Wrote.of_below hE.bel⟩, hP.congr (fun j hj => by rw [hG, if_neg (by have := hE.base j hj; omega)]) hhi2⟩
 rw [hG, if_neg (by omega)] at hn ⊢
 exact ⟨by omega, h4 j⟩
theorem c_WorldP (b : Int) (w : World) (b0 : 1 ≤ b) (b1 : b ≤ 12) : Calls Tryz.prog 6 #[.int .i64 b] w (NewW w ⟨b, 8, 3, 1, 16⟩ (fun p => .pointer (some ⟨p, 0, none⟩))) := by
 have hc : Cf.may ⟨b, 8, 3, 1, 16⟩ := ⟨b0, b1, (by show (1:Int) ≤ 8; decide), (by show (8:Int) ≤ 65536; decide), (by show (0:Int) ≤ 3; decide), (by show (3:Int) ≤ 16; decide), (by show (1:Int) ≤ 1; decide), (by show (1:Int) ≤ 8; decide), (by show (2:Int) ≤ 16; decide), (by show (16:Int) ≤ 256; decide)⟩
 have HC := Lib.hid hc
 clear hc
 go_enter Tryz.func6, Tryz.ntmps6
 go_wp2_with fail
 refine (c_WNewP ⟨b, 8, 3, 1, 16⟩ w HC.out).mono ?_
 rintro e w1 ⟨B, O, rfl, hS, hE⟩
 have HS := Lib.hid hS
 have HE := Lib.hid hE
 clear hS hE
 go_wp2
 go_ret
 exact ⟨B, O, rfl, HS.out, HE.out⟩
end
section
def epNow (w : Int) : Int := w % 16777216
def epAt (w : Int) : Int := w / 16777216 % 16777216
def epGen (w : Int) : Int := w / 281474976710656
def epPut (n a g : Int) : Int := n % 16777216 + 16777216 * (a % 16777216) + 281474976710656 * (g % 65536)
def epTickNow (w : Int) : Int := if epNow w < 16777215 then epNow w + 1 else 16777215
def epDue (w : Int) : Bool := decide (0 < epAt w ∧ epAt w ≤ epTickNow w)
def epTick (w : Int) : Int := if epDue w then epPut (epTickNow w) 0 (if epGen w < 65535 then epGen w + 1 else 65535) else epPut (epTickNow w) (epAt w) (epGen w)
def epFlushOk (w : Int) : Bool := decide (epGen w ≠ 65535)
def epFlush (w d : Int) : Int :=
 if epGen w = 65535 then w
 else if d < 1 then epPut (epNow w) 0 (epGen w + 1)
 else epPut (epNow w) (if d < 16777215 - epNow w then epNow w + d else 16777215) (epGen w)
def epDies (w x : Int) : Int := if x = 0 then -1 else if x < 0 then epNow w else if x ≤ 2592000 then epNow w + x else x
def epAlive (dies gen w : Int) : Bool := decide (gen = epGen w ∧ (dies = -1 ∨ epNow w < dies))
def epExp (d n : Int) : Bool := decide (d ≠ -1 ∧ d ≤ n)
def epFl (g b : Int) : Bool := decide (g ≠ b)
theorem epAlive_eq (d g x : Int) : epAlive d g x = (!epExp d (epNow x) && !epFl g (epGen x)) := by
 unfold epAlive epExp epFl
 rw [Bool.eq_iff_iff]
 simp
 omega
theorem epNow_bd (w : Int) : 0 ≤ epNow w ∧ epNow w ≤ 16777215 := by unfold epNow; omega
theorem epAt_bd (w : Int) : 0 ≤ epAt w ∧ epAt w ≤ 16777215 := by unfold epAt; omega
theorem epGen_bd {w : Int} (h0 : 0 ≤ w) (h1 : w ≤ 18446744073709551615) : 0 ≤ epGen w ∧ epGen w ≤ 65535 := by unfold epGen; omega
theorem epPut_bd (n a g : Int) : 0 ≤ epPut n a g ∧ epPut n a g ≤ 18446744073709551615 := by unfold epPut; omega
theorem epTick_bd (w : Int) : 0 ≤ epTick w ∧ epTick w ≤ 18446744073709551615 := by unfold epTick; split <;> exact epPut_bd _ _ _
theorem epFlush_bd {w : Int} (d : Int) (h0 : 0 ≤ w) (h1 : w ≤ 18446744073709551615) : 0 ≤ epFlush w d ∧ epFlush w d ≤ 18446744073709551615 := by
 unfold epFlush
 split
 · exact ⟨h0, h1⟩
 · split <;> exact epPut_bd _ _ _
theorem u64_mask24 {x : Int} (h0 : 0 ≤ x) (h1 : x < 18446744073709551616) : bits .and .u64 x 16777215 = x % 16777216 := by
 rw [u64_and x 16777215 h0 h1 (by decide) (by decide), show (16777215 : Int).toNat = 2 ^ 24 - 1 from rfl, Nat.and_two_pow_sub_one_eq_mod, Int.natCast_emod, Int.toNat_of_nonneg h0]
 rfl
theorem u64_mask16 {x : Int} (h0 : 0 ≤ x) (h1 : x < 18446744073709551616) : bits .and .u64 x 65535 = x % 65536 := by
 rw [u64_and x 65535 h0 h1 (by decide) (by decide), show (65535 : Int).toNat = 2 ^ 16 - 1 from rfl, Nat.and_two_pow_sub_one_eq_mod, Int.natCast_emod, Int.toNat_of_nonneg h0]
 rfl
theorem or_parts {n a g : Int} (n0 : 0 ≤ n) (n1 : n < 16777216) (a0 : 0 ≤ a) (a1 : a < 16777216) (g0 : 0 ≤ g) (g1 : g < 65536) :
 bits .or .u64 (bits .or .u64 n (a * 16777216)) (g * 281474976710656) = n + 16777216 * a + 281474976710656 * g := by
 rw [u64_or n (a * 16777216) n0 (by omega) (by omega) (by omega)]
 have e1 : n.toNat ||| (a * 16777216).toNat = n.toNat + (a * 16777216).toNat := by
  rw [Nat.or_comm, nat_join 24 _ _ (by omega) (by omega), Nat.add_comm]
 rw [e1, u64_or _ (g * 281474976710656) (by omega) (by omega) (by omega) (by omega)]
 have e2 : (((n.toNat + (a * 16777216).toNat : Nat) : Int)).toNat ||| (g * 281474976710656).toNat = (n.toNat + (a * 16777216).toNat) + (g * 281474976710656).toNat := by
  rw [Int.toNat_natCast, Nat.or_comm, nat_join 48 _ _ (by omega) (by omega), Nat.add_comm]
 rw [e2]
 omega
end
section
open Go.RowKit
@[go_sem] theorem fld_ep0 (a b c : Value) (w : World) : (Instr.field 125 (.agg #[a, b, c]) 0).run Tryz.prog w = .ok a w := by kernel_rfl
@[go_sem] theorem fld_ep1 (a b c : Value) (w : World) : (Instr.field 125 (.agg #[a, b, c]) 1).run Tryz.prog w = .ok b w := by kernel_rfl
@[go_sem] theorem fld_ep2 (a b c : Value) (w : World) : (Instr.field 125 (.agg #[a, b, c]) 2).run Tryz.prog w = .ok c w := by kernel_rfl
theorem c_said (x : Int) (w : World) (x0 : 0 ≤ x) (x1 : x ≤ 18446744073709551615) :
 Calls Tryz.prog 44 #[.int .u64 x] w fun e w' => e = .returned (.agg #[.int .i64 (epNow x), .int .i64 (epAt x), .int .i64 (epGen x)]) ∧ Below w.heap.size w w' := by
 have e1 := u64_mask24 x0 (by omega)
 have e2 := u64_mask24 (x := x / 16777216) (by omega) (by omega)
 have e3 := u64_mask16 (x := x / 281474976710656) (by omega) (by omega)
 go_enter Tryz.func44, Tryz.ntmps44
 go_wp2
 exact bodyPost_ret (v := .agg #[.int .i64 (x % 16777216), .int .i64 (x / 16777216 % 16777216), .int .i64 (x / 281474976710656 % 65536)]) (by simp [results, Tryz.results44, go_sem]) rfl ⟨by unfold epNow epAt epGen; rw [show x / 281474976710656 % 65536 = x / 281474976710656 by omega], (Below.refl _ _).alloc (Nat.le_refl _) _⟩
theorem mask_int24 (n : Int) : bits .and .u64 (n % 18446744073709551616) 16777215 = n % 16777216 := by
 rw [u64_mask24 (by omega) (by omega)]; omega
theorem mask_int16 (n : Int) : bits .and .u64 (n % 18446744073709551616) 65535 = n % 65536 := by
 rw [u64_mask16 (by omega) (by omega)]; omega
theorem word_eq (n a g : Int) : bits .or .u64 (bits .or .u64 (IntKind.u64.wrap (bits .and .u64 (IntKind.u64.wrap n) 16777215)) (IntKind.u64.wrap (bits .and .u64 (IntKind.u64.wrap a) 16777215 * 16777216))) (IntKind.u64.wrap (bits .and .u64 (IntKind.u64.wrap g) 65535 * 281474976710656)) = epPut n a g := by
 simp only [IntKind.wrap_u64, mask_int24, mask_int16]
 rw [show n % 16777216 % 18446744073709551616 = n % 16777216 by omega, show a % 16777216 * 16777216 % 18446744073709551616 = a % 16777216 * 16777216 by omega, show g % 65536 * 281474976710656 % 18446744073709551616 = g % 65536 * 281474976710656 by omega]
 rw [or_parts (by omega) (by omega) (by omega) (by omega) (by omega) (by omega)]
 rfl
theorem c_word (n a g : Int) (w : World) (n0 : -9223372036854775808 ≤ n) (n1 : n ≤ 9223372036854775807) (a0 : -9223372036854775808 ≤ a) (a1 : a ≤ 9223372036854775807) (g0 : -9223372036854775808 ≤ g) (g1 : g ≤ 9223372036854775807) :
 Calls Tryz.prog 95 #[.agg #[.int .i64 n, .int .i64 a, .int .i64 g]] w fun e w' => e = .returned (.int .u64 (epPut n a g)) ∧ Below w.heap.size w w' := by
 have Ho := Lib.hid (word_eq n a g)
 go_enter Tryz.func95, Tryz.ntmps95
 go_wp2
 go_ret
 exact ⟨ret_int Ho.out, (Below.refl _ _).alloc (Nat.le_refl _) _⟩
theorem c_EpAt (x : Int) (w : World) (x0 : 0 ≤ x) (x1 : x ≤ 18446744073709551615) :
 Calls Tryz.prog 48 #[.int .u64 x] w fun e w' => e = .returned (.int .i64 (epAt x)) ∧ Below w.heap.size w w' := by
 go_enter Tryz.func48, Tryz.ntmps48
 go_wp2_with (go_at_call 44; refine (viaC (c_said _ _ x0 x1)).mono ?_; rintro e w' ⟨rfl, m, rfl⟩)
 go_ret
 exact ⟨rfl, below_via (Below.refl _ _) _⟩
theorem c_Gen (x : Int) (w : World) (x0 : 0 ≤ x) (x1 : x ≤ 18446744073709551615) :
 Calls Tryz.prog 49 #[.int .u64 x] w fun e w' => e = .returned (.int .i64 (epGen x)) ∧ Below w.heap.size w w' := by
 go_enter Tryz.func49, Tryz.ntmps49
 go_wp2_with (go_at_call 44; refine (viaC (c_said _ _ x0 x1)).mono ?_; rintro e w' ⟨rfl, m, rfl⟩)
 go_ret
 exact ⟨rfl, below_via (Below.refl _ _) _⟩
theorem c_Put (n a g : Int) (w : World) (n0 : -9223372036854775808 ≤ n) (n1 : n ≤ 9223372036854775807) (a0 : -9223372036854775808 ≤ a) (a1 : a ≤ 9223372036854775807) (g0 : -9223372036854775808 ≤ g) (g1 : g ≤ 9223372036854775807) :
 Calls Tryz.prog 51 #[.int .i64 n, .int .i64 a, .int .i64 g] w fun e w' => e = .returned (.int .u64 (epPut n a g)) ∧ Below w.heap.size w w' := by
 go_enter Tryz.func51, Tryz.ntmps51
 go_wp2_with (go_at_call 95; refine (viaC (c_word _ _ _ _ n0 n1 a0 a1 g0 g1)).mono ?_; rintro e w' ⟨rfl, m, rfl⟩)
 go_ret
 exact ⟨rfl, below_via (Below.refl _ _) _⟩
end
section
open Go.RowKit
theorem c_Tick (x : Int) (w : World) (x0 : 0 ≤ x) (x1 : x ≤ 18446744073709551615) :
 Calls Tryz.prog 43 #[.int .u64 x] w fun e w' => e = .returned (.int .u64 (epTick x)) ∧ Below w.heap.size w w' := by
 have hn := epNow_bd x
 have ha := epAt_bd x
 have hg := epGen_bd x0 x1
 have ht : (epNow x < 16777215 ∧ epTickNow x = epNow x + 1) ∨ (¬ epNow x < 16777215 ∧ epTickNow x = 16777215) := by unfold epTickNow; split <;> omega
 by_cases d : 0 < epAt x
 · by_cases d2 : epAt x ≤ epTickNow x
   · have hd : epDue x = true := by unfold epDue; rw [decide_eq_true_eq]; exact ⟨d, d2⟩
     have Hg := Lib.hid (show epTick x = epPut (epTickNow x) 0 (if epGen x < 65535 then epGen x + 1 else 65535) by unfold epTick; rw [if_pos hd])
     rw [Hg.out]
     clear hd Hg
     by_cases g : epGen x < 65535
     · rw [if_pos g]
       rcases ht with ⟨t1, t2⟩ | ⟨t1, t2⟩
       all_goals
        rw [t2] at d2 ⊢
        clear t2
        go_enter Tryz.func43, Tryz.ntmps43
        go_wp2_with (first | (go_at_call 44; refine (viaC (c_said _ _ x0 x1)).mono ?_; rintro e w' ⟨rfl, m, rfl⟩) | (go_at_call 95; refine (viaC (c_word _ _ _ _ (by omega) (by omega) (by omega) (by omega) (by omega) (by omega))).mono ?_; rintro e w' ⟨rfl, m2, rfl⟩))
        all_goals (go_ret; exact ⟨rfl, below_via ((below_via (Below.refl _ _) _).alloc (by simp) _) _⟩)
     · rw [if_neg g]
       rcases ht with ⟨t1, t2⟩ | ⟨t1, t2⟩
       all_goals
        rw [t2] at d2 ⊢
        clear t2
        go_enter Tryz.func43, Tryz.ntmps43
        go_wp2_with (first | (go_at_call 44; refine (viaC (c_said _ _ x0 x1)).mono ?_; rintro e w' ⟨rfl, m, rfl⟩) | (go_at_call 95; refine (viaC (c_word _ _ _ _ (by omega) (by omega) (by omega) (by omega) (by omega) (by omega))).mono ?_; rintro e w' ⟨rfl, m2, rfl⟩))
        all_goals (go_ret; exact ⟨rfl, below_via ((below_via (Below.refl _ _) _).alloc (by simp) _) _⟩)
   · have hd : epDue x = false := by unfold epDue; rw [decide_eq_false_iff_not]; omega
     have Hg := Lib.hid (show epTick x = epPut (epTickNow x) (epAt x) (epGen x) by unfold epTick; rw [if_neg (by rw [hd]; decide)])
     rw [Hg.out]
     clear hd Hg
     rcases ht with ⟨t1, t2⟩ | ⟨t1, t2⟩
     rotate_left
     · exfalso; omega
     all_goals
      rw [t2] at d2 ⊢
      clear t2
      go_enter Tryz.func43, Tryz.ntmps43
      go_wp2_with (first | (go_at_call 44; refine (viaC (c_said _ _ x0 x1)).mono ?_; rintro e w' ⟨rfl, m, rfl⟩) | (go_at_call 95; refine (viaC (c_word _ _ _ _ (by omega) (by omega) (by omega) (by omega) (by omega) (by omega))).mono ?_; rintro e w' ⟨rfl, m2, rfl⟩))
      all_goals (go_ret; exact ⟨rfl, below_via ((below_via (Below.refl _ _) _).alloc (by simp) _) _⟩)
 · have hd : epDue x = false := by unfold epDue; rw [decide_eq_false_iff_not]; omega
   have Hg := Lib.hid (show epTick x = epPut (epTickNow x) (epAt x) (epGen x) by unfold epTick; rw [if_neg (by rw [hd]; decide)])
   rw [Hg.out]
   clear hd Hg
   have e0 : epAt x = 0 := by omega
   rw [e0]
   clear d ha
   rcases ht with ⟨t1, t2⟩ | ⟨t1, t2⟩
   all_goals
    rw [t2]
    clear t2
    go_enter Tryz.func43, Tryz.ntmps43
    go_wp2_with (first | (go_at_call 44; refine (viaC (c_said _ _ x0 x1)).mono ?_; rintro e w' ⟨rfl, m, rfl⟩) | (go_at_call 95; refine (viaC (c_word _ _ _ _ (by omega) (by omega) (by omega) (by omega) (by omega) (by omega))).mono ?_; rintro e w' ⟨rfl, m2, rfl⟩))
    all_goals (go_ret; exact ⟨rfl, below_via ((below_via (Below.refl _ _) _).alloc (by simp) _) _⟩)
theorem c_Flush (x d : Int) (w : World) (x0 : 0 ≤ x) (x1 : x ≤ 18446744073709551615) (d0 : -9223372036854775808 ≤ d) (d1 : d ≤ 9223372036854775807) :
 Calls Tryz.prog 171 #[.int .u64 x, .int .i64 d] w fun e w' => e = .returned (.tuple #[.int .u64 (epFlush x d), .bool (epFlushOk x)]) ∧ Below w.heap.size w w' := by
 have hn := epNow_bd x
 have ha := epAt_bd x
 have hg := epGen_bd x0 x1
 by_cases g : epGen x = 65535
 · have g' : (epGen x == 65535) = true := by rw [g]; rfl
   have e1 : epFlush x d = x := by unfold epFlush; rw [if_pos g]
   have e2 : epFlushOk x = false := by unfold epFlushOk; rw [decide_eq_false_iff_not]; simp [g]
   rw [e1, e2]
   clear e1 e2 g
   go_enter Tryz.func171, Tryz.ntmps171
   go_wp2_with (first | (go_at_call 44; refine (viaC (c_said _ _ x0 x1)).mono ?_; rintro e w' ⟨rfl, m, rfl⟩) | (go_at_call 95; refine (viaC (c_word _ _ _ _ (by omega) (by omega) (by omega) (by omega) (by omega) (by omega))).mono ?_; rintro e w' ⟨rfl, m2, rfl⟩))
   go_ret2
   exact ⟨rfl, (below_via (Below.refl _ _) _).alloc (by simp) _⟩
 · have g' : (epGen x == 65535) = false := beq_eq_false_iff_ne.2 g
   have e2 : epFlushOk x = true := by unfold epFlushOk; rw [decide_eq_true_eq]; exact g
   rw [e2]
   by_cases c : 0 < d
   · have e1 : epFlush x d = epPut (epNow x) (if d < 16777215 - epNow x then epNow x + d else 16777215) (epGen x) := by unfold epFlush; rw [if_neg g, if_neg (by omega)]
     rw [e1]
     clear e1 e2 g
     by_cases c2 : d < 16777215 - epNow x
     · rw [if_pos c2]
       go_enter Tryz.func171, Tryz.ntmps171
       go_wp2_with (first | (go_at_call 44; refine (viaC (c_said _ _ x0 x1)).mono ?_; rintro e w' ⟨rfl, m, rfl⟩) | (go_at_call 95; refine (viaC (c_word _ _ _ _ (by omega) (by omega) (by omega) (by omega) (by omega) (by omega))).mono ?_; rintro e w' ⟨rfl, m2, rfl⟩))
       all_goals (go_ret2; exact ⟨rfl, below_via ((below_via (Below.refl _ _) _).alloc (by simp) _) _⟩)
     · rw [if_neg c2]
       have e3 : epNow x + (16777215 - epNow x) = 16777215 := by omega
       by_cases c3 : d = 16777215 - epNow x
       · subst c3
         go_enter Tryz.func171, Tryz.ntmps171
         go_wp2_with (first | (go_at_call 44; refine (viaC (c_said _ _ x0 x1)).mono ?_; rintro e w' ⟨rfl, m, rfl⟩) | (go_at_call 95; refine (viaC (c_word _ _ _ _ (by omega) (by omega) (by omega) (by omega) (by omega) (by omega))).mono ?_; rintro e w' ⟨rfl, m2, rfl⟩))
         all_goals (go_ret2; exact ⟨rfl, below_via ((below_via (Below.refl _ _) _).alloc (by simp) _) _⟩)
       · have c4 : 16777215 - epNow x < d := by omega
         clear c3
         go_enter Tryz.func171, Tryz.ntmps171
         go_wp2_with (first | (go_at_call 44; refine (viaC (c_said _ _ x0 x1)).mono ?_; rintro e w' ⟨rfl, m, rfl⟩) | (go_at_call 95; refine (viaC (c_word _ _ _ _ (by omega) (by omega) (by omega) (by omega) (by omega) (by omega))).mono ?_; rintro e w' ⟨rfl, m2, rfl⟩))
         all_goals (go_ret2; exact ⟨rfl, below_via ((below_via (Below.refl _ _) _).alloc (by simp) _) _⟩)
   · have e1 : epFlush x d = epPut (epNow x) 0 (epGen x + 1) := by unfold epFlush; rw [if_neg g, if_pos (by omega)]
     rw [e1]
     clear e1 e2 g
     go_enter Tryz.func171, Tryz.ntmps171
     go_wp2_with (first | (go_at_call 44; refine (viaC (c_said _ _ x0 x1)).mono ?_; rintro e w' ⟨rfl, m, rfl⟩) | (go_at_call 95; refine (viaC (c_word _ _ _ _ (by omega) (by omega) (by omega) (by omega) (by omega) (by omega))).mono ?_; rintro e w' ⟨rfl, m2, rfl⟩))
     all_goals (go_ret2; exact ⟨rfl, below_via ((below_via (Below.refl _ _) _).alloc (by simp) _) _⟩)
end
section
open Go.RowKit
def awTick (s : AW) : AW := ⟨upd s.M 8 (epTick (s.M 8)), s.n + 1, ⟨3, 8, s.M 8, epTick (s.M 8)⟩, s.tk, s.ho, s.it, s.nt⟩
theorem c_WTick (w : World) (O : Om) (B : Wb) (f : Cf) (s : AW) (hP : PW w O B f s) (hhi : ∀ j, O j ≠ 0 → j < w.heap.size) (n0 : 0 ≤ s.n) (n1 : s.n ≤ 4611686018427387904) :
 Calls Tryz.prog 14 #[.pointer (some ⟨B.p, 0, none⟩)] w (RP SW w O (.tuple #[]) fun W G => PW W G B f (awTick s)) := by
 have p0 := hP.wo.c0
 have hpl := hP.wo.lt
 have hb := hP.bd 8
 have htb := epTick_bd (s.M 8)
 have HK := Lib.hid (c_Peek 8 hP.ce (by decide) (by decide))
 have HP := Lib.hid hP
 have HH := Lib.hid hhi
 clear hP hhi
 go_enter Tryz.func14, Tryz.ntmps14
 go_wp2_with fail
 refine (HK.out).mono ?_
 rintro e w' ⟨rfl, rfl⟩
 obtain ⟨m8, hm8⟩ : ∃ m8, m8 = s.M 8 := ⟨_, rfl⟩
 have Hm := Lib.hid hm8
 rw [← hm8] at hb htb ⊢
 clear HK hm8
 go_wp2_with fail
 go_region_held3 (fun w' => w'.cell? ⟨B.p, 0, none⟩ = some (.pointer (some ⟨B.c, 0, none⟩))) (go_keep)
  (first
    | (go_at_call 43; refine (c_Tick m8 _ hb.1 (by omega)).mono ?_; rintro e w1 ⟨rfl, hb1⟩
       have P1 := HP.out.below HH.out ((Below.refl _ _).drew.trans hb1)
       have hh1 : ∀ j, O j ≠ 0 → j < w1.heap.size := fun j hj => Nat.lt_of_lt_of_le (HH.out j hj) hb1.size
       have r0 := P1.wo.c0
       have HP1 := Lib.hid P1
       have HH1 := Lib.hid hh1
       have HB1 := Lib.hid ((Below.refl _ _).drew.trans hb1)
       clear P1 hh1 hb1)
    | (go_at_call 42
       refine (c_CAS_hit (w := w1) 8 m8 (epTick m8) HP1.out.ce (by decide) (by decide) htb.1 (by omega) n0 n1 (by rw [Hm.out])).mono ?_
       intro e w2 hp
       obtain ⟨rfl, O2, E2, P2⟩ := PW.rp_cells HP1.out HH1.out hp
       have HE := Lib.hid (((Ext.of_below HH.out HB1.out).trans (S := SW) E2))
       have HP2 := Lib.hid P2
       have r1 := P2.wo.c0
       clear hp E2 P2))
 all_goals
  rw [Hm.out] at HP2
  go_wp2
  go_end0
  exact ⟨rfl, O2, HE.out, HP2.out⟩
def awLoad (x : Int) (s : AW) : AW := ⟨s.M, s.n + 1, ⟨1, x, s.M x, s.M x⟩, s.tk, s.ho, s.it, s.nt⟩
def awStore (a v : Int) (s : AW) : AW := ⟨upd s.M a v, s.n + 1, ⟨2, a, s.M a, v⟩, s.tk, s.ho, s.it, s.nt⟩
theorem c_StoreP (a v : Int) {w : World} {O : Om} {B : Wb} {f : Cf} {s : AW} (hP : PW w O B f s) (hhi : ∀ j, O j ≠ 0 → j < w.heap.size) (a0 : 0 ≤ a) (a1 : a < 18446744073709551616) (v0 : 0 ≤ v) (v1 : v < 18446744073709551616) (n0 : 0 ≤ s.n) (n1 : s.n ≤ 4611686018427387904) :
 Calls Tryz.prog 50 #[.pointer (some ⟨B.c, 0, none⟩), .int .u64 a, .int .u64 v] w (RP SW w O (.int .u64 (s.M a)) fun W G => PW W G B f (awStore a v s)) :=
 (c_Store a v hP.ce a0 a1 v0 v1 n0 n1).mono fun e w' hp => hP.rp_cells hhi hp
theorem c_WSteps (w : World) (O : Om) (B : Wb) (f : Cf) (s : AW) (hP : PW w O B f s) : Calls Tryz.prog 139 #[.pointer (some ⟨B.p, 0, none⟩)] w fun e w' => e = .returned (.int .i64 s.n) ∧ w = w' := by
 have p0 := hP.wo.c0
 have HK := Lib.hid (c_CCount hP.ce)
 clear hP
 go_enter Tryz.func139, Tryz.ntmps139
 go_wp2_with fail
 refine (HK.out).mono ?_
 rintro e w' ⟨rfl, rfl⟩
 go_wp2
 go_ret
 exact ⟨rfl, rfl⟩
end
section
open Go.RowKit
def awNote (k ref b q s v : Int) (x : AW) : AW := ⟨x.M, x.n, x.la, x.tk, x.ho, x.it, ntAdd x.nt ⟨x.n, x.ho, k, ref, b, q, s, v⟩⟩
theorem PW.notes {w w' : World} {O O' : Om} {B : Wb} {f : Cf} {s : AW} {l : List Nt} (h : PW w O B f s) (e : Ext (fun t => t = 4) O w O' w') (hc : No w' O' 4 B.np l) : PW w' O' B f ⟨s.M, s.n, s.la, s.tk, s.ho, s.it, l⟩ :=
 ⟨(e.lo _ h.wo.lt).trans h.o, h.wo.wrote e.wr (fun k => absurd (show (1 : Nat) = 4 from by have := k.1; rwa [h.o] at this) (by decide)), h.ce.ext e (by decide) (by decide), h.ar.ext e (by decide), hc⟩
end
end Go.Proofs.YtifkfhnbkjkakaaGreatDoor
