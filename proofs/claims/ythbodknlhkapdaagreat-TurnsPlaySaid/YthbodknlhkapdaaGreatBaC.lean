/- Layer 10. -/
import Derived.Test.YthbodknlhkapdaaGreatBaB
import Derived.Test.YthbodknlhkapdaaGreatBaA
import Derived.BigRegion
import Derived.Deep.DeepCutAuto
import Derived.Deep.RegionHeld3
import Derived.Deep.RegionLaw
import Derived.Laws.AppendOwnNone
import Derived.Laws.BitsAllLaws
import Derived.Laws.BitsLemmas
import Derived.Outline
import Derived.Test.YthbodknlhkapdaaGreatRows
namespace Go.Proofs.YthbodknlhkapdaaGreat
set_option linter.unusedSimpArgs false
set_option linter.unusedVariables false
set_option maxHeartbeats 2000000
set_option maxRecDepth 100000
section
open Go.RowKit
theorem Acd (w : World) (cs : List Value) (e : TypeId) (N : Nat) (hN : N = w.heap.size) (j : Nat) (u : Value) (hj : cs[j]? = some u) : (w.alloc (.cells cs.toArray e)).cell? ⟨N, j, none⟩ = some u := by
 subst hN
 unfold World.cell?
 rw [heap_alloc_new]
 simpa using hj
theorem Agl (w : World) (cs : List Value) (e : TypeId) (N : Nat) (hN : N = w.heap.size) (j : Nat) : (w.alloc (.cells cs.toArray e)).frozen? ⟨N, j, none⟩ = false := by
 subst hN
 unfold World.frozen?
 rw [heap_alloc_new]
 simp
theorem World.heap_size_alloc' (w : World) (o : Obj) : (w.alloc o).heap.size = w.heap.size + 1 := by simp
theorem Aak (w : World) (cs : Array Value) (e : TypeId) (N : Nat) (hN : N = w.heap.size) (j : Nat) (u : Value) (hj : cs[j]? = some u) : (w.alloc (.cells cs e)).cell? ⟨N, j, none⟩ = some u := by
 subst hN
 unfold World.cell?
 rw [heap_alloc_new]
 simpa using hj
theorem Acy (w : World) (cs : Array Value) (e : TypeId) (N : Nat) (hN : N = w.heap.size) (j : Nat) : (w.alloc (.cells cs e)).frozen? ⟨N, j, none⟩ = false := by
 subst hN
 unfold World.frozen?
 rw [heap_alloc_new]
 simp
theorem Cl.start (w : World) (e : TypeId) (N : Nat) (hN : N = w.heap.size) : Cl (w.alloc (.cells #[.map none, .int .i64 0, .int .u8 0, .int .u64 0, .int .u64 0, .int .u64 0] e)) (fun j => j = N) N [] 0 0 0 0 0 :=
 ⟨.inl ⟨rfl, Acd w [.map none, .int .i64 0, .int .u8 0, .int .u64 0, .int .u64 0, .int .u64 0] e N hN 0 _ rfl⟩, Acd w [.map none, .int .i64 0, .int .u8 0, .int .u64 0, .int .u64 0, .int .u64 0] e N hN 1 _ rfl, Acd w [.map none, .int .i64 0, .int .u8 0, .int .u64 0, .int .u64 0, .int .u64 0] e N hN 2 _ rfl, Acd w [.map none, .int .i64 0, .int .u8 0, .int .u64 0, .int .u64 0, .int .u64 0] e N hN 3 _ rfl, Acd w [.map none, .int .i64 0, .int .u8 0, .int .u64 0, .int .u64 0, .int .u64 0] e N hN 4 _ rfl, Acd w [.map none, .int .i64 0, .int .u8 0, .int .u64 0, .int .u64 0, .int .u64 0] e N hN 5 _ rfl,
   fun j => Agl w [.map none, .int .i64 0, .int .u8 0, .int .u64 0, .int .u64 0, .int .u64 0] e N hN j, by subst hN; simp, rfl, (fun d hd => by cases hd), by simp, by simp⟩
def Ap0 (w : World) (x v : Int) (e : Ending) (w' : World) : Prop :=
 ∃ c F', e = .returned (.pointer (some ⟨c, 0, none⟩)) ∧ Ce w' F' c (upd (fun _ => 0) x v) 0 ⟨0, 0, 0, 0⟩ ∧ (∀ j, F' j → w.heap.size ≤ j) ∧ Below w.heap.size w w'
theorem Bbv (w : World) (b : Nat) (x v : Int) (h0 : w.cell? ⟨b, 0, none⟩ = some (.int .u64 x)) (h1 : w.cell? ⟨b, 1, none⟩ = some (.int .u64 v)) (hb : b < w.heap.size) (x0 : 0 ≤ x) (x1 : x < 18446744073709551616) (v0 : 0 ≤ v) (v1 : v < 18446744073709551616) :
 Calls Tryz.prog 59 #[.slice (some ⟨b, 0, none⟩) 1 1] w (Ap0 w x v) := by
 have hs := Cl.start w 137 w.heap.size rfl
 have HS := hQd (hs.below (bal _ (.cells #[.int .u64 x, .int .u64 v] 144)))
 clear hs
 go_enter Tryz.func59, Tryz.ntmps59
 go_wp2
 refine wp_loop_rounds 2 ?_
 rw [rounds_succ]
 go_wp2
 obtain ⟨W, hW⟩ := exq ((w.alloc (.cells #[.map none, .int .i64 0, .int .u8 0, .int .u64 0, .int .u64 0, .int .u64 0] 137)).alloc (.cells #[.int .u64 x, .int .u64 v] 144))
 have hz : W.heap.size = w.heap.size + 2 := by rw [hW]; simp
 have k0 : W.cell? ⟨w.heap.size + 1, 0, none⟩ = some (.int .u64 x) := by rw [hW]; exact Acd _ [.int .u64 x, .int .u64 v] _ _ (by simp) 0 _ rfl
 have k1 : W.cell? ⟨w.heap.size + 1, 1, none⟩ = some (.int .u64 v) := by rw [hW]; exact Acd _ [.int .u64 x, .int .u64 v] _ _ (by simp) 1 _ rfl
 have hB : Below w.heap.size w W := by rw [hW]; exact (bal _ _).alloc (by simp) _
 have HS2 := HS.out
 rw [← hW] at HS2 ⊢
 have Hat := hQd (c_at W.drew (fun j => j = w.heap.size) w.heap.size [] 0 0 0 0 0 x (HS2.wrote (S := fun _ => False) (Aag.refl _ _).drew fun _ _ h => h) (fun j hj => by subst hj; show _ < W.heap.size; omega) x0 x1)
 have HB := hQd hB
 have HZ := hQd hz
 clear HS HS2 hW hB hz h0 h1
 go_region_held3 (fun w' => w'.cell? ⟨w.heap.size + 1, 0, none⟩ = some (.int .u64 x) ∧ w'.cell? ⟨w.heap.size + 1, 1, none⟩ = some (.int .u64 v)) (go_keep)
  (first
    | (go_at_call 97; refine (Hat.out).mono ?_; rintro e w1 ⟨L1, F1, d, rfl, h1, hd1, hda, hv1, hg1, hw1⟩
       have q0 := (hw1.cell (p := ⟨w.heap.size + 1, 0, none⟩) (by have := HZ.out; show w.heap.size + 1 < W.heap.size; omega) (by show ¬ w.heap.size + 1 = w.heap.size; omega)).trans k0
       have q1 := (hw1.cell (p := ⟨w.heap.size + 1, 1, none⟩) (by have := HZ.out; show w.heap.size + 1 < W.heap.size; omega) (by show ¬ w.heap.size + 1 = w.heap.size; omega)).trans k1
       have hdn : d.b ≠ w.heap.size + 1 := by
        intro e
        have hz := HZ.out
        rcases hg1.new _ (h1.wd d hd1).mem with h | h
        · omega
        have h2 : W.heap.size ≤ d.b := h
        omega
       have H1 := hQd h1
       have Hd1 := hQd hd1
       have Hda := hQd hda
       have Hv1 := hQd hv1
       have Hg1 := hQd hg1
       have Hw1 := hQd hw1
       clear h1 hd1 hda hv1 hg1 hw1)
    | (go_at_call 102; refine (Avv (H1.out.wd d Hd1.out).cell (H1.out.wd d Hd1.out).free v).mono ?_; rintro e w3 ⟨rfl, rfl⟩))
 all_goals
  have HE : Hid (Ap0 w x v (.returned (.pointer (some ⟨w.heap.size, 0, none⟩))) (w1.setCell ⟨d.b, 0, none⟩ (.int .u64 v))) := by
   have h1 := H1.out
   have hd1 := Hd1.out
   have hda := Hda.out
   have hz := HZ.out
   have hwd := h1.wd d hd1
   have hsw : Aag (fun j => j = d.b) w1 (w1.setCell ⟨d.b, 0, none⟩ (.int .u64 v)) := Aag.setCell (S := fun j => j = d.b) (Aag.refl _ _) (p := ⟨d.b, 0, none⟩) (fun _ => rfl) _
   have h2 := Cl.put (v := v) h1 hd1 v0 v1 hsw (fun j _ h => h) (World.cell?_setCell_same _ _ _ hwd.cell) ((World.frozen?_setCell _ _ _ _).trans hwd.free)
   refine hQd ⟨w.heap.size, F1, rfl, ⟨⟨_, h2, fun y => ?_⟩, fun j hj => Nat.lt_of_lt_of_le (Hg1.out.lts j hj) hsw.size⟩, fun j hj => ?_, ?_⟩
   · rw [Apa hd1, Hv1.out, hda]; rfl
   · rcases Hg1.out.new j hj with h | h
     · omega
     have h2 : W.heap.size ≤ j := h
     omega
   refine (HB.out.drew.trans (Hw1.out.below (B := w.heap.size) (fun k _ h => by omega) (by show w.heap.size ≤ W.heap.size; omega))).trans (hsw.below (B := w.heap.size) (fun k _ h => ?_) (by have := Hw1.out.size; have h2 : W.heap.size ≤ w1.heap.size := this; omega))
   subst h
   rcases Hg1.out.new _ hwd.mem with h | h
   · omega
   have h2 : W.heap.size ≤ d.b := h
   omega
  go_wp2
  rw [rounds_succ]
  go_wp2
  go_ret
  exact HE.out
structure Cf where
 b : Int
 g : Int
 t : Int
 q : Int
 y : Int
structure Cf.may (f : Cf) : Prop where
 b0 : 1 ≤ f.b
 b1 : f.b ≤ 12
 g0 : 1 ≤ f.g
 g1 : f.g ≤ 65536
 t0 : 0 ≤ f.t
 t1 : f.t ≤ 16
 q0 : 1 ≤ f.q
 q1 : f.q ≤ 8
 y0 : 2 ≤ f.y
 y1 : f.y ≤ 256
theorem Bbb (f : Cf) (w : World) (h : f.may) : Calls Tryz.prog 58 #[.agg #[.int .i64 f.b, .int .i64 f.g, .int .i64 f.t, .int .i64 f.q, .int .i64 f.y]] w fun e w' => e = .returned (.bool true) ∧ Below w.heap.size w w' := by
 obtain ⟨b, g, t, q, y⟩ := f
 obtain ⟨b0, b1, g0, g1, t0, t1, q0, q1, y0, y1⟩ := h
 dsimp only at b0 b1 g0 g1 t0 t1 q0 q1 y0 y1 ⊢
 have i0 : ∀ W : World, (Instr.index 210 (.agg #[.int .i64 b, .int .i64 1, .int .i64 12, .int .i64 g, .int .i64 1, .int .i64 65536, .int .i64 t, .int .i64 0, .int .i64 16, .int .i64 q, .int .i64 1, .int .i64 8, .int .i64 y, .int .i64 2, .int .i64 256]) (.int .i64 0)).run Tryz.prog W = .ok (.agg #[.int .i64 b, .int .i64 1, .int .i64 12]) W := fun _ => by kernel_rfl
 have i1 : ∀ W : World, (Instr.index 210 (.agg #[.int .i64 b, .int .i64 1, .int .i64 12, .int .i64 g, .int .i64 1, .int .i64 65536, .int .i64 t, .int .i64 0, .int .i64 16, .int .i64 q, .int .i64 1, .int .i64 8, .int .i64 y, .int .i64 2, .int .i64 256]) (.int .i64 1)).run Tryz.prog W = .ok (.agg #[.int .i64 g, .int .i64 1, .int .i64 65536]) W := fun _ => by kernel_rfl
 have i2 : ∀ W : World, (Instr.index 210 (.agg #[.int .i64 b, .int .i64 1, .int .i64 12, .int .i64 g, .int .i64 1, .int .i64 65536, .int .i64 t, .int .i64 0, .int .i64 16, .int .i64 q, .int .i64 1, .int .i64 8, .int .i64 y, .int .i64 2, .int .i64 256]) (.int .i64 2)).run Tryz.prog W = .ok (.agg #[.int .i64 t, .int .i64 0, .int .i64 16]) W := fun _ => by kernel_rfl
 have i3 : ∀ W : World, (Instr.index 210 (.agg #[.int .i64 b, .int .i64 1, .int .i64 12, .int .i64 g, .int .i64 1, .int .i64 65536, .int .i64 t, .int .i64 0, .int .i64 16, .int .i64 q, .int .i64 1, .int .i64 8, .int .i64 y, .int .i64 2, .int .i64 256]) (.int .i64 3)).run Tryz.prog W = .ok (.agg #[.int .i64 q, .int .i64 1, .int .i64 8]) W := fun _ => by kernel_rfl
 have i4 : ∀ W : World, (Instr.index 210 (.agg #[.int .i64 b, .int .i64 1, .int .i64 12, .int .i64 g, .int .i64 1, .int .i64 65536, .int .i64 t, .int .i64 0, .int .i64 16, .int .i64 q, .int .i64 1, .int .i64 8, .int .i64 y, .int .i64 2, .int .i64 256]) (.int .i64 4)).run Tryz.prog W = .ok (.agg #[.int .i64 y, .int .i64 2, .int .i64 256]) W := fun _ => by kernel_rfl
 go_enter Tryz.func58, Tryz.ntmps58
 go_wp2
 refine wp_loop_rounds 6 ?_
 rw [rounds_succ]
 go_wp2
 rw [rounds_succ]
 go_wp2
 rw [rounds_succ]
 go_wp2
 rw [rounds_succ]
 go_wp2
 rw [rounds_succ]
 go_wp2
 rw [rounds_succ]
 go_wp2
 go_ret
 exact ⟨rfl, by repeat (first | exact Below.refl _ _ | refine Abz ?_ _)⟩
theorem Bbs (w : World) : Calls Tryz.prog 60 #[] w fun e w' => e = .returned (.pointer (some ⟨w.heap.size, 0, none⟩)) ∧ w.alloc (.cells #[.slice none 0 0, .int .i64 0] 193) = w' := by
 go_enter Tryz.func60, Tryz.ntmps60
 go_wp2
 go_ret
 exact ⟨rfl, rfl⟩
theorem Bbf (w : World) : Calls Tryz.prog 61 #[] w fun e w' => e = .returned (.pointer (some ⟨w.heap.size, 0, none⟩)) ∧ w.alloc (.cells #[.slice none 0 0] 213) = w' := by
 go_enter Tryz.func61, Tryz.ntmps61
 go_wp2
 go_ret
 exact ⟨rfl, rfl⟩
def isZ : Option Value → Bool
 | some (.int .u64 0) => true
 | _ => false
theorem Awp {o : Option Value} (h : isZ o = true) : o = some (.int .u64 0) := by
 unfold isZ at h
 split at h
 · rfl
 cases h
theorem Alc (j : Nat) (hj : j < 64) : Tryz.zeroCells66[8 + j]? = some (.int .u64 0) := by
 have h : (List.range 64).all (fun j => isZ (Tryz.zeroCells66[8 + j]?)) = true := by kernel_rfl
 exact Awp (List.all_eq_true.1 h j (by simpa using hj))
structure Wo (w : World) (p c ip np : Nat) (f : Cf) (tk : Nat → Int) (ho : Int) : Prop where
 c0 : w.cell? ⟨p, 0, none⟩ = some (.pointer (some ⟨c, 0, none⟩))
 c1 : w.cell? ⟨p, 1, none⟩ = some (.pointer (some ⟨ip, 0, none⟩))
 c2 : w.cell? ⟨p, 2, none⟩ = some (.pointer (some ⟨np, 0, none⟩))
 c3 : w.cell? ⟨p, 3, none⟩ = some (.int .i64 f.b)
 c4 : w.cell? ⟨p, 4, none⟩ = some (.int .i64 f.g)
 c5 : w.cell? ⟨p, 5, none⟩ = some (.int .i64 f.t)
 c6 : w.cell? ⟨p, 6, none⟩ = some (.int .i64 f.q)
 c7 : w.cell? ⟨p, 7, none⟩ = some (.int .i64 f.y)
 tk : ∀ j, j < 64 → w.cell? ⟨p, 8 + j, none⟩ = some (.int .u64 (tk j))
 ho : w.cell? ⟨p, 72, none⟩ = some (.int .i64 ho)
 fr : ∀ j, w.frozen? ⟨p, j, none⟩ = false
 lt : p < w.heap.size
theorem Wo.wrote {w w' : World} {S : Nat → Prop} {p c ip np : Nat} {f : Cf} {tk : Nat → Int} {ho : Int} (h : Wo w p c ip np f tk ho) (hw : Aag S w w') (hs : ¬ S p) : Wo w' p c ip np f tk ho := by
 have hc : ∀ j, w'.cell? ⟨p, j, none⟩ = w.cell? ⟨p, j, none⟩ := fun j => hw.cell (p := ⟨p, j, none⟩) h.lt hs
 exact ⟨(hc 0).trans h.c0, (hc 1).trans h.c1, (hc 2).trans h.c2, (hc 3).trans h.c3, (hc 4).trans h.c4, (hc 5).trans h.c5, (hc 6).trans h.c6, (hc 7).trans h.c7, fun j hj => (hc (8 + j)).trans (h.tk j hj), (hc 72).trans h.ho, fun j => (hw.frozen (p := ⟨p, j, none⟩) h.lt hs).trans (h.fr j), Nat.lt_of_lt_of_le h.lt hw.size⟩
noncomputable def wZ (c ip np : Nat) (f : Cf) : Array Value :=
 ((((((((Tryz.zeroCells66.setIfInBounds 0 (.pointer (some ⟨c, 0, none⟩))).setIfInBounds 1 (.pointer (some ⟨ip, 0, none⟩))).setIfInBounds 2 (.pointer (some ⟨np, 0, none⟩))).setIfInBounds 3 (.int .i64 f.b)).setIfInBounds 4 (.int .i64 f.g)).setIfInBounds 5 (.int .i64 f.t)).setIfInBounds 6 (.int .i64 f.q)).setIfInBounds 7 (.int .i64 f.y)).setIfInBounds 72 (.int .i64 (-1))
theorem Bb4 : Tryz.zeroCells66.size = 73 := by kernel_rfl
theorem Az6 (c ip np : Nat) (f : Cf) (w : World) (e : TypeId) (N : Nat) (hN : N = w.heap.size) : Wo (w.alloc (.cells (wZ c ip np f) e)) N c ip np f (fun _ => 0) (-1) := by
 have hz := Bb4
 have hs : (wZ c ip np f).size = 73 := by unfold wZ; simp [hz]
 refine ⟨Aak _ _ _ _ hN 0 _ ?_, Aak _ _ _ _ hN 1 _ ?_, Aak _ _ _ _ hN 2 _ ?_, Aak _ _ _ _ hN 3 _ ?_, Aak _ _ _ _ hN 4 _ ?_, Aak _ _ _ _ hN 5 _ ?_, Aak _ _ _ _ hN 6 _ ?_, Aak _ _ _ _ hN 7 _ ?_, fun j hj => Aak _ _ _ _ hN _ _ ?_, Aak _ _ _ _ hN 72 _ ?_, fun j => Acy _ _ _ _ hN j, by subst hN; simp⟩
 case refine_9 =>
  unfold wZ
  repeat rw [Array.getElem?_setIfInBounds_ne (by omega)]
  exact Alc j hj
 all_goals (unfold wZ; simp [Array.getElem?_setIfInBounds, hz])
end
section
open Go.RowKit
abbrev Om := Nat → Nat
structure Ext (S : Nat → Prop) (O : Om) (w : World) (O' : Om) (w' : World) : Prop where
 lo : ∀ j, j < w.heap.size → O' j = O j
 hi : Hh O' w'
 nw : ∀ j, w.heap.size ≤ j → O' j ≠ 0 → S (O' j)
 wr : Aag (fun j => S (O j) ∧ O j ≠ 0) w w'
structure Env (w0 : World) (O : Om) (w : World) : Prop where
 base : ∀ j, O j ≠ 0 → w0.heap.size ≤ j
 hi : Hh O w
 bel : Below w0.heap.size w0 w
section
variable {S T : Nat → Prop} {O O' O1 O2 : Om} {w0 w w' w1 w2 : World} {g : Nat}
theorem Ext.refl (h : Hh O w) : Ext S O w O w := ⟨fun _ _ => rfl, h, fun j hj hn => by have := h j hn; omega, Aag.refl _ _⟩
theorem Ext.size (h : Ext S O w O' w') : w.heap.size ≤ w'.heap.size := h.wr.size
theorem Ext.trans (h : Ext S O w O1 w1) (k : Ext S O1 w1 O2 w2) : Ext S O w O2 w2 := by
 have hs := h.size
 refine ⟨fun j hj => (k.lo j (by omega)).trans (h.lo j hj), k.hi, fun j hj hn => ?_, h.wr.trans k.wr fun n hn ⟨hS, hz⟩ => ?_⟩
 · by_cases hj2 : j < w1.heap.size
   · rw [k.lo j hj2] at hn ⊢; exact h.nw j hj hn
   exact k.nw j (by omega) hn
 rw [h.lo n hn] at hS hz; exact ⟨hS, hz⟩
theorem Ext.mono (h : Ext S O w O' w') (hs : ∀ t, t ≠ 0 → S t → T t) : Ext T O w O' w' :=
 ⟨h.lo, h.hi, fun j hj hn => hs _ hn (h.nw j hj hn), h.wr.mono fun k _ ⟨a, b⟩ => ⟨hs _ b a, b⟩⟩
theorem Ext.of_below (h : Hh O w) (hb : Below w.heap.size w w') : Ext S O w O w' :=
 ⟨fun _ _ => rfl, fun j hj => Nat.lt_of_lt_of_le (h j hj) hb.size, fun j hj hn => by have := h j hn; omega, Aag.of_below hb⟩
theorem Ext.of_set {b j : Nat} {v : Value} (h : Hh O w) (hb : O b = g) (hg : g ≠ 0) (hS : S g) : Ext S O w O (w.setCell ⟨b, j, none⟩ v) :=
 ⟨fun _ _ => rfl, fun j hj => by simpa using h j hj, fun j hj hn => by have := h j hn; omega, Aag.setCell (Aag.refl _ _) (p := ⟨b, j, none⟩) (fun _ => ⟨by show S (O b); rw [hb]; exact hS, by show O b ≠ 0; rw [hb]; exact hg⟩) _⟩
theorem Env.ext (e : Env w0 O w) (h : Ext S O w O' w') : Env w0 O' w' := by
 have hs := e.bel.size
 refine ⟨fun j hn => ?_, h.hi, e.bel.trans (h.wr.below (fun k _ ⟨_, hz⟩ => e.base k hz) hs)⟩
 by_cases hj : j < w.heap.size
 · rw [h.lo j hj] at hn; exact e.base j hn
 omega
theorem Ext.cell (h : Ext S O w O' w') {p : Addr} (hp : p.block < w.heap.size) (hs : ¬ S (O p.block)) : w'.cell? p = w.cell? p := h.wr.cell hp fun k => hs k.1
theorem Ext.frozen (h : Ext S O w O' w') {p : Addr} (hp : p.block < w.heap.size) (hs : ¬ S (O p.block)) : w'.frozen? p = w.frozen? p := h.wr.frozen hp fun k => hs k.1
noncomputable def Aei (O : Om) (n m g : Nat) : Om := fun j => if n ≤ j ∧ j < m then g else O j
theorem Ext.alloc {g : Nat} (h : Hh O w) (hS : S g) (o : Obj) : Ext S O w (Aei O w.heap.size (w.heap.size + 1) g) (w.alloc o) := by
 refine ⟨fun j hj => by unfold Aei; rw [if_neg (by omega)], fun j hj => ?_, fun j hj hn => ?_, (Aag.refl _ _).alloc o⟩
 · unfold Aei at hj
   split at hj
   · simp; omega
   have := h j hj; simp; omega
 unfold Aei at hn ⊢
 split at hn
 · rename_i hc; rw [if_pos hc]; exact hS
 have := h j hn; omega
theorem Ar9 {n m : Nat} (hg : n < m) : Aei O n m g n = g := by unfold Aei; rw [if_pos ⟨Nat.le_refl _, hg⟩]
end
structure Ob (w : World) (O : Om) (g b : Nat) (cs : List Value) : Prop where
 o : O b = g
 lt : b < w.heap.size
 c : ∀ j u, cs[j]? = some u → w.cell? ⟨b, j, none⟩ = some u
 f : ∀ j, w.frozen? ⟨b, j, none⟩ = false
section
variable {S : Nat → Prop} {O O' : Om} {w w' : World} {g b : Nat} {cs : List Value}
theorem Ob.c2 {w : World} {O : Om} {g b : Nat} {v0 v1 : Value} {r : List Value} (h : Ob w O g b (v0 :: v1 :: r)) : w.cell? ⟨b, 0, none⟩ = some v0 ∧ w.cell? ⟨b, 1, none⟩ = some v1 := ⟨h.c 0 _ rfl, h.c 1 _ rfl⟩
theorem Ob.c3 {w : World} {O : Om} {g b : Nat} {v0 v1 v2 : Value} {r : List Value} (h : Ob w O g b (v0 :: v1 :: v2 :: r)) : w.cell? ⟨b, 0, none⟩ = some v0 ∧ w.cell? ⟨b, 1, none⟩ = some v1 ∧ w.cell? ⟨b, 2, none⟩ = some v2 := ⟨h.c 0 _ rfl, h.c 1 _ rfl, h.c 2 _ rfl⟩
theorem Ob.c4 {w : World} {O : Om} {g b : Nat} {v0 v1 v2 v3 : Value} {r : List Value} (h : Ob w O g b (v0 :: v1 :: v2 :: v3 :: r)) : w.cell? ⟨b, 0, none⟩ = some v0 ∧ w.cell? ⟨b, 1, none⟩ = some v1 ∧ w.cell? ⟨b, 2, none⟩ = some v2 ∧ w.cell? ⟨b, 3, none⟩ = some v3 := ⟨h.c 0 _ rfl, h.c 1 _ rfl, h.c 2 _ rfl, h.c 3 _ rfl⟩
theorem Ob.c5 {w : World} {O : Om} {g b : Nat} {v0 v1 v2 v3 v4 : Value} {r : List Value} (h : Ob w O g b (v0 :: v1 :: v2 :: v3 :: v4 :: r)) : w.cell? ⟨b, 0, none⟩ = some v0 ∧ w.cell? ⟨b, 1, none⟩ = some v1 ∧ w.cell? ⟨b, 2, none⟩ = some v2 ∧ w.cell? ⟨b, 3, none⟩ = some v3 ∧ w.cell? ⟨b, 4, none⟩ = some v4 := ⟨h.c 0 _ rfl, h.c 1 _ rfl, h.c 2 _ rfl, h.c 3 _ rfl, h.c 4 _ rfl⟩
theorem Ob.c6 {w : World} {O : Om} {g b : Nat} {v0 v1 v2 v3 v4 v5 : Value} {r : List Value} (h : Ob w O g b (v0 :: v1 :: v2 :: v3 :: v4 :: v5 :: r)) : w.cell? ⟨b, 0, none⟩ = some v0 ∧ w.cell? ⟨b, 1, none⟩ = some v1 ∧ w.cell? ⟨b, 2, none⟩ = some v2 ∧ w.cell? ⟨b, 3, none⟩ = some v3 ∧ w.cell? ⟨b, 4, none⟩ = some v4 ∧ w.cell? ⟨b, 5, none⟩ = some v5 := ⟨h.c 0 _ rfl, h.c 1 _ rfl, h.c 2 _ rfl, h.c 3 _ rfl, h.c 4 _ rfl, h.c 5 _ rfl⟩
theorem Ob.c7 {w : World} {O : Om} {g b : Nat} {v0 v1 v2 v3 v4 v5 v6 : Value} {r : List Value} (h : Ob w O g b (v0 :: v1 :: v2 :: v3 :: v4 :: v5 :: v6 :: r)) : w.cell? ⟨b, 0, none⟩ = some v0 ∧ w.cell? ⟨b, 1, none⟩ = some v1 ∧ w.cell? ⟨b, 2, none⟩ = some v2 ∧ w.cell? ⟨b, 3, none⟩ = some v3 ∧ w.cell? ⟨b, 4, none⟩ = some v4 ∧ w.cell? ⟨b, 5, none⟩ = some v5 ∧ w.cell? ⟨b, 6, none⟩ = some v6 := ⟨h.c 0 _ rfl, h.c 1 _ rfl, h.c 2 _ rfl, h.c 3 _ rfl, h.c 4 _ rfl, h.c 5 _ rfl, h.c 6 _ rfl⟩
theorem Ob.c8 {w : World} {O : Om} {g b : Nat} {v0 v1 v2 v3 v4 v5 v6 v7 : Value} {r : List Value} (h : Ob w O g b (v0 :: v1 :: v2 :: v3 :: v4 :: v5 :: v6 :: v7 :: r)) : w.cell? ⟨b, 0, none⟩ = some v0 ∧ w.cell? ⟨b, 1, none⟩ = some v1 ∧ w.cell? ⟨b, 2, none⟩ = some v2 ∧ w.cell? ⟨b, 3, none⟩ = some v3 ∧ w.cell? ⟨b, 4, none⟩ = some v4 ∧ w.cell? ⟨b, 5, none⟩ = some v5 ∧ w.cell? ⟨b, 6, none⟩ = some v6 ∧ w.cell? ⟨b, 7, none⟩ = some v7 := ⟨h.c 0 _ rfl, h.c 1 _ rfl, h.c 2 _ rfl, h.c 3 _ rfl, h.c 4 _ rfl, h.c 5 _ rfl, h.c 6 _ rfl, h.c 7 _ rfl⟩
theorem Ob.c9 {w : World} {O : Om} {g b : Nat} {v0 v1 v2 v3 v4 v5 v6 v7 v8 : Value} {r : List Value} (h : Ob w O g b (v0 :: v1 :: v2 :: v3 :: v4 :: v5 :: v6 :: v7 :: v8 :: r)) : w.cell? ⟨b, 0, none⟩ = some v0 ∧ w.cell? ⟨b, 1, none⟩ = some v1 ∧ w.cell? ⟨b, 2, none⟩ = some v2 ∧ w.cell? ⟨b, 3, none⟩ = some v3 ∧ w.cell? ⟨b, 4, none⟩ = some v4 ∧ w.cell? ⟨b, 5, none⟩ = some v5 ∧ w.cell? ⟨b, 6, none⟩ = some v6 ∧ w.cell? ⟨b, 7, none⟩ = some v7 ∧ w.cell? ⟨b, 8, none⟩ = some v8 := ⟨h.c 0 _ rfl, h.c 1 _ rfl, h.c 2 _ rfl, h.c 3 _ rfl, h.c 4 _ rfl, h.c 5 _ rfl, h.c 6 _ rfl, h.c 7 _ rfl, h.c 8 _ rfl⟩
theorem Ob.c10 {w : World} {O : Om} {g b : Nat} {v0 v1 v2 v3 v4 v5 v6 v7 v8 v9 : Value} {r : List Value} (h : Ob w O g b (v0 :: v1 :: v2 :: v3 :: v4 :: v5 :: v6 :: v7 :: v8 :: v9 :: r)) : w.cell? ⟨b, 0, none⟩ = some v0 ∧ w.cell? ⟨b, 1, none⟩ = some v1 ∧ w.cell? ⟨b, 2, none⟩ = some v2 ∧ w.cell? ⟨b, 3, none⟩ = some v3 ∧ w.cell? ⟨b, 4, none⟩ = some v4 ∧ w.cell? ⟨b, 5, none⟩ = some v5 ∧ w.cell? ⟨b, 6, none⟩ = some v6 ∧ w.cell? ⟨b, 7, none⟩ = some v7 ∧ w.cell? ⟨b, 8, none⟩ = some v8 ∧ w.cell? ⟨b, 9, none⟩ = some v9 := ⟨h.c 0 _ rfl, h.c 1 _ rfl, h.c 2 _ rfl, h.c 3 _ rfl, h.c 4 _ rfl, h.c 5 _ rfl, h.c 6 _ rfl, h.c 7 _ rfl, h.c 8 _ rfl, h.c 9 _ rfl⟩
theorem Ob.ext (h : Ob w O g b cs) (e : Ext S O w O' w') (hs : ¬ S g := by omega) : Ob w' O' g b cs :=
 ⟨(e.lo b h.lt).trans h.o, Nat.lt_of_lt_of_le h.lt e.size, fun j u hu => (e.cell (p := ⟨b, j, none⟩) h.lt (by rw [h.o]; exact hs)).trans (h.c j u hu), fun j => (e.frozen (p := ⟨b, j, none⟩) h.lt (by rw [h.o]; exact hs)).trans (h.f j)⟩
theorem Ob.below (h : Ob w O g b cs) (hb : Below w.heap.size w w') : Ob w' O g b cs :=
 ⟨h.o, Nat.lt_of_lt_of_le h.lt hb.size, fun j u hu => (hb.cell (p := ⟨b, j, none⟩) h.lt).trans (h.c j u hu), fun j => (hb.frozen (p := ⟨b, j, none⟩) h.lt).trans (h.f j)⟩
theorem Ob.set (h : Ob w O g b cs) (j : Nat) (v : Value) (hj : j < cs.length) : Ob (w.setCell ⟨b, j, none⟩ v) O g b (cs.set j v) := by
 refine ⟨h.o, by simpa using h.lt, fun i u hu => ?_, fun i => (World.frozen?_setCell _ _ _ _).trans (h.f i)⟩
 by_cases e : i = j
 · subst e
   rw [List.getElem?_set_self hj] at hu
   cases hu
   exact World.cell?_setCell_same _ _ _ (h.c i _ (List.getElem?_eq_getElem hj))
 rw [List.getElem?_set_ne (Ne.symm e)] at hu
 exact (World.cell?_setCell_other _ _ _ _ (by simp; try omega)).trans (h.c i u hu)
theorem Ob.other (h : Ob w O g b cs) {b2 j : Nat} {v : Value} (hb : b2 ≠ b) : Ob (w.setCell ⟨b2, j, none⟩ v) O g b cs :=
 ⟨h.o, by simpa using h.lt, fun i u hu => (World.cell?_setCell_other _ _ _ _ (by simp; try omega)).trans (h.c i u hu), fun i => (World.frozen?_setCell _ _ _ _).trans (h.f i)⟩
theorem Ob.new (w : World) (O : Om) (g : Nat) (cs : Array Value) (e : TypeId) : Ob (w.alloc (.cells cs e)) (Aei O w.heap.size (w.heap.size + 1) g) g w.heap.size cs.toList :=
 ⟨Ar9 (by omega), by simp, fun j u hu => Aak w cs e _ rfl j u (by simpa using hu), fun j => Acy w cs e _ rfl j⟩
theorem Ob.ne {g2 b2 : Nat} {ds : List Value} (h : Ob w O g b cs) (k : Ob w O g2 b2 ds) (hg : g ≠ g2) : b ≠ b2 := by
 intro e; subst e; exact hg (h.o.symm.trans k.o)
end
theorem Cl.mono {w : World} {F G : Nat → Prop} {c : Nat} {L : List Wde} {n k a s i : Int} (h : Cl w F c L n k a s i) (hF : ∀ j, F j → G j) : Cl w G c L n k a s i :=
 ⟨h.mp.imp id (fun ⟨m, h1, h2, h3, h4, h5⟩ => ⟨m, h1, h2, hF m h3, h4, h5⟩), h.c1, h.c2, h.c3, h.c4, h.c5, h.fr, h.lt, hF c h.mem, fun d hd => (h.wd d hd).mono hF, h.na, h.nb⟩
theorem Ce.mono {w : World} {F G : Nat → Prop} {c : Nat} {M : Int → Int} {n : Int} {la : La} (h : Ce w F c M n la) (hF : ∀ j, F j → G j) (hG : ∀ j, G j → j < w.heap.size) : Ce w G c M n la := by
 obtain ⟨L, hL, hv⟩ := h.ex
 exact ⟨⟨L, hL.mono hF, hv⟩, hG⟩
def CO (w : World) (O : Om) (g c : Nat) (M : Int → Int) (n : Int) (la : La) : Prop := Ce w (fun j => O j = g) c M n la
def RP (S : Nat → Prop) (w : World) (O : Om) (v : Value) (Q : World → Om → Prop) (e : Ending) (w' : World) : Prop := e = .returned v ∧ ∃ O', Ext S O w O' w' ∧ Q w' O'
section
variable {S T : Nat → Prop} {O O' : Om} {w w' : World} {g c : Nat} {M : Int → Int} {n : Int} {la : La}
theorem CO.ext (h : CO w O g c M n la) (e : Ext S O w O' w') (hs : ¬ S g := by omega) (hg : g ≠ 0 := by omega) : CO w' O' g c M n la := by
 have h1 := Ce.wrote (S := fun j => S (O j) ∧ O j ≠ 0) h e.wr (fun j hj k => hs (by have := k.1; rwa [hj] at this))
 refine h1.mono (fun j hj => (e.lo j (h.lts j hj)).trans hj) fun j hj => e.hi j (by rw [hj]; exact hg)
theorem CO.o (h : CO w O g c M n la) : O c = g := Ce.mem (F := fun j => O j = g) h
theorem CO.lt (h : CO w O g c M n la) : c < w.heap.size := Ce.lts h _ (Ce.mem (F := fun j => O j = g) h)
theorem CO.of {F : Nat → Prop} {M1 : Int → Int} {n1 : Int} {la1 : La} (hhi : Hh O w) (hg : g ≠ 0) (hC : Ce w' F c M1 n1 la1) (hG : Aod w (fun j => O j = g) w' F) (hw : Aag (fun j => O j = g) w w') :
 ∃ O', Ext (fun t => t = g) O w O' w' ∧ CO w' O' g c M1 n1 la1 := by
 classical
 obtain ⟨O', hO⟩ : ∃ O' : Om, ∀ j, O' j = if j < w.heap.size then O j else if F j then g else 0 := ⟨_, fun _ => rfl⟩
 refine ⟨O', ⟨fun j hj => by rw [hO, if_pos hj], fun j hj => ?_, fun j hj hn => ?_, hw.mono fun k _ hk => ⟨hk, by rw [hk]; exact hg⟩⟩, hC.mono (fun j hj => ?_) (fun j hj => ?_)⟩
 · rw [hO] at hj
   split at hj
   · exact Nat.lt_of_lt_of_le ‹_› hw.size
   split at hj
   · exact hG.lts j ‹_›
   exact absurd rfl hj
 · rw [hO, if_neg (by omega)] at hn ⊢
   split at hn
   · rw [if_pos ‹_›]
   exact absurd rfl hn
 · rw [hO]
   split
   · rcases hG.new j hj with h | h
     · exact h
     omega
   first | rfl | rw [if_pos hj]
 rw [hO] at hj
 split at hj
 · exact Nat.lt_of_lt_of_le ‹_› hw.size
 split at hj
 · exact hG.lts j ‹_›
 exact absurd hj.symm hg
theorem Ag8.rp {M1 : Int → Int} {n1 : Int} {la1 : La} {v : Value} {e : Ending} (h : Ag8 w (fun j => O j = g) c M1 n1 la1 v e w') (hhi : Hh O w) (hg : g ≠ 0) : RP (fun t => t = g) w O v (fun W G => CO W G g c M1 n1 la1) e w' := by
 obtain ⟨rfl, F, h1, h2, h3⟩ := h
 exact ⟨rfl, CO.of hhi hg h1 h2 h3⟩
theorem RP.mono {v : Value} {Q R : World → Om → Prop} {e : Ending} (h : RP S w O v Q e w') (hs : ∀ t, t ≠ 0 → S t → T t) (hQ : ∀ W G, Q W G → R W G) : RP T w O v R e w' := by
 obtain ⟨rfl, O', h1, h2⟩ := h
 exact ⟨rfl, O', h1.mono hs, hQ _ _ h2⟩
end
structure It where
 key : ByteArray
 val : ByteArray
 fl : Int
 id : Int
 dies : Int
 gen : Int
def itc (x : It) : List Value := [.string x.key, .string x.val, .int .u32 x.fl, .int .u64 x.id, .int .i64 x.dies, .int .i64 x.gen]
theorem Agk (x : It) : (itc x).length = 6 := rfl
structure Ar (w : World) (O : Om) (t ip : Nat) (l : List It) : Prop where
 o : O ip = t
 lt : ip < w.heap.size
 fr : ∀ j, w.frozen? ⟨ip, j, none⟩ = false
 c1 : w.cell? ⟨ip, 1, none⟩ = some (.int .i64 l.length)
 ex : ∃ (v : Value) (bl : List Nat), w.cell? ⟨ip, 0, none⟩ = some v ∧ w.ownsRow 0 214 1 v bl.length (bl.map fun b => .pointer (some ⟨b, 0, none⟩)) ∧ (∀ k, v.ownBlock = some k → O k = t ∧ k ≠ ip ∧ k ∉ bl) ∧ bl.Nodup ∧ ip ∉ bl ∧
  l.length ≤ 64 * bl.length ∧ 64 * bl.length < l.length + 64 ∧ (∀ b ∈ bl, O b = t ∧ b < w.heap.size ∧ (∀ j, w.frozen? ⟨b, j, none⟩ = false) ∧ ∀ j, j < 384 → ∃ u, w.cell? ⟨b, j, none⟩ = some u) ∧
  ∀ (i : Nat) (x : It) (b : Nat), l[i]? = some x → bl[i / 64]? = some b → ∀ j u, (itc x)[j]? = some u → w.cell? ⟨b, 6 * (i % 64) + j, none⟩ = some u
structure No (w : World) (O : Om) (t np : Nat) (l : List Nt) : Prop where
 ex : ∃ v, NL w 126 ntc np v l ∧ ∀ k, Ael np v k → O k = t
section
variable {S : Nat → Prop} {O O' : Om} {w w' : World} {t ip np : Nat}
theorem Ext.own {base : Nat} {ty : TypeId} {size : Nat} {v : Value} {n : Nat} {xs : List Value} (e : Ext S O w O' w') (h : w.ownsRow base ty size v n xs) (hv : ∀ k, v.ownBlock = some k → ¬ S (O k)) : w'.ownsRow base ty size v n xs := e.wr.own h fun k hk hs => hv k hk hs.1
theorem Ar.ext {l : List It} (h : Ar w O t ip l) (e : Ext S O w O' w') (hs : ¬ S t := by omega) : Ar w' O' t ip l := by
 have hc : ∀ b j, O b = t → b < w.heap.size → w'.cell? ⟨b, j, none⟩ = w.cell? ⟨b, j, none⟩ := fun b j hb hl => e.cell (p := ⟨b, j, none⟩) hl (by rw [hb]; exact hs)
 have hf : ∀ b j, O b = t → b < w.heap.size → w'.frozen? ⟨b, j, none⟩ = w.frozen? ⟨b, j, none⟩ := fun b j hb hl => e.frozen (p := ⟨b, j, none⟩) hl (by rw [hb]; exact hs)
 obtain ⟨v, bl, h0, h1, h2, h3, h4, h5, h6, h7, h8⟩ := h.ex
 refine ⟨(e.lo _ h.lt).trans h.o, Nat.lt_of_lt_of_le h.lt e.size, fun j => (hf _ _ h.o h.lt).trans (h.fr j), (hc _ _ h.o h.lt).trans h.c1, v, bl, (hc _ _ h.o h.lt).trans h0, e.own h1 fun k hk => by rw [(h2 k hk).1]; exact hs, fun k hk => ?_, h3, h4, h5, h6, fun b hb => ?_, fun i x b hi hb j u hu => ?_⟩
 · obtain ⟨q1, q2, q3⟩ := h2 k hk
   exact ⟨(e.lo _ (h1.lt k hk).2).trans q1, q2, q3⟩
 · obtain ⟨q1, q2, q3, q4⟩ := h7 b hb
   exact ⟨(e.lo _ q2).trans q1, Nat.lt_of_lt_of_le q2 e.size, fun j => (hf _ _ q1 q2).trans (q3 j), fun j hj => (q4 j hj).imp fun u hu => (hc _ _ q1 q2).trans hu⟩
 obtain ⟨q1, q2, q3, q4⟩ := h7 b (List.mem_of_getElem? hb)
 exact (hc _ _ q1 q2).trans (h8 i x b hi hb j u hu)
theorem No.ext {l : List Nt} (h : No w O t np l) (e : Ext S O w O' w') (hs : ¬ S t := by omega) : No w' O' t np l := by
 obtain ⟨v, h1, h2⟩ := h.ex
 refine ⟨v, h1.wrote e.wr fun k hk hS => hs ?_, fun k hk => (e.lo k (h1.lts k hk)).trans (h2 k hk)⟩
 have := hS.1
 rwa [h2 k hk] at this
end
structure AW where
 M : Int → Int
 n : Int
 la : La
 tk : Nat → Int
 ho : Int
 it : List It
 nt : List Nt
structure Wb where
 p : Nat
 c : Nat
 ip : Nat
 np : Nat
structure PW (w : World) (O : Om) (B : Wb) (f : Cf) (s : AW) : Prop where
 o : O B.p = 1
 wo : Wo w B.p B.c B.ip B.np f s.tk s.ho
 ce : CO w O 2 B.c s.M s.n s.la
 ar : Ar w O 3 B.ip s.it
 no : No w O 4 B.np s.nt
def SW (t : Nat) : Prop := 1 ≤ t ∧ t ≤ 4
def SX (a b t : Nat) : Prop := (1 ≤ t ∧ t ≤ 4) ∨ (a ≤ t ∧ t ≤ b)
theorem SX.of_sw {a b t : Nat} (h : SW t) : SX a b t := .inl h
theorem SX.not {a b t : Nat} (h : 5 ≤ t) (h2 : t < a ∨ b < t) : ¬ SX a b t := fun k => by unfold SX at k; omega
theorem SX.mono {a b c d t : Nat} (h1 : c ≤ a) (h2 : b ≤ d) (h : SX a b t) : SX c d t := by unfold SX at h ⊢; omega
section
variable {S : Nat → Prop} {O O' : Om} {w w' : World} {B : Wb} {f : Cf} {s : AW}
theorem PW.ext (h : PW w O B f s) (e : Ext S O w O' w') (h1 : ¬ S 1 := by omega) (h2 : ¬ S 2 := by omega) (h3 : ¬ S 3 := by omega) (h4 : ¬ S 4 := by omega) : PW w' O' B f s :=
 ⟨(e.lo _ h.wo.lt).trans h.o, h.wo.wrote e.wr fun k => h1 (by have := k.1; rwa [h.o] at this), h.ce.ext e h2 (by decide), h.ar.ext e h3, h.no.ext e h4⟩
theorem PW.below (h : PW w O B f s) (hhi : Hh O w) (hb : Below w.heap.size w w') : PW w' O B f s := h.ext (S := fun _ => False) (Ext.of_below hhi hb) id id id id
theorem PW.cells {M : Int → Int} {n : Int} {la : La} (h : PW w O B f s) (e : Ext (fun t => t = 2) O w O' w') (hc : CO w' O' 2 B.c M n la) : PW w' O' B f ⟨M, n, la, s.tk, s.ho, s.it, s.nt⟩ :=
 ⟨(e.lo _ h.wo.lt).trans h.o, h.wo.wrote e.wr (fun k => absurd (show (1 : Nat) = 2 from by have := k.1; rwa [h.o] at this) (by decide)), hc, h.ar.ext e (by decide), h.no.ext e (by decide)⟩
theorem PW.rp_cells {M : Int → Int} {n : Int} {la : La} {v : Value} {e : Ending} (h : PW w O B f s) (hhi : Hh O w) (hp : Ag8 w (fun j => O j = 2) B.c M n la v e w') : RP SW w O v (fun W G => PW W G B f ⟨M, n, la, s.tk, s.ho, s.it, s.nt⟩) e w' := by
 obtain ⟨rfl, O', h1, h2⟩ := hp.rp hhi (by decide)
 exact ⟨rfl, O', h1.mono fun t _ ht => by subst ht; exact ⟨by decide, by decide⟩, h.cells h1 h2⟩
theorem Aaa (w : World) : Below w.heap.size w w.drew := (Below.refl _ _).drew
theorem Ext.drew (h : Ext S O w O' w') : Ext S O w O' w'.drew := ⟨h.lo, h.hi, h.nw, h.wr.drew⟩
theorem Ext.below {w1 : World} (h : Ext S O w O' w') (hb : Below w'.heap.size w' w1) : Ext S O w O' w1 := h.trans (Ext.of_below h.hi hb)
structure Me (a b : Nat) (w0 : World) (O0 : Om) (w : World) (O : Om) (B : Wb) (f : Cf) (s : AW) (k T : Nat) (cs : List Value) : Prop where
 e : Ext (SX a b) O0 w0 O w
 p : PW w O B f s
 t : Ob w O k T cs
theorem Me.start {a b k T : Nat} {cs : List Value} (hhi : Hh O w) (hp : PW w O B f s) (ht : Ob w O k T cs) : Me a b w O w O B f s k T cs := ⟨Ext.refl hhi, hp, ht⟩
section
variable {a b k T : Nat} {cs : List Value} {O0 O1 : Om} {w1 w0 : World} {s1 : AW}
theorem Me.set (h : Me a b w0 O0 w O B f s k T cs) (hk : 10 ≤ k) (ha : a ≤ k) (hb : k ≤ b) (j : Nat) (v : Value) (hj : j < cs.length) : Me a b w0 O0 (w.setCell ⟨T, j, none⟩ v) O B f s k T (cs.set j v) := by
 have e : Ext (fun t => t = k) O w O (w.setCell ⟨T, j, none⟩ v) := Ext.of_set h.e.hi h.t.o (by omega) rfl
 exact ⟨h.e.trans (e.mono fun t _ ht => .inr (by omega)), h.p.ext e, h.t.set j v hj⟩
theorem Me.drew (h : Me a b w0 O0 w O B f s k T cs) : Me a b w0 O0 w.drew O B f s k T cs := ⟨h.e.drew, h.p.below h.e.hi (Aaa w), h.t.below (Aaa w)⟩
theorem Me.below (h : Me a b w0 O0 w O B f s k T cs) (hb : Below w.heap.size w w1) : Me a b w0 O0 w1 O B f s k T cs := ⟨h.e.below hb, h.p.below h.e.hi hb, h.t.below hb⟩
theorem Me.world (h : Me a b w0 O0 w O B f s k T cs) (hk : 10 ≤ k) (e : Ext SW O w O1 w1) (hp : PW w1 O1 B f s1) : Me a b w0 O0 w1 O1 B f s1 k T cs := ⟨h.e.trans (e.mono fun t _ ht => SX.of_sw ht), hp, h.t.ext e fun h => by have := h.2; omega⟩
theorem Me.call {c d : Nat} (h : Me a b w0 O0 w O B f s k T cs) (hk : 10 ≤ k) (hkc : k < c ∨ d < k) (ha : a ≤ c) (hb : d ≤ b) (e : Ext (SX c d) O w O1 w1) (hp : PW w1 O1 B f s1) : Me a b w0 O0 w1 O1 B f s1 k T cs :=
 ⟨h.e.trans (e.mono fun t _ ht => SX.mono ha hb ht), hp, h.t.ext e (SX.not (by omega) hkc)⟩
end
theorem PW.bd (h : PW w O B f s) : Bd s.M := Ce.bd h.ce
end
end
section
open Go.RowKit
theorem Amq (h : Nat) (v : Value) (w : World) (hc : w.cell? ⟨h, 0, none⟩ = some v) :
 C1 93 h w fun e w' => e = .returned v ∧ w = w' := by
 go_enter Tryz.func93, Tryz.ntmps93
 go_wp2
 go_ret
 exact ⟨rfl, rfl⟩
theorem Atw (h : Nat) (ao : Option Addr) (n c : Nat) (w : World) (hc : w.cell? ⟨h, 0, none⟩ = some (.slice ao n c)) :
 C1 47 h w fun e w' => e = .returned (.int .i64 n) ∧ w = w' := by
 go_enter Tryz.func47, Tryz.ntmps47
 go_wp2_with (go_at_call 93; refine (Amq h _ _ hc).mono ?_; rintro e w' ⟨rfl, rfl⟩)
 go_ret
 exact ⟨rfl, rfl⟩
theorem Awq : (Tryz.prog.info? 126).map (fun i => (i.zero, i.size, i.bytes)) = some (some (.agg #[.int .i64 0, .int .i64 0, .int .u8 0, .int .i64 0, .int .i64 0, .int .i64 0, .int .i64 0, .int .i64 0]), 8, 64) := by kernel_rfl
theorem Abn {B : Nat} {a w : World} (h : Below B a w) (n : Nat) : Below B a (w.drewN n) := ⟨h.os, h.tape, h.output, h.size, h.block⟩
def Aqb (n : Nt) : Obj := .cells #[.int .i64 n.step, .int .i64 n.thread, .int .u8 n.kind, .int .i64 n.ref, .int .i64 n.bits, .int .i64 n.bucket, .int .i64 n.slot, .int .i64 n.value] 126
theorem Azm {w W w1 : World} {o : Obj} {h gg cap : Nat} {v : Value} {l : List Nt} {n : Nt} (he : Afe l n = 0) (hB : Aag (Ael h v) w W) (hlW : h < W.heap.size) (hap : v.ownBlock ≠ some h)
 (hown : w1.ownsRow 0 126 8 (.slice (some ⟨gg, 0, none⟩) (l.length + 1) cap) (l.length + 1) (Aa2 ntc l ++ ntc n)) (hg : (W.alloc o).drew.grownBy w1 v.ownBlock) (hat : v.ownBlock = some gg ∨ gg = W.heap.size + 1)
 (hh1 : w1.cell? ⟨h, 0, none⟩ = some v) (hh2 : w1.frozen? ⟨h, 0, none⟩ = false) :
 ∃ v', NL (w1.setCell ⟨h, 0, none⟩ (.slice (some ⟨gg, 0, none⟩) (l.length + 1) cap)) 126 ntc h v' (Af0 l n) ∧ (∀ k, v'.ownBlock = some k → v.ownBlock = some k ∨ w.heap.size ≤ k) ∧ Aag (Ael h v) w (w1.setCell ⟨h, 0, none⟩ (.slice (some ⟨gg, 0, none⟩) (l.length + 1) cap)) := by
 have hgh : gg ≠ h := by
  rcases hat with e | e
  · intro he; subst he; exact hap e
  omega
 have hw1 : Aag (Ael h v) w w1 := ((hB.alloc o).drew).grown hg fun k hk _ => .inr hk
 have hz : W.heap.size + 1 ≤ w1.heap.size := by have := hg.size; simpa using this
 have hs : ∀ u, Aag (fun k => k = h) w1 (w1.setCell ⟨h, 0, none⟩ u) := fun u => Aag.setCell (S := fun k => k = h) (Aag.refl _ _) (p := ⟨h, 0, none⟩) (fun _ => rfl) u
 refine ⟨_, ⟨World.cell?_setCell_same _ _ _ hh1, (World.frozen?_setCell _ _ _ _).trans hh2, by simp; omega, ?_, ?_⟩, ?_, hw1.setCell (p := ⟨h, 0, none⟩) (fun _ => .inl rfl) _⟩
 · intro e; cases e; exact hgh rfl
 · rw [Aou he, Abw, List.length_append]
   exact (hs _).own hown fun k hk e => by cases hk; exact hgh e
 intro k hk
 cases hk
 rcases hat with e | e
 · exact .inl e
 right; have := hB.size; show w.heap.size ≤ gg; omega
theorem Aze (n : Nt) (h : Nat) (v : Value) (l : List Nt) (w : World) (hl : NL w 126 ntc h v l) (k0 : 0 ≤ n.kind) (k1 : n.kind ≤ 255) :
 Calls Tryz.prog 158 #[.pointer (some ⟨h, 0, none⟩), .agg #[.int .i64 n.step, .int .i64 n.thread, .int .u8 n.kind, .int .i64 n.ref, .int .i64 n.bits, .int .i64 n.bucket, .int .i64 n.slot, .int .i64 n.value]] w fun e w' =>
  e = .returned (.int .i64 (Afe l n)) ∧ ∃ v', NL w' 126 ntc h v' (Af0 l n) ∧ (∀ k, v'.ownBlock = some k → v.ownBlock = some k ∨ w.heap.size ≤ k) ∧ Aag (Ael h v) w w' := by
 have hlt := hl.lt
 have hc := hl.head
 have hfz := hl.free
 have hap := hl.apart
 have hown := hl.own
 obtain ⟨ao, cp, rfl, hcp, hm⟩ := (Arr.of_own hl.own).shape
 have hm' : l.length ≤ 9223372036854775807 := by unfold maxLen at hm; omega
 have hne : ¬ h = w.heap.size := by omega
 have HL := hQd hl
 clear hl
 go_enter Tryz.func158, Tryz.ntmps158
 go_wp2_with (go_at_call 47; refine (Atw h ao l.length cp _ (((bal _ _).cell (p := ⟨h, 0, none⟩) hlt).trans hc)).mono ?_; rintro e w' ⟨rfl, rfl⟩)
 go_cut [11] (fun s wx => s = .bool (Aek l n) ∧ ∃ nq, wx = (w.alloc (Aqb n)).drewN nq)
 case first =>
  by_cases h0 : n.kind = 0
  · have hB : Aek l n = true := by unfold Aek; simp [h0]
    have e0 : (n.kind == 0) = true := by simp [h0]
    have HB := hQd hB
    clear h0 hB
    go_quiet (fail)
    go_wp2
    go_meet
    exact ⟨by rw [HB.out], _, rfl⟩
  have e0 : (n.kind == 0) = false := by simp [h0]
  clear h0
  by_cases h9 : 9 < n.kind
  · have hB : Aek l n = true := by unfold Aek; simp [h9]
    have e9 : decide (9 < n.kind) = true := by simp [h9]
    have HB := hQd hB
    clear hB
    go_quiet (fail)
    go_wp2
    go_meet
    exact ⟨by rw [HB.out], _, rfl⟩
  have e9 : decide (9 < n.kind) = false := by simp; omega
  have hk0 : ¬ n.kind = 0 := by simpa using e0
  have hB : Aek l n = Ake l n := by unfold Aek; rw [decide_eq_false (by omega)]; rfl
  have HB := hQd hB
  clear hB hk0
  by_cases hz : l.length = 0
  · have ez : decide (0 < l.length) = false := by simp [hz]
    have hB : Ake l n = false := by rw [List.eq_nil_of_length_eq_zero hz]; rfl
    have HB2 := hQd hB
    clear hB hz
    go_quiet (fail)
    go_wp2
    go_meet
    exact ⟨by rw [HB.out, HB2.out], _, rfl⟩
  have ez : decide (0 < l.length) = true := by simp; omega
  have hB := Alw n (show 0 < l.length by omega)
  obtain ⟨b, o, c', he, -, -, hb, hx⟩ := (Arr.of_own hown).open (show 0 < l.length by omega) (by omega)
  cases he
  have hi0 : (0 : Int) ≤ (l.length : Int) - 1 := by omega
  have hi1 : (l.length : Int) - 1 < (l.length : Int) := by omega
  obtain ⟨m, hmm⟩ := exq (l[l.length - 1])
  have g0 := Ahk Ar5 hx (l.length - 1) (by omega) 0 (by omega) (u := .int .i64 m.step) (by rw [hmm]; rfl)
  rw [Nat.add_zero] at g0
  have hbn : ¬ b = w.heap.size := by omega
  rw [← hmm] at hB
  have HB2 := hQd hB
  clear hx hB hmm hz hown
  go_quiet (fail)
  go_wp2
  go_meet
  exact ⟨by rw [HB.out, HB2.out], _, rfl⟩
 obtain ⟨rfl, nq, rfl⟩ := hcut
 cases hB : Aek l n
 · have HB := hQd hB
   by_cases hfull : 1048576 ≤ l.length
   · have hd : decide ((1048576 : Int) ≤ (l.length : Int)) = true := by simp only [decide_eq_true_eq]; omega
     have HF := hQd hfull
     clear hown hfull
     go_wp2
     have hfull := HF.out
     go_ret
     exact ⟨Aa6 (Ae5 HB.out hfull).symm, _, by rw [Akf (by rw [Ae5 HB.out hfull]; omega)]; exact HL.out.wrote ((Aag.refl _ _).alloc _ |>.drewN nq) (fun _ _ hf => hf), fun k hk => .inl hk, ((Aag.refl _ _).alloc _).drewN nq⟩
   obtain ⟨i0, hi, hz0, hz1, hz2⟩ := info_parts Awq
   have HE := hQd (Aos HB.out hfull)
   obtain ⟨W, hW⟩ := exq ((w.alloc (Aqb n)).drewN nq)
   have hlW : h < W.heap.size := by rw [hW]; simp; omega
   have hB : Aag (Ael h (.slice ao l.length cp)) w W := by rw [hW]; exact ((Aag.refl _ _).alloc _).drewN nq
   have hbel : Below w.heap.size w W := by rw [hW]; exact Abn (bal _ _) _
   have hcW : W.cell? ⟨h, 0, none⟩ = some (.slice ao l.length cp) := (hbel.cell (p := ⟨h, 0, none⟩) hlt).trans hc
   have hfW : W.frozen? ⟨h, 0, none⟩ = false := (hbel.frozen (p := ⟨h, 0, none⟩) hlt).trans hfz
   have hownW : W.ownsRow 0 126 8 (.slice ao l.length cp) l.length (Aa2 ntc l) := by rw [hW]; exact Abi hown (Abn (bal _ _) _)
   obtain ⟨B, hBB⟩ := exq w.heap.size
   rw [← hBB]
   have hcell : ∀ j u, (ntc n)[j]? = some u → W.cell? ⟨B, j, none⟩ = some u := by
    intro j u hu
    rw [hW, hBB]
    have : (w.alloc (Aqb n)).cell? ⟨w.heap.size, j, none⟩ = some u := by
     unfold World.cell? Aqb
     rw [heap_alloc_new]
     simpa [ntc] using hu
    exact this
   have b0 : W.cell? ⟨B, 0, none⟩ = some (.int .i64 n.step) := hcell 0 _ rfl
   have b1 : W.cell? ⟨B, 1, none⟩ = some (.int .i64 n.thread) := hcell 1 _ rfl
   have b2 : W.cell? ⟨B, 2, none⟩ = some (.int .u8 n.kind) := hcell 2 _ rfl
   have b3 : W.cell? ⟨B, 3, none⟩ = some (.int .i64 n.ref) := hcell 3 _ rfl
   have b4 : W.cell? ⟨B, 4, none⟩ = some (.int .i64 n.bits) := hcell 4 _ rfl
   have b5 : W.cell? ⟨B, 5, none⟩ = some (.int .i64 n.bucket) := hcell 5 _ rfl
   have b6 : W.cell? ⟨B, 6, none⟩ = some (.int .i64 n.slot) := hcell 6 _ rfl
   have b7 : W.cell? ⟨B, 7, none⟩ = some (.int .i64 n.value) := hcell 7 _ rfl
   have hBW : B < W.heap.size := by rw [hBB, hW]; simp
   have hBo : (Value.slice ao l.length cp).ownBlock ≠ some B := fun he => by have := (hown.lt _ he).2; omega
   have hd : decide ((1048576 : Int) ≤ (l.length : Int)) = false := by simp only [decide_eq_false_iff_not]; omega
   have HF := hQd hfull
   clear hfull
   have hfA : ∀ o, (W.alloc o).frozen? ⟨h, 0, none⟩ = false := fun o => ((bal W o).frozen (p := ⟨h, 0, none⟩) hlW).trans hfW
   have HW := hQd hW
   have HBB := hQd hBB
   clear hBB
   rw [← hW]
   clear hcell hW hc hfz hown hbel
   go_wp2
   go_region_law ((refine step_append_lies _ (by rfl) _ _ _ (by rfl) 0 126 i0 _ 8 64 Tryz.underlying120 hi hz0 hz1 hz2 rfl (by omega) (.slice ao l.length cp) l.length (Aa2 ntc l) (by rfl) ((hownW.alloc _).drew) ⟨W.heap.size, 0, none⟩ 1 1 (ntc n) (by rfl) (by rfl) (World.news_of_block (cs := (ntc n).toArray) (t := 126) (fr := (0, 0)) (heap_alloc_new W _)) (by simp [Value.oneCell', ntc]) (by omega) (by have := HF.out; unfold maxLen; omega) (by have := HF.out; omega) (by simp) (W.heap.size + 1) (by simp) ?_; intro gg cap w1 hown1 hgrow hat hlt1; have hh1 : w1.cell? ⟨h, 0, none⟩ = some (.slice ao l.length cp) := (hgrow.cell_far _ (by simp; omega) (Ne.symm hap)).trans (((bal W _).cell (p := ⟨h, 0, none⟩) hlW).trans hcW); have hh2 : w1.frozen? ⟨h, 0, none⟩ = false := (hgrow.frozen_far _ (by simp; omega) (Ne.symm hap)).trans (hfA _)))
   all_goals
    go_wp2
    go_ret
    exact ⟨Aa6 HE.out.symm, Azm HE.out hB hlW hap hown1 hgrow hat hh1 hh2⟩
 have HB := hQd hB
 clear hown
 go_wp2
 go_ret
 exact ⟨Aa6 (Ady HB.out).symm, _, by rw [Akf (by rw [Ady HB.out]; omega)]; exact HL.out.wrote ((Aag.refl _ _).alloc _ |>.drewN nq) (fun _ _ hf => hf), fun k hk => .inl hk, ((Aag.refl _ _).alloc _).drewN nq⟩
theorem Azf (n : Nt) {w : World} {O : Om} {t np : Nat} {l : List Nt} (h : No w O t np l) (ht : t ≠ 0) (hhi : Hh O w) (k0 : 0 ≤ n.kind) (k1 : n.kind ≤ 255) :
 Calls Tryz.prog 158 #[.pointer (some ⟨np, 0, none⟩), .agg #[.int .i64 n.step, .int .i64 n.thread, .int .u8 n.kind, .int .i64 n.ref, .int .i64 n.bits, .int .i64 n.bucket, .int .i64 n.slot, .int .i64 n.value]] w
  (RP (fun j => j = t) w O (.int .i64 (Afe l n)) fun W G => No W G t np (Af0 l n)) := by
 classical
 obtain ⟨v, hl, hO⟩ := h.ex
 refine (Aze n np v l w hl k0 k1).mono ?_
 rintro e w' ⟨rfl, v', hl', hv', hw⟩
 refine ⟨rfl, fun j => if Ael np v' j ∧ O j = 0 then t else O j, ⟨fun j hj => ?_, fun j hj => ?_, fun j hj hn => ?_, ?_⟩, ⟨v', hl', fun k hk => ?_⟩⟩
 · show (if Ael np v' j ∧ O j = 0 then t else O j) = O j
   by_cases hc : Ael np v' j ∧ O j = 0
   · exfalso
     have hold : Ael np v j := by
      rcases hc.1 with h1 | h1
      · exact .inl h1
      rcases hv' j h1 with h2 | h2
      · exact .inr h2
      omega
     rw [hO j hold] at hc
     exact ht hc.2
   rw [if_neg hc]
 · by_cases hc : Ael np v' j
   · exact hl'.lts j hc
   have hj2 : (if Ael np v' j ∧ O j = 0 then t else O j) ≠ 0 := hj
   rw [if_neg (fun h => hc h.1)] at hj2
   exact Nat.lt_of_lt_of_le (hhi j hj2) hw.size
 · show (if Ael np v' j ∧ O j = 0 then t else O j) = t
   have hn2 : (if Ael np v' j ∧ O j = 0 then t else O j) ≠ 0 := hn
   by_cases hc : Ael np v' j ∧ O j = 0
   · rw [if_pos hc]
   rw [if_neg hc] at hn2
   have := hhi j hn2
   omega
 · exact hw.mono fun j hj hs => ⟨hO j hs, by rw [hO j hs]; exact ht⟩
 show (if Ael np v' k ∧ O k = 0 then t else O k) = t
 by_cases hz : O k = 0
 · rw [if_pos ⟨hk, hz⟩]
 rw [if_neg (fun h => hz h.2)]
 rcases hk with h1 | h1
 · exact hO k (.inl h1)
 rcases hv' k h1 with h2 | h2
 · exact hO k (.inr h2)
 exact absurd (hhi k hz) (by omega)
end
section
open Go.RowKit
def aw0 (b : Int) : AW := ⟨upd (fun _ => 0) 2 (Ab1 b 0), 0, ⟨0, 0, 0, 0⟩, fun _ => 0, -1, [], []⟩
def Bdh (w : World) (f : Cf) (r : Nat → Value) (e : Ending) (w' : World) : Prop := ∃ B O, e = .returned (r B.p) ∧ PW w' O B f (aw0 f.b) ∧ Env w O w'
def Amv (w : World) (f : Cf) (r : Nat → Value) (e : Ending) (w' : World) : Prop := ∃ B O, e = .returned (r B.p) ∧ PW w' O B f (aw0 f.b) ∧ Env w O w' ∧ ∀ j, O j ≤ 4
theorem Amv.one {w : World} {f : Cf} {r : Nat → Value} {e : Ending} {w' : World} (h : Amv w f r e w') : Bdh w f r e w' := by
 obtain ⟨B, O, h1, h2, h3, -⟩ := h
 exact ⟨B, O, h1, h2, h3⟩
theorem Amv.mk {w w1 : World} {F1 : Nat → Prop} {c : Nat} {M : Int → Int} (f : Cf) (hb : Below w.heap.size w w1) (hc : Ce w1 F1 c M 0 ⟨0, 0, 0, 0⟩) (hF : ∀ j, F1 j → w.heap.size ≤ j) :
 ∃ B O, Ending.returned (Value.tuple #[.pointer (some ⟨w1.heap.size + 2, 0, none⟩), .int .i64 0]) = .returned (.tuple #[.pointer (some ⟨B.p, 0, none⟩), .int .i64 0]) ∧
  PW (((w1.alloc (.cells #[.slice none 0 0, .int .i64 0] 193)).alloc (.cells #[.slice none 0 0] 213)).alloc (.cells (wZ c w1.heap.size (w1.heap.size + 1) f) 66)) O B f ⟨M, 0, ⟨0, 0, 0, 0⟩, fun _ => 0, -1, [], []⟩ ∧
  Env w O (((w1.alloc (.cells #[.slice none 0 0, .int .i64 0] 193)).alloc (.cells #[.slice none 0 0] 213)).alloc (.cells (wZ c w1.heap.size (w1.heap.size + 1) f) 66)) ∧ ∀ j, O j ≤ 4 := by
 classical
 obtain ⟨W1, hW1⟩ := exq (w1.alloc (.cells #[.slice none 0 0, .int .i64 0] 193))
 obtain ⟨W2, hW2⟩ := exq (W1.alloc (.cells #[.slice none 0 0] 213))
 obtain ⟨W3, hW3⟩ := exq (W2.alloc (.cells (wZ c w1.heap.size (w1.heap.size + 1) f) 66))
 have z1 : W1.heap.size = w1.heap.size + 1 := by rw [hW1]; simp
 have z2 : W2.heap.size = w1.heap.size + 2 := by rw [hW2]; simp; omega
 have z3 : W3.heap.size = w1.heap.size + 3 := by rw [hW3]; simp; omega
 have b01 : Below w1.heap.size w1 W1 := by rw [hW1]; exact bal _ _
 have b12 : Below W1.heap.size W1 W2 := by rw [hW2]; exact bal _ _
 have b23 : Below W2.heap.size W2 W3 := by rw [hW3]; exact bal _ _
 have b13 := b12.trans (b23.mono b12.size)
 have b03 := b01.trans (b13.mono b01.size)
 have hz := hb.size
 rw [← hW1, ← hW2, ← hW3]
 obtain ⟨O, hO⟩ : ∃ O : Om, ∀ j, O j = if j = w1.heap.size + 2 then 1 else if j = w1.heap.size then 3 else if j = w1.heap.size + 1 then 4 else if F1 j then 2 else 0 := ⟨_, fun _ => rfl⟩
 have hp : O (w1.heap.size + 2) = 1 := by rw [hO, if_pos rfl]
 have hip : O w1.heap.size = 3 := by rw [hO, if_neg (by omega), if_pos rfl]
 have hnp : O (w1.heap.size + 1) = 4 := by rw [hO, if_neg (by omega), if_neg (by omega), if_pos rfl]
 have hF2 : ∀ j, F1 j → O j = 2 := fun j hj => by have := hc.lts j hj; rw [hO, if_neg (by omega), if_neg (by omega), if_neg (by omega), if_pos hj]
 have hany : ∀ j, O j ≠ 0 → (w1.heap.size ≤ j ∧ j ≤ w1.heap.size + 2) ∨ F1 j := by
  intro j hj
  rw [hO] at hj
  by_cases e1 : j = w1.heap.size + 2
  · left; omega
  by_cases e2 : j = w1.heap.size
  · left; omega
  by_cases e3 : j = w1.heap.size + 1
  · left; omega
  rw [if_neg e1, if_neg e2, if_neg e3] at hj
  by_cases e4 : F1 j
  · exact .inr e4
  rw [if_neg e4] at hj; exact absurd rfl hj
 have hhi : Hh O W3 := fun j hj => (hany j hj).elim (fun h => by omega) fun h => by have := hc.lts j h; omega
 refine ⟨⟨w1.heap.size + 2, c, w1.heap.size, w1.heap.size + 1⟩, O, rfl, ⟨hp, by rw [hW3]; exact Az6 _ _ _ _ _ _ _ z2.symm, ?_, ?_, ?_⟩, ⟨fun j hj => (hany j hj).elim (fun h => by omega) (hF j), hhi, hb.trans (b03.mono hz)⟩, fun j => ?_⟩
 · exact (hc.below b03).mono hF2 fun j hj => hhi j (by rw [hj]; decide)
 · have k0 : W1.cell? ⟨w1.heap.size, 0, none⟩ = some (.slice none 0 0) := by rw [hW1]; exact Acd w1 [.slice none 0 0, .int .i64 0] _ _ rfl 0 _ rfl
   have k1 : W1.cell? ⟨w1.heap.size, 1, none⟩ = some (.int .i64 0) := by rw [hW1]; exact Acd w1 [.slice none 0 0, .int .i64 0] _ _ rfl 1 _ rfl
   have kf : ∀ j, W1.frozen? ⟨w1.heap.size, j, none⟩ = false := fun j => by rw [hW1]; exact Agl w1 [.slice none 0 0, .int .i64 0] _ _ rfl j
   have hl : w1.heap.size < W1.heap.size := by omega
   exact ⟨hip, (show w1.heap.size < W3.heap.size by omega), fun j => (b13.frozen (p := ⟨_, j, none⟩) hl).trans (kf j), (b13.cell (p := ⟨_, 1, none⟩) hl).trans k1, .slice none 0 0, [], (b13.cell (p := ⟨_, 0, none⟩) hl).trans k0, World.ownsRow_nil _ _ _ _, (fun k hk => by cases hk), by simp, by simp, by simp, by simp, (fun b hb => by cases hb), (fun i x b hi => by cases hi)⟩
 · have k0 : W2.cell? ⟨w1.heap.size + 1, 0, none⟩ = some (.slice none 0 0) := by rw [hW2]; exact Acd W1 [.slice none 0 0] _ _ z1.symm 0 _ rfl
   have kf : W2.frozen? ⟨w1.heap.size + 1, 0, none⟩ = false := by rw [hW2]; exact Agl W1 [.slice none 0 0] _ _ z1.symm 0
   have hl : w1.heap.size + 1 < W2.heap.size := by omega
   refine ⟨.slice none 0 0, ⟨(b23.cell (p := ⟨_, 0, none⟩) hl).trans k0, (b23.frozen (p := ⟨_, 0, none⟩) hl).trans kf, (show w1.heap.size + 1 < W3.heap.size by omega), (fun e => by cases e), World.ownsRow_nil _ _ _ _⟩, ?_⟩
   rintro k (rfl | hk)
   · exact hnp
   cases hk
 rw [hO]
 repeat' split
 all_goals omega
theorem Atq (f : Cf) (w : World) (h : f.may) : Calls Tryz.prog 23 #[.agg #[.int .i64 f.b, .int .i64 f.g, .int .i64 f.t, .int .i64 f.q, .int .i64 f.y]] w fun e w' => Amv w f (fun p => .tuple #[.pointer (some ⟨p, 0, none⟩), .int .i64 0]) e w' := by
 have HM := hQd h
 obtain ⟨b, g, t, q, y⟩ := f
 obtain ⟨b0, b1, g0, g1, t0, t1, q0, q1, y0, y1⟩ := h
 dsimp only at b0 b1 g0 g1 t0 t1 q0 q1 y0 y1 ⊢
 have hwb := Ary b 0
 go_enter Tryz.func23, Tryz.ntmps23
 go_wp2_with fail
 refine (Aue (Bbb ⟨b, g, t, q, y⟩ _ HM.out)).mono ?_
 rintro e w' ⟨rfl, m, rfl⟩
 go_wp2_with fail
 refine (Atp b 0 _).mono ?_
 rintro e w' ⟨rfl, rfl⟩
 go_wp2_with fail
 obtain ⟨V, hV⟩ := exq (via (w.alloc (.cells #[.int .i64 b, .int .i64 g, .int .i64 t, .int .i64 q, .int .i64 y] 23)) m)
 have hB : Below w.heap.size w V := by rw [hV]; exact Acl (bal _ _) _
 have hlt : w.heap.size < V.heap.size := by rw [hV]; exact Awo _ _ _ (by simp)
 have q0' : ∀ j u, [Value.int .i64 b, .int .i64 g, .int .i64 t, .int .i64 q, .int .i64 y][j]? = some u → V.cell? ⟨w.heap.size, j, none⟩ = some u := by
  intro j u hu
  rw [hV, cell?_via _ _ _ _ (by simp)]
  exact Acd w _ _ _ rfl j u hu
 have d0 := q0' 0 _ rfl
 have d1 := q0' 1 _ rfl
 have d2 := q0' 2 _ rfl
 have d3 := q0' 3 _ rfl
 have d4 := q0' 4 _ rfl
 rw [← hV]
 have hne : ¬ w.heap.size = V.heap.size := by omega
 have HB := hQd hB
 obtain ⟨pw, hpw⟩ := exq (Ab1 b 0)
 rw [← hpw] at hwb ⊢
 have Hpw := hQd hpw
 clear hB hV q0' hpw
 go_region_held3 (fun w' => w'.cell? ⟨w.heap.size, 0, none⟩ = some (.int .i64 b) ∧ w'.cell? ⟨w.heap.size, 1, none⟩ = some (.int .i64 g) ∧ w'.cell? ⟨w.heap.size, 2, none⟩ = some (.int .i64 t) ∧ w'.cell? ⟨w.heap.size, 3, none⟩ = some (.int .i64 q) ∧ w'.cell? ⟨w.heap.size, 4, none⟩ = some (.int .i64 y) ∧ w'.cell? ⟨V.heap.size, 0, none⟩ = some (.int .u64 2) ∧ w'.cell? ⟨V.heap.size, 1, none⟩ = some (.int .u64 pw)) (go_keep)
  (first
    | (go_at_call 59
       refine (Bbv _ (V.heap.size + 1) 2 pw (by go_simp) (by go_simp) (by simp) (by omega) (by omega) hwb.1 (by omega)).mono ?_
       rintro e w1 ⟨c, F1, rfl, ce1, hb1, bel1⟩
       have e0 : w1.cell? ⟨w.heap.size, 0, none⟩ = some (.int .i64 b) := (bel1.cell (p := ⟨w.heap.size, 0, none⟩) (by simp <;> omega)).trans (by go_simp)
       have e1 : w1.cell? ⟨w.heap.size, 1, none⟩ = some (.int .i64 g) := (bel1.cell (p := ⟨w.heap.size, 1, none⟩) (by simp <;> omega)).trans (by go_simp)
       have e2 : w1.cell? ⟨w.heap.size, 2, none⟩ = some (.int .i64 t) := (bel1.cell (p := ⟨w.heap.size, 2, none⟩) (by simp <;> omega)).trans (by go_simp)
       have e3 : w1.cell? ⟨w.heap.size, 3, none⟩ = some (.int .i64 q) := (bel1.cell (p := ⟨w.heap.size, 3, none⟩) (by simp <;> omega)).trans (by go_simp)
       have e4 : w1.cell? ⟨w.heap.size, 4, none⟩ = some (.int .i64 y) := (bel1.cell (p := ⟨w.heap.size, 4, none⟩) (by simp <;> omega)).trans (by go_simp)
       have e5 : w1.cell? ⟨V.heap.size, 0, none⟩ = some (.int .u64 2) := (bel1.cell (p := ⟨V.heap.size, 0, none⟩) (by simp <;> omega)).trans (by go_simp)
       have e6 : w1.cell? ⟨V.heap.size, 1, none⟩ = some (.int .u64 pw) := (bel1.cell (p := ⟨V.heap.size, 1, none⟩) (by simp <;> omega)).trans (by go_simp)
       have HC1 := hQd ce1
       have HF1 := hQd hb1
       have HB1 := hQd bel1
       have hz1 : V.heap.size + 2 ≤ w1.heap.size := by have := bel1.size; simp at this; omega
       clear ce1 hb1 bel1)
    | (go_at_call 60; refine (Bbs _).mono ?_; rintro e w2 ⟨rfl, rfl⟩)
    | (go_at_call 61; refine (Bbf _).mono ?_; rintro e w3 ⟨rfl, rfl⟩))
 all_goals
  go_wp2
  rename_i hheld
  clear hheld
  have hz := hz1
  have hbs := HB.out.size
  have HE : Amv w ⟨b, g, t, q, y⟩ (fun p => .tuple #[.pointer (some ⟨p, 0, none⟩), .int .i64 0]) (.returned (.tuple #[.pointer (some ⟨w1.heap.size + 2, 0, none⟩), .int .i64 0])) (((w1.alloc (.cells #[.slice none 0 0, .int .i64 0] 193)).alloc (.cells #[.slice none 0 0] 213)).alloc (.cells (wZ c w1.heap.size (w1.heap.size + 1) ⟨b, g, t, q, y⟩) 66)) := by
   have hbb : Below w.heap.size w w1 := by
    have h1 := ((HB.out.alloc hbs (.cells #[.int .u64 2, .int .u64 pw] 144)).alloc (by rw [World.heap_size_alloc']; omega) (.cells #[.int .u64 2, .int .u64 pw] 144)).drew
    exact h1.trans (HB1.out.mono h1.size)
   have hcb : ∀ j, F1 j → w.heap.size ≤ j := fun j hj => by have := HF1.out j hj; simp at this; omega
   have := Amv.mk ⟨b, g, t, q, y⟩ hbb HC1.out hcb
   rw [Hpw.out] at this
   exact this
  exact bodyPost_ret (v := .tuple #[.pointer (some ⟨w1.heap.size + 2, 0, none⟩), .int .i64 0]) (by simp [results, Tryz.results23, go_sem]) rfl HE
theorem Ay5 (f : Cf) (w : World) (h : f.may) : Calls Tryz.prog 23 #[.agg #[.int .i64 f.b, .int .i64 f.g, .int .i64 f.t, .int .i64 f.q, .int .i64 f.y]] w fun e w' => Bdh w f (fun p => .tuple #[.pointer (some ⟨p, 0, none⟩), .int .i64 0]) e w' :=
 (Atq f w h).mono fun _ _ h => h.one
theorem PW.congr {w : World} {O G : Om} {B : Wb} {f : Cf} {s : AW} (h : PW w O B f s) (hO : ∀ j, O j ≠ 0 → G j = O j) (hhi : Hh G w) : PW w G B f s := by
 have k : ∀ j t, O j = t → t ≠ 0 → G j = t := fun j t hj ht => (hO j (by rw [hj]; exact ht)).trans hj
 refine ⟨k _ _ h.o (by decide), h.wo, Ce.mono h.ce (fun j hj => k _ _ hj (by decide)) (fun j hj => hhi j (by rw [hj]; decide)), ?_, ?_⟩
 · obtain ⟨v, bl, h0, h1, h2, h3, h4, h5, h6, h7, h8⟩ := h.ar.ex
   exact ⟨k _ _ h.ar.o (by decide), h.ar.lt, h.ar.fr, h.ar.c1, v, bl, h0, h1, fun j hj => ⟨k _ _ (h2 j hj).1 (by decide), (h2 j hj).2⟩, h3, h4, h5, h6, fun b hb => ⟨k _ _ (h7 b hb).1 (by decide), (h7 b hb).2⟩, h8⟩
 obtain ⟨v, h1, h2⟩ := h.no.ex
 exact ⟨v, h1, fun j hj => k _ _ (h2 j hj) (by decide)⟩
theorem Amv.rp {w w' : World} {O : Om} {f : Cf} {r : Nat → Value} {e : Ending} (h : Amv w f r e w') (hhi : Hh O w) : ∃ B, RP SW w O (r B.p) (fun W G => PW W G B f (aw0 f.b)) e w' := by
 obtain ⟨B, N, rfl, hP, hE, h4⟩ := h
 obtain ⟨G, hG⟩ : ∃ G : Om, ∀ j, G j = if j < w.heap.size then O j else N j := ⟨_, fun _ => rfl⟩
 have hhi2 : Hh G w' := fun j hj => by
  rw [hG] at hj
  split at hj
  · exact Nat.lt_of_lt_of_le ‹_› hE.bel.size
  exact hE.hi j hj
 refine ⟨B, rfl, G, ⟨fun j hj => by rw [hG, if_pos hj], hhi2, fun j hj hn => ?_, Aag.of_below hE.bel⟩, hP.congr (fun j hj => by rw [hG, if_neg (by have := hE.base j hj; omega)]) hhi2⟩
 rw [hG, if_neg (by omega)] at hn ⊢
 exact ⟨by omega, h4 j⟩
theorem Avx (b : Int) (w : World) (b0 : 1 ≤ b) (b1 : b ≤ 12) : Calls Tryz.prog 15 #[.int .i64 b] w (Bdh w ⟨b, 8, 3, 1, 16⟩ (fun p => .pointer (some ⟨p, 0, none⟩))) := by
 have hc : Cf.may ⟨b, 8, 3, 1, 16⟩ := ⟨b0, b1, (by show (1:Int) ≤ 8; decide), (by show (8:Int) ≤ 65536; decide), (by show (0:Int) ≤ 3; decide), (by show (3:Int) ≤ 16; decide), (by show (1:Int) ≤ 1; decide), (by show (1:Int) ≤ 8; decide), (by show (2:Int) ≤ 16; decide), (by show (16:Int) ≤ 256; decide)⟩
 have HC := hQd hc
 clear hc
 go_enter Tryz.func15, Tryz.ntmps15
 go_wp2_with fail
 refine (Ay5 ⟨b, 8, 3, 1, 16⟩ w HC.out).mono ?_
 rintro e w1 ⟨B, O, rfl, hS, hE⟩
 have HS := hQd hS
 have HE := hQd hE
 clear hS hE
 go_wp2
 go_ret
 exact ⟨B, O, rfl, HS.out, HE.out⟩
end
section
def Afg (w : Int) : Int := w % 16777216
def Ag4 (w : Int) : Int := w / 16777216 % 16777216
def Adf (w : Int) : Int := w / 281474976710656
def Aff (n a g : Int) : Int := n % 16777216 + 16777216 * (a % 16777216) + 281474976710656 * (g % 65536)
def Aa3 (w : Int) : Int := if Afg w < 16777215 then Afg w + 1 else 16777215
def Al5 (w : Int) : Bool := decide (0 < Ag4 w ∧ Ag4 w ≤ Aa3 w)
def Acq (w : Int) : Int := if Al5 w then Aff (Aa3 w) 0 (if Adf w < 65535 then Adf w + 1 else 65535) else Aff (Aa3 w) (Ag4 w) (Adf w)
theorem Ao8 (w : Int) : 0 ≤ Afg w ∧ Afg w ≤ 16777215 := by unfold Afg; omega
theorem Asi (w : Int) : 0 ≤ Ag4 w ∧ Ag4 w ≤ 16777215 := by unfold Ag4; omega
theorem Ao9 {w : Int} (h0 : 0 ≤ w) (h1 : w ≤ 18446744073709551615) : 0 ≤ Adf w ∧ Adf w ≤ 65535 := by unfold Adf; omega
theorem Avi (n a g : Int) : 0 ≤ Aff n a g ∧ Aff n a g ≤ 18446744073709551615 := by unfold Aff; omega
theorem Al4 (w : Int) : 0 ≤ Acq w ∧ Acq w ≤ 18446744073709551615 := by unfold Acq; split <;> exact Avi _ _ _
theorem Agf {x : Int} (h0 : 0 ≤ x) (h1 : x < 18446744073709551616) : bits .and .u64 x 16777215 = x % 16777216 := by
 rw [u64_and x 16777215 h0 h1 (by decide) (by decide), show (16777215 : Int).toNat = 2 ^ 24 - 1 from rfl, Nat.and_two_pow_sub_one_eq_mod, Int.natCast_emod, Int.toNat_of_nonneg h0]
 rfl
theorem Aji {x : Int} (h0 : 0 ≤ x) (h1 : x < 18446744073709551616) : bits .and .u64 x 65535 = x % 65536 := by
 rw [u64_and x 65535 h0 h1 (by decide) (by decide), show (65535 : Int).toNat = 2 ^ 16 - 1 from rfl, Nat.and_two_pow_sub_one_eq_mod, Int.natCast_emod, Int.toNat_of_nonneg h0]
 rfl
theorem Auz {n a g : Int} (n0 : 0 ≤ n) (n1 : n < 16777216) (a0 : 0 ≤ a) (a1 : a < 16777216) (g0 : 0 ≤ g) (g1 : g < 65536) :
 bits .or .u64 (bits .or .u64 n (a * 16777216)) (g * 281474976710656) = n + 16777216 * a + 281474976710656 * g := by
 rw [u64_or n (a * 16777216) n0 (by omega) (by omega) (by omega)]
 have e1 : n.toNat ||| (a * 16777216).toNat = n.toNat + (a * 16777216).toNat := by
  rw [Nat.or_comm, nat_join 24 _ _ (by omega) (by omega), Nat.add_comm]
 rw [e1, u64_or _ (g * 281474976710656) (by omega) (by omega) (by omega) (by omega)]
 have e2 : (((n.toNat + (a * 16777216).toNat : Nat) : Int)).toNat ||| (g * 281474976710656).toNat = (n.toNat + (a * 16777216).toNat) + (g * 281474976710656).toNat := by
  rw [Int.toNat_natCast, Nat.or_comm, nat_join 48 _ _ (by omega) (by omega), Nat.add_comm]
 rw [e2]
 omega
end
section
open Go.RowKit
@[go_sem] theorem Bcg (a b c : Value) (w : World) : (Instr.field 249 (.agg #[a, b, c]) 0).run Tryz.prog w = .ok a w := by kernel_rfl
@[go_sem] theorem Bcf (a b c : Value) (w : World) : (Instr.field 249 (.agg #[a, b, c]) 1).run Tryz.prog w = .ok b w := by kernel_rfl
@[go_sem] theorem Bce (a b c : Value) (w : World) : (Instr.field 249 (.agg #[a, b, c]) 2).run Tryz.prog w = .ok c w := by kernel_rfl
theorem Apd (x : Int) (w : World) (x0 : 0 ≤ x) (x1 : x ≤ 18446744073709551615) :
 Calls Tryz.prog 137 #[.int .u64 x] w fun e w' => e = .returned (.agg #[.int .i64 (Afg x), .int .i64 (Ag4 x), .int .i64 (Adf x)]) ∧ Below w.heap.size w w' := by
 have e1 := Agf x0 (by omega)
 have e2 := Agf (x := x / 16777216) (by omega) (by omega)
 have e3 := Aji (x := x / 281474976710656) (by omega) (by omega)
 go_enter Tryz.func137, Tryz.ntmps137
 go_wp2
 exact bodyPost_ret (v := .agg #[.int .i64 (x % 16777216), .int .i64 (x / 16777216 % 16777216), .int .i64 (x / 281474976710656 % 65536)]) (by simp [results, Tryz.results137, go_sem]) rfl ⟨by unfold Afg Ag4 Adf; rw [show x / 281474976710656 % 65536 = x / 281474976710656 by omega], bal _ _⟩
theorem Aqc (n : Int) : bits .and .u64 (n % 18446744073709551616) 16777215 = n % 16777216 := by
 rw [Agf (by omega) (by omega)]; omega
theorem Aqd (n : Int) : bits .and .u64 (n % 18446744073709551616) 65535 = n % 65536 := by
 rw [Aji (by omega) (by omega)]; omega
theorem Axb (n a g : Int) : bits .or .u64 (bits .or .u64 (IntKind.u64.wrap (bits .and .u64 (IntKind.u64.wrap n) 16777215)) (IntKind.u64.wrap (bits .and .u64 (IntKind.u64.wrap a) 16777215 * 16777216))) (IntKind.u64.wrap (bits .and .u64 (IntKind.u64.wrap g) 65535 * 281474976710656)) = Aff n a g := by
 simp only [IntKind.wrap_u64, Aqc, Aqd]
 rw [show n % 16777216 % 18446744073709551616 = n % 16777216 by omega, show a % 16777216 * 16777216 % 18446744073709551616 = a % 16777216 * 16777216 by omega, show g % 65536 * 281474976710656 % 18446744073709551616 = g % 65536 * 281474976710656 by omega]
 rw [Auz (by omega) (by omega) (by omega) (by omega) (by omega) (by omega)]
 rfl
theorem Apb (n a g : Int) (w : World) (n0 : -9223372036854775808 ≤ n) (n1 : n ≤ 9223372036854775807) (a0 : -9223372036854775808 ≤ a) (a1 : a ≤ 9223372036854775807) (g0 : -9223372036854775808 ≤ g) (g1 : g ≤ 9223372036854775807) :
 Calls Tryz.prog 138 #[.agg #[.int .i64 n, .int .i64 a, .int .i64 g]] w fun e w' => e = .returned (.int .u64 (Aff n a g)) ∧ Below w.heap.size w w' := by
 have Ho := hQd (Axb n a g)
 go_enter Tryz.func138, Tryz.ntmps138
 go_wp2
 go_ret
 exact ⟨Aa6 Ho.out, bal _ _⟩
end
section
open Go.RowKit
theorem Bbc (x : Int) (w : World) (x0 : 0 ≤ x) (x1 : x ≤ 18446744073709551615) :
 Calls Tryz.prog 109 #[.int .u64 x] w fun e w' => e = .returned (.int .u64 (Acq x)) ∧ Below w.heap.size w w' := by
 have hn := Ao8 x
 have ha := Asi x
 have hg := Ao9 x0 x1
 have ht : (Afg x < 16777215 ∧ Aa3 x = Afg x + 1) ∨ (¬ Afg x < 16777215 ∧ Aa3 x = 16777215) := by unfold Aa3; split <;> omega
 by_cases d : 0 < Ag4 x
 · by_cases d2 : Ag4 x ≤ Aa3 x
   · have hd : Al5 x = true := by unfold Al5; rw [decide_eq_true_eq]; exact ⟨d, d2⟩
     have Hg := hQd (show Acq x = Aff (Aa3 x) 0 (if Adf x < 65535 then Adf x + 1 else 65535) by unfold Acq; rw [if_pos hd])
     rw [Hg.out]
     clear hd Hg
     by_cases g : Adf x < 65535
     · rw [if_pos g]
       rcases ht with ⟨t1, t2⟩ | ⟨t1, t2⟩
       all_goals
        rw [t2] at d2 ⊢
        clear t2
        go_enter Tryz.func109, Tryz.ntmps109
        go_wp2_with (first | (go_at_call 137; refine (Aue (Apd _ _ x0 x1)).mono ?_; rintro e w' ⟨rfl, m, rfl⟩) | (go_at_call 138; refine (Aue (Apb _ _ _ _ (by omega) (by omega) (by omega) (by omega) (by omega) (by omega))).mono ?_; rintro e w' ⟨rfl, m2, rfl⟩))
        all_goals (go_ret; exact ⟨rfl, Acl ((Acl (Below.refl _ _) _).alloc (by simp) _) _⟩)
     rw [if_neg g]
     rcases ht with ⟨t1, t2⟩ | ⟨t1, t2⟩
     all_goals
      rw [t2] at d2 ⊢
      clear t2
      go_enter Tryz.func109, Tryz.ntmps109
      go_wp2_with (first | (go_at_call 137; refine (Aue (Apd _ _ x0 x1)).mono ?_; rintro e w' ⟨rfl, m, rfl⟩) | (go_at_call 138; refine (Aue (Apb _ _ _ _ (by omega) (by omega) (by omega) (by omega) (by omega) (by omega))).mono ?_; rintro e w' ⟨rfl, m2, rfl⟩))
      all_goals (go_ret; exact ⟨rfl, Acl ((Acl (Below.refl _ _) _).alloc (by simp) _) _⟩)
   have hd : Al5 x = false := by unfold Al5; rw [decide_eq_false_iff_not]; omega
   have Hg := hQd (show Acq x = Aff (Aa3 x) (Ag4 x) (Adf x) by unfold Acq; rw [if_neg (by rw [hd]; decide)])
   rw [Hg.out]
   clear hd Hg
   rcases ht with ⟨t1, t2⟩ | ⟨t1, t2⟩
   rotate_left
   · exfalso; omega
   all_goals
    rw [t2] at d2 ⊢
    clear t2
    go_enter Tryz.func109, Tryz.ntmps109
    go_wp2_with (first | (go_at_call 137; refine (Aue (Apd _ _ x0 x1)).mono ?_; rintro e w' ⟨rfl, m, rfl⟩) | (go_at_call 138; refine (Aue (Apb _ _ _ _ (by omega) (by omega) (by omega) (by omega) (by omega) (by omega))).mono ?_; rintro e w' ⟨rfl, m2, rfl⟩))
    all_goals (go_ret; exact ⟨rfl, Acl ((Acl (Below.refl _ _) _).alloc (by simp) _) _⟩)
 have hd : Al5 x = false := by unfold Al5; rw [decide_eq_false_iff_not]; omega
 have Hg := hQd (show Acq x = Aff (Aa3 x) (Ag4 x) (Adf x) by unfold Acq; rw [if_neg (by rw [hd]; decide)])
 rw [Hg.out]
 clear hd Hg
 have e0 : Ag4 x = 0 := by omega
 rw [e0]
 clear d ha
 rcases ht with ⟨t1, t2⟩ | ⟨t1, t2⟩
 all_goals
  rw [t2]
  clear t2
  go_enter Tryz.func109, Tryz.ntmps109
  go_wp2_with (first | (go_at_call 137; refine (Aue (Apd _ _ x0 x1)).mono ?_; rintro e w' ⟨rfl, m, rfl⟩) | (go_at_call 138; refine (Aue (Apb _ _ _ _ (by omega) (by omega) (by omega) (by omega) (by omega) (by omega))).mono ?_; rintro e w' ⟨rfl, m2, rfl⟩))
  all_goals (go_ret; exact ⟨rfl, Acl ((Acl (Below.refl _ _) _).alloc (by simp) _) _⟩)
end
section
open Go.RowKit
def At5 (s : AW) : AW := ⟨upd s.M 8 (Acq (s.M 8)), s.n + 1, ⟨3, 8, s.M 8, Acq (s.M 8)⟩, s.tk, s.ho, s.it, s.nt⟩
theorem Ay4 (w : World) (O : Om) (B : Wb) (f : Cf) (s : AW) (hP : PW w O B f s) (hhi : Hh O w) (n0 : 0 ≤ s.n) (n1 : s.n ≤ 4611686018427387904) :
 C1 72 B.p w (RP SW w O (.tuple #[]) fun W G => PW W G B f (At5 s)) := by
 have p0 := hP.wo.c0
 have hpl := hP.wo.lt
 have hb := hP.bd 8
 have htb := Al4 (s.M 8)
 have HK := hQd (Amp 8 hP.ce (by decide) (by decide))
 have HP := hQd hP
 have HH := hQd hhi
 clear hP hhi
 go_enter Tryz.func72, Tryz.ntmps72
 go_wp2_with fail
 refine (HK.out).mono ?_
 rintro e w' ⟨rfl, rfl⟩
 obtain ⟨m8, hm8⟩ := exq (s.M 8)
 have Hm := hQd hm8
 rw [← hm8] at hb htb ⊢
 clear HK hm8
 go_wp2_with fail
 go_region_held3 (fun w' => w'.cell? ⟨B.p, 0, none⟩ = some (.pointer (some ⟨B.c, 0, none⟩))) (go_keep)
  (first
    | (go_at_call 109; refine (Bbc m8 _ hb.1 (by omega)).mono ?_; rintro e w1 ⟨rfl, hb1⟩
       have P1 := HP.out.below HH.out ((Below.refl _ _).drew.trans hb1)
       have hh1 : Hh O w1 := fun j hj => Nat.lt_of_lt_of_le (HH.out j hj) hb1.size
       have r0 := P1.wo.c0
       have HP1 := hQd P1
       have HH1 := hQd hh1
       have HB1 := hQd ((Below.refl _ _).drew.trans hb1)
       clear P1 hh1 hb1)
    | (go_at_call 108
       refine (At3 (w := w1) 8 m8 (Acq m8) HP1.out.ce (by decide) (by decide) htb.1 (by omega) n0 n1 (by rw [Hm.out])).mono ?_
       intro e w2 hp
       obtain ⟨rfl, O2, E2, P2⟩ := PW.rp_cells HP1.out HH1.out hp
       have HE := hQd (((Ext.of_below HH.out HB1.out).trans (S := SW) E2))
       have HP2 := hQd P2
       have r1 := P2.wo.c0
       clear hp E2 P2))
 all_goals
  rw [Hm.out] at HP2
  go_wp2
  go_end0
  exact ⟨rfl, O2, HE.out, HP2.out⟩
def Aan (x : Int) (s : AW) : AW := ⟨s.M, s.n + 1, ⟨1, x, s.M x, s.M x⟩, s.tk, s.ho, s.it, s.nt⟩
def Aax (a v : Int) (s : AW) : AW := ⟨upd s.M a v, s.n + 1, ⟨2, a, s.M a, v⟩, s.tk, s.ho, s.it, s.nt⟩
theorem Aed (a v : Int) {w : World} {O : Om} {B : Wb} {f : Cf} {s : AW} (hP : PW w O B f s) (hhi : Hh O w) (a0 : 0 ≤ a) (a1 : a < 18446744073709551616) (v0 : 0 ≤ v) (v1 : v < 18446744073709551616) (n0 : 0 ≤ s.n) (n1 : s.n ≤ 4611686018427387904) :
 Calls Tryz.prog 17 #[.pointer (some ⟨B.c, 0, none⟩), .int .u64 a, .int .u64 v] w (RP SW w O (.int .u64 (s.M a)) fun W G => PW W G B f (Aax a v s)) :=
 (Ay7 a v hP.ce a0 a1 v0 v1 n0 n1).mono fun e w' hp => hP.rp_cells hhi hp
theorem Apl (w : World) (O : Om) (B : Wb) (f : Cf) (s : AW) (hP : PW w O B f s) : C1 44 B.p w fun e w' => e = .returned (.int .i64 s.n) ∧ w = w' := by
 have p0 := hP.wo.c0
 have HK := hQd (Apt hP.ce)
 clear hP
 go_enter Tryz.func44, Tryz.ntmps44
 go_wp2_with fail
 refine (HK.out).mono ?_
 rintro e w' ⟨rfl, rfl⟩
 go_wp2
 go_ret
 exact ⟨rfl, rfl⟩
end
section
open Go.RowKit
theorem Ald {O : Om} {w : World} (h : Hh O w) {j : Nat} (hj : w.heap.size ≤ j) : O j = 0 := by
 by_cases hz : O j = 0
 · exact hz
 exact absurd (h j hz) (by omega)
def Abr (k ref b q s v : Int) (x : AW) : AW := ⟨x.M, x.n, x.la, x.tk, x.ho, x.it, Af0 x.nt ⟨x.n, x.ho, k, ref, b, q, s, v⟩⟩
theorem PW.notes {w w' : World} {O O' : Om} {B : Wb} {f : Cf} {s : AW} {l : List Nt} (h : PW w O B f s) (e : Ext (fun t => t = 4) O w O' w') (hc : No w' O' 4 B.np l) : PW w' O' B f ⟨s.M, s.n, s.la, s.tk, s.ho, s.it, l⟩ :=
 ⟨(e.lo _ h.wo.lt).trans h.o, h.wo.wrote e.wr (fun k => absurd (show (1 : Nat) = 4 from by have := k.1; rwa [h.o] at this) (by decide)), h.ce.ext e (by decide) (by decide), h.ar.ext e (by decide), hc⟩
theorem Ak3 (k ref b q sl v : Int) {w : World} {O : Om} {B : Wb} {f : Cf} {s : AW} (h : PW w O B f s) (hhi : Hh O w) (k0 : 0 ≤ k) (k1 : k ≤ 255) :
 Calls Tryz.prog 126 #[.pointer (some ⟨B.p, 0, none⟩), .int .u8 k, .int .i64 ref, .agg #[.int .i64 b, .int .i64 q, .int .i64 sl], .int .i64 v] w (RP SW w O (.tuple #[]) fun W G => PW W G B f (Abr k ref b q sl v s)) := by
 have HP := hQd h
 have HH := hQd hhi
 clear h hhi
 go_enter Tryz.func126, Tryz.ntmps126
 go_wp2_with fail
 obtain ⟨W, hW⟩ := exq (w.alloc (.cells #[.int .i64 b, .int .i64 q, .int .i64 sl] 95))
 have y0 : W.cell? ⟨w.heap.size, 0, none⟩ = some (.int .i64 b) := by rw [hW]; simp
 have y1 : W.cell? ⟨w.heap.size, 1, none⟩ = some (.int .i64 q) := by rw [hW]; simp
 have y2 : W.cell? ⟨w.heap.size, 2, none⟩ = some (.int .i64 sl) := by rw [hW]; simp
 have hB : Below w.heap.size w W := by rw [hW]; exact bal _ _
 have E1 := hQd (Ext.of_below (S := SW) HH.out hB)
 have P1 := hQd (HP.out.below HH.out hB)
 have c2 := P1.out.wo.c2
 have ch := P1.out.wo.ho
 have hlt : w.heap.size < W.heap.size := by rw [hW]; simp
 have hO0 := hQd (Ald HH.out (Nat.le_refl w.heap.size))
 rw [← hW]
 clear hW hB
 go_region_held3 (fun w' => w'.cell? ⟨w.heap.size, 0, none⟩ = some (.int .i64 b) ∧ w'.cell? ⟨w.heap.size, 1, none⟩ = some (.int .i64 q) ∧ w'.cell? ⟨w.heap.size, 2, none⟩ = some (.int .i64 sl) ∧ w'.cell? ⟨B.p, 2, none⟩ = some (.pointer (some ⟨B.np, 0, none⟩)) ∧ w'.cell? ⟨B.p, 72, none⟩ = some (.int .i64 s.ho)) (go_keep)
  ((first
    | (go_at_call 44
       refine (Apl W.drew O B f s (P1.out.below E1.out.hi (Aaa W))).mono ?_
       rintro e w' ⟨rfl, rfl⟩)
    | (go_at_call 158
       refine (Azf (w := W.drew) ⟨s.n, s.ho, k, ref, b, q, sl, v⟩ (P1.out.below E1.out.hi (Aaa W)).no (by decide) E1.out.drew.hi k0 k1).mono ?_
       rintro e w1 ⟨rfl, G, e1, no1⟩
       have Q1 := hQd ((P1.out.below E1.out.hi (Aaa W)).notes e1 no1)
       have F1 := hQd (E1.out.drew.trans (e1.mono fun t _ h => by subst h; exact ⟨by decide, by decide⟩))
       have x0 := (e1.cell (p := ⟨w.heap.size, 0, none⟩) hlt (by show ¬ (O w.heap.size = 4); rw [hO0.out]; decide)).trans y0
       have x1 := (e1.cell (p := ⟨w.heap.size, 1, none⟩) hlt (by show ¬ (O w.heap.size = 4); rw [hO0.out]; decide)).trans y1
       have x2 := (e1.cell (p := ⟨w.heap.size, 2, none⟩) hlt (by show ¬ (O w.heap.size = 4); rw [hO0.out]; decide)).trans y2
       have x3 := Q1.out.wo.c2
       have x4 := Q1.out.wo.ho
       clear e1 no1)))
 all_goals
  go_wp2_with fail
  go_end0
  exact ⟨rfl, G, F1.out, Q1.out⟩
end
end Go.Proofs.YthbodknlhkapdaaGreat
