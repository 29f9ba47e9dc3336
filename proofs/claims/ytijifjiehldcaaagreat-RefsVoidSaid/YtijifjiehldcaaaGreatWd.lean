/- Layer 10: contracts of a new world. -/
import Derived.Test.YtijifjiehldcaaaGreatClOps
import Derived.Test.YtijifjiehldcaaaGreatPl2
namespace Go.Proofs.YtijifjiehldcaaaGreat
set_option linter.unusedSimpArgs false
open Go.RowKit
set_option linter.unusedVariables false

theorem cell_new (w : World) (cs : List Value) (e : TypeId) (N : Nat) (hN : N = w.heap.size) (j : Nat) (u : Value) (hj : cs[j]? = some u) : (w.alloc (.cells cs.toArray e)).cell? ⟨N, j, none⟩ = some u := by
  subst hN
  unfold World.cell?
  rw [heap_alloc_new]
  simpa using hj
theorem frozen_new (w : World) (cs : List Value) (e : TypeId) (N : Nat) (hN : N = w.heap.size) (j : Nat) : (w.alloc (.cells cs.toArray e)).frozen? ⟨N, j, none⟩ = false := by
  subst hN
  unfold World.frozen?
  rw [heap_alloc_new]
  simp
theorem World.heap_size_alloc' (w : World) (o : Obj) : (w.alloc o).heap.size = w.heap.size + 1 := by simp
theorem cell_newA (w : World) (cs : Array Value) (e : TypeId) (N : Nat) (hN : N = w.heap.size) (j : Nat) (u : Value) (hj : cs[j]? = some u) : (w.alloc (.cells cs e)).cell? ⟨N, j, none⟩ = some u := by
  subst hN
  unfold World.cell?
  rw [heap_alloc_new]
  simpa using hj
theorem frozen_newA (w : World) (cs : Array Value) (e : TypeId) (N : Nat) (hN : N = w.heap.size) (j : Nat) : (w.alloc (.cells cs e)).frozen? ⟨N, j, none⟩ = false := by
  subst hN
  unfold World.frozen?
  rw [heap_alloc_new]
  simp
theorem Cl.start (w : World) (e : TypeId) (N : Nat) (hN : N = w.heap.size) : Cl (w.alloc (.cells #[.map none, .int .i64 0, .int .u8 0, .int .u64 0, .int .u64 0, .int .u64 0] e)) (fun j => j = N) N [] 0 0 0 0 0 :=
  ⟨.inl ⟨rfl, cell_new w [.map none, .int .i64 0, .int .u8 0, .int .u64 0, .int .u64 0, .int .u64 0] e N hN 0 _ rfl⟩, cell_new w [.map none, .int .i64 0, .int .u8 0, .int .u64 0, .int .u64 0, .int .u64 0] e N hN 1 _ rfl, cell_new w [.map none, .int .i64 0, .int .u8 0, .int .u64 0, .int .u64 0, .int .u64 0] e N hN 2 _ rfl, cell_new w [.map none, .int .i64 0, .int .u8 0, .int .u64 0, .int .u64 0, .int .u64 0] e N hN 3 _ rfl, cell_new w [.map none, .int .i64 0, .int .u8 0, .int .u64 0, .int .u64 0, .int .u64 0] e N hN 4 _ rfl, cell_new w [.map none, .int .i64 0, .int .u8 0, .int .u64 0, .int .u64 0, .int .u64 0] e N hN 5 _ rfl,
    fun j => frozen_new w [.map none, .int .i64 0, .int .u8 0, .int .u64 0, .int .u64 0, .int .u64 0] e N hN j, by subst hN; simp, rfl, (fun d hd => by cases hd), by simp, by simp⟩
def CNewPost (w : World) (x v : Int) (e : Ending) (w' : World) : Prop :=
  ∃ c F', e = .returned (.pointer (some ⟨c, 0, none⟩)) ∧ Ce w' F' c (upd (fun _ => 0) x v) 0 ⟨0, 0, 0, 0⟩ ∧ (∀ j, F' j → w.heap.size ≤ j) ∧ Below w.heap.size w w'
set_option maxHeartbeats 1000000 in
set_option maxRecDepth 100000 in
theorem c_CNew (w : World) (b : Nat) (x v : Int) (h0 : w.cell? ⟨b, 0, none⟩ = some (.int .u64 x)) (h1 : w.cell? ⟨b, 1, none⟩ = some (.int .u64 v)) (hb : b < w.heap.size) (x0 : 0 ≤ x) (x1 : x < 18446744073709551616) (v0 : 0 ≤ v) (v1 : v < 18446744073709551616) :
    Calls Tryz.prog 87 #[.slice (some ⟨b, 0, none⟩) 1 1] w (CNewPost w x v) := by
  have hs := Cl.start w 165 w.heap.size rfl
  have HS := Lib.hid (hs.below ((Below.refl _ _).alloc (Nat.le_refl _) (.cells #[.int .u64 x, .int .u64 v] 176)))
  clear hs
  go_enter Tryz.func87, Tryz.ntmps87
  go_wp2
  refine wp_loop_rounds 2 ?_
  rw [rounds_succ]
  go_wp2
  obtain ⟨W, hW⟩ : ∃ W, W = (w.alloc (.cells #[.map none, .int .i64 0, .int .u8 0, .int .u64 0, .int .u64 0, .int .u64 0] 165)).alloc (.cells #[.int .u64 x, .int .u64 v] 176) := ⟨_, rfl⟩
  have hz : W.heap.size = w.heap.size + 2 := by rw [hW]; simp
  have k0 : W.cell? ⟨w.heap.size + 1, 0, none⟩ = some (.int .u64 x) := by rw [hW]; exact cell_new _ [.int .u64 x, .int .u64 v] _ _ (by simp) 0 _ rfl
  have k1 : W.cell? ⟨w.heap.size + 1, 1, none⟩ = some (.int .u64 v) := by rw [hW]; exact cell_new _ [.int .u64 x, .int .u64 v] _ _ (by simp) 1 _ rfl
  have hB : Below w.heap.size w W := by rw [hW]; exact ((Below.refl _ _).alloc (Nat.le_refl _) _).alloc (by simp) _
  have HS2 := HS.out
  rw [← hW] at HS2 ⊢
  have Hat := Lib.hid (c_at W.drew (fun j => j = w.heap.size) w.heap.size [] 0 0 0 0 0 x (HS2.wrote (S := fun _ => False) (Wrote.refl _ _).drew fun _ _ h => h) (fun j hj => by subst hj; show _ < W.heap.size; omega) x0 x1)
  have HB := Lib.hid hB
  have HZ := Lib.hid hz
  clear HS HS2 hW hB hz h0 h1
  go_region_held3 (fun w' => w'.cell? ⟨w.heap.size + 1, 0, none⟩ = some (.int .u64 x) ∧ w'.cell? ⟨w.heap.size + 1, 1, none⟩ = some (.int .u64 v)) (go_keep)
    (first
      | (go_at_call 126; refine (Hat.out).mono ?_; rintro e w1 ⟨L1, F1, d, rfl, h1, hd1, hda, hv1, hg1, hw1⟩
         have q0 := (hw1.cell (p := ⟨w.heap.size + 1, 0, none⟩) (by have := HZ.out; show w.heap.size + 1 < W.heap.size; omega) (by show ¬ w.heap.size + 1 = w.heap.size; omega)).trans k0
         have q1 := (hw1.cell (p := ⟨w.heap.size + 1, 1, none⟩) (by have := HZ.out; show w.heap.size + 1 < W.heap.size; omega) (by show ¬ w.heap.size + 1 = w.heap.size; omega)).trans k1
         have hdn : d.b ≠ w.heap.size + 1 := by
           intro e
           have hz := HZ.out
           rcases hg1.new _ (h1.wd d hd1).mem with h | h
           · omega
           · have h2 : W.heap.size ≤ d.b := h
             omega
         have H1 := Lib.hid h1
         have Hd1 := Lib.hid hd1
         have Hda := Lib.hid hda
         have Hv1 := Lib.hid hv1
         have Hg1 := Lib.hid hg1
         have Hw1 := Lib.hid hw1
         clear h1 hd1 hda hv1 hg1 hw1)
      | (go_at_call 130; refine (c_aStore (H1.out.wd d Hd1.out).cell (H1.out.wd d Hd1.out).free v).mono ?_; rintro e w3 ⟨rfl, rfl⟩))
  all_goals
    have HE : Hid (CNewPost w x v (.returned (.pointer (some ⟨w.heap.size, 0, none⟩))) (w1.setCell ⟨d.b, 0, none⟩ (.int .u64 v))) := by
      have h1 := H1.out
      have hd1 := Hd1.out
      have hda := Hda.out
      have hz := HZ.out
      have hwd := h1.wd d hd1
      have hsw : Wrote (fun j => j = d.b) w1 (w1.setCell ⟨d.b, 0, none⟩ (.int .u64 v)) := Wrote.setCell (S := fun j => j = d.b) (Wrote.refl _ _) (p := ⟨d.b, 0, none⟩) (fun _ => rfl) _
      have h2 := Cl.put (v := v) h1 hd1 v0 v1 hsw (fun j _ h => h) (World.cell?_setCell_same _ _ _ hwd.cell) ((World.frozen?_setCell _ _ _ _).trans hwd.free)
      refine Lib.hid ⟨w.heap.size, F1, rfl, ⟨⟨_, h2, fun y => ?_⟩, fun j hj => Nat.lt_of_lt_of_le (Hg1.out.lts j hj) hsw.size⟩, fun j hj => ?_, ?_⟩
      · rw [cval_put hd1, Hv1.out, hda]; rfl
      · rcases Hg1.out.new j hj with h | h
        · omega
        · have h2 : W.heap.size ≤ j := h
          omega
      · refine (HB.out.drew.trans (Hw1.out.below (B := w.heap.size) (fun k _ h => by omega) (by show w.heap.size ≤ W.heap.size; omega))).trans (hsw.below (B := w.heap.size) (fun k _ h => ?_) (by have := Hw1.out.size; have h2 : W.heap.size ≤ w1.heap.size := this; omega))
        subst h
        rcases Hg1.out.new _ hwd.mem with h | h
        · omega
        · have h2 : W.heap.size ≤ d.b := h
          omega
    go_wp2
    rw [rounds_succ]
    go_wp2
    go_ret
    exact HE.out
structure Cf where
  b : Int
  g : Int
  t : Int
  q : Int
  y : Int
structure Cf.may (f : Cf) : Prop where
  b0 : 1 ≤ f.b
  b1 : f.b ≤ 12
  g0 : 1 ≤ f.g
  g1 : f.g ≤ 65536
  t0 : 0 ≤ f.t
  t1 : f.t ≤ 16
  q0 : 1 ≤ f.q
  q1 : f.q ≤ 8
  y0 : 2 ≤ f.y
  y1 : f.y ≤ 256
set_option maxHeartbeats 2000000 in
set_option maxRecDepth 100000 in
theorem c_WMay (f : Cf) (w : World) (h : f.may) : Calls Tryz.prog 85 #[.agg #[.int .i64 f.b, .int .i64 f.g, .int .i64 f.t, .int .i64 f.q, .int .i64 f.y]] w fun e w' => e = .returned (.bool true) ∧ Below w.heap.size w w' := by
  obtain ⟨b, g, t, q, y⟩ := f
  obtain ⟨b0, b1, g0, g1, t0, t1, q0, q1, y0, y1⟩ := h
  dsimp only at b0 b1 g0 g1 t0 t1 q0 q1 y0 y1 ⊢
  have i0 : ∀ W : World, (Instr.index 217 (.agg #[.int .i64 b, .int .i64 1, .int .i64 12, .int .i64 g, .int .i64 1, .int .i64 65536, .int .i64 t, .int .i64 0, .int .i64 16, .int .i64 q, .int .i64 1, .int .i64 8, .int .i64 y, .int .i64 2, .int .i64 256]) (.int .i64 0)).run Tryz.prog W = .ok (.agg #[.int .i64 b, .int .i64 1, .int .i64 12]) W := fun _ => by kernel_rfl
  have i1 : ∀ W : World, (Instr.index 217 (.agg #[.int .i64 b, .int .i64 1, .int .i64 12, .int .i64 g, .int .i64 1, .int .i64 65536, .int .i64 t, .int .i64 0, .int .i64 16, .int .i64 q, .int .i64 1, .int .i64 8, .int .i64 y, .int .i64 2, .int .i64 256]) (.int .i64 1)).run Tryz.prog W = .ok (.agg #[.int .i64 g, .int .i64 1, .int .i64 65536]) W := fun _ => by kernel_rfl
  have i2 : ∀ W : World, (Instr.index 217 (.agg #[.int .i64 b, .int .i64 1, .int .i64 12, .int .i64 g, .int .i64 1, .int .i64 65536, .int .i64 t, .int .i64 0, .int .i64 16, .int .i64 q, .int .i64 1, .int .i64 8, .int .i64 y, .int .i64 2, .int .i64 256]) (.int .i64 2)).run Tryz.prog W = .ok (.agg #[.int .i64 t, .int .i64 0, .int .i64 16]) W := fun _ => by kernel_rfl
  have i3 : ∀ W : World, (Instr.index 217 (.agg #[.int .i64 b, .int .i64 1, .int .i64 12, .int .i64 g, .int .i64 1, .int .i64 65536, .int .i64 t, .int .i64 0, .int .i64 16, .int .i64 q, .int .i64 1, .int .i64 8, .int .i64 y, .int .i64 2, .int .i64 256]) (.int .i64 3)).run Tryz.prog W = .ok (.agg #[.int .i64 q, .int .i64 1, .int .i64 8]) W := fun _ => by kernel_rfl
  have i4 : ∀ W : World, (Instr.index 217 (.agg #[.int .i64 b, .int .i64 1, .int .i64 12, .int .i64 g, .int .i64 1, .int .i64 65536, .int .i64 t, .int .i64 0, .int .i64 16, .int .i64 q, .int .i64 1, .int .i64 8, .int .i64 y, .int .i64 2, .int .i64 256]) (.int .i64 4)).run Tryz.prog W = .ok (.agg #[.int .i64 y, .int .i64 2, .int .i64 256]) W := fun _ => by kernel_rfl
  go_enter Tryz.func85, Tryz.ntmps85
  go_wp2
  refine wp_loop_rounds 6 ?_
  rw [rounds_succ]
  go_wp2
  rw [rounds_succ]
  go_wp2
  rw [rounds_succ]
  go_wp2
  rw [rounds_succ]
  go_wp2
  rw [rounds_succ]
  go_wp2
  rw [rounds_succ]
  go_wp2
  go_ret
  exact ⟨rfl, by repeat (first | exact Below.refl _ _ | refine below_alloc ?_ _)⟩
theorem c_INew (w : World) : Calls Tryz.prog 88 #[] w fun e w' => e = .returned (.pointer (some ⟨w.heap.size, 0, none⟩)) ∧ w.alloc (.cells #[.slice none 0 0, .int .i64 0] 191) = w' := by
  go_enter Tryz.func88, Tryz.ntmps88
  go_wp2
  go_ret
  exact ⟨rfl, rfl⟩
theorem c_NNew (w : World) : Calls Tryz.prog 89 #[] w fun e w' => e = .returned (.pointer (some ⟨w.heap.size, 0, none⟩)) ∧ w.alloc (.cells #[.slice none 0 0] 220) = w' := by
  go_enter Tryz.func89, Tryz.ntmps89
  go_wp2
  go_ret
  exact ⟨rfl, rfl⟩
def isZ : Option Value → Bool
  | some (.int .u64 0) => true
  | _ => false
theorem isZ_eq {o : Option Value} (h : isZ o = true) : o = some (.int .u64 0) := by
  unfold isZ at h
  split at h
  · rfl
  · cases h
theorem zero_tickets (j : Nat) (hj : j < 64) : Tryz.zeroCells96[8 + j]? = some (.int .u64 0) := by
  have h : (List.range 64).all (fun j => isZ (Tryz.zeroCells96[8 + j]?)) = true := by kernel_rfl
  exact isZ_eq (List.all_eq_true.1 h j (by simpa using hj))
/-- The struct of a world, in block p. -/
structure Wo (w : World) (p c ip np : Nat) (f : Cf) (tk : Nat → Int) (ho : Int) : Prop where
  c0 : w.cell? ⟨p, 0, none⟩ = some (.pointer (some ⟨c, 0, none⟩))
  c1 : w.cell? ⟨p, 1, none⟩ = some (.pointer (some ⟨ip, 0, none⟩))
  c2 : w.cell? ⟨p, 2, none⟩ = some (.pointer (some ⟨np, 0, none⟩))
  c3 : w.cell? ⟨p, 3, none⟩ = some (.int .i64 f.b)
  c4 : w.cell? ⟨p, 4, none⟩ = some (.int .i64 f.g)
  c5 : w.cell? ⟨p, 5, none⟩ = some (.int .i64 f.t)
  c6 : w.cell? ⟨p, 6, none⟩ = some (.int .i64 f.q)
  c7 : w.cell? ⟨p, 7, none⟩ = some (.int .i64 f.y)
  tk : ∀ j, j < 64 → w.cell? ⟨p, 8 + j, none⟩ = some (.int .u64 (tk j))
  ho : w.cell? ⟨p, 72, none⟩ = some (.int .i64 ho)
  fr : ∀ j, w.frozen? ⟨p, j, none⟩ = false
  lt : p < w.heap.size
theorem Wo.wrote {w w' : World} {S : Nat → Prop} {p c ip np : Nat} {f : Cf} {tk : Nat → Int} {ho : Int} (h : Wo w p c ip np f tk ho) (hw : Wrote S w w') (hs : ¬ S p) : Wo w' p c ip np f tk ho := by
  have hc : ∀ j, w'.cell? ⟨p, j, none⟩ = w.cell? ⟨p, j, none⟩ := fun j => hw.cell (p := ⟨p, j, none⟩) h.lt hs
  exact ⟨(hc 0).trans h.c0, (hc 1).trans h.c1, (hc 2).trans h.c2, (hc 3).trans h.c3, (hc 4).trans h.c4, (hc 5).trans h.c5, (hc 6).trans h.c6, (hc 7).trans h.c7, fun j hj => (hc (8 + j)).trans (h.tk j hj), (hc 72).trans h.ho, fun j => (hw.frozen (p := ⟨p, j, none⟩) h.lt hs).trans (h.fr j), Nat.lt_of_lt_of_le h.lt hw.size⟩
/-- A new world's cells. -/
noncomputable def wZ (c ip np : Nat) (f : Cf) : Array Value :=
  ((((((((Tryz.zeroCells96.setIfInBounds 0 (.pointer (some ⟨c, 0, none⟩))).setIfInBounds 1 (.pointer (some ⟨ip, 0, none⟩))).setIfInBounds 2 (.pointer (some ⟨np, 0, none⟩))).setIfInBounds 3 (.int .i64 f.b)).setIfInBounds 4 (.int .i64 f.g)).setIfInBounds 5 (.int .i64 f.t)).setIfInBounds 6 (.int .i64 f.q)).setIfInBounds 7 (.int .i64 f.y)).setIfInBounds 72 (.int .i64 (-1))
theorem zsize : Tryz.zeroCells96.size = 73 := by kernel_rfl
theorem wZ_get (c ip np : Nat) (f : Cf) (w : World) (e : TypeId) (N : Nat) (hN : N = w.heap.size) : Wo (w.alloc (.cells (wZ c ip np f) e)) N c ip np f (fun _ => 0) (-1) := by
  have hz := zsize
  have hs : (wZ c ip np f).size = 73 := by unfold wZ; simp [hz]
  refine ⟨cell_newA _ _ _ _ hN 0 _ ?_, cell_newA _ _ _ _ hN 1 _ ?_, cell_newA _ _ _ _ hN 2 _ ?_, cell_newA _ _ _ _ hN 3 _ ?_, cell_newA _ _ _ _ hN 4 _ ?_, cell_newA _ _ _ _ hN 5 _ ?_, cell_newA _ _ _ _ hN 6 _ ?_, cell_newA _ _ _ _ hN 7 _ ?_, fun j hj => cell_newA _ _ _ _ hN _ _ ?_, cell_newA _ _ _ _ hN 72 _ ?_, fun j => frozen_newA _ _ _ _ hN j, by subst hN; simp⟩
  case refine_9 =>
    unfold wZ
    repeat rw [Array.getElem?_setIfInBounds_ne (by omega)]
    exact zero_tickets j hj
  all_goals (unfold wZ; simp [Array.getElem?_setIfInBounds, hz])
/-- A world and its cells, of a call's own: p the world, c its cells, what belongs to these lies in F; no records and notes are spoken of. -/
structure Sy (w0 w : World) (F : Nat → Prop) (p c ip np : Nat) (f : Cf) (M : Int → Int) (n : Int) (la : La) (tk : Nat → Int) (ho : Int) : Prop where
  ce : Ce w F c M n la
  wo : Wo w p c ip np f tk ho
  pn : ¬ F p
  base : ∀ j, F j → w0.heap.size ≤ j
  pb : w0.heap.size ≤ p
  bel : Below w0.heap.size w0 w
set_option maxHeartbeats 2000000 in
set_option maxRecDepth 100000 in
theorem c_WNew (f : Cf) (w : World) (h : f.may) : Calls Tryz.prog 41 #[.agg #[.int .i64 f.b, .int .i64 f.g, .int .i64 f.t, .int .i64 f.q, .int .i64 f.y]] w fun e w' => ∃ p c ip np F, e = .returned (.tuple #[.pointer (some ⟨p, 0, none⟩), .int .i64 0]) ∧ Sy w w' F p c ip np f (upd (fun _ => 0) 2 (plWord f.b 0)) 0 ⟨0, 0, 0, 0⟩ (fun _ => 0) (-1) := by
  have HM := Lib.hid h
  obtain ⟨b, g, t, q, y⟩ := f
  obtain ⟨b0, b1, g0, g1, t0, t1, q0, q1, y0, y1⟩ := h
  dsimp only at b0 b1 g0 g1 t0 t1 q0 q1 y0 y1 ⊢
  have hwb := plWord_bd b 0
  go_enter Tryz.func41, Tryz.ntmps41
  go_wp2_with fail
  refine (viaC (c_WMay ⟨b, g, t, q, y⟩ _ HM.out)).mono ?_
  rintro e w' ⟨rfl, m, rfl⟩
  go_wp2_with fail
  refine (c_Word b 0 _).mono ?_
  rintro e w' ⟨rfl, rfl⟩
  go_wp2_with fail
  obtain ⟨V, hV⟩ : ∃ V, V = via (w.alloc (.cells #[.int .i64 b, .int .i64 g, .int .i64 t, .int .i64 q, .int .i64 y] 23)) m := ⟨_, rfl⟩
  have hB : Below w.heap.size w V := by rw [hV]; exact below_via ((Below.refl _ _).alloc (Nat.le_refl _) _) _
  have hlt : w.heap.size < V.heap.size := by rw [hV]; exact lt_via _ _ _ (by simp)
  have q0' : ∀ j u, [Value.int .i64 b, .int .i64 g, .int .i64 t, .int .i64 q, .int .i64 y][j]? = some u → V.cell? ⟨w.heap.size, j, none⟩ = some u := by
    intro j u hu
    rw [hV, cell?_via _ _ _ _ (by simp)]
    exact cell_new w _ _ _ rfl j u hu
  have d0 := q0' 0 _ rfl
  have d1 := q0' 1 _ rfl
  have d2 := q0' 2 _ rfl
  have d3 := q0' 3 _ rfl
  have d4 := q0' 4 _ rfl
  rw [← hV]
  have hne : ¬ w.heap.size = V.heap.size := by omega
  have HB := Lib.hid hB
  obtain ⟨pw, hpw⟩ : ∃ pw, pw = plWord b 0 := ⟨_, rfl⟩
  rw [← hpw] at hwb ⊢
  have Hpw := Lib.hid hpw
  clear hB hV q0' hpw
  go_region_held3 (fun w' => w'.cell? ⟨w.heap.size, 0, none⟩ = some (.int .i64 b) ∧ w'.cell? ⟨w.heap.size, 1, none⟩ = some (.int .i64 g) ∧ w'.cell? ⟨w.heap.size, 2, none⟩ = some (.int .i64 t) ∧ w'.cell? ⟨w.heap.size, 3, none⟩ = some (.int .i64 q) ∧ w'.cell? ⟨w.heap.size, 4, none⟩ = some (.int .i64 y) ∧ w'.cell? ⟨V.heap.size, 0, none⟩ = some (.int .u64 2) ∧ w'.cell? ⟨V.heap.size, 1, none⟩ = some (.int .u64 pw)) (go_keep)
    (first
      | (go_at_call 87
         refine (c_CNew _ (V.heap.size + 1) 2 pw (by go_simp) (by go_simp) (by simp) (by omega) (by omega) hwb.1 (by omega)).mono ?_
         rintro e w1 ⟨c, F1, rfl, ce1, hb1, bel1⟩
         have e0 : w1.cell? ⟨w.heap.size, 0, none⟩ = some (.int .i64 b) := (bel1.cell (p := ⟨w.heap.size, 0, none⟩) (by simp <;> omega)).trans (by go_simp)
         have e1 : w1.cell? ⟨w.heap.size, 1, none⟩ = some (.int .i64 g) := (bel1.cell (p := ⟨w.heap.size, 1, none⟩) (by simp <;> omega)).trans (by go_simp)
         have e2 : w1.cell? ⟨w.heap.size, 2, none⟩ = some (.int .i64 t) := (bel1.cell (p := ⟨w.heap.size, 2, none⟩) (by simp <;> omega)).trans (by go_simp)
         have e3 : w1.cell? ⟨w.heap.size, 3, none⟩ = some (.int .i64 q) := (bel1.cell (p := ⟨w.heap.size, 3, none⟩) (by simp <;> omega)).trans (by go_simp)
         have e4 : w1.cell? ⟨w.heap.size, 4, none⟩ = some (.int .i64 y) := (bel1.cell (p := ⟨w.heap.size, 4, none⟩) (by simp <;> omega)).trans (by go_simp)
         have e5 : w1.cell? ⟨V.heap.size, 0, none⟩ = some (.int .u64 2) := (bel1.cell (p := ⟨V.heap.size, 0, none⟩) (by simp <;> omega)).trans (by go_simp)
         have e6 : w1.cell? ⟨V.heap.size, 1, none⟩ = some (.int .u64 pw) := (bel1.cell (p := ⟨V.heap.size, 1, none⟩) (by simp <;> omega)).trans (by go_simp)
         have HC1 := Lib.hid ce1
         have HF1 := Lib.hid hb1
         have HB1 := Lib.hid bel1
         have hz1 : V.heap.size + 2 ≤ w1.heap.size := by have := bel1.size; simp at this; omega
         clear ce1 hb1 bel1)
      | (go_at_call 88; refine (c_INew _).mono ?_; rintro e w2 ⟨rfl, rfl⟩)
      | (go_at_call 89; refine (c_NNew _).mono ?_; rintro e w3 ⟨rfl, rfl⟩))
  all_goals
    go_wp2
    rename_i hheld
    clear hheld
    have hz := hz1
    have hbs := HB.out.size
    have HE : Sy w (((w1.alloc (.cells #[.slice none 0 0, .int .i64 0] 191)).alloc (.cells #[.slice none 0 0] 220)).alloc (.cells (wZ c w1.heap.size (w1.heap.size + 1) ⟨b, g, t, q, y⟩) 96)) F1 (w1.heap.size + 2) c w1.heap.size (w1.heap.size + 1) ⟨b, g, t, q, y⟩ (upd (fun _ => 0) 2 (plWord b 0)) 0 ⟨0, 0, 0, 0⟩ (fun _ => 0) (-1) := by
      have hbel : Below w1.heap.size w1 (((w1.alloc (.cells #[.slice none 0 0, .int .i64 0] 191)).alloc (.cells #[.slice none 0 0] 220)).alloc (.cells (wZ c w1.heap.size (w1.heap.size + 1) ⟨b, g, t, q, y⟩) 96)) := (((Below.refl _ _).alloc (Nat.le_refl _) _).alloc (by simp) _).alloc (by simp; omega) _
      have hbb : Below w.heap.size w w1 := by
        have h1 := ((HB.out.alloc hbs (.cells #[.int .u64 2, .int .u64 pw] 176)).alloc (by rw [World.heap_size_alloc']; omega) (.cells #[.int .u64 2, .int .u64 pw] 176)).drew
        exact h1.trans (HB1.out.mono h1.size)
      refine ⟨by rw [← Hpw.out]; exact HC1.out.below hbel, wZ_get _ _ _ _ _ _ _ (by simp), fun hf => ?_, fun j hj => ?_, by omega, hbb.trans (hbel.mono (by omega))⟩
      · have := HC1.out.lts _ hf; omega
      · have := HF1.out j hj; simp at this; omega
    exact bodyPost_ret (v := .tuple #[.pointer (some ⟨w1.heap.size + 2, 0, none⟩), .int .i64 0]) (by simp [results, Tryz.results41, go_sem]) rfl ⟨_, c, _, _, F1, rfl, HE⟩
end Go.Proofs.YtijifjiehldcaaaGreat
