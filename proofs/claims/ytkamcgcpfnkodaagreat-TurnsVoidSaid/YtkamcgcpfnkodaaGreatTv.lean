/- Layer 21: TurnsVoid. -/
import Derived.Test.YtkamcgcpfnkodaaGreatTnB
import Derived.Test.YtkamcgcpfnkodaaGreatGr
import Derived.Test.YtkamcgcpfnkodaaGreatSaA
namespace Go.Proofs.YtkamcgcpfnkodaaGreat
set_option linter.unusedSimpArgs false
open Go.RowKit Go.Shelf
set_option linter.unusedVariables false

theorem c_TMovedV {X : Nat} {n : Int} {w : World} (h : w.cell? ⟨X, 3, none⟩ = some (.int .i64 n)) : Calls Tryz.prog 15 #[.pointer (some ⟨X, 0, none⟩)] w fun e w' => e = .returned (.int .i64 n) ∧ w = w' := by
  go_enter Tryz.func15, Tryz.ntmps15
  go_wp2
  go_ret
  exact ⟨rfl, rfl⟩
theorem c_TMoved0 (w : World) : Calls Tryz.prog 15 #[.pointer none] w fun e w' => e = .returned (.int .i64 0) ∧ w = w' := by
  go_enter Tryz.func15, Tryz.ntmps15
  go_wp2
  go_ret
  exact ⟨rfl, rfl⟩
theorem c_TOver0 (w : World) : Calls Tryz.prog 24 #[.pointer none] w fun e w' => e = .returned (.bool true) ∧ w = w' := by
  go_enter Tryz.func24, Tryz.ntmps24
  go_wp2
  go_ret
  exact ⟨rfl, rfl⟩
set_option maxRecDepth 100000 in
theorem c_TStep0 (u : Option Addr) (w : World) : Calls Tryz.prog 14 #[.pointer none, .pointer u] w fun e w' => e = .returned (.bool true) ∧ w = w' := by
  go_enter Tryz.func14, Tryz.ntmps14
  go_wp2_with fail
  refine (c_TOver0 _).mono ?_
  rintro e w' ⟨rfl, rfl⟩
  go_wp2_with fail
  refine (c_TOver0 _).mono ?_
  rintro e w' ⟨rfl, rfl⟩
  go_wp2_with fail
  go_ret
  exact ⟨rfl, rfl⟩
set_option maxRecDepth 100000 in
theorem c_TStepV {X : Nat} (u : Option Addr) {w : World} (h : w.cell? ⟨X, 0, none⟩ = some (.int .i64 0)) : Calls Tryz.prog 14 #[.pointer (some ⟨X, 0, none⟩), .pointer u] w fun e w' => e = .returned (.bool true) ∧ w = w' := by
  go_enter Tryz.func14, Tryz.ntmps14
  go_wp2_with fail
  refine (c_TOver h).mono ?_
  rintro e w' ⟨rfl, rfl⟩
  go_wp2_with fail
  refine (c_TOver h).mono ?_
  rintro e w' ⟨rfl, rfl⟩
  go_wp2_with fail
  go_ret
  exact ⟨rfl, rfl⟩
set_option maxRecDepth 100000 in
theorem c_TStepN {X : Nat} {w : World} (h : w.cell? ⟨X, 0, none⟩ = some (.int .i64 1)) : Calls Tryz.prog 14 #[.pointer (some ⟨X, 0, none⟩), .pointer none] w fun e w' => e = .returned (.bool false) ∧ w = w' := by
  go_enter Tryz.func14, Tryz.ntmps14
  go_wp2_with fail
  refine (c_TOver h).mono ?_
  rintro e w' ⟨rfl, rfl⟩
  go_wp2_with fail
  refine (c_TOver h).mono ?_
  rintro e w' ⟨rfl, rfl⟩
  go_wp2_with fail
  go_ret
  exact ⟨rfl, rfl⟩
theorem c_NewTurnB (w : World) : Calls Tryz.prog 13 #[] w fun e w' => e = .returned (.pointer (some ⟨w.heap.size, 0, none⟩)) ∧ w.alloc (.cells #[.int .i64 1, .int .u64 0, .int .u64 0, .int .i64 0, .pointer none, .pointer none] 75) = w' := by
  go_enter Tryz.func13, Tryz.ntmps13
  go_wp2
  go_ret
  exact ⟨rfl, rfl⟩
theorem extV_below {S : Nat → Prop} {w w' : World} {G : Om} (e : Ext S O0 w G w') : Below w.heap.size w w' :=
  e.wr.below (fun k _ hk => absurd rfl hk.2) (Nat.le_refl _)
set_option maxHeartbeats 4000000 in
set_option maxRecDepth 100000 in
theorem w_TurnsVoid (v : Value) (F : Fst) (w : World) (g : FstBd F) (c : FstAt w v F) :
    Calls Tryz.prog 5 #[v] w fun e w' => e = .returned (.bool true) ∧ Below w.heap.size w w' := by
  obtain ⟨⟨fb, fg, ft, fq, fy⟩, gr, it, pu, st, ti⟩ := F
  obtain ⟨vi, vp, vs, rfl, a1, a2, a3⟩ := c.ex
  obtain ⟨ai, ci, rfl, hci, hmi⟩ := a1.shape
  obtain ⟨ap, cp, rfl, hcp, hmp⟩ := a2.shape
  obtain ⟨as', cs, rfl, hcs, hms⟩ := a3.shape
  unfold fstV at c ⊢
  dsimp only at c a1 a2 a3 ⊢
  have HC := Lib.hid c
  have HA := Lib.hid (And.intro a1 (And.intro a2 a3))
  have HG := Lib.hid g
  clear c a1 a2 a3 g
  go_enter Tryz.func5, Tryz.ntmps5
  go_wp2_with fail
  obtain ⟨W1, hW1⟩ : ∃ W1, W1 = w.alloc (.cells #[.int .i64 fb, .int .i64 fg, .int .i64 ft, .int .i64 fq, .int .i64 fy, .bool gr, .slice ai it.length ci, .slice ap pu.length cp, .slice as' st.length cs, .int .i64 ti] 28) := ⟨_, rfl⟩
  have B1 : Hid (Below w.heap.size w W1) := Lib.hid (by rw [hW1]; exact (Below.refl _ _).alloc (Nat.le_refl _) _)
  have n1 : w.heap.size < W1.heap.size := by rw [hW1]; simp
  have y0 : W1.cell? ⟨w.heap.size, 0, none⟩ = some (.int .i64 fb) := by rw [hW1]; simp
  have y1 : W1.cell? ⟨w.heap.size, 1, none⟩ = some (.int .i64 fg) := by rw [hW1]; simp
  have y2 : W1.cell? ⟨w.heap.size, 2, none⟩ = some (.int .i64 ft) := by rw [hW1]; simp
  have y3 : W1.cell? ⟨w.heap.size, 3, none⟩ = some (.int .i64 fq) := by rw [hW1]; simp
  have y4 : W1.cell? ⟨w.heap.size, 4, none⟩ = some (.int .i64 fy) := by rw [hW1]; simp
  have y5 : W1.cell? ⟨w.heap.size, 5, none⟩ = some (.bool gr) := by rw [hW1]; simp
  have y6 : W1.cell? ⟨w.heap.size, 6, none⟩ = some (.slice ai it.length ci) := by rw [hW1]; simp
  have y7 : W1.cell? ⟨w.heap.size, 7, none⟩ = some (.slice ap pu.length cp) := by rw [hW1]; simp
  have y8 : W1.cell? ⟨w.heap.size, 8, none⟩ = some (.slice as' st.length cs) := by rw [hW1]; simp
  have y9 : W1.cell? ⟨w.heap.size, 9, none⟩ = some (.int .i64 ti) := by rw [hW1]; simp
  rw [← hW1]
  clear hW1
  refine (c_Great (HC.out.below B1.out)).mono ?_
  rintro e w3 ⟨b, rfl, hb3, hbd⟩
  have B3 := Lib.hid (B1.out.trans (hb3.mono B1.out.size))
  have HBD := Lib.hid hbd
  cases b with
  | true =>
    clear hb3 hbd y0 y1 y2 y3 y4 y5 y6 y7 y8 y9
    go_wp2_with fail
    refine (c_lives21 w3).mono ?_
    rintro e w4 ⟨rfl, hb4⟩
    go_wp2_with fail
    go_ret
    exact ⟨rfl, B3.out.trans (hb4.mono B3.out.size)⟩
  | false =>
    have k := fun j => hb3.cell (p := ⟨w.heap.size, j, none⟩) n1
    have z0 := (k 0).trans y0
    have z1 := (k 1).trans y1
    have z2 := (k 2).trans y2
    have z3 := (k 3).trans y3
    have z4 := (k 4).trans y4
    have z5 := (k 5).trans y5
    have z6 := (k 6).trans y6
    have z7 := (k 7).trans y7
    have z8 := (k 8).trans y8
    have z9 := (k 9).trans y9
    clear hb3 hbd k y0 y1 y2 y3 y4 y5 y6 y7 y8 y9
    have hbb := HBD.out (by first | rfl | trivial)
    have hBg := c_Begin ⟨⟨fb, fg, ft, fq, fy⟩, gr, it, pu, st, ti⟩ (.slice ai it.length ci) (.slice ap pu.length cp) (.slice as' st.length cs) w3 ⟨HA.out.1.below B3.out, HA.out.2.1.below B3.out, HA.out.2.2.below B3.out, hbb.1, hbb.2.1, hbb.2.2.1, hbb.2.2.2, HG.out.pub, HG.out.stb, HG.out.ti0, HG.out.ti1⟩
    unfold fstV at hBg
    dsimp only at hBg
    have HBg := Lib.hid hBg
    have HIT := Lib.hid hbb.1
    clear hBg hbb
    go_wp2_with fail
    refine HBg.out.mono ?_
    rintro e w4 ⟨B, C, rfl, G, e4, s, m, pr, n0, n1', m1, hit, hnt⟩
    have HB4 := Lib.hid (B3.out.trans ((extV_below e4).mono B3.out.size))
    have HP := Lib.hid pr
    have HH := Lib.hid e4.hi
    have HIt := Lib.hid hit
    have HNt := Lib.hid hnt
    clear HBg e4 pr z0 z1 z2 z3 z4 z5 z6 z7 z8 z9 hit hnt
    go_wp2_with fail
    obtain ⟨W5, hW5⟩ : ∃ W5, W5 = (w4.alloc (.cells #[.pointer (some ⟨B.p, 0, none⟩), .pointer (some ⟨C.p, 0, none⟩)] 33)).alloc (.cells #[.int .i64 0, .int .u64 0, .int .u64 0, .int .i64 0, .pointer none, .pointer none] 75) := ⟨_, rfl⟩
    have b5 : Below w4.heap.size w4 W5 := by rw [hW5]; exact ((Below.refl _ _).alloc (Nat.le_refl _) _).alloc (by simp) _
    have hz5 : Hid (W5.heap.size = w4.heap.size + 1 + 1) := Lib.hid (by rw [hW5]; simp)
    have q0 : W5.cell? ⟨w4.heap.size, 0, none⟩ = some (.pointer (some ⟨B.p, 0, none⟩)) := by rw [hW5]; simp
    have q1 : W5.cell? ⟨w4.heap.size, 1, none⟩ = some (.pointer (some ⟨C.p, 0, none⟩)) := by rw [hW5]; simp
    have t0 : W5.cell? ⟨w4.heap.size + 1, 0, none⟩ = some (.int .i64 0) := by rw [hW5]; exact cell_newA _ #[.int .i64 0, .int .u64 0, .int .u64 0, .int .i64 0, .pointer none, .pointer none] _ _ (by simp) 0 _ rfl
    have t3 : W5.cell? ⟨w4.heap.size + 1, 3, none⟩ = some (.int .i64 0) := by rw [hW5]; exact cell_newA _ #[.int .i64 0, .int .u64 0, .int .u64 0, .int .i64 0, .pointer none, .pointer none] _ _ (by simp) 3 _ rfl
    rw [← hW5]
    clear hW5
    refine (c_NewTurnB W5).mono ?_
    rintro e W6 ⟨rfl, hW6⟩
    have b56 : Below W5.heap.size W5 W6 := by rw [← hW6]; exact (Below.refl _ _).alloc (Nat.le_refl _) _
    have x0 : W6.cell? ⟨W5.heap.size, 0, none⟩ = some (.int .i64 1) := by rw [← hW6]; simp
    have x3 : W6.cell? ⟨W5.heap.size, 3, none⟩ = some (.int .i64 0) := by rw [← hW6]; simp
    have q0' := (b56.cell (p := ⟨w4.heap.size, 0, none⟩) (show w4.heap.size < W5.heap.size by have := hz5.out; omega)).trans q0
    have q1' := (b56.cell (p := ⟨w4.heap.size, 1, none⟩) (show w4.heap.size < W5.heap.size by have := hz5.out; omega)).trans q1
    have t0' := (b56.cell (p := ⟨w4.heap.size + 1, 0, none⟩) (show w4.heap.size + 1 < W5.heap.size by have := hz5.out; omega)).trans t0
    have t3' := (b56.cell (p := ⟨w4.heap.size + 1, 3, none⟩) (show w4.heap.size + 1 < W5.heap.size by have := hz5.out; omega)).trans t3
    have HB6 := Lib.hid (b5.trans (b56.mono b5.size))
    clear b5 b56 hW6 q0 q1 t0 t3 hz5
    go_wp2_with fail
    refine (c_TOver t0').mono ?_
    rintro e w' ⟨rfl, rfl⟩
    go_wp2_with fail
    refine (c_TStepV _ t0').mono ?_
    rintro e w' ⟨rfl, rfl⟩
    go_wp2_with fail
    refine (c_TMovedV t3').mono ?_
    rintro e w' ⟨rfl, rfl⟩
    go_wp2_with fail
    refine (c_TOver0 _).mono ?_
    rintro e w' ⟨rfl, rfl⟩
    go_wp2_with fail
    refine (c_TStep0 _ _).mono ?_
    rintro e w' ⟨rfl, rfl⟩
    go_wp2_with fail
    refine (c_TMoved0 _).mono ?_
    rintro e w' ⟨rfl, rfl⟩
    go_wp2_with fail
    refine (c_TStepN x0).mono ?_
    rintro e w' ⟨rfl, rfl⟩
    go_wp2_with fail
    refine (c_TOver x0).mono ?_
    rintro e w' ⟨rfl, rfl⟩
    go_wp2_with fail
    refine (c_TMovedV x3).mono ?_
    rintro e w' ⟨rfl, rfl⟩
    go_wp2_with fail
    refine (c_PSameAll (HP.out.below HH.out HB6.out) (fun j hj => Nat.lt_of_lt_of_le (HH.out j hj) HB6.out.size) (by omega) HNt.out (by rw [HIt.out]; show it.length ≤ 1000000; have h40 : it.length ≤ 40 := HIT.out; omega)).mono ?_
    rintro e W7 ⟨rfl, hb7⟩
    have HB7 := Lib.hid (HB6.out.trans (hb7.mono HB6.out.size))
    clear hb7
    go_wp2_with fail
    refine (c_lives21 W7).mono ?_
    rintro e W8 ⟨rfl, hb8⟩
    go_wp2_with fail
    go_ret
    exact ⟨rfl, HB4.out.trans ((HB7.out.trans (hb8.mono HB7.out.size)).mono HB4.out.size)⟩
end Go.Proofs.YtkamcgcpfnkodaaGreat
