/- Layers 2, 10: of a word that is 0 each tag is 0; a note of a world. -/
import Derived.Test.YtkpkhibknaoboaaGreatPm
import Derived.Test.YtkpkhibknaoboaaGreatNw
import Derived.Test.YtkpkhibknaoboaaGreatWtk
namespace Go.Proofs.YtkpkhibknaoboaaGreat
set_option linter.unusedSimpArgs false
open Go.RowKit
set_option linter.unusedVariables false

set_option maxRecDepth 100000 in
theorem c_Parts0 (w : World) : Calls Tryz.prog 188 #[.int .u64 0] w fun e w' => e = .returned (.agg #[.int .i64 0, .int .i64 0, .int .i64 0, .int .i64 0]) ∧ Below w.heap.size w w' := by
  have hz : bits BinOp.and IntKind.u64 0 255 = 0 := by decide
  go_enter Tryz.func188, Tryz.ntmps188
  go_wp2_with fail
  refine wp_loop_rounds 5 ?_
  rw [rounds_succ]
  go_wp2_with fail
  rw [rounds_succ]
  go_wp2_with fail
  rw [rounds_succ]
  go_wp2_with fail
  rw [rounds_succ]
  go_wp2_with fail
  rw [rounds_succ]
  go_wp2_with fail
  exact bodyPost_ret (v := .agg #[.int .i64 0, .int .i64 0, .int .i64 0, .int .i64 0]) (by simp [results, Tryz.results188, go_sem, hz, wrap64]) rfl ⟨rfl, (Below.refl _ _).alloc (Nat.le_refl _) _⟩
theorem c_tthere (k : Int) (w : World) (k0 : 0 ≤ k) (k1 : k < 4) : Calls Tryz.prog 187 #[.int .i64 k] w fun e w' => e = .returned (.bool true) ∧ w = w' := by
  have d1 : decide (0 ≤ k) = true := by simp; omega
  have d2 : decide (k < 4) = true := by simp; omega
  go_enter Tryz.func187, Tryz.ntmps187
  go_wp2
  go_ret
  exact ⟨rfl, rfl⟩
set_option maxRecDepth 100000 in
theorem c_Tag0 (k : Int) (w : World) (k0 : 0 ≤ k) (k1 : k < 4) : Calls Tryz.prog 105 #[.int .u64 0, .int .i64 k] w fun e w' => e = .returned (.int .i64 0) ∧ Below w.heap.size w w' := by
  have hk : k = 0 ∨ k = 1 ∨ k = 2 ∨ k = 3 := by omega
  have h0 : ∀ W, (Instr.index 311 (.agg #[.int .i64 0, .int .i64 0, .int .i64 0, .int .i64 0]) (.int .i64 0)).run Tryz.prog W = .ok (.int .i64 0) W := fun W => by kernel_rfl
  have h1 : ∀ W, (Instr.index 311 (.agg #[.int .i64 0, .int .i64 0, .int .i64 0, .int .i64 0]) (.int .i64 1)).run Tryz.prog W = .ok (.int .i64 0) W := fun W => by kernel_rfl
  have h2 : ∀ W, (Instr.index 311 (.agg #[.int .i64 0, .int .i64 0, .int .i64 0, .int .i64 0]) (.int .i64 2)).run Tryz.prog W = .ok (.int .i64 0) W := fun W => by kernel_rfl
  have h3 : ∀ W, (Instr.index 311 (.agg #[.int .i64 0, .int .i64 0, .int .i64 0, .int .i64 0]) (.int .i64 3)).run Tryz.prog W = .ok (.int .i64 0) W := fun W => by kernel_rfl
  rcases hk with rfl | rfl | rfl | rfl
  all_goals
    go_enter Tryz.func105, Tryz.ntmps105
    go_wp2_with fail
    refine (c_tthere _ _ (by decide) (by decide)).mono ?_
    rintro e w' ⟨rfl, rfl⟩
    go_wp2_with fail
    refine (c_Parts0 _).mono ?_
    rintro e w' ⟨rfl, hb⟩
    go_wp2_with fail
    go_ret
    exact ⟨rfl, hb⟩
theorem zero_own1 {O : Om} {w : World} (h : ∀ j, O j ≠ 0 → j < w.heap.size) {j : Nat} (hj : w.heap.size ≤ j) : O j = 0 := by
  by_cases hz : O j = 0
  · exact hz
  · exact absurd (h j hz) (by omega)
def awNote (k ref b q s v : Int) (x : AW) : AW := ⟨x.M, x.n, x.la, x.tk, x.ho, x.it, ntAdd x.nt ⟨x.n, x.ho, k, ref, b, q, s, v⟩⟩
theorem PW.notes {w w' : World} {O O' : Om} {B : Wb} {f : Cf} {s : AW} {l : List Nt} (h : PW w O B f s) (e : Ext (fun t => t = 4) O w O' w') (hc : No w' O' 4 B.np l) : PW w' O' B f ⟨s.M, s.n, s.la, s.tk, s.ho, s.it, l⟩ :=
  ⟨(e.lo _ h.wo.lt).trans h.o, h.wo.wrote e.wr (fun k => absurd (show (1 : Nat) = 4 from by have := k.1; rwa [h.o] at this) (by decide)), h.ce.ext e (by decide) (by decide), h.ar.ext e (by decide), hc⟩
set_option maxHeartbeats 2000000 in
set_option maxRecDepth 100000 in
theorem c_WNote (k ref b q sl v : Int) {w : World} {O : Om} {B : Wb} {f : Cf} {s : AW} (h : PW w O B f s) (hhi : ∀ j, O j ≠ 0 → j < w.heap.size) (k0 : 0 ≤ k) (k1 : k ≤ 255) :
    Calls Tryz.prog 194 #[.pointer (some ⟨B.p, 0, none⟩), .int .u8 k, .int .i64 ref, .agg #[.int .i64 b, .int .i64 q, .int .i64 sl], .int .i64 v] w (RP SW w O (.tuple #[]) fun W G => PW W G B f (awNote k ref b q sl v s)) := by
  have HP := Lib.hid h
  have HH := Lib.hid hhi
  clear h hhi
  go_enter Tryz.func194, Tryz.ntmps194
  go_wp2_with fail
  obtain ⟨W, hW⟩ : ∃ W, W = w.alloc (.cells #[.int .i64 b, .int .i64 q, .int .i64 sl] 56) := ⟨_, rfl⟩
  have y0 : W.cell? ⟨w.heap.size, 0, none⟩ = some (.int .i64 b) := by rw [hW]; simp
  have y1 : W.cell? ⟨w.heap.size, 1, none⟩ = some (.int .i64 q) := by rw [hW]; simp
  have y2 : W.cell? ⟨w.heap.size, 2, none⟩ = some (.int .i64 sl) := by rw [hW]; simp
  have hB : Below w.heap.size w W := by rw [hW]; exact (Below.refl _ _).alloc (Nat.le_refl _) _
  have E1 := Lib.hid (Ext.of_below (S := SW) HH.out hB)
  have P1 := Lib.hid (HP.out.below HH.out hB)
  have c2 := P1.out.wo.c2
  have ch := P1.out.wo.ho
  have hlt : w.heap.size < W.heap.size := by rw [hW]; simp
  have hO0 := Lib.hid (zero_own1 HH.out (Nat.le_refl w.heap.size))
  rw [← hW]
  clear hW hB
  go_region_held3 (fun w' => w'.cell? ⟨w.heap.size, 0, none⟩ = some (.int .i64 b) ∧ w'.cell? ⟨w.heap.size, 1, none⟩ = some (.int .i64 q) ∧ w'.cell? ⟨w.heap.size, 2, none⟩ = some (.int .i64 sl) ∧ w'.cell? ⟨B.p, 2, none⟩ = some (.pointer (some ⟨B.np, 0, none⟩)) ∧ w'.cell? ⟨B.p, 72, none⟩ = some (.int .i64 s.ho)) (go_keep)
    ((first
      | (go_at_call 153
         refine (c_WSteps W.drew O B f s (P1.out.below E1.out.hi (drew_below W))).mono ?_
         rintro e w' ⟨rfl, rfl⟩)
      | (go_at_call 242
         refine (c_NoAdd (w := W.drew) ⟨s.n, s.ho, k, ref, b, q, sl, v⟩ (P1.out.below E1.out.hi (drew_below W)).no (by decide) E1.out.drew.hi k0 k1).mono ?_
         rintro e w1 ⟨rfl, G, e1, no1⟩
         have Q1 := Lib.hid ((P1.out.below E1.out.hi (drew_below W)).notes e1 no1)
         have F1 := Lib.hid (E1.out.drew.trans (e1.mono fun t _ h => by subst h; exact ⟨by decide, by decide⟩))
         have x0 := (e1.cell (p := ⟨w.heap.size, 0, none⟩) hlt (by show ¬ (O w.heap.size = 4); rw [hO0.out]; decide)).trans y0
         have x1 := (e1.cell (p := ⟨w.heap.size, 1, none⟩) hlt (by show ¬ (O w.heap.size = 4); rw [hO0.out]; decide)).trans y1
         have x2 := (e1.cell (p := ⟨w.heap.size, 2, none⟩) hlt (by show ¬ (O w.heap.size = 4); rw [hO0.out]; decide)).trans y2
         have x3 := Q1.out.wo.c2
         have x4 := Q1.out.wo.ho
         clear e1 no1)))
  all_goals
    go_wp2_with fail
    go_end0
    exact ⟨rfl, G, F1.out, Q1.out⟩
end Go.Proofs.YtkpkhibknaoboaaGreat
