/- Layer 26: the document's new Change. -/
import Derived.Test.YtifkfhnbkjkakaaGreatDoorZcCgB
namespace Go.Proofs.YtifkfhnbkjkakaaGreatDoor
set_option linter.unusedSimpArgs false
set_option linter.unusedVariables false
set_option maxHeartbeats 4000000
set_option maxRecDepth 100000
open Go.RowKit
def rnCs (c : Clm) (T : Nat) (ln : Int) : List Value := [.int .i64 ln, .int .u8 0, .int .u64 0, .string ⟨#[]⟩, .string ⟨#[]⟩, .int .u32 0, .int .u64 0, .int .i64 0, .int .i64 0, .int .u64 0, .int .i64 0, .int .u8 c.verb, .string c.key, .string c.val, .int .u32 c.fl, .int .i64 c.exp, .int .u64 c.id, .int .u64 c.by_, .int .i64 0, .int .i64 0, .int .i64 0, .int .i64 0, .pointer (some ⟨T, 0, none⟩), .pointer none, .pointer none, .pointer none, .pointer none, .pointer none]
def tln (t : Int) : Int := if 0 ≤ t ∧ t < 64 then 1 else 0
theorem c_rNT (t : Int) (w : World) (t0 : -9223372036854775808 ≤ t) (t1 : t ≤ 9223372036854775807) : Calls Tryz.prog 70 #[.int .i64 t] w fun e w' => e = .returned (.pointer (some ⟨w.heap.size, 0, none⟩)) ∧ Below w.heap.size w w' ∧ w'.cell? ⟨w.heap.size, 0, none⟩ = some (.int .i64 (tln t)) ∧ w.heap.size < w'.heap.size := by
 have hc : (t < 0 ∧ tln t = 0) ∨ (¬ t < 0 ∧ 63 < t ∧ tln t = 0) ∨ (¬ t < 0 ∧ ¬ 63 < t ∧ tln t = 1) := by
  unfold tln
  by_cases h : 0 ≤ t ∧ t < 64
  · rw [if_pos h]; omega
  · rw [if_neg h]; omega
 rcases hc with ⟨d0, hl⟩ | ⟨d0, d1, hl⟩ | ⟨d0, d1, hl⟩
 · rw [hl]
   go_enter Tryz.func70, Tryz.ntmps70
   go_wp2
   go_ret
   exact ⟨rfl, alloc_below _ _, cell_newA _ _ _ _ rfl 0 _ rfl, by simp⟩
 · rw [hl]
   go_enter Tryz.func70, Tryz.ntmps70
   go_wp2
   go_ret
   exact ⟨rfl, alloc_below _ _, cell_newA _ _ _ _ rfl 0 _ rfl, by simp⟩
 · rw [hl]
   go_enter Tryz.func70, Tryz.ntmps70
   go_wp2
   go_ret
   exact ⟨rfl, alloc_below _ _, cell_newA _ _ _ _ rfl 0 _ rfl, by simp⟩
def RnCut (w0 : World) (c : Clm) (t : Int) (v : Value) (wx : World) : Prop := ∃ (Y T : Nat) (G : Om), v = .pointer (some ⟨Y, 0, none⟩) ∧ Ext (SX 10 12) OZ w0 G wx ∧ Ob wx G 10 Y (rnCs c T 0) ∧ wx.cell? ⟨T, 0, none⟩ = some (.int .i64 (tln t)) ∧ Bx wx G w0.heap.size (clCs c)
theorem rnLay {w0 w : World} {c : Clm} {t : Int} {T : Nat} {ty : TypeId} (e : Ext (SX 10 12) OZ w0 OZ w) (hT : w.cell? ⟨T, 0, none⟩ = some (.int .i64 (tln t))) (hl : T < w.heap.size) (hb : Bx w OZ w0.heap.size (clCs c)) : RnCut w0 c t (.pointer (some ⟨w.heap.size, 0, none⟩)) (w.alloc (.cells (rnCs c T 0).toArray ty)) := by
 obtain ⟨G, e1, o1, -⟩ := alloc_ob e.hi 10 (rnCs c T 0).toArray ty w.heap.size rfl
 have b1 := alloc_below w (.cells (rnCs c T 0).toArray ty)
 exact ⟨_, T, G, rfl, e.trans (e1.mono fun t _ ht => .inr (by omega)), o1, (b1.cell (p := ⟨T, 0, none⟩) hl).trans hT, hb.ext e1⟩
theorem c_rNew26 (t : Int) (c : Clm) (w : World) (t0 : -9223372036854775808 ≤ t) (t1 : t ≤ 9223372036854775807) (hz : c.key.size ≤ maxLen) :
 Calls Tryz.prog 23 #[.int .i64 t, clV c] w fun e w' => ∃ Y, e = .returned (.pointer (some ⟨Y, 0, none⟩)) ∧ Below w.heap.size w w' ∧ w'.cell? ⟨Y, 0, none⟩ = some (.int .i64 (if (decide (0 ≤ t ∧ t < 64) && chMay c) = true then 1 else 0)) := by
 have HO := Lib.hid (fun W => c_rkyOk c.key W hz)
 obtain ⟨ko, hko⟩ : ∃ t, t = kyOk c.key := ⟨_, rfl⟩
 obtain ⟨vi, hvi⟩ : ∃ t, t = vbIs c.verb := ⟨_, rfl⟩
 obtain ⟨tn, htn⟩ : ∃ x, x = tln t := ⟨_, rfl⟩
 obtain ⟨td, htd⟩ : ∃ x, x = decide (0 ≤ t ∧ t < 64) := ⟨_, rfl⟩
 have htt : decide (0 < tn) = td := by
  rw [htn, htd]
  unfold tln
  by_cases h : 0 ≤ t ∧ t < 64
  · rw [if_pos h, decide_eq_true h]; rfl
  · rw [if_neg h, decide_eq_false h]; rfl
 have hmay : chMay c = (vi && ko) := by rw [hvi, hko]; rfl
 rw [← hko] at HO
 rw [← htd, hmay]
 obtain ⟨r, hr⟩ : ∃ r : Int, r = if (td && (vi && ko)) = true then 1 else 0 := ⟨_, rfl⟩
 rw [← hr]
 have HR0 := Lib.hid hr
 clear hr
 have HNT := Lib.hid (fun W => c_rNT t W t0 t1)
 rw [← htn] at HNT
 have hv : (vi = false ∧ (c.verb == 7) = false ∧ (c.verb == 8) = false ∧ (c.verb == 9) = false ∧ (c.verb == 10) = false) ∨ (vi = true ∧ ((c.verb == 7) = true ∨ ((c.verb == 7) = false ∧ (c.verb == 8) = true) ∨ ((c.verb == 7) = false ∧ (c.verb == 8) = false ∧ (c.verb == 9) = true) ∨ ((c.verb == 7) = false ∧ (c.verb == 8) = false ∧ (c.verb == 9) = false ∧ (c.verb == 10) = true))) := by
  rw [hvi]
  unfold vbIs
  simp only [beq_iff_eq, beq_eq_false_iff_ne, decide_eq_true_eq, decide_eq_false_iff_not]
  omega
 have HTN := Lib.hid htn
 have HV := Lib.hid hv
 clear hko hvi htn htd hmay hv hz t0 t1
 have hhi : ∀ j, OZ j ≠ 0 → j < w.heap.size := fun j hj => absurd rfl hj
 have b1 := alloc_below w (.cells (clCs c).toArray 26)
 have HW := Lib.hid (And.intro (Ext.of_below (S := SX 10 12) hhi b1) (Bx.new hhi (clCs c).toArray 26 w.heap.size rfl))
 obtain ⟨W1, hW1⟩ : ∃ W, W = w.alloc (.cells (clCs c).toArray 26) := ⟨_, rfl⟩
 rw [← hW1] at HW
 unfold clCs at hW1
 clear b1 hhi
 obtain ⟨bc, hbc⟩ : ∃ n, n = w.heap.size := ⟨_, rfl⟩
 have HBC := Lib.hid hbc
 unfold clV
 go_enter Tryz.func23, Tryz.ntmps23
 go_upto_region 1 with fail
 rw [← hW1, ← hbc]
 clear hW1 hbc
 have q0 := HW.out.2.c 0 _ rfl
 have q1 := HW.out.2.c 1 _ rfl
 have q2 := HW.out.2.c 2 _ rfl
 have q3 := HW.out.2.c 3 _ rfl
 have q4 := HW.out.2.c 4 _ rfl
 have q5 := HW.out.2.c 5 _ rfl
 have q6 := HW.out.2.c 6 _ rfl
 rw [← HBC.out] at q0 q1 q2 q3 q4 q5 q6
 go_cut [5] (fun v wx => RnCut w c t v wx)
 case first =>
  go_region_held3 (fun w' => w'.cell? ⟨bc, 0, none⟩ = some (.int .u8 c.verb) ∧ w'.cell? ⟨bc, 1, none⟩ = some (.string c.key) ∧ w'.cell? ⟨bc, 2, none⟩ = some (.string c.val) ∧ w'.cell? ⟨bc, 3, none⟩ = some (.int .u32 c.fl) ∧ w'.cell? ⟨bc, 4, none⟩ = some (.int .i64 c.exp) ∧ w'.cell? ⟨bc, 5, none⟩ = some (.int .u64 c.id) ∧ w'.cell? ⟨bc, 6, none⟩ = some (.int .u64 c.by_)) (go_keep)
   (first
     | (go_at_call 70
        refine (HNT.out _).mono ?_
        rintro e w2 ⟨rfl, hb2, t3, t4⟩
        have hB := (drew_below W1).trans (hb2.mono (Nat.le_refl _))
        have HJ := Lib.hid (And.intro (HW.out.1.below hB) (And.intro t3 (And.intro t4 (HW.out.2.below hB))))
        have q0 := HJ.out.2.2.2.c 0 _ rfl
        have q1 := HJ.out.2.2.2.c 1 _ rfl
        have q2 := HJ.out.2.2.2.c 2 _ rfl
        have q3 := HJ.out.2.2.2.c 3 _ rfl
        have q4 := HJ.out.2.2.2.c 4 _ rfl
        have q5 := HJ.out.2.2.2.c 5 _ rfl
        have q6 := HJ.out.2.2.2.c 6 _ rfl
        rw [← HBC.out] at q0 q1 q2 q3 q4 q5 q6
        clear hb2 t3 t4 hB))
  all_goals
   go_wp2_with fail
   go_meet
   have := HJ.out
   rw [HTN.out] at this
   first
    | exact rnLay this.1 this.2.1 this.2.2.1 this.2.2.2
    | exact (rnLay this.1 this.2.1 this.2.2.1 this.2.2.2).drew
 obtain ⟨Y, T, G, rfl, e1, o1, h3, h4⟩ := hcut
 clear q0 q1 q2 q3 q4 q5 q6
 have q0 := h4.c 0 _ rfl
 have q1 := h4.c 1 _ rfl
 rw [← HBC.out] at q0 q1
 have y0 := o1.c 0 _ rfl
 have y22 := o1.c 22 _ rfl
 have fy := o1.f 0
 rw [← HTN.out] at h3
 have es := Ext.of_set (j := 0) (v := .int .i64 1) (S := fun t => t = 10) e1.hi o1.o (by omega) rfl
 have os := o1.set 0 (.int .i64 1) (by simp [rnCs])
 have HR := Lib.hid (And.intro (ext0_belowS e1) (And.intro (ext0_belowS (e1.trans (es.mono fun t _ ht => .inr (by omega)))) (os.c 0 _ rfl)))
 clear e1 o1 h4 es os HW HNT HTN HBC
 have hv := HV.out
 clear HV
 rcases hv with ⟨rfl, d7, d8, d9, d10⟩ | ⟨rfl, hh⟩
 · obtain rfl : r = 0 := by rw [HR0.out]; simp
   clear HO HR0
   go_wp2_with fail
   go_ret
   exact ⟨Y, rfl, HR.out.1, y0⟩
 · rcases hh with d7 | ⟨d7, d8⟩ | ⟨d7, d8, d9⟩ | ⟨d7, d8, d9, d10⟩
   all_goals
    cases ko with
    | false =>
      obtain rfl : r = 0 := by rw [HR0.out]; simp
      clear HR0
      go_wp2_with fail
      refine (HO.out _).mono ?_
      rintro e w' ⟨rfl, rfl⟩
      go_wp2_with fail
      go_ret
      exact ⟨Y, rfl, HR.out.1, y0⟩
    | true =>
      cases td with
      | false =>
        obtain rfl : r = 0 := by rw [HR0.out]; simp
        clear HR0
        go_wp2_with fail
        refine (HO.out _).mono ?_
        rintro e w' ⟨rfl, rfl⟩
        go_wp2_with fail
        go_ret
        exact ⟨Y, rfl, HR.out.1, y0⟩
      | true =>
        obtain rfl : r = 1 := by rw [HR0.out]; simp
        clear HR0
        go_wp2_with fail
        refine (HO.out _).mono ?_
        rintro e w' ⟨rfl, rfl⟩
        go_wp2_with fail
        go_ret
        exact ⟨Y, rfl, HR.out.2.1, HR.out.2.2⟩
end Go.Proofs.YtifkfhnbkjkakaaGreatDoor
