/- Layer 9: NotesNames. -/
import Derived.Test.YtcgjopjjmgpobaaNtBoth
namespace Go.Proofs.Ytcgjopjjmgpobaa
open Go.RowKit
set_option linter.unusedVariables false

def boxN (w : World) (n : Nt) : World := w.alloc (ntObj n)
theorem boxN_size (w : World) (n : Nt) : (boxN w n).heap.size = w.heap.size + 1 := by simp [boxN]
theorem boxN_below (w : World) (n : Nt) : Below w.heap.size w (boxN w n) := (Below.refl _ _).alloc (Nat.le_refl _) _
theorem boxN_at (w : World) (n : Nt) : NtAt (boxN w n) w.heap.size 0 n := NtAt.new w n _ _ rfl
attribute [local go_sem ↓] Go.wp_at_zero Go.wp_at_succ
set_option maxHeartbeats 4000000 in
set_option maxRecDepth 100000 in
theorem w_NotesNames (k s0 s1 s2 s3 s4 s5 s6 s7 rf : Int) (w : World) (k0 : 0 ≤ k) (k1 : k ≤ 255) (a0 : -9223372036854775808 ≤ s0) (a1 : s0 ≤ 9223372036854775807) (b0 : -9223372036854775808 ≤ s1) (b1 : s1 ≤ 9223372036854775807) (c0 : 0 ≤ s2) (c1 : s2 ≤ 255) (d0 : -9223372036854775808 ≤ s3) (d1 : s3 ≤ 9223372036854775807) (e0 : -9223372036854775808 ≤ s4) (e1 : s4 ≤ 9223372036854775807) (f0 : -9223372036854775808 ≤ s5) (f1 : s5 ≤ 9223372036854775807) (g0 : -9223372036854775808 ≤ s6) (g1 : s6 ≤ 9223372036854775807) (h0 : -9223372036854775808 ≤ s7) (h1 : s7 ≤ 9223372036854775807) (r0 : -9223372036854775808 ≤ rf) (r1 : rf ≤ 9223372036854775807) :
    Calls Try.prog 13 #[.int .u8 k, .agg #[.int .i64 s0, .int .i64 s1, .int .u8 s2, .int .i64 s3, .int .i64 s4, .int .i64 s5, .int .i64 s6, .int .i64 s7], .int .i64 rf] w fun e w' => e = .returned (.bool true) ∧ Below w.heap.size w w' := by
  clear a0 a1 b0 b1 d0 d1 e0 e1 f0 f1 g0 g1 h0 h1 r0 r1
  have HE := Lib.hid (ntErr_cases [] ⟨s0, s1, s2, s3, s4, s5, s6, s7⟩)
  have hlt0 : w.heap.size < (boxN w ⟨s0, s1, s2, s3, s4, s5, s6, s7⟩).heap.size := by rw [boxN_size]; exact Nat.lt_succ_self _
  have B0 := Lib.hid (Below.refl (boxN w ⟨s0, s1, s2, s3, s4, s5, s6, s7⟩).heap.size (boxN w ⟨s0, s1, s2, s3, s4, s5, s6, s7⟩))
  go_enter Try.func13, Try.ntmps13
  go_wp2_with fail
  refine (c_Dropped_nil _ _).mono ?_
  rintro e w' ⟨rfl, rfl⟩
  go_wp2_with fail
  refine (c_Name k _ k0 k1).mono ?_
  rintro e w1 ⟨rfl, hb1⟩
  have B1 := Lib.hid (B0.out.trans (hb1.mono B0.out.size))
  obtain ⟨p0, p1, p2, p3, p4, p5, p6, p7⟩ := ((boxN_at w ⟨s0, s1, s2, s3, s4, s5, s6, s7⟩).below B1.out hlt0).all
  dsimp only at p0 p1 p2 p3 p4 p5 p6 p7
  clear hb1
  go_wp2_with fail
  refine (c_rName k _ k0 k1).mono ?_
  rintro e w' ⟨rfl, rfl⟩
  go_wp2_with fail
  refine (c_Add_nil ⟨s0, s1, s2, s3, s4, s5, s6, s7⟩ _).mono ?_
  rintro e w2 ⟨rfl, hb2⟩
  have B2 := Lib.hid (B1.out.trans (hb2.mono B1.out.size))
  clear p0 p1 p2 p3 p4 p5 p6 p7
  obtain ⟨p0, p1, p2, p3, p4, p5, p6, p7⟩ := ((boxN_at w ⟨s0, s1, s2, s3, s4, s5, s6, s7⟩).below B2.out hlt0).all
  dsimp only at p0 p1 p2 p3 p4 p5 p6 p7
  clear hb2
  go_wp2_with fail
  refine (c_Count_nil _).mono ?_
  rintro e w' ⟨rfl, rfl⟩
  go_wp2_with fail
  refine (c_All_nil _).mono ?_
  rintro e w3 ⟨rfl, hb3⟩
  have B3 := Lib.hid (B2.out.trans (hb3.mono B2.out.size))
  clear p0 p1 p2 p3 p4 p5 p6 p7
  obtain ⟨p0, p1, p2, p3, p4, p5, p6, p7⟩ := ((boxN_at w ⟨s0, s1, s2, s3, s4, s5, s6, s7⟩).below B3.out hlt0).all
  dsimp only at p0 p1 p2 p3 p4 p5 p6 p7
  clear hb3
  go_wp2_with fail
  refine (c_Since_nil _ _).mono ?_
  rintro e w4 ⟨rfl, hb4⟩
  have B4 := Lib.hid (B3.out.trans (hb4.mono B3.out.size))
  clear p0 p1 p2 p3 p4 p5 p6 p7
  obtain ⟨p0, p1, p2, p3, p4, p5, p6, p7⟩ := ((boxN_at w ⟨s0, s1, s2, s3, s4, s5, s6, s7⟩).below B4.out hlt0).all
  dsimp only at p0 p1 p2 p3 p4 p5 p6 p7
  clear hb4
  go_wp2_with fail
  refine (c_Of_nil _ _).mono ?_
  rintro e w5 ⟨rfl, hb5⟩
  have B5 := Lib.hid (B4.out.trans (hb5.mono B4.out.size))
  clear p0 p1 p2 p3 p4 p5 p6 p7
  obtain ⟨p0, p1, p2, p3, p4, p5, p6, p7⟩ := ((boxN_at w ⟨s0, s1, s2, s3, s4, s5, s6, s7⟩).below B5.out hlt0).all
  dsimp only at p0 p1 p2 p3 p4 p5 p6 p7
  clear hb5
  go_wp2_with fail
  have HN := Lib.hid (Both.new (w0 := boxN w ⟨s0, s1, s2, s3, s4, s5, s6, s7⟩) B5.out w5.heap.size (w5.heap.size + 1) rfl rfl)
  have hq0 : ((w5.alloc (.cells #[.slice none 0 0] 80)).alloc (.cells #[.slice none 0 0] 67)).drew.cell? ⟨w.heap.size, 0, none⟩ = some (.int .i64 s0) := ((boxN_at w ⟨s0, s1, s2, s3, s4, s5, s6, s7⟩).below HN.out.below.drew hlt0).all.1
  clear p0 p1 p2 p3 p4 p5 p6 p7 hq0
  obtain ⟨p0, p1, p2, p3, p4, p5, p6, p7⟩ := ((boxN_at w ⟨s0, s1, s2, s3, s4, s5, s6, s7⟩).below HN.out.below hlt0).all
  dsimp only at p0 p1 p2 p3 p4 p5 p6 p7
  go_region_with (first | (go_at_call 36; refine (c_Count' _ _ [] 0 _ HN.out.drew.x.head HN.out.drew.ax rfl).mono ?_; rintro e w6 ⟨rfl, rfl⟩) | (go_at_call 44; refine (c_All _ _ (ntAdd [] ⟨s0, s1, s2, s3, s4, s5, s6, s7⟩) _ N10.out.x.head N10.out.x.lt N10.out.ax (by have := ntAdd_len [] ⟨s0, s1, s2, s3, s4, s5, s6, s7⟩; simp at this; omega)).mono ?_; rintro e w11 ⟨⟨v11, rfl, n11⟩, hb11⟩; have N11 := Lib.hid (N10.out.go hb11); have K11 := Lib.hid n11.arr; have hhr := N11.out.r.head; clear n11 hb11) | (go_at_call 44; refine (c_All _ _ [] _ HN.out.drew.x.head HN.out.drew.x.lt HN.out.drew.ax (by simp)).mono ?_; rintro e w7 ⟨⟨v7, rfl, n7⟩, hb7⟩; obtain ⟨ao7, rfl⟩ := n7.shape; have N7 := Lib.hid (HN.out.drew.go hb7); clear n7 hb7; obtain ⟨t0, t1, t2, t3, t4, t5, t6, t7⟩ := ((boxN_at w ⟨s0, s1, s2, s3, s4, s5, s6, s7⟩).below N7.out.below hlt0).all; dsimp only at t0 t1 t2 t3 t4 t5 t6 t7) | (go_at_call 37; refine (c_xAdd ⟨s0, s1, s2, s3, s4, s5, s6, s7⟩ N7.out c0 c1).mono ?_; rintro e w8 ⟨rfl, v8, n8⟩; have N8 := Lib.hid n8; clear n8; obtain ⟨r0, r1, r2, r3, r4, r5, r6, r7⟩ := ((boxN_at w ⟨s0, s1, s2, s3, s4, s5, s6, s7⟩).below N8.out.below hlt0).all; dsimp only at r0 r1 r2 r3 r4 r5 r6 r7) | (go_at_call 42; refine (c_Other ⟨s0, s1, s2, s3, s4, s5, s6, s7⟩ _ c0 c1).mono ?_; rintro e w9 ⟨rfl, hb9⟩; have N9 := Lib.hid (N8.out.go hb9); clear hb9) | (go_at_call 41; refine (c_yAdd ⟨s0, s1, s2, s3, s4, s5, s6, s7⟩ N9.out c0 c1).mono ?_; rintro e w10 ⟨rfl, v10, n10⟩; have N10 := Lib.hid n10; clear n10; have hhq := N10.out.r.head) | (go_at_call 45; refine (c_Same v11 v10 (ntAdd [] ⟨s0, s1, s2, s3, s4, s5, s6, s7⟩) _ K11.out N11.out.ar (ntAdd_kinds (fun m h => by cases h) ⟨c0, c1⟩)).mono ?_; rintro e w12 ⟨rfl, hb12⟩; have N12 := Lib.hid (N11.out.go hb12); clear hb12) | (go_at_call 34; refine (c_lives09 _).mono ?_; rintro e w13 ⟨rfl, hb13⟩; have N13 := Lib.hid (N12.out.go hb13); clear hb13))
  all_goals
    go_wp2
    go_ret
    exact ⟨rfl, (boxN_below _ _).trans (N13.out.below.mono (boxN_below _ _).size)⟩
end Go.Proofs.Ytcgjopjjmgpobaa
