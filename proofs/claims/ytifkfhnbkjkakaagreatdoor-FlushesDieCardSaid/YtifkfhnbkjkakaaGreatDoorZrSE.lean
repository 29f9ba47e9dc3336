/- Layer 25: StoresAgain: calls by themselves, in a world of one table with room; a call that may not be. -/
import Derived.Test.YtifkfhnbkjkakaaGreatDoorZrSD1
import Derived.Test.YtifkfhnbkjkakaaGreatDoorZrSeY
namespace Go.Proofs.YtifkfhnbkjkakaaGreatDoor
set_option linter.unusedSimpArgs false
set_option linter.unusedVariables false
set_option maxHeartbeats 4000000
set_option maxRecDepth 100000
open Go.RowKit
section
variable {w : World} {O : Om} {B : Wb} {f : Cf} {s : AW}
theorem c_RunV {X : Nat} (p m : Nat) (h : VoidS w (.pointer (some ⟨X, 0, none⟩))) (hm : (m : Int) ≤ 200000) :
 Calls Tryz.prog 33 #[.pointer (some ⟨p, 0, none⟩), .iface 134 (.pointer (some ⟨X, 0, none⟩)), .int .i64 m] w fun e w' => e = .returned (.int .i64 0) ∧ Below w.heap.size w w' := by
 have h1 : (runN (fun _ : Unit => true) (fun z => z) m (aw0 1, ())).1 = 0 := by rw [runN_over m _ rfl]
 have hn : (aw0 1).n = 0 := rfl
 refine (c_RunG (fun _ : Unit => true) (fun z => z) (fun _ => False) (fun W G z => VoidS W (.pointer (some ⟨X, 0, none⟩))) p X 134 436 437 (m_StOver _) (m_StStep _)
  (run_enter Tryz.func436 (by kernel_rfl) (by kernel_rfl)) (run_enter Tryz.func437 (by kernel_rfl) (by kernel_rfl)) ?_ ?_ ?_ w OZ m (aw0 1, ()) h (fun j hj => absurd rfl hj) (by show 0 ≤ (aw0 1).n; rw [hn]; decide) (by show (aw0 1).n + m ≤ _; rw [hn]; omega)).mono ?_
 · intro W G z hI
   exact c_vsOver hI
 · intro W G z hI ho
   cases ho
 · intro z
   exact ⟨by omega, Int.le_refl _⟩
 · rintro e w' ⟨rfl, G, e1, -⟩
   rw [h1]
   exact ⟨rfl, ext0_belowS e1⟩
theorem c_DoesV (p : Nat) (t : Int) (c : Clm) (hm : mayB c = false) (hkz : c.key.size ≤ maxLen) (hvz : c.val.size ≤ maxLen) :
 Calls Tryz.prog 18 #[.pointer (some ⟨p, 0, none⟩), .int .i64 t, clV c] w fun e w' => e = .returned (ansV 0 0) ∧ Below w.heap.size w w' := by
 have b1 := alloc_below w (.cells (clCs c).toArray 26)
 obtain ⟨O2, e2, x2, -⟩ := alloc_ob (O := OZ) (w := w.alloc (.cells (clCs c).toArray 26)) (fun j hj => absurd rfl hj) 41 a0Cs.toArray 36 (w.heap.size + 1) (by simp)
 have E2 := (Ext.of_below (S := SX 10 41) (O := OZ) (fun j hj => absurd rfl hj) b1).trans (e2.mono fun t _ ht => .inr (by omega))
 have HN := Lib.hid (c_NewStoreV t c (.inr hm) hkz hvz ((w.alloc (.cells (clCs c).toArray 26)).alloc (.cells a0Cs.toArray 36)))
 have HJ := Lib.hid (And.intro E2 x2)
 clear b1 e2 E2 x2 hm hkz hvz
 unfold clCs a0Cs at HN HJ
 unfold clV at HN ⊢
 unfold ansV
 go_enter Tryz.func18, Tryz.ntmps18
 go_wp2_with fail
 refine HN.out.mono ?_
 rintro e w3 ⟨X, rfl, hb3, v3⟩
 have HR := Lib.hid (c_RunV p 200000 v3 (by decide))
 have HJ3 := Lib.hid (And.intro (HJ.out.1.below hb3) (And.intro (HJ.out.2.below hb3) v3))
 clear hb3 v3 HJ HN
 go_wp2_with fail
 refine HR.out.mono ?_
 rintro e w4 ⟨rfl, hb4⟩
 have HG := Lib.hid (c_vsGot (HJ3.out.2.2.below hb4))
 have HJ4 := Lib.hid (And.intro (HJ3.out.1.below hb4) (HJ3.out.2.1.below hb4))
 clear hb4 HJ3 HR
 unfold ansV at HG
 go_wp2_with fail
 refine HG.out.mono ?_
 rintro e w5 ⟨rfl, hb5⟩
 have b6 := hb5.trans ((alloc_below w5 (.cells (aCs 0 0).toArray 36)).mono hb5.size)
 have HJ6 := Lib.hid (And.intro (HJ4.out.1.below b6) (HJ4.out.2.below b6))
 unfold aCs at HJ6
 clear hb5 b6 HJ4 HG
 obtain ⟨w6, hw6⟩ : ∃ W, W = w5.alloc (.cells #[.int .u8 0, .int .u64 0, .string ⟨#[]⟩, .string ⟨#[]⟩, .int .u32 0, .int .u64 0, .int .i64 0, .int .i64 0] 36) := ⟨_, rfl⟩
 rw [← hw6] at HJ6
 have hc : ∀ j u, [.int .u8 0, .int .u64 0, .string ⟨#[]⟩, .string ⟨#[]⟩, .int .u32 0, .int .u64 0, .int .i64 0, .int .i64 0][j]? = some u → w6.cell? ⟨w5.heap.size, j, none⟩ = some u := fun j u hu => by
  rw [hw6]; exact cell_newA w5 #[.int .u8 0, .int .u64 0, .string ⟨#[]⟩, .string ⟨#[]⟩, .int .u32 0, .int .u64 0, .int .i64 0, .int .i64 0] _ _ rfl j u (by simpa using hu)
 have y0 := hc 0 _ rfl
 have y1 := hc 1 _ rfl
 have y2 := hc 2 _ rfl
 have y3 := hc 3 _ rfl
 have y4 := hc 4 _ rfl
 have y5 := hc 5 _ rfl
 have y6 := hc 6 _ rfl
 have y7 := hc 7 _ rfl
 have x := HJ6.out.2
 have x0 := x.c 0 _ rfl
 have x1 := x.c 1 _ rfl
 have x2 := x.c 2 _ rfl
 have x3 := x.c 3 _ rfl
 have x4 := x.c 4 _ rfl
 have x5 := x.c 5 _ rfl
 have x6 := x.c 6 _ rfl
 have x7 := x.c 7 _ rfl
 have f0 := x.f 0
 have f1 := x.f 1
 have f2 := x.f 2
 have f3 := x.f 3
 have f4 := x.f 4
 have f5 := x.f 5
 have f6 := x.f 6
 have f7 := x.f 7
 clear hc x
 go_upto_region 4 with fail
 rw [← hw6]
 clear hw6
 go_wp2_with fail
 have X9 := (((((((HJ6.out.2.set 0 (.int .u8 0) (by simp)).set 1 (.int .u64 0) (by simp)).set 2 (.string ⟨#[]⟩) (by simp)).set 3 (.string ⟨#[]⟩) (by simp)).set 4 (.int .u32 0) (by simp)).set 5 (.int .u64 0) (by simp)).set 6 (.int .i64 0) (by simp)).set 7 (.int .i64 0) (by simp)
 have hb : w.heap.size ≤ w.heap.size + 1 := by omega
 have B9 := (((((((((ext0_belowS HJ6.out.1).setCell (p := ⟨w.heap.size + 1, 0, none⟩) hb (.int .u8 0)).setCell (p := ⟨w.heap.size + 1, 1, none⟩) hb (.int .u64 0)).setCell (p := ⟨w.heap.size + 1, 2, none⟩) hb (.string ⟨#[]⟩)).setCell (p := ⟨w.heap.size + 1, 3, none⟩) hb (.string ⟨#[]⟩)).setCell (p := ⟨w.heap.size + 1, 4, none⟩) hb (.int .u32 0)).setCell (p := ⟨w.heap.size + 1, 5, none⟩) hb (.int .u64 0)).setCell (p := ⟨w.heap.size + 1, 6, none⟩) hb (.int .i64 0)).setCell (p := ⟨w.heap.size + 1, 7, none⟩) hb (.int .i64 0))
 obtain ⟨w9, hw9⟩ : ∃ W, W = ((((((((w6.setCell ⟨w.heap.size + 1, 0, none⟩ (.int .u8 0)).setCell ⟨w.heap.size + 1, 1, none⟩ (.int .u64 0)).setCell ⟨w.heap.size + 1, 2, none⟩ (.string ⟨#[]⟩)).setCell ⟨w.heap.size + 1, 3, none⟩ (.string ⟨#[]⟩)).setCell ⟨w.heap.size + 1, 4, none⟩ (.int .u32 0)).setCell ⟨w.heap.size + 1, 5, none⟩ (.int .u64 0)).setCell ⟨w.heap.size + 1, 6, none⟩ (.int .i64 0)).setCell ⟨w.heap.size + 1, 7, none⟩ (.int .i64 0)) := ⟨_, rfl⟩
 rw [← hw9] at X9 B9 ⊢
 have z0 := X9.c 0 _ rfl
 have z1 := X9.c 1 _ rfl
 have z2 := X9.c 2 _ rfl
 have z3 := X9.c 3 _ rfl
 have z4 := X9.c 4 _ rfl
 have z5 := X9.c 5 _ rfl
 have z6 := X9.c 6 _ rfl
 have z7 := X9.c 7 _ rfl
 have HF := Lib.hid B9
 clear B9 X9 hw9 HJ6
 exact bodyPost_ret (v := .agg #[.int .u8 0, .int .u64 0, .string ⟨#[]⟩, .string ⟨#[]⟩, .int .u32 0, .int .u64 0, .int .i64 0, .int .i64 0]) (by simp [results, Tryz.results18, go_sem, z0, z1, z2, z3, z4, z5, z6, z7]) rfl ⟨rfl, HF.out⟩
end
end Go.Proofs.YtifkfhnbkjkakaaGreatDoor
