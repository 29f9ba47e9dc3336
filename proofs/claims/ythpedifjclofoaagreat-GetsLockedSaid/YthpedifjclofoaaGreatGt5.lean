/- Layer 28: the chapter's example. -/
import Derived.Test.YthpedifjclofoaaGreatGt4
import Derived.Test.YthpedifjclofoaaGreatSeY
import Derived.BigQuiet
import Derived.Deep.QuietTactic
namespace Go.Proofs.YthpedifjclofoaaGreat
set_option linter.unusedSimpArgs false
open Go.RowKit
set_option linter.unusedVariables false
def gtG (s : AW) : Bool := goodN gtOver (gtStep 4 kA 3) (fun y => gtB kA y.1 y.2) 60 (s, gtNew)
def vzIt : It := ⟨kA, ⟨#[53]⟩, 0, 1, -1, 0⟩
theorem vz_1 : (gtG (aw0 2) = true ∧ vz1.2.2.ln = 0 ∧ vz1.2.2.an = 12) ∧ nOk vz1.2.1 := by decide +kernel
theorem vz_1i : vz1.2.2.im = it0 := by kernel_rfl
theorem vz_2 : (stG cl1 vz1.2.1 = true ∧ vz2.2.2.ln = 0) ∧ nOk vz2.2.1 := by decide +kernel
theorem vz_3 : (gtG vz2.2.1 = true ∧ vz3.2.2.ln = 0 ∧ vz3.2.2.an = 11) ∧ nOk vz3.2.1 ∧ vz3.2.1.M (plRef 1) = 1 := by decide +kernel
theorem vz_3i : vz3.2.2.im = vzIt := by kernel_rfl
section
variable {w : World} {O : Om} {B : Wb}
theorem c_vzRun (s : AW) (r : Nat × (AW × Gtm)) (hr : r = gtRun 4 kA 99 s) (hg : gtG s = true) (hn : nOk s) {X : Nat} (hP : PW w O B ⟨2, 8, 3, 1, 16⟩ s) (hX : GtAt w O 10 X 4 kA gtNew) (hhi : ∀ j, O j ≠ 0 → j < w.heap.size) :
    Calls Tryz.prog 22 #[.pointer (some ⟨B.p, 0, none⟩), .iface 59 (.pointer (some ⟨X, 0, none⟩)), .int .i64 99] w (RP (SX 10 41) w O (.int .i64 r.1) fun W G => PW W G B ⟨2, 8, 3, 1, 16⟩ r.2.1 ∧ GtAt W G 10 X 4 kA r.2.2) := by
  subst hr
  exact (c_GtRun (f := ⟨2, 8, 3, 1, 16⟩) 99 60 gtNew hP hX hg (by decide) (by decide) (by decide) (by decide) (by decide) hhi hn.1 (by have := hn.2; omega)).mono fun e w' h => RP.mono h (fun t _ ht => SX.mono (by decide) (by decide) ht) fun _ _ h => h
/-- An answer laid down. -/
theorem gzLay {w0 : World} {G : Om} {s : AW} (hE : Env w0 G w) (hP : PW w G B ⟨2, 8, 3, 1, 16⟩ s) (an : Int) (x : It) : ∃ W, W = w.alloc (.cells #[.int .u8 an, .int .u64 0, .string x.key, .string x.val, .int .u32 x.fl, .int .u64 x.id, .int .i64 x.dies, .int .i64 x.gen] 34) ∧ Env w0 G W ∧ PW W G B ⟨2, 8, 3, 1, 16⟩ s ∧ Bx W G w.heap.size [.int .u8 an, .int .u64 0, .string x.key, .string x.val, .int .u32 x.fl, .int .u64 x.id, .int .i64 x.dies, .int .i64 x.gen] ∧ Below w.heap.size w W := by
  have hb := alloc_below w (.cells #[.int .u8 an, .int .u64 0, .string x.key, .string x.val, .int .u32 x.fl, .int .u64 x.id, .int .i64 x.dies, .int .i64 x.gen] 34)
  exact ⟨_, rfl, hE.ext (Ext.of_below (S := SW) hE.hi hb), hP.below hE.hi hb, Bx.new hE.hi _ _ _ rfl, hb⟩
set_option maxHeartbeats 4000000 in
set_option maxRecDepth 100000 in
theorem c_lives28 (w : World) : Calls Tryz.prog 18 #[] w fun e w' => e = .returned (.bool true) ∧ Below w.heap.size w w' := by
  have HW := Lib.hid (c_WorldP 2 w (by decide) (by decide))
  have HNG := Lib.hid (fun (W : World) (G : Om) hh => c_NewGet (w := W) (O := G) (k := 10) (key := kA) 4 (by decide) (by decide +kernel) (by decide) (by decide) hh)
  have HR1 := Lib.hid (fun (W : World) (G : Om) (B : Wb) (X : Nat) hp hx hh => c_vzRun (w := W) (O := G) (B := B) (aw0 2) vz1 rfl vz_1.1.1 (by decide) (X := X) hp hx hh)
  have HR3 := Lib.hid (fun (W : World) (G : Om) (B : Wb) (X : Nat) hp hx hh => c_vzRun (w := W) (O := G) (B := B) vz2.2.1 vz3 rfl vz_3.1.1 vz_2.2 (X := X) hp hx hh)
  have HG1 := Lib.hid (fun (W : World) (G : Om) (X : Nat) (hx : GtAt W G 10 X 4 kA vz1.2.2) => c_GtGot hx vz_1.1.2.1)
  have HG3 := Lib.hid (fun (W : World) (G : Om) (X : Nat) (hx : GtAt W G 10 X 4 kA vz3.2.2) => c_GtGot hx vz_3.1.2.1)
  have HD := Lib.hid (fun (W : World) (G : Om) (B : Wb) hp hh => c_lzDoes (w := W) (O := G) (B := B) cl1 vz1.2.1 vz2 rfl vz_2.1.1 vz_2.1.2 lz_may.1 rfl (by decide) (by decide) vz_1.2 hp hh)
  have HPK := Lib.hid (fun (W : World) (G : Om) (B : Wb) (hp : PW W G B ⟨2, 8, 3, 1, 16⟩ vz3.2.1) => c_Peek (plRef 1) hp.ce (by decide) (by decide))
  rw [vz_3.2.2] at HPK
  rw [vz_1i, vz_1.1.2.2] at HG1
  rw [vz_3i, vz_3.1.2.2] at HG3
  have HRF := Lib.hid (fun W => c_Ref 1 W (by decide) (by decide))
  obtain ⟨rf, hrf⟩ : ∃ r, r = plRef 1 := ⟨_, rfl⟩
  rw [← hrf] at HPK HRF
  clear hrf
  unfold clV cl1 kA ansV at HD
  unfold ganV it0 at HG1
  unfold ganV vzIt kA at HG3
  dsimp only at HD HG1 HG3
  unfold kA at HNG
  go_enter Tryz.func18, Tryz.ntmps18
  go_wp2_with fail
  refine HW.out.mono ?_
  rintro e w1 ⟨B, G1, rfl, p1, E1⟩
  have HN1 := Lib.hid (HNG.out w1 G1 E1.hi)
  have HE := Lib.hid (And.intro E1 p1)
  clear HW p1 E1
  go_wp2_with fail
  refine HN1.out.mono ?_
  rintro e w2 ⟨X, rfl, G2, e2, x2⟩
  have E2 := HE.out.1.ext e2
  have HR := Lib.hid (HR1.out w2 G2 B X (HE.out.2.ext e2 (by omega) (by omega) (by omega) (by omega)) x2 E2.hi)
  have HE2 := Lib.hid E2
  clear e2 x2 E2 HE HN1 HR1
  go_wp2_with fail
  refine HR.out.mono ?_
  rintro e w3 ⟨rfl, G3, e3, p3, x3⟩
  have HG := Lib.hid (HG1.out w3 G3 X x3)
  have HE3 := Lib.hid (And.intro (HE2.out.ext e3) p3)
  clear e3 p3 x3 HE2 HR HG1
  go_wp2_with fail
  refine HG.out.mono ?_
  rintro e w4 ⟨rfl, hb4⟩
  obtain ⟨W4, hW4, E4, P4, B4, -⟩ := gzLay (HE3.out.1.ext (Ext.of_below (S := SW) HE3.out.1.hi hb4)) (HE3.out.2.below HE3.out.1.hi hb4) 12 it0
  unfold it0 at hW4 B4
  have HJ := Lib.hid (And.intro E4 (And.intro P4 B4))
  have HDD := Lib.hid (HD.out W4 G3 B P4 E4.hi)
  clear hb4 E4 P4 B4 HE3 HG HD
  go_upto_region 7 with fail
  rw [← hW4]
  clear hW4
  go_wp2_with fail
  refine HDD.out.mono ?_
  rintro e w5 ⟨rfl, G5, e5, p5⟩
  have E5 := HJ.out.1.ext e5
  have HN2 := Lib.hid (HNG.out w5 G5 E5.hi)
  have HJ5 := Lib.hid (And.intro E5 (And.intro p5 (HJ.out.2.2.ext e5)))
  clear e5 p5 E5 HJ HDD HNG
  go_wp2_with fail
  refine HN2.out.mono ?_
  rintro e w6 ⟨Y, rfl, G6, e6, y6⟩
  have E6 := HJ5.out.1.ext e6
  have HRR := Lib.hid (HR3.out w6 G6 B Y (HJ5.out.2.1.ext e6 (by omega) (by omega) (by omega) (by omega)) y6 E6.hi)
  have HJ6 := Lib.hid (And.intro E6 (HJ5.out.2.2.ext e6))
  clear e6 y6 E6 HJ5 HN2 HR3
  go_wp2_with fail
  refine HRR.out.mono ?_
  rintro e w7 ⟨rfl, G7, e7, p7, y7⟩
  have HGG := Lib.hid (HG3.out w7 G7 Y y7)
  have HJ7 := Lib.hid (And.intro (HJ6.out.1.ext e7) (And.intro p7 (HJ6.out.2.ext e7)))
  clear e7 p7 y7 HJ6 HRR HG3
  go_wp2_with fail
  refine HGG.out.mono ?_
  rintro e w8 ⟨rfl, hb8⟩
  obtain ⟨W8, hW8, E8, P8, B8, b8⟩ := gzLay (HJ7.out.1.ext (Ext.of_below (S := SW) HJ7.out.1.hi hb8)) (HJ7.out.2.1.below HJ7.out.1.hi hb8) 11 vzIt
  unfold vzIt kA at hW8 B8
  have HJ8 := Lib.hid (And.intro E8 (And.intro P8 (And.intro ((HJ7.out.2.2.below hb8).below b8) B8)))
  clear hb8 E8 P8 B8 b8 HJ7 HGG
  go_upto_region 11 with fail
  rw [← hW8]
  clear hW8
  have p0 := HJ8.out.2.1.wo.c0
  have a0 := HJ8.out.2.2.1.c 0 _ rfl
  have a1 := HJ8.out.2.2.1.c 1 _ rfl
  have a2 := HJ8.out.2.2.1.c 2 _ rfl
  have a3 := HJ8.out.2.2.1.c 3 _ rfl
  have a4 := HJ8.out.2.2.1.c 4 _ rfl
  have a5 := HJ8.out.2.2.1.c 5 _ rfl
  have a6 := HJ8.out.2.2.1.c 6 _ rfl
  have a7 := HJ8.out.2.2.1.c 7 _ rfl
  have b0 := HJ8.out.2.2.2.c 0 _ rfl
  have b1 := HJ8.out.2.2.2.c 1 _ rfl
  have b2 := HJ8.out.2.2.2.c 2 _ rfl
  have b3 := HJ8.out.2.2.2.c 3 _ rfl
  have b4 := HJ8.out.2.2.2.c 4 _ rfl
  have b5 := HJ8.out.2.2.2.c 5 _ rfl
  have b6 := HJ8.out.2.2.2.c 6 _ rfl
  have b7 := HJ8.out.2.2.2.c 7 _ rfl
  have l1 := HJ8.out.2.1.wo.lt
  have l2 := HJ8.out.2.2.1.lt
  have l3 := HJ8.out.2.2.2.lt
  have HPV := Lib.hid (fun e => HPK.out (via W8 e) G7 B (HJ8.out.2.1.below HJ8.out.1.hi (via_below W8 e)))
  refine wp_region_via (by kernel_rfl) (by kernel_rfl) ?_
  repeat (go_big_quiet_step ((first
    | (go_at_call 26; exact viaS (HRF.out _))
    | (go_at_call 15; exact viaS (HPV.out _)))))
  refine wpQuiet_nil ?_
  rintro _ ⟨e, rfl⟩
  have HB := Lib.hid (HJ8.out.1.bel.trans ((via_below W8 e).mono HJ8.out.1.bel.size))
  go_wp2_with fail
  go_ret
  exact ⟨rfl, HB.out⟩
end
end Go.Proofs.YthpedifjclofoaaGreat
