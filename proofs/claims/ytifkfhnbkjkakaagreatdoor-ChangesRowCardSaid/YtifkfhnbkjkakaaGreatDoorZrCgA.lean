/- Layer 26: what a change gives. -/
import Derived.Test.YtifkfhnbkjkakaaGreatDoorZrCg9
import Derived.Test.YtifkfhnbkjkakaaGreatDoorZrSI
import Derived.Test.YtifkfhnbkjkakaaGreatDoorZrEpA
import Derived.Test.YtifkfhnbkjkakaaGreatDoorZrNuV
namespace Go.Proofs.YtifkfhnbkjkakaaGreatDoor
set_option linter.unusedSimpArgs false
set_option linter.unusedVariables false
set_option maxHeartbeats 8000000
set_option maxRecDepth 100000
open Go.RowKit
structure GvS (w0 wx : World) (G : Om) (bc bw ra ri : Nat) (c : Clm) (x : It) (an nu : Int) (y : It) : Prop where
 e : Ext (SX 10 12) OZ w0 G wx
 c : Bx wx G bc (clCs c)
 i : Ob wx G 10 bw (itCs x)
 a : Ob wx G 11 ra (aCs an nu)
 r : Ob wx G 12 ri (itCs y)
section
variable {w0 w w' : World} {G : Om} {bc bw ra ri : Nat} {c : Clm} {x y : It} {an nu : Int}
theorem GvS.below (h : GvS w0 w G bc bw ra ri c x an nu y) (hb : Below w.heap.size w w') : GvS w0 w' G bc bw ra ri c x an nu y := ⟨h.e.below hb, h.c.below hb, h.i.below hb, h.a.below hb, h.r.below hb⟩
theorem GvS.new (w : World) (c : Clm) (x : It) : ∃ G, GvS w ((((w.alloc (.cells (clCs c).toArray 26)).alloc (.cells (itCs x).toArray 34)).alloc (.cells (aCs 0 0).toArray 36)).alloc (.cells (itCs it00).toArray 34)) G w.heap.size (w.heap.size + 1) (w.heap.size + 1 + 1) (w.heap.size + 1 + 1 + 1) c x 0 0 it00 := by
 have hhi : ∀ j, OZ j ≠ 0 → j < w.heap.size := fun j hj => absurd rfl hj
 have b1 := alloc_below w (.cells (clCs c).toArray 26)
 obtain ⟨G1, e1, o1, -⟩ := alloc_ob (hi_below hhi b1) 10 (itCs x).toArray 34 (w.heap.size + 1) (by simp)
 obtain ⟨G2, e2, o2, -⟩ := alloc_ob e1.hi 11 (aCs 0 0).toArray 36 (w.heap.size + 1 + 1) (by simp)
 obtain ⟨G3, e3, o3, -⟩ := alloc_ob e2.hi 12 (itCs it00).toArray 34 (w.heap.size + 1 + 1 + 1) (by simp)
 exact ⟨G3, (((Ext.of_below hhi b1).trans (e1.mono fun t _ ht => .inr (by omega))).trans (e2.mono fun t _ ht => .inr (by omega))).trans (e3.mono fun t _ ht => .inr (by omega)), (((Bx.new hhi (clCs c).toArray 26 w.heap.size rfl).ext e1).ext e2).ext e3, (o1.ext e2 (by omega)).ext e3 (by omega), o2.ext e3 (by omega), o3⟩
theorem GvS.setI {z : It} (h : GvS w0 w G bc bw ra ri c x an nu y) (j : Nat) (v : Value) (hz : (itCs x).set j v = itCs z) (hj : j < 6) : GvS w0 (w.setCell ⟨bw, j, none⟩ v) G bc bw ra ri c z an nu y := by
 have e := Ext.of_set (j := j) (v := v) (S := fun t => t = 10) h.e.hi h.i.o (by omega) rfl
 have o := h.i.set j v (by simpa [itCs] using hj)
 rw [hz] at o
 exact ⟨h.e.trans (e.mono fun t _ ht => .inr (by omega)), h.c.ext e, o, h.a.ext e (by omega), h.r.ext e (by omega)⟩
theorem GvS.set1 {cs : List Value} {j : Nat} {v : Value} (e0 : Ext (SX 10 12) OZ w0 G w) (g b : Nat) (hg : 10 ≤ g ∧ g ≤ 12) (o : Ob w G g b cs) (hj : j < cs.length) : Ext (SX 10 12) OZ w0 G (w.setCell ⟨b, j, none⟩ v) ∧ Ext (fun t => t = g) G w G (w.setCell ⟨b, j, none⟩ v) ∧ Ob (w.setCell ⟨b, j, none⟩ v) G g b (cs.set j v) := by
 have e := Ext.of_set (j := j) (v := v) (S := fun t => t = g) e0.hi o.o (by omega) rfl
 exact ⟨e0.trans (e.mono fun t _ ht => .inr (by omega)), e, o.set j v hj⟩
theorem GvS.setA (h : GvS w0 w G bc bw ra ri c x an nu y) (k n : Int) : GvS w0 ((((((((w.setCell ⟨ra, 0, none⟩ (.int .u8 k)).setCell ⟨ra, 1, none⟩ (.int .u64 n)).setCell ⟨ra, 2, none⟩ (.string ⟨#[]⟩)).setCell ⟨ra, 3, none⟩ (.string ⟨#[]⟩)).setCell ⟨ra, 4, none⟩ (.int .u32 0)).setCell ⟨ra, 5, none⟩ (.int .u64 0)).setCell ⟨ra, 6, none⟩ (.int .i64 0)).setCell ⟨ra, 7, none⟩ (.int .i64 0)) G bc bw ra ri c x k n y := by
 obtain ⟨e0, f0, o0⟩ := GvS.set1 (j := 0) (v := .int .u8 k) h.e 11 ra (by decide) h.a (by simp [aCs])
 obtain ⟨e1, f1, o1⟩ := GvS.set1 (j := 1) (v := .int .u64 n) e0 11 ra (by decide) o0 (by simp [aCs])
 obtain ⟨e2, f2, o2⟩ := GvS.set1 (j := 2) (v := .string ⟨#[]⟩) e1 11 ra (by decide) o1 (by simp [aCs])
 obtain ⟨e3, f3, o3⟩ := GvS.set1 (j := 3) (v := .string ⟨#[]⟩) e2 11 ra (by decide) o2 (by simp [aCs])
 obtain ⟨e4, f4, o4⟩ := GvS.set1 (j := 4) (v := .int .u32 0) e3 11 ra (by decide) o3 (by simp [aCs])
 obtain ⟨e5, f5, o5⟩ := GvS.set1 (j := 5) (v := .int .u64 0) e4 11 ra (by decide) o4 (by simp [aCs])
 obtain ⟨e6, f6, o6⟩ := GvS.set1 (j := 6) (v := .int .i64 0) e5 11 ra (by decide) o5 (by simp [aCs])
 obtain ⟨e7, f7, o7⟩ := GvS.set1 (j := 7) (v := .int .i64 0) e6 11 ra (by decide) o6 (by simp [aCs])
 have f := ((((((f0.trans f1).trans f2).trans f3).trans f4).trans f5).trans f6).trans f7
 exact ⟨e7, h.c.ext f, h.i.ext f (by omega), o7, h.r.ext f (by omega)⟩
theorem GvS.setR (h : GvS w0 w G bc bw ra ri c x an nu y) (z : It) : GvS w0 ((((((w.setCell ⟨ri, 0, none⟩ (.string z.key)).setCell ⟨ri, 1, none⟩ (.string z.val)).setCell ⟨ri, 2, none⟩ (.int .u32 z.fl)).setCell ⟨ri, 3, none⟩ (.int .u64 z.id)).setCell ⟨ri, 4, none⟩ (.int .i64 z.dies)).setCell ⟨ri, 5, none⟩ (.int .i64 z.gen)) G bc bw ra ri c x an nu z := by
 obtain ⟨e0, f0, o0⟩ := GvS.set1 (j := 0) (v := .string z.key) h.e 12 ri (by decide) h.r (by simp [itCs])
 obtain ⟨e1, f1, o1⟩ := GvS.set1 (j := 1) (v := .string z.val) e0 12 ri (by decide) o0 (by simp [itCs])
 obtain ⟨e2, f2, o2⟩ := GvS.set1 (j := 2) (v := .int .u32 z.fl) e1 12 ri (by decide) o1 (by simp [itCs])
 obtain ⟨e3, f3, o3⟩ := GvS.set1 (j := 3) (v := .int .u64 z.id) e2 12 ri (by decide) o2 (by simp [itCs])
 obtain ⟨e4, f4, o4⟩ := GvS.set1 (j := 4) (v := .int .i64 z.dies) e3 12 ri (by decide) o3 (by simp [itCs])
 obtain ⟨e5, f5, o5⟩ := GvS.set1 (j := 5) (v := .int .i64 z.gen) e4 12 ri (by decide) o4 (by simp [itCs])
 have f := ((((f0.trans f1).trans f2).trans f3).trans f4).trans f5
 exact ⟨e5, h.c.ext f, h.i.ext f (by omega), h.a.ext f (by omega), o5⟩
end
section
variable {w : World} {c : Clm} {x : It} {ep id : Int}
theorem c_gvDead (hx : x.id ≠ 0) (hal : epAlive x.dies x.gen ep = false) (e0 : 0 ≤ ep) (e1 : ep ≤ 18446744073709551615) :
 Calls Tryz.prog 13 #[clV c, itV x, .int .u64 ep, .int .u64 id] w fun e w' => e = .returned (.tuple #[ansV (4) (0), itV x, .int .u64 0]) ∧ Below w.heap.size w w' := by
 obtain ⟨G, h0⟩ := GvS.new w c x
 obtain ⟨W0, hW0⟩ : ∃ W, W = (((w.alloc (.cells (clCs c).toArray 26)).alloc (.cells (itCs x).toArray 34)).alloc (.cells (aCs 0 0).toArray 36)).alloc (.cells (itCs it00).toArray 34) := ⟨_, rfl⟩
 rw [← hW0] at h0
 have HAL := Lib.hid (fun W => c_Alive x.key x.val x.fl x.id x.dies x.gen ep W e0 e1)
 rw [hal] at HAL
 have d0 : (x.id == 0) = false := by simpa using hx
 obtain ⟨ri, hri⟩ : ∃ n, n = w.heap.size + 1 + 1 + 1 := ⟨_, rfl⟩
 obtain ⟨ra, hra⟩ : ∃ n, n = w.heap.size + 1 + 1 := ⟨_, rfl⟩
 obtain ⟨bw, hbw⟩ : ∃ n, n = w.heap.size + 1 := ⟨_, rfl⟩
 obtain ⟨bc, hbc⟩ : ∃ n, n = w.heap.size := ⟨_, rfl⟩
 rw [← hri, ← hra, ← hbw, ← hbc] at h0
 have HW := Lib.hid h0
 clear h0 hx hal
 unfold clCs itCs aCs it00 at hW0
 dsimp only at hW0
 have n1 : ¬ bw = ra := fun e => by have h1 := HW.out.i.o; have h2 := HW.out.a.o; rw [e, h2] at h1; cases h1
 have n2 : ¬ bw = ri := fun e => by have h1 := HW.out.i.o; have h2 := HW.out.r.o; rw [e, h2] at h1; cases h1
 have n3 : ¬ ra = ri := fun e => by have h1 := HW.out.a.o; have h2 := HW.out.r.o; rw [e, h2] at h1; cases h1
 have n4 : ¬ ra = bw := fun e => n1 e.symm
 have n5 : ¬ ri = bw := fun e => n2 e.symm
 have n6 : ¬ ri = ra := fun e => n3 e.symm
 unfold clV itV ansV
 go_enter Tryz.func13, Tryz.ntmps13
 go_upto_region 1 with fail
 rw [← hW0, ← hri, ← hra, ← hbw, ← hbc]
 clear hW0 hri hra hbw hbc
 have i0 := HW.out.i.c 0 _ rfl
 have i1 := HW.out.i.c 1 _ rfl
 have i2 := HW.out.i.c 2 _ rfl
 have i3 := HW.out.i.c 3 _ rfl
 have i4 := HW.out.i.c 4 _ rfl
 have i5 := HW.out.i.c 5 _ rfl
 have c0 := HW.out.c.c 0 _ rfl
 have c1 := HW.out.c.c 1 _ rfl
 have c2 := HW.out.c.c 2 _ rfl
 have c3 := HW.out.c.c 3 _ rfl
 have c4 := HW.out.c.c 4 _ rfl
 have c5 := HW.out.c.c 5 _ rfl
 have c6 := HW.out.c.c 6 _ rfl
 go_wp2_with fail
 refine (HAL.out _).mono ?_
 rintro e w2 ⟨rfl, hb2⟩
 have HW2 := Lib.hid (HW.out.below hb2)
 clear hb2 HW i0 i1 i2 i3 i4 i5 c0 c1 c2 c3 c4 c5 c6
 go_upto_region 2 with fail
 have HE1 := Lib.hid (((HW2.out.setA (4) (0)).setR x).below (drew_below _))
 have HE2 := Lib.hid (((HW2.out.setR x).setA (4) (0)).below (drew_below _))
 have i0 := HW2.out.i.c 0 _ rfl
 have i1 := HW2.out.i.c 1 _ rfl
 have i2 := HW2.out.i.c 2 _ rfl
 have i3 := HW2.out.i.c 3 _ rfl
 have i4 := HW2.out.i.c 4 _ rfl
 have i5 := HW2.out.i.c 5 _ rfl
 have a0 := HW2.out.a.c 0 _ rfl
 have fa0 := HW2.out.a.f 0
 have a1 := HW2.out.a.c 1 _ rfl
 have fa1 := HW2.out.a.f 1
 have a2 := HW2.out.a.c 2 _ rfl
 have fa2 := HW2.out.a.f 2
 have a3 := HW2.out.a.c 3 _ rfl
 have fa3 := HW2.out.a.f 3
 have a4 := HW2.out.a.c 4 _ rfl
 have fa4 := HW2.out.a.f 4
 have a5 := HW2.out.a.c 5 _ rfl
 have fa5 := HW2.out.a.f 5
 have a6 := HW2.out.a.c 6 _ rfl
 have fa6 := HW2.out.a.f 6
 have a7 := HW2.out.a.c 7 _ rfl
 have fa7 := HW2.out.a.f 7
 have r0 := HW2.out.r.c 0 _ rfl
 have fr0 := HW2.out.r.f 0
 have r1 := HW2.out.r.c 1 _ rfl
 have fr1 := HW2.out.r.f 1
 have r2 := HW2.out.r.c 2 _ rfl
 have fr2 := HW2.out.r.f 2
 have r3 := HW2.out.r.c 3 _ rfl
 have fr3 := HW2.out.r.f 3
 have r4 := HW2.out.r.c 4 _ rfl
 have fr4 := HW2.out.r.f 4
 have r5 := HW2.out.r.c 5 _ rfl
 have fr5 := HW2.out.r.f 5
 go_cut [10] (fun v wx => v = .int .u64 0 ∧ ∃ G, GvS w wx G bc bw ra ri c x (4) (0) x)
 case first =>
  go_region_held3 (fun w' => w'.cell? ⟨bw, 0, none⟩ = some (.string x.key) ∧ w'.cell? ⟨bw, 1, none⟩ = some (.string x.val) ∧ w'.cell? ⟨bw, 2, none⟩ = some (.int .u32 x.fl) ∧ w'.cell? ⟨bw, 3, none⟩ = some (.int .u64 x.id) ∧ w'.cell? ⟨bw, 4, none⟩ = some (.int .i64 x.dies) ∧ w'.cell? ⟨bw, 5, none⟩ = some (.int .i64 x.gen)) (go_keep)
   (fail)
  all_goals
   go_wp2_with fail
   go_meet
   first
    | with_reducible exact ⟨rfl, _, HE1.out⟩
    | with_reducible exact ⟨rfl, _, HE2.out⟩
 obtain ⟨rfl, G9, h9⟩ := hcut
 clear i0 i1 i2 i3 i4 i5 a0 a1 a2 a3 a4 a5 a6 a7 fa0 fa1 fa2 fa3 fa4 fa5 fa6 fa7 r0 r1 r2 r3 r4 r5 fr0 fr1 fr2 fr3 fr4 fr5
 have HF := Lib.hid h9
 have a0 := h9.a.c 0 _ rfl
 have a1 := h9.a.c 1 _ rfl
 have a2 := h9.a.c 2 _ rfl
 have a3 := h9.a.c 3 _ rfl
 have a4 := h9.a.c 4 _ rfl
 have a5 := h9.a.c 5 _ rfl
 have a6 := h9.a.c 6 _ rfl
 have a7 := h9.a.c 7 _ rfl
 have r0 := h9.r.c 0 _ rfl
 have r1 := h9.r.c 1 _ rfl
 have r2 := h9.r.c 2 _ rfl
 have r3 := h9.r.c 3 _ rfl
 have r4 := h9.r.c 4 _ rfl
 have r5 := h9.r.c 5 _ rfl
 clear h9
 go_wp2_with fail
 exact bodyPost_ret (v := .tuple #[.agg #[.int .u8 (4), .int .u64 (0), .string ⟨#[]⟩, .string ⟨#[]⟩, .int .u32 0, .int .u64 0, .int .i64 0, .int .i64 0], .agg #[.string x.key, .string x.val, .int .u32 x.fl, .int .u64 x.id, .int .i64 x.dies, .int .i64 x.gen], .int .u64 0]) (by simp [results, Tryz.results13, go_sem, a0, a1, a2, a3, a4, a5, a6, a7, r0, r1, r2, r3, r4, r5]) rfl ⟨rfl, ext0_belowS HF.out.e⟩
theorem c_gvTouch (hx : x.id ≠ 0) (hal : epAlive x.dies x.gen ep = true) (e0 : 0 ≤ ep) (e1 : ep ≤ 18446744073709551615) (hv : c.verb = 8) (x0 : -9223372036854775808 ≤ c.exp) (x1 : c.exp ≤ 9223372036854775807) :
 ∀ y : It, y = { x with dies := epDies ep c.exp } → Calls Tryz.prog 13 #[clV c, itV x, .int .u64 ep, .int .u64 id] w fun e w' => e = .returned (.tuple #[ansV (7) (0), itV y, .int .u64 0]) ∧ Below w.heap.size w w' := by
 intro y hy
 obtain ⟨G, h0⟩ := GvS.new w c x
 obtain ⟨W0, hW0⟩ : ∃ W, W = (((w.alloc (.cells (clCs c).toArray 26)).alloc (.cells (itCs x).toArray 34)).alloc (.cells (aCs 0 0).toArray 36)).alloc (.cells (itCs it00).toArray 34) := ⟨_, rfl⟩
 rw [← hW0] at h0
 have HAL := Lib.hid (fun W => c_Alive x.key x.val x.fl x.id x.dies x.gen ep W e0 e1)
 rw [hal] at HAL
 have d0 : (x.id == 0) = false := by simpa using hx
 obtain ⟨ri, hri⟩ : ∃ n, n = w.heap.size + 1 + 1 + 1 := ⟨_, rfl⟩
 obtain ⟨ra, hra⟩ : ∃ n, n = w.heap.size + 1 + 1 := ⟨_, rfl⟩
 obtain ⟨bw, hbw⟩ : ∃ n, n = w.heap.size + 1 := ⟨_, rfl⟩
 obtain ⟨bc, hbc⟩ : ∃ n, n = w.heap.size := ⟨_, rfl⟩
 rw [← hri, ← hra, ← hbw, ← hbc] at h0
 have HW := Lib.hid h0
 clear h0 hx hal
 have D7 : (c.verb == 7) = false := by simp [hv]
 have D8 : (c.verb == 8) = true := by simp [hv]
 have HD := Lib.hid (fun W => c_Dies ep c.exp W e0 e1 x0 x1)
 have HY := Lib.hid (fun (W : World) (G : Om) (an nu : Int) (u : It) (h : GvS w W G bc bw ra ri c x an nu u) => h.setI (z := y) 4 (.int .i64 (epDies ep c.exp)) (by rw [hy]; rfl) (by decide))
 obtain ⟨di, hdi⟩ : ∃ d, d = epDies ep c.exp := ⟨_, rfl⟩
 rw [← hdi] at HD HY
 clear hy hdi hv
 unfold clCs itCs aCs it00 at hW0
 dsimp only at hW0
 have n1 : ¬ bw = ra := fun e => by have h1 := HW.out.i.o; have h2 := HW.out.a.o; rw [e, h2] at h1; cases h1
 have n2 : ¬ bw = ri := fun e => by have h1 := HW.out.i.o; have h2 := HW.out.r.o; rw [e, h2] at h1; cases h1
 have n3 : ¬ ra = ri := fun e => by have h1 := HW.out.a.o; have h2 := HW.out.r.o; rw [e, h2] at h1; cases h1
 have n4 : ¬ ra = bw := fun e => n1 e.symm
 have n5 : ¬ ri = bw := fun e => n2 e.symm
 have n6 : ¬ ri = ra := fun e => n3 e.symm
 unfold clV itV ansV
 go_enter Tryz.func13, Tryz.ntmps13
 go_upto_region 1 with fail
 rw [← hW0, ← hri, ← hra, ← hbw, ← hbc]
 clear hW0 hri hra hbw hbc
 have i0 := HW.out.i.c 0 _ rfl
 have i1 := HW.out.i.c 1 _ rfl
 have i2 := HW.out.i.c 2 _ rfl
 have i3 := HW.out.i.c 3 _ rfl
 have i4 := HW.out.i.c 4 _ rfl
 have i5 := HW.out.i.c 5 _ rfl
 have c0 := HW.out.c.c 0 _ rfl
 have c1 := HW.out.c.c 1 _ rfl
 have c2 := HW.out.c.c 2 _ rfl
 have c3 := HW.out.c.c 3 _ rfl
 have c4 := HW.out.c.c 4 _ rfl
 have c5 := HW.out.c.c 5 _ rfl
 have c6 := HW.out.c.c 6 _ rfl
 go_wp2_with fail
 refine (HAL.out _).mono ?_
 rintro e w2 ⟨rfl, hb2⟩
 have HW2 := Lib.hid (HW.out.below hb2)
 clear hb2 HW i0 i1 i2 i3 i4 i5 c0 c1 c2 c3 c4 c5 c6
 have i0 := HW2.out.i.c 0 _ rfl
 have i1 := HW2.out.i.c 1 _ rfl
 have i2 := HW2.out.i.c 2 _ rfl
 have i3 := HW2.out.i.c 3 _ rfl
 have i4 := HW2.out.i.c 4 _ rfl
 have i5 := HW2.out.i.c 5 _ rfl
 have c0 := HW2.out.c.c 0 _ rfl
 have c1 := HW2.out.c.c 1 _ rfl
 have c2 := HW2.out.c.c 2 _ rfl
 have c3 := HW2.out.c.c 3 _ rfl
 have c4 := HW2.out.c.c 4 _ rfl
 have c5 := HW2.out.c.c 5 _ rfl
 have c6 := HW2.out.c.c 6 _ rfl
 go_wp2_with fail
 refine (HD.out _).mono ?_
 rintro e w3 ⟨rfl, hb3⟩
 have h3 := HW2.out.below hb3
 have i4 := h3.i.c 4 _ rfl
 have fi4 := h3.i.f 4
 have HW3 := Lib.hid (HY.out _ _ _ _ _ h3)
 clear hb3 h3 HW2 HY HD i0 i1 i2 i3 i5 c0 c1 c2 c3 c4 c5 c6
 go_upto_region 8 with fail
 have HE1 := Lib.hid (((HW3.out.setA (7) (0)).setR y).below (drew_below _))
 have HE2 := Lib.hid (((HW3.out.setR y).setA (7) (0)).below (drew_below _))
 have i0 := HW3.out.i.c 0 _ rfl
 have i1 := HW3.out.i.c 1 _ rfl
 have i2 := HW3.out.i.c 2 _ rfl
 have i3 := HW3.out.i.c 3 _ rfl
 have i4 := HW3.out.i.c 4 _ rfl
 have i5 := HW3.out.i.c 5 _ rfl
 have a0 := HW3.out.a.c 0 _ rfl
 have fa0 := HW3.out.a.f 0
 have a1 := HW3.out.a.c 1 _ rfl
 have fa1 := HW3.out.a.f 1
 have a2 := HW3.out.a.c 2 _ rfl
 have fa2 := HW3.out.a.f 2
 have a3 := HW3.out.a.c 3 _ rfl
 have fa3 := HW3.out.a.f 3
 have a4 := HW3.out.a.c 4 _ rfl
 have fa4 := HW3.out.a.f 4
 have a5 := HW3.out.a.c 5 _ rfl
 have fa5 := HW3.out.a.f 5
 have a6 := HW3.out.a.c 6 _ rfl
 have fa6 := HW3.out.a.f 6
 have a7 := HW3.out.a.c 7 _ rfl
 have fa7 := HW3.out.a.f 7
 have r0 := HW3.out.r.c 0 _ rfl
 have fr0 := HW3.out.r.f 0
 have r1 := HW3.out.r.c 1 _ rfl
 have fr1 := HW3.out.r.f 1
 have r2 := HW3.out.r.c 2 _ rfl
 have fr2 := HW3.out.r.f 2
 have r3 := HW3.out.r.c 3 _ rfl
 have fr3 := HW3.out.r.f 3
 have r4 := HW3.out.r.c 4 _ rfl
 have fr4 := HW3.out.r.f 4
 have r5 := HW3.out.r.c 5 _ rfl
 have fr5 := HW3.out.r.f 5
 go_cut [10] (fun v wx => v = .int .u64 0 ∧ ∃ G, GvS w wx G bc bw ra ri c y (7) (0) y)
 case first =>
  go_region_held3 (fun w' => w'.cell? ⟨bw, 0, none⟩ = some (.string y.key) ∧ w'.cell? ⟨bw, 1, none⟩ = some (.string y.val) ∧ w'.cell? ⟨bw, 2, none⟩ = some (.int .u32 y.fl) ∧ w'.cell? ⟨bw, 3, none⟩ = some (.int .u64 y.id) ∧ w'.cell? ⟨bw, 4, none⟩ = some (.int .i64 y.dies) ∧ w'.cell? ⟨bw, 5, none⟩ = some (.int .i64 y.gen)) (go_keep)
   (fail)
  all_goals
   go_wp2_with fail
   go_meet
   first
    | with_reducible exact ⟨rfl, _, HE1.out⟩
    | with_reducible exact ⟨rfl, _, HE2.out⟩
 obtain ⟨rfl, G9, h9⟩ := hcut
 clear i0 i1 i2 i3 i4 i5 a0 a1 a2 a3 a4 a5 a6 a7 fa0 fa1 fa2 fa3 fa4 fa5 fa6 fa7 r0 r1 r2 r3 r4 r5 fr0 fr1 fr2 fr3 fr4 fr5
 have HF := Lib.hid h9
 have a0 := h9.a.c 0 _ rfl
 have a1 := h9.a.c 1 _ rfl
 have a2 := h9.a.c 2 _ rfl
 have a3 := h9.a.c 3 _ rfl
 have a4 := h9.a.c 4 _ rfl
 have a5 := h9.a.c 5 _ rfl
 have a6 := h9.a.c 6 _ rfl
 have a7 := h9.a.c 7 _ rfl
 have r0 := h9.r.c 0 _ rfl
 have r1 := h9.r.c 1 _ rfl
 have r2 := h9.r.c 2 _ rfl
 have r3 := h9.r.c 3 _ rfl
 have r4 := h9.r.c 4 _ rfl
 have r5 := h9.r.c 5 _ rfl
 clear h9
 go_wp2_with fail
 exact bodyPost_ret (v := .tuple #[.agg #[.int .u8 (7), .int .u64 (0), .string ⟨#[]⟩, .string ⟨#[]⟩, .int .u32 0, .int .u64 0, .int .i64 0, .int .i64 0], .agg #[.string y.key, .string y.val, .int .u32 y.fl, .int .u64 y.id, .int .i64 y.dies, .int .i64 y.gen], .int .u64 0]) (by simp [results, Tryz.results13, go_sem, a0, a1, a2, a3, a4, a5, a6, a7, r0, r1, r2, r3, r4, r5]) rfl ⟨rfl, ext0_belowS HF.out.e⟩
theorem c_gvNo (hx : x.id ≠ 0) (hal : epAlive x.dies x.gen ep = true) (e0 : 0 ≤ ep) (e1 : ep ≤ 18446744073709551615) (D7 : (c.verb == 7) = false) (D8 : (c.verb == 8) = false) (hp : nuParse x.val = none) (hvl : x.val.size ≤ maxLen) (hV : Va w OZ) :
 Calls Tryz.prog 13 #[clV c, itV x, .int .u64 ep, .int .u64 id] w fun e w' => e = .returned (.tuple #[ansV (9) (0), itV x, .int .u64 0]) ∧ Below w.heap.size w w' := by
 obtain ⟨G, h0⟩ := GvS.new w c x
 obtain ⟨W0, hW0⟩ : ∃ W, W = (((w.alloc (.cells (clCs c).toArray 26)).alloc (.cells (itCs x).toArray 34)).alloc (.cells (aCs 0 0).toArray 36)).alloc (.cells (itCs it00).toArray 34) := ⟨_, rfl⟩
 rw [← hW0] at h0
 have HAL := Lib.hid (fun W => c_Alive x.key x.val x.fl x.id x.dies x.gen ep W e0 e1)
 rw [hal] at HAL
 have d0 : (x.id == 0) = false := by simpa using hx
 obtain ⟨ri, hri⟩ : ∃ n, n = w.heap.size + 1 + 1 + 1 := ⟨_, rfl⟩
 obtain ⟨ra, hra⟩ : ∃ n, n = w.heap.size + 1 + 1 := ⟨_, rfl⟩
 obtain ⟨bw, hbw⟩ : ∃ n, n = w.heap.size + 1 := ⟨_, rfl⟩
 obtain ⟨bc, hbc⟩ : ∃ n, n = w.heap.size := ⟨_, rfl⟩
 rw [← hri, ← hra, ← hbw, ← hbc] at h0
 have HW := Lib.hid h0
 clear h0 hx hal
 have HPA := Lib.hid (fun (W : World) (V : Va W G) => c_nuParse x.val hvl V)
 rw [hp] at HPA
 have HV := Lib.hid (hV.ext HW.out.e)
 clear hp hV
 unfold clCs itCs aCs it00 at hW0
 dsimp only at hW0
 have n1 : ¬ bw = ra := fun e => by have h1 := HW.out.i.o; have h2 := HW.out.a.o; rw [e, h2] at h1; cases h1
 have n2 : ¬ bw = ri := fun e => by have h1 := HW.out.i.o; have h2 := HW.out.r.o; rw [e, h2] at h1; cases h1
 have n3 : ¬ ra = ri := fun e => by have h1 := HW.out.a.o; have h2 := HW.out.r.o; rw [e, h2] at h1; cases h1
 have n4 : ¬ ra = bw := fun e => n1 e.symm
 have n5 : ¬ ri = bw := fun e => n2 e.symm
 have n6 : ¬ ri = ra := fun e => n3 e.symm
 unfold clV itV ansV
 go_enter Tryz.func13, Tryz.ntmps13
 go_upto_region 1 with fail
 rw [← hW0, ← hri, ← hra, ← hbw, ← hbc]
 clear hW0 hri hra hbw hbc
 have i0 := HW.out.i.c 0 _ rfl
 have i1 := HW.out.i.c 1 _ rfl
 have i2 := HW.out.i.c 2 _ rfl
 have i3 := HW.out.i.c 3 _ rfl
 have i4 := HW.out.i.c 4 _ rfl
 have i5 := HW.out.i.c 5 _ rfl
 have c0 := HW.out.c.c 0 _ rfl
 have c1 := HW.out.c.c 1 _ rfl
 have c2 := HW.out.c.c 2 _ rfl
 have c3 := HW.out.c.c 3 _ rfl
 have c4 := HW.out.c.c 4 _ rfl
 have c5 := HW.out.c.c 5 _ rfl
 have c6 := HW.out.c.c 6 _ rfl
 go_wp2_with fail
 refine (HAL.out _).mono ?_
 rintro e w2 ⟨rfl, hb2⟩
 have HW2 := Lib.hid (HW.out.below hb2)
 have HV2 := Lib.hid (HV.out.below hb2)
 clear HV hb2 HW i0 i1 i2 i3 i4 i5 c0 c1 c2 c3 c4 c5 c6
 have i0 := HW2.out.i.c 0 _ rfl
 have i1 := HW2.out.i.c 1 _ rfl
 have i2 := HW2.out.i.c 2 _ rfl
 have i3 := HW2.out.i.c 3 _ rfl
 have i4 := HW2.out.i.c 4 _ rfl
 have i5 := HW2.out.i.c 5 _ rfl
 have c0 := HW2.out.c.c 0 _ rfl
 have c1 := HW2.out.c.c 1 _ rfl
 have c2 := HW2.out.c.c 2 _ rfl
 have c3 := HW2.out.c.c 3 _ rfl
 have c4 := HW2.out.c.c 4 _ rfl
 have c5 := HW2.out.c.c 5 _ rfl
 have c6 := HW2.out.c.c 6 _ rfl
 go_wp2_with fail
 refine (HPA.out _ HV2.out).mono ?_
 rintro e w3 ⟨rfl, hb3⟩
 have HW3 := Lib.hid (HW2.out.below hb3)
 clear hb3 HW2 HPA i0 i1 i2 i3 i4 i5 c0 c1 c2 c3 c4 c5 c6
 go_upto_region 11 with fail
 have HE1 := Lib.hid (((HW3.out.setA (9) (0)).setR x).below (drew_below _))
 have HE2 := Lib.hid (((HW3.out.setR x).setA (9) (0)).below (drew_below _))
 have i0 := HW3.out.i.c 0 _ rfl
 have i1 := HW3.out.i.c 1 _ rfl
 have i2 := HW3.out.i.c 2 _ rfl
 have i3 := HW3.out.i.c 3 _ rfl
 have i4 := HW3.out.i.c 4 _ rfl
 have i5 := HW3.out.i.c 5 _ rfl
 have a0 := HW3.out.a.c 0 _ rfl
 have fa0 := HW3.out.a.f 0
 have a1 := HW3.out.a.c 1 _ rfl
 have fa1 := HW3.out.a.f 1
 have a2 := HW3.out.a.c 2 _ rfl
 have fa2 := HW3.out.a.f 2
 have a3 := HW3.out.a.c 3 _ rfl
 have fa3 := HW3.out.a.f 3
 have a4 := HW3.out.a.c 4 _ rfl
 have fa4 := HW3.out.a.f 4
 have a5 := HW3.out.a.c 5 _ rfl
 have fa5 := HW3.out.a.f 5
 have a6 := HW3.out.a.c 6 _ rfl
 have fa6 := HW3.out.a.f 6
 have a7 := HW3.out.a.c 7 _ rfl
 have fa7 := HW3.out.a.f 7
 have r0 := HW3.out.r.c 0 _ rfl
 have fr0 := HW3.out.r.f 0
 have r1 := HW3.out.r.c 1 _ rfl
 have fr1 := HW3.out.r.f 1
 have r2 := HW3.out.r.c 2 _ rfl
 have fr2 := HW3.out.r.f 2
 have r3 := HW3.out.r.c 3 _ rfl
 have fr3 := HW3.out.r.f 3
 have r4 := HW3.out.r.c 4 _ rfl
 have fr4 := HW3.out.r.f 4
 have r5 := HW3.out.r.c 5 _ rfl
 have fr5 := HW3.out.r.f 5
 go_cut [10] (fun v wx => v = .int .u64 0 ∧ ∃ G, GvS w wx G bc bw ra ri c x (9) (0) x)
 case first =>
  go_region_held3 (fun w' => w'.cell? ⟨bw, 0, none⟩ = some (.string x.key) ∧ w'.cell? ⟨bw, 1, none⟩ = some (.string x.val) ∧ w'.cell? ⟨bw, 2, none⟩ = some (.int .u32 x.fl) ∧ w'.cell? ⟨bw, 3, none⟩ = some (.int .u64 x.id) ∧ w'.cell? ⟨bw, 4, none⟩ = some (.int .i64 x.dies) ∧ w'.cell? ⟨bw, 5, none⟩ = some (.int .i64 x.gen)) (go_keep)
   (fail)
  all_goals
   go_wp2_with fail
   go_meet
   first
    | with_reducible exact ⟨rfl, _, HE1.out⟩
    | with_reducible exact ⟨rfl, _, HE2.out⟩
 obtain ⟨rfl, G9, h9⟩ := hcut
 clear i0 i1 i2 i3 i4 i5 a0 a1 a2 a3 a4 a5 a6 a7 fa0 fa1 fa2 fa3 fa4 fa5 fa6 fa7 r0 r1 r2 r3 r4 r5 fr0 fr1 fr2 fr3 fr4 fr5
 have HF := Lib.hid h9
 have a0 := h9.a.c 0 _ rfl
 have a1 := h9.a.c 1 _ rfl
 have a2 := h9.a.c 2 _ rfl
 have a3 := h9.a.c 3 _ rfl
 have a4 := h9.a.c 4 _ rfl
 have a5 := h9.a.c 5 _ rfl
 have a6 := h9.a.c 6 _ rfl
 have a7 := h9.a.c 7 _ rfl
 have r0 := h9.r.c 0 _ rfl
 have r1 := h9.r.c 1 _ rfl
 have r2 := h9.r.c 2 _ rfl
 have r3 := h9.r.c 3 _ rfl
 have r4 := h9.r.c 4 _ rfl
 have r5 := h9.r.c 5 _ rfl
 clear h9
 go_wp2_with fail
 exact bodyPost_ret (v := .tuple #[.agg #[.int .u8 (9), .int .u64 (0), .string ⟨#[]⟩, .string ⟨#[]⟩, .int .u32 0, .int .u64 0, .int .i64 0, .int .i64 0], .agg #[.string x.key, .string x.val, .int .u32 x.fl, .int .u64 x.id, .int .i64 x.dies, .int .i64 x.gen], .int .u64 0]) (by simp [results, Tryz.results13, go_sem, a0, a1, a2, a3, a4, a5, a6, a7, r0, r1, r2, r3, r4, r5]) rfl ⟨rfl, ext0_belowS HF.out.e⟩
theorem c_gvUp (hx : x.id ≠ 0) (hal : epAlive x.dies x.gen ep = true) (e0 : 0 ≤ ep) (e1 : ep ≤ 18446744073709551615) (D7 : (c.verb == 7) = false) (D8 : (c.verb == 8) = false) (D9 : (c.verb == 9) = true) (u m : Int) (hp : nuParse x.val = some u) (hBY : ∀ W, Calls Tryz.prog 39 #[.int .u64 u, .int .u64 c.by_] W fun e w' => e = .returned (.int .u64 m) ∧ W = w') (m0 : 0 ≤ m) (m1 : m < 18446744073709551616) (hvl : x.val.size ≤ maxLen) (hV : Va w OZ) :
 ∀ y : It, y = { x with val := nuText m, id := id } → Calls Tryz.prog 13 #[clV c, itV x, .int .u64 ep, .int .u64 id] w fun e w' => e = .returned (.tuple #[ansV (8) (m), itV y, .int .u64 1]) ∧ Below w.heap.size w w' := by
 intro y hy
 obtain ⟨G, h0⟩ := GvS.new w c x
 obtain ⟨W0, hW0⟩ : ∃ W, W = (((w.alloc (.cells (clCs c).toArray 26)).alloc (.cells (itCs x).toArray 34)).alloc (.cells (aCs 0 0).toArray 36)).alloc (.cells (itCs it00).toArray 34) := ⟨_, rfl⟩
 rw [← hW0] at h0
 have HAL := Lib.hid (fun W => c_Alive x.key x.val x.fl x.id x.dies x.gen ep W e0 e1)
 rw [hal] at HAL
 have d0 : (x.id == 0) = false := by simpa using hx
 obtain ⟨ri, hri⟩ : ∃ n, n = w.heap.size + 1 + 1 + 1 := ⟨_, rfl⟩
 obtain ⟨ra, hra⟩ : ∃ n, n = w.heap.size + 1 + 1 := ⟨_, rfl⟩
 obtain ⟨bw, hbw⟩ : ∃ n, n = w.heap.size + 1 := ⟨_, rfl⟩
 obtain ⟨bc, hbc⟩ : ∃ n, n = w.heap.size := ⟨_, rfl⟩
 rw [← hri, ← hra, ← hbw, ← hbc] at h0
 have HW := Lib.hid h0
 clear h0 hx hal
 have HPA := Lib.hid (fun (W : World) (V : Va W G) => c_nuParse x.val hvl V)
 rw [hp] at HPA
 have HTX := Lib.hid (fun (W : World) (V : Va W G) => c_nuText m m0 m1 V)
 have HBY := Lib.hid hBY
 obtain ⟨y1, hy1⟩ : ∃ y1 : It, y1 = { x with id := id } := ⟨_, rfl⟩
 have HI := Lib.hid (fun (W : World) (an nu : Int) (v : It) (h : GvS w W G bc bw ra ri c x an nu v) => h.setI (z := y1) 3 (.int .u64 id) (by rw [hy1]; rfl) (by decide))
 have HY := Lib.hid (fun (W : World) (an nu : Int) (v : It) (h : GvS w W G bc bw ra ri c y1 an nu v) => h.setI (z := y) 1 (.string (nuText m)) (by rw [hy, hy1]; rfl) (by decide))
 obtain ⟨tx, htx⟩ : ∃ d, d = nuText m := ⟨_, rfl⟩
 rw [← htx] at HTX HY
 have HV := Lib.hid (hV.ext HW.out.e)
 clear hp hV hBY m0 m1 hy hy1 htx
 unfold clCs itCs aCs it00 at hW0
 dsimp only at hW0
 have n1 : ¬ bw = ra := fun e => by have h1 := HW.out.i.o; have h2 := HW.out.a.o; rw [e, h2] at h1; cases h1
 have n2 : ¬ bw = ri := fun e => by have h1 := HW.out.i.o; have h2 := HW.out.r.o; rw [e, h2] at h1; cases h1
 have n3 : ¬ ra = ri := fun e => by have h1 := HW.out.a.o; have h2 := HW.out.r.o; rw [e, h2] at h1; cases h1
 have n4 : ¬ ra = bw := fun e => n1 e.symm
 have n5 : ¬ ri = bw := fun e => n2 e.symm
 have n6 : ¬ ri = ra := fun e => n3 e.symm
 unfold clV itV ansV
 go_enter Tryz.func13, Tryz.ntmps13
 go_upto_region 1 with fail
 rw [← hW0, ← hri, ← hra, ← hbw, ← hbc]
 clear hW0 hri hra hbw hbc
 have i0 := HW.out.i.c 0 _ rfl
 have i1 := HW.out.i.c 1 _ rfl
 have i2 := HW.out.i.c 2 _ rfl
 have i3 := HW.out.i.c 3 _ rfl
 have i4 := HW.out.i.c 4 _ rfl
 have i5 := HW.out.i.c 5 _ rfl
 have c0 := HW.out.c.c 0 _ rfl
 have c1 := HW.out.c.c 1 _ rfl
 have c2 := HW.out.c.c 2 _ rfl
 have c3 := HW.out.c.c 3 _ rfl
 have c4 := HW.out.c.c 4 _ rfl
 have c5 := HW.out.c.c 5 _ rfl
 have c6 := HW.out.c.c 6 _ rfl
 go_wp2_with fail
 refine (HAL.out _).mono ?_
 rintro e w2 ⟨rfl, hb2⟩
 have HW2 := Lib.hid (HW.out.below hb2)
 have HV2 := Lib.hid (HV.out.below hb2)
 clear HV hb2 HW i0 i1 i2 i3 i4 i5 c0 c1 c2 c3 c4 c5 c6
 have i0 := HW2.out.i.c 0 _ rfl
 have i1 := HW2.out.i.c 1 _ rfl
 have i2 := HW2.out.i.c 2 _ rfl
 have i3 := HW2.out.i.c 3 _ rfl
 have i4 := HW2.out.i.c 4 _ rfl
 have i5 := HW2.out.i.c 5 _ rfl
 have c0 := HW2.out.c.c 0 _ rfl
 have c1 := HW2.out.c.c 1 _ rfl
 have c2 := HW2.out.c.c 2 _ rfl
 have c3 := HW2.out.c.c 3 _ rfl
 have c4 := HW2.out.c.c 4 _ rfl
 have c5 := HW2.out.c.c 5 _ rfl
 have c6 := HW2.out.c.c 6 _ rfl
 go_wp2_with fail
 refine (HPA.out _ HV2.out).mono ?_
 rintro e w3 ⟨rfl, hb3⟩
 have h3 := HW2.out.below hb3
 clear i0 i1 i2 i3 i4 i5 c0 c1 c2 c3 c4 c5 c6
 have c0 := h3.c.c 0 _ rfl
 have c6 := h3.c.c 6 _ rfl
 have i3 := h3.i.c 3 _ rfl
 have fi3 := h3.i.f 3
 have HV3 := Lib.hid (HV2.out.below hb3)
 have HW3 := Lib.hid h3
 clear hb3 h3 HW2 HV2 HPA
 go_wp2_with fail
 refine (HBY.out _).mono ?_
 rintro e w4 ⟨rfl, rfl⟩
 have h4 := HI.out _ _ _ _ HW3.out
 have hc := (HW3.out.e.hi)
 have V4 := HV3.out.ext (Ext.of_set (j := 3) (v := .int .u64 id) (S := fun t => t = 10) HW3.out.e.hi HW3.out.i.o (by omega) rfl)
 have HTT := Lib.hid (HTX.out _ V4)
 have HW4 := Lib.hid h4
 clear h4 hc V4 HW3 HV3 HI HTX HBY c0 c6
 go_wp2_with fail
 refine HTT.out.mono ?_
 rintro e w5 ⟨rfl, hb5⟩
 have h5 := HW4.out.below hb5
 have i1 := h5.i.c 1 _ rfl
 have fi1 := h5.i.f 1
 have HW5 := Lib.hid (HY.out _ _ _ _ h5)
 clear hb5 h5 HW4 HY HTT i3 fi3
 go_upto_region 17 with fail
 have HE1 := Lib.hid (((HW5.out.setA (8) (m)).setR y).below (drew_below _))
 have HE2 := Lib.hid (((HW5.out.setR y).setA (8) (m)).below (drew_below _))
 have i0 := HW5.out.i.c 0 _ rfl
 have i1 := HW5.out.i.c 1 _ rfl
 have i2 := HW5.out.i.c 2 _ rfl
 have i3 := HW5.out.i.c 3 _ rfl
 have i4 := HW5.out.i.c 4 _ rfl
 have i5 := HW5.out.i.c 5 _ rfl
 have a0 := HW5.out.a.c 0 _ rfl
 have fa0 := HW5.out.a.f 0
 have a1 := HW5.out.a.c 1 _ rfl
 have fa1 := HW5.out.a.f 1
 have a2 := HW5.out.a.c 2 _ rfl
 have fa2 := HW5.out.a.f 2
 have a3 := HW5.out.a.c 3 _ rfl
 have fa3 := HW5.out.a.f 3
 have a4 := HW5.out.a.c 4 _ rfl
 have fa4 := HW5.out.a.f 4
 have a5 := HW5.out.a.c 5 _ rfl
 have fa5 := HW5.out.a.f 5
 have a6 := HW5.out.a.c 6 _ rfl
 have fa6 := HW5.out.a.f 6
 have a7 := HW5.out.a.c 7 _ rfl
 have fa7 := HW5.out.a.f 7
 have r0 := HW5.out.r.c 0 _ rfl
 have fr0 := HW5.out.r.f 0
 have r1 := HW5.out.r.c 1 _ rfl
 have fr1 := HW5.out.r.f 1
 have r2 := HW5.out.r.c 2 _ rfl
 have fr2 := HW5.out.r.f 2
 have r3 := HW5.out.r.c 3 _ rfl
 have fr3 := HW5.out.r.f 3
 have r4 := HW5.out.r.c 4 _ rfl
 have fr4 := HW5.out.r.f 4
 have r5 := HW5.out.r.c 5 _ rfl
 have fr5 := HW5.out.r.f 5
 go_cut [10] (fun v wx => v = .int .u64 1 ∧ ∃ G, GvS w wx G bc bw ra ri c y (8) (m) y)
 case first =>
  go_region_held3 (fun w' => w'.cell? ⟨bw, 0, none⟩ = some (.string y.key) ∧ w'.cell? ⟨bw, 1, none⟩ = some (.string y.val) ∧ w'.cell? ⟨bw, 2, none⟩ = some (.int .u32 y.fl) ∧ w'.cell? ⟨bw, 3, none⟩ = some (.int .u64 y.id) ∧ w'.cell? ⟨bw, 4, none⟩ = some (.int .i64 y.dies) ∧ w'.cell? ⟨bw, 5, none⟩ = some (.int .i64 y.gen)) (go_keep)
   (fail)
  all_goals
   go_wp2_with fail
   go_meet
   first
    | with_reducible exact ⟨rfl, _, HE1.out⟩
    | with_reducible exact ⟨rfl, _, HE2.out⟩
 obtain ⟨rfl, G9, h9⟩ := hcut
 clear i0 i1 i2 i3 i4 i5 a0 a1 a2 a3 a4 a5 a6 a7 fa0 fa1 fa2 fa3 fa4 fa5 fa6 fa7 r0 r1 r2 r3 r4 r5 fr0 fr1 fr2 fr3 fr4 fr5
 have HF := Lib.hid h9
 have a0 := h9.a.c 0 _ rfl
 have a1 := h9.a.c 1 _ rfl
 have a2 := h9.a.c 2 _ rfl
 have a3 := h9.a.c 3 _ rfl
 have a4 := h9.a.c 4 _ rfl
 have a5 := h9.a.c 5 _ rfl
 have a6 := h9.a.c 6 _ rfl
 have a7 := h9.a.c 7 _ rfl
 have r0 := h9.r.c 0 _ rfl
 have r1 := h9.r.c 1 _ rfl
 have r2 := h9.r.c 2 _ rfl
 have r3 := h9.r.c 3 _ rfl
 have r4 := h9.r.c 4 _ rfl
 have r5 := h9.r.c 5 _ rfl
 clear h9
 go_wp2_with fail
 exact bodyPost_ret (v := .tuple #[.agg #[.int .u8 (8), .int .u64 (m), .string ⟨#[]⟩, .string ⟨#[]⟩, .int .u32 0, .int .u64 0, .int .i64 0, .int .i64 0], .agg #[.string y.key, .string y.val, .int .u32 y.fl, .int .u64 y.id, .int .i64 y.dies, .int .i64 y.gen], .int .u64 1]) (by simp [results, Tryz.results13, go_sem, a0, a1, a2, a3, a4, a5, a6, a7, r0, r1, r2, r3, r4, r5]) rfl ⟨rfl, ext0_belowS HF.out.e⟩
theorem c_gvDown (hx : x.id ≠ 0) (hal : epAlive x.dies x.gen ep = true) (e0 : 0 ≤ ep) (e1 : ep ≤ 18446744073709551615) (D7 : (c.verb == 7) = false) (D8 : (c.verb == 8) = false) (D9 : (c.verb == 9) = false) (u m : Int) (hp : nuParse x.val = some u) (hBY : ∀ W, Calls Tryz.prog 40 #[.int .u64 u, .int .u64 c.by_] W fun e w' => e = .returned (.int .u64 m) ∧ W = w') (m0 : 0 ≤ m) (m1 : m < 18446744073709551616) (hvl : x.val.size ≤ maxLen) (hV : Va w OZ) :
 ∀ y : It, y = { x with val := nuText m, id := id } → Calls Tryz.prog 13 #[clV c, itV x, .int .u64 ep, .int .u64 id] w fun e w' => e = .returned (.tuple #[ansV (8) (m), itV y, .int .u64 1]) ∧ Below w.heap.size w w' := by
 intro y hy
 obtain ⟨G, h0⟩ := GvS.new w c x
 obtain ⟨W0, hW0⟩ : ∃ W, W = (((w.alloc (.cells (clCs c).toArray 26)).alloc (.cells (itCs x).toArray 34)).alloc (.cells (aCs 0 0).toArray 36)).alloc (.cells (itCs it00).toArray 34) := ⟨_, rfl⟩
 rw [← hW0] at h0
 have HAL := Lib.hid (fun W => c_Alive x.key x.val x.fl x.id x.dies x.gen ep W e0 e1)
 rw [hal] at HAL
 have d0 : (x.id == 0) = false := by simpa using hx
 obtain ⟨ri, hri⟩ : ∃ n, n = w.heap.size + 1 + 1 + 1 := ⟨_, rfl⟩
 obtain ⟨ra, hra⟩ : ∃ n, n = w.heap.size + 1 + 1 := ⟨_, rfl⟩
 obtain ⟨bw, hbw⟩ : ∃ n, n = w.heap.size + 1 := ⟨_, rfl⟩
 obtain ⟨bc, hbc⟩ : ∃ n, n = w.heap.size := ⟨_, rfl⟩
 rw [← hri, ← hra, ← hbw, ← hbc] at h0
 have HW := Lib.hid h0
 clear h0 hx hal
 have HPA := Lib.hid (fun (W : World) (V : Va W G) => c_nuParse x.val hvl V)
 rw [hp] at HPA
 have HTX := Lib.hid (fun (W : World) (V : Va W G) => c_nuText m m0 m1 V)
 have HBY := Lib.hid hBY
 obtain ⟨y1, hy1⟩ : ∃ y1 : It, y1 = { x with id := id } := ⟨_, rfl⟩
 have HI := Lib.hid (fun (W : World) (an nu : Int) (v : It) (h : GvS w W G bc bw ra ri c x an nu v) => h.setI (z := y1) 3 (.int .u64 id) (by rw [hy1]; rfl) (by decide))
 have HY := Lib.hid (fun (W : World) (an nu : Int) (v : It) (h : GvS w W G bc bw ra ri c y1 an nu v) => h.setI (z := y) 1 (.string (nuText m)) (by rw [hy, hy1]; rfl) (by decide))
 obtain ⟨tx, htx⟩ : ∃ d, d = nuText m := ⟨_, rfl⟩
 rw [← htx] at HTX HY
 have HV := Lib.hid (hV.ext HW.out.e)
 clear hp hV hBY m0 m1 hy hy1 htx
 unfold clCs itCs aCs it00 at hW0
 dsimp only at hW0
 have n1 : ¬ bw = ra := fun e => by have h1 := HW.out.i.o; have h2 := HW.out.a.o; rw [e, h2] at h1; cases h1
 have n2 : ¬ bw = ri := fun e => by have h1 := HW.out.i.o; have h2 := HW.out.r.o; rw [e, h2] at h1; cases h1
 have n3 : ¬ ra = ri := fun e => by have h1 := HW.out.a.o; have h2 := HW.out.r.o; rw [e, h2] at h1; cases h1
 have n4 : ¬ ra = bw := fun e => n1 e.symm
 have n5 : ¬ ri = bw := fun e => n2 e.symm
 have n6 : ¬ ri = ra := fun e => n3 e.symm
 unfold clV itV ansV
 go_enter Tryz.func13, Tryz.ntmps13
 go_upto_region 1 with fail
 rw [← hW0, ← hri, ← hra, ← hbw, ← hbc]
 clear hW0 hri hra hbw hbc
 have i0 := HW.out.i.c 0 _ rfl
 have i1 := HW.out.i.c 1 _ rfl
 have i2 := HW.out.i.c 2 _ rfl
 have i3 := HW.out.i.c 3 _ rfl
 have i4 := HW.out.i.c 4 _ rfl
 have i5 := HW.out.i.c 5 _ rfl
 have c0 := HW.out.c.c 0 _ rfl
 have c1 := HW.out.c.c 1 _ rfl
 have c2 := HW.out.c.c 2 _ rfl
 have c3 := HW.out.c.c 3 _ rfl
 have c4 := HW.out.c.c 4 _ rfl
 have c5 := HW.out.c.c 5 _ rfl
 have c6 := HW.out.c.c 6 _ rfl
 go_wp2_with fail
 refine (HAL.out _).mono ?_
 rintro e w2 ⟨rfl, hb2⟩
 have HW2 := Lib.hid (HW.out.below hb2)
 have HV2 := Lib.hid (HV.out.below hb2)
 clear HV hb2 HW i0 i1 i2 i3 i4 i5 c0 c1 c2 c3 c4 c5 c6
 have i0 := HW2.out.i.c 0 _ rfl
 have i1 := HW2.out.i.c 1 _ rfl
 have i2 := HW2.out.i.c 2 _ rfl
 have i3 := HW2.out.i.c 3 _ rfl
 have i4 := HW2.out.i.c 4 _ rfl
 have i5 := HW2.out.i.c 5 _ rfl
 have c0 := HW2.out.c.c 0 _ rfl
 have c1 := HW2.out.c.c 1 _ rfl
 have c2 := HW2.out.c.c 2 _ rfl
 have c3 := HW2.out.c.c 3 _ rfl
 have c4 := HW2.out.c.c 4 _ rfl
 have c5 := HW2.out.c.c 5 _ rfl
 have c6 := HW2.out.c.c 6 _ rfl
 go_wp2_with fail
 refine (HPA.out _ HV2.out).mono ?_
 rintro e w3 ⟨rfl, hb3⟩
 have h3 := HW2.out.below hb3
 clear i0 i1 i2 i3 i4 i5 c0 c1 c2 c3 c4 c5 c6
 have c0 := h3.c.c 0 _ rfl
 have c6 := h3.c.c 6 _ rfl
 have i3 := h3.i.c 3 _ rfl
 have fi3 := h3.i.f 3
 have HV3 := Lib.hid (HV2.out.below hb3)
 have HW3 := Lib.hid h3
 clear hb3 h3 HW2 HV2 HPA
 go_wp2_with fail
 refine (HBY.out _).mono ?_
 rintro e w4 ⟨rfl, rfl⟩
 have h4 := HI.out _ _ _ _ HW3.out
 have hc := (HW3.out.e.hi)
 have V4 := HV3.out.ext (Ext.of_set (j := 3) (v := .int .u64 id) (S := fun t => t = 10) HW3.out.e.hi HW3.out.i.o (by omega) rfl)
 have HTT := Lib.hid (HTX.out _ V4)
 have HW4 := Lib.hid h4
 clear h4 hc V4 HW3 HV3 HI HTX HBY c0 c6
 go_wp2_with fail
 refine HTT.out.mono ?_
 rintro e w5 ⟨rfl, hb5⟩
 have h5 := HW4.out.below hb5
 have i1 := h5.i.c 1 _ rfl
 have fi1 := h5.i.f 1
 have HW5 := Lib.hid (HY.out _ _ _ _ h5)
 clear hb5 h5 HW4 HY HTT i3 fi3
 go_upto_region 17 with fail
 have HE1 := Lib.hid (((HW5.out.setA (8) (m)).setR y).below (drew_below _))
 have HE2 := Lib.hid (((HW5.out.setR y).setA (8) (m)).below (drew_below _))
 have i0 := HW5.out.i.c 0 _ rfl
 have i1 := HW5.out.i.c 1 _ rfl
 have i2 := HW5.out.i.c 2 _ rfl
 have i3 := HW5.out.i.c 3 _ rfl
 have i4 := HW5.out.i.c 4 _ rfl
 have i5 := HW5.out.i.c 5 _ rfl
 have a0 := HW5.out.a.c 0 _ rfl
 have fa0 := HW5.out.a.f 0
 have a1 := HW5.out.a.c 1 _ rfl
 have fa1 := HW5.out.a.f 1
 have a2 := HW5.out.a.c 2 _ rfl
 have fa2 := HW5.out.a.f 2
 have a3 := HW5.out.a.c 3 _ rfl
 have fa3 := HW5.out.a.f 3
 have a4 := HW5.out.a.c 4 _ rfl
 have fa4 := HW5.out.a.f 4
 have a5 := HW5.out.a.c 5 _ rfl
 have fa5 := HW5.out.a.f 5
 have a6 := HW5.out.a.c 6 _ rfl
 have fa6 := HW5.out.a.f 6
 have a7 := HW5.out.a.c 7 _ rfl
 have fa7 := HW5.out.a.f 7
 have r0 := HW5.out.r.c 0 _ rfl
 have fr0 := HW5.out.r.f 0
 have r1 := HW5.out.r.c 1 _ rfl
 have fr1 := HW5.out.r.f 1
 have r2 := HW5.out.r.c 2 _ rfl
 have fr2 := HW5.out.r.f 2
 have r3 := HW5.out.r.c 3 _ rfl
 have fr3 := HW5.out.r.f 3
 have r4 := HW5.out.r.c 4 _ rfl
 have fr4 := HW5.out.r.f 4
 have r5 := HW5.out.r.c 5 _ rfl
 have fr5 := HW5.out.r.f 5
 go_cut [10] (fun v wx => v = .int .u64 1 ∧ ∃ G, GvS w wx G bc bw ra ri c y (8) (m) y)
 case first =>
  go_region_held3 (fun w' => w'.cell? ⟨bw, 0, none⟩ = some (.string y.key) ∧ w'.cell? ⟨bw, 1, none⟩ = some (.string y.val) ∧ w'.cell? ⟨bw, 2, none⟩ = some (.int .u32 y.fl) ∧ w'.cell? ⟨bw, 3, none⟩ = some (.int .u64 y.id) ∧ w'.cell? ⟨bw, 4, none⟩ = some (.int .i64 y.dies) ∧ w'.cell? ⟨bw, 5, none⟩ = some (.int .i64 y.gen)) (go_keep)
   (fail)
  all_goals
   go_wp2_with fail
   go_meet
   first
    | with_reducible exact ⟨rfl, _, HE1.out⟩
    | with_reducible exact ⟨rfl, _, HE2.out⟩
 obtain ⟨rfl, G9, h9⟩ := hcut
 clear i0 i1 i2 i3 i4 i5 a0 a1 a2 a3 a4 a5 a6 a7 fa0 fa1 fa2 fa3 fa4 fa5 fa6 fa7 r0 r1 r2 r3 r4 r5 fr0 fr1 fr2 fr3 fr4 fr5
 have HF := Lib.hid h9
 have a0 := h9.a.c 0 _ rfl
 have a1 := h9.a.c 1 _ rfl
 have a2 := h9.a.c 2 _ rfl
 have a3 := h9.a.c 3 _ rfl
 have a4 := h9.a.c 4 _ rfl
 have a5 := h9.a.c 5 _ rfl
 have a6 := h9.a.c 6 _ rfl
 have a7 := h9.a.c 7 _ rfl
 have r0 := h9.r.c 0 _ rfl
 have r1 := h9.r.c 1 _ rfl
 have r2 := h9.r.c 2 _ rfl
 have r3 := h9.r.c 3 _ rfl
 have r4 := h9.r.c 4 _ rfl
 have r5 := h9.r.c 5 _ rfl
 clear h9
 go_wp2_with fail
 exact bodyPost_ret (v := .tuple #[.agg #[.int .u8 (8), .int .u64 (m), .string ⟨#[]⟩, .string ⟨#[]⟩, .int .u32 0, .int .u64 0, .int .i64 0, .int .i64 0], .agg #[.string y.key, .string y.val, .int .u32 y.fl, .int .u64 y.id, .int .i64 y.dies, .int .i64 y.gen], .int .u64 1]) (by simp [results, Tryz.results13, go_sem, a0, a1, a2, a3, a4, a5, a6, a7, r0, r1, r2, r3, r4, r5]) rfl ⟨rfl, ext0_belowS HF.out.e⟩
end
end Go.Proofs.YtifkfhnbkjkakaaGreatDoor
