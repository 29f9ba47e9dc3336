/- Layer 26: the chapter's examples. -/
import Derived.Test.YtifkfhnbkjkakaaGreatDoorZrCg9
import Derived.Test.YtifkfhnbkjkakaaGreatDoorZrNuV
namespace Go.Proofs.YtifkfhnbkjkakaaGreatDoor
set_option linter.unusedSimpArgs false
set_option linter.unusedVariables false
set_option maxHeartbeats 8000000
set_option maxRecDepth 100000
open Go.RowKit
def chGd (c : Clm) (s : AW) : Bool := goodN chOver (chStep 3 c) (fun y => chPre c y.1 y.2) 100 (s, chNew)
def vOk (s : AW) : Bool := s.it.all fun y => decide (y.val.size ≤ 100)
def x6 : Clm := ⟨3, kN, ⟨#[120]⟩, 0, 0, 0, 0⟩
theorem xg_xu1 : (stG (xa 3 0 0) (aw0 2) = true ∧ xu1.2.2.ln = 0) ∧ mayB (xa 3 0 0) = true ∧ (xu1.2.2.an = 1 ∧ xu1.2.2.nu = 1) ∧ nOk xu1.2.1 ∧ vOk xu1.2.1 = true := by decide +kernel
theorem xg_xu2 : (chGd (xa 9 0 3) (xu1.2.1) = true ∧ xu2.2.2.ln = 0) ∧ chMay (xa 9 0 3) = true ∧ (xu2.2.2.an = 8 ∧ xu2.2.2.nu = 12) ∧ nOk xu2.2.1 ∧ vOk xu2.2.1 = true := by decide +kernel
theorem xg_xu3 : (chGd (xa 10 0 20) (xu2.2.1) = true ∧ xu3.2.2.ln = 0) ∧ chMay (xa 10 0 20) = true ∧ (xu3.2.2.an = 8 ∧ xu3.2.2.nu = 0) ∧ nOk xu3.2.1 ∧ vOk xu3.2.1 = true := by decide +kernel
theorem xg_xu4 : (chGd (xa 8 (-1) 0) (xu3.2.1) = true ∧ xu4.2.2.ln = 0) ∧ chMay (xa 8 (-1) 0) = true ∧ (xu4.2.2.an = 7 ∧ xu4.2.2.nu = 0) ∧ nOk xu4.2.1 ∧ vOk xu4.2.1 = true := by decide +kernel
theorem xg_xu5 : (chGd (xa 7 0 0) (xu4.2.1) = true ∧ xu5.2.2.ln = 0) ∧ chMay (xa 7 0 0) = true ∧ (xu5.2.2.an = 4 ∧ xu5.2.2.nu = 0) ∧ nOk xu5.2.1 ∧ vOk xu5.2.1 = true := by decide +kernel
theorem xg_xu6 : (stG (x6) (xu5.2.1) = true ∧ xu6.2.2.ln = 0) ∧ mayB (x6) = true ∧ (xu6.2.2.an = 1 ∧ xu6.2.2.nu = 4) ∧ nOk xu6.2.1 ∧ vOk xu6.2.1 = true := by decide +kernel
theorem xg_xu7 : (chGd (xa 9 0 1) (xu6.2.1) = true ∧ xu7.2.2.ln = 0) ∧ chMay (xa 9 0 1) = true ∧ (xu7.2.2.an = 9 ∧ xu7.2.2.nu = 0) ∧ nOk xu7.2.1 ∧ vOk xu7.2.1 = true := by decide +kernel
theorem xg_xu8 : (chGd (xa 7 0 0) (xu7.2.1) = true ∧ xu8.2.2.ln = 0) ∧ chMay (xa 7 0 0) = true ∧ (xu8.2.2.an = 6 ∧ xu8.2.2.nu = 0) ∧ nOk xu8.2.1 ∧ vOk xu8.2.1 = true := by decide +kernel
theorem xg_xu9 : (chGd (xa 7 0 0) (xu8.2.1) = true ∧ xu9.2.2.ln = 0) ∧ chMay (xa 7 0 0) = true ∧ (xu9.2.2.an = 4 ∧ xu9.2.2.nu = 0) ∧ nOk xu9.2.1 ∧ vOk xu9.2.1 = true := by decide +kernel
theorem xg_at : atL kN xu2.2.1 = [2] := by decide +kernel
theorem xg_rec : (itAt xu2.2.1.it 2).key.data = #[110] ∧ (itAt xu2.2.1.it 2).val.data = #[49, 50] ∧ (itAt xu2.2.1.it 2).fl = 0 ∧ (itAt xu2.2.1.it 2).id = 2 ∧ (itAt xu2.2.1.it 2).dies = -1 ∧ (itAt xu2.2.1.it 2).gen = 0 ∧ xu2.2.1.it.length ≤ 100 := by decide +kernel
theorem xg_it : itAt xu2.2.1.it 2 = ⟨⟨#[110]⟩, ⟨#[49, 50]⟩, 0, 2, -1, 0⟩ := by
 obtain ⟨a, b, c, d, e, f, -⟩ := xg_rec
 obtain ⟨x, hx⟩ : ∃ x, x = itAt xu2.2.1.it 2 := ⟨_, rfl⟩
 rw [← hx] at a b c d e f ⊢
 clear hx
 obtain ⟨⟨k⟩, ⟨v⟩, fl, id, di, ge⟩ := x
 dsimp only at a b c d e f
 rw [a, b, c, d, e, f]
theorem Va.env {w W : World} {G : Om} (h : Va w OZ) (E : Env w G W) : Va W G := by
 have hz : ∀ b, b < w.heap.size → G b = 0 := fun b hb => by
  by_cases c : G b = 0
  · exact c
  · exact absurd (E.base b c) (by omega)
 exact ⟨hz _ h.r1, Nat.lt_of_lt_of_le h.r1 E.bel.size, by obtain ⟨tp, p, hc⟩ := h.r; exact ⟨tp, p, (E.bel.cell (p := ⟨_, 0, none⟩) h.r1).trans hc⟩, hz _ h.t1, Nat.lt_of_lt_of_le h.t1 E.bel.size, tab_block h.t (E.bel.block _ h.t1)⟩
theorem vOk_le {s : AW} (h : vOk s = true) : ∀ y ∈ s.it, y.val.size ≤ maxLen := fun y hy => by
 unfold vOk at h
 rw [List.all_eq_true] at h
 have := h y hy
 rw [decide_eq_true_eq] at this
 unfold maxLen
 omega
section
variable {w : World} {O : Om} {B : Wb}
theorem c_xuC (c : Clm) (s : AW) (r : Nat × (AW × Chm)) (hr : r = chRun 3 c s) (hg : chGd c s = true) (hv : r.2.2.ln = 0) (hm : chMay c = true) (hex : -9223372036854775808 ≤ c.exp ∧ c.exp ≤ 9223372036854775807) (hby : 0 ≤ c.by_ ∧ c.by_ < 18446744073709551616) (hkz : c.key.size ≤ maxLen) (hn : nOk s) (hvl : vOk s = true) (hP : PW w O B ⟨2, 8, 3, 1, 16⟩ s) (hV : Va w O) (hhi : ∀ j, O j ≠ 0 → j < w.heap.size) :
 Calls Tryz.prog 10 #[.pointer (some ⟨B.p, 0, none⟩), .int .i64 3, clV c] w (RP (SX 10 41) w O (ansV r.2.2.an r.2.2.nu) fun W G => PW W G B ⟨2, 8, 3, 1, 16⟩ r.2.1) := by
 obtain ⟨m, s', z'⟩ := r
 exact c_DoesCG 100 hg hr.symm hv hP hV (by decide) hm hex hby hkz (vOk_le hvl) hhi hn.1 (by have := hn.2; omega)
theorem c_xuS (c : Clm) (s : AW) (r : Nat × (AW × Stm)) (hr : r = stRun 3 c s) (hg : stG c s = true) (hv : r.2.2.ln = 0) (hm : mayB c = true) (hex : c.exp = 0) (hkz : c.key.size ≤ maxLen) (hvz : c.val.size ≤ maxLen) (hn : nOk s) (hP : PW w O B ⟨2, 8, 3, 1, 16⟩ s) (hV : Va w O) (hhi : ∀ j, O j ≠ 0 → j < w.heap.size) :
 Calls Tryz.prog 10 #[.pointer (some ⟨B.p, 0, none⟩), .int .i64 3, clV c] w (RP (SX 10 41) w O (ansV r.2.2.an r.2.2.nu) fun W G => PW W G B ⟨2, 8, 3, 1, 16⟩ r.2.1) := by
 obtain ⟨m, s', z'⟩ := r
 exact c_DoesSG 100 hg hr.symm hv hP hV (by decide) hm (by rw [hex]; decide) hkz hvz (by decide) (by decide) hhi hn.1 (by have := hn.2; omega)
theorem c_xuCall {s s' : AW} {bx : Nat} {an nu : Int} (v e b : Int)
 (HD : ∀ W G, PW W G B ⟨2, 8, 3, 1, 16⟩ s → Va W G → (∀ j, G j ≠ 0 → j < W.heap.size) → Calls Tryz.prog 10 #[.pointer (some ⟨B.p, 0, none⟩), .int .i64 3, clV (xa v e b)] W (RP (SX 10 41) W G (ansV an nu) fun W1 G1 => PW W1 G1 B ⟨2, 8, 3, 1, 16⟩ s'))
 (hP : PW w O B ⟨2, 8, 3, 1, 16⟩ s) (hV : Va w O) (hx : Bx w O bx [PTR B.p]) (hhi : ∀ j, O j ≠ 0 → j < w.heap.size) :
 Calls Tryz.prog 29 #[.int .u8 v, .int .i64 e, .int .u64 b, .pointer (some ⟨bx, 0, none⟩)] w (RP (SX 10 42) w O (ansV an nu) fun W G => PW W G B ⟨2, 8, 3, 1, 16⟩ s') := by
 obtain ⟨O1, e1, r1, -⟩ := alloc_ob hhi 42 (aCs 0 0).toArray 36 w.heap.size rfl
 have P1 := hP.ext e1 (by decide) (by decide) (by decide) (by decide)
 have HC := Lib.hid (HD _ O1 P1 (hV.ext e1) e1.hi)
 have y0 := (hx.ext e1).c 0 _ rfl
 unfold PTR at y0
 have HJ := Lib.hid (And.intro (e1.mono (T := SX 10 42) fun t _ ht => .inr (by omega)) r1)
 clear hx hP hV hhi HD P1 e1 r1
 obtain ⟨R, hR⟩ : ∃ r, r = w.heap.size := ⟨_, rfl⟩
 obtain ⟨W1, hW1⟩ : ∃ W, W = w.alloc (.cells (aCs 0 0).toArray 36) := ⟨_, rfl⟩
 rw [← hW1, ← hR] at HJ
 rw [← hW1] at HC y0
 unfold aCs at hW1
 unfold clV xa kN at HC
 unfold ansV at HC ⊢
 go_enter Tryz.func29, Tryz.ntmps29
 go_upto_region 1 with fail
 rw [← hW1, ← hR]
 clear hW1 hR
 go_wp2_with fail
 refine HC.out.mono ?_
 rintro e w2 ⟨rfl, G2, e2, p2⟩
 have M2 : Me 10 42 w O w2 G2 B ⟨2, 8, 3, 1, 16⟩ s' 42 R (aCs 0 0) := ⟨HJ.out.1.trans (e2.mono fun t _ ht => SX.mono (by decide) (by decide) ht), p2, HJ.out.2.ext e2 (by unfold SX; omega)⟩
 have z0 := M2.t.c 0 _ rfl
 have f0 := M2.t.f 0
 have z1 := M2.t.c 1 _ rfl
 have f1 := M2.t.f 1
 have z2 := M2.t.c 2 _ rfl
 have f2 := M2.t.f 2
 have z3 := M2.t.c 3 _ rfl
 have f3 := M2.t.f 3
 have z4 := M2.t.c 4 _ rfl
 have f4 := M2.t.f 4
 have z5 := M2.t.c 5 _ rfl
 have f5 := M2.t.f 5
 have z6 := M2.t.c 6 _ rfl
 have f6 := M2.t.f 6
 have z7 := M2.t.c 7 _ rfl
 have f7 := M2.t.f 7
 have M9 := (((((((M2.set (by decide) (by decide) (by decide) 0 (.int .u8 an) (by simp [aCs])).set (by decide) (by decide) (by decide) 1 (.int .u64 nu) (by simp [aCs])).set (by decide) (by decide) (by decide) 2 (.string ⟨#[]⟩) (by simp [aCs])).set (by decide) (by decide) (by decide) 3 (.string ⟨#[]⟩) (by simp [aCs])).set (by decide) (by decide) (by decide) 4 (.int .u32 0) (by simp [aCs])).set (by decide) (by decide) (by decide) 5 (.int .u64 0) (by simp [aCs])).set (by decide) (by decide) (by decide) 6 (.int .i64 0) (by simp [aCs])).set (by decide) (by decide) (by decide) 7 (.int .i64 0) (by simp [aCs])
 have HM := Lib.hid M9
 clear M2 M9 e2 p2 HJ HC y0
 go_wp2_with fail
 obtain ⟨w9, hw9⟩ : ∃ W, W = ((((((((w2.setCell ⟨R, 0, none⟩ (.int .u8 an)).setCell ⟨R, 1, none⟩ (.int .u64 nu)).setCell ⟨R, 2, none⟩ (.string ⟨#[]⟩)).setCell ⟨R, 3, none⟩ (.string ⟨#[]⟩)).setCell ⟨R, 4, none⟩ (.int .u32 0)).setCell ⟨R, 5, none⟩ (.int .u64 0)).setCell ⟨R, 6, none⟩ (.int .i64 0)).setCell ⟨R, 7, none⟩ (.int .i64 0)) := ⟨_, rfl⟩
 rw [← hw9] at HM ⊢
 clear hw9 z0 z1 z2 z3 z4 z5 z6 z7 f0 f1 f2 f3 f4 f5 f6 f7
 have z0 := HM.out.t.c 0 _ rfl
 have z1 := HM.out.t.c 1 _ rfl
 have z2 := HM.out.t.c 2 _ rfl
 have z3 := HM.out.t.c 3 _ rfl
 have z4 := HM.out.t.c 4 _ rfl
 have z5 := HM.out.t.c 5 _ rfl
 have z6 := HM.out.t.c 6 _ rfl
 have z7 := HM.out.t.c 7 _ rfl
 exact bodyPost_ret (v := .agg #[.int .u8 an, .int .u64 nu, .string ⟨#[]⟩, .string ⟨#[]⟩, .int .u32 0, .int .u64 0, .int .i64 0, .int .i64 0]) (by simp [results, Tryz.results29, go_sem, z0, z1, z2, z3, z4, z5, z6, z7]) rfl ⟨rfl, G2, HM.out.e, HM.out.p⟩
structure LvS (w0 W : World) (G : Om) (B : Wb) (s : AW) (L : List (Nat × List Value)) : Prop where
 e : Env w0 G W
 p : PW W G B ⟨2, 8, 3, 1, 16⟩ s
 l : ∀ x ∈ L, Bx W G x.1 x.2
theorem LvS.to {S : Nat → Prop} {w0 W W' : World} {G G' : Om} {s s' : AW} {L : List (Nat × List Value)} (h : LvS w0 W G B s L) (e : Ext S G W G' W') (p : PW W' G' B ⟨2, 8, 3, 1, 16⟩ s') : LvS w0 W' G' B s' L := ⟨h.e.ext e, p, fun x hx => (h.l x hx).ext e⟩
theorem LvS.lay {w0 W : World} {G : Om} {s : AW} {L : List (Nat × List Value)} (h : LvS w0 W G B s L) (cs : List Value) (ty : TypeId) : LvS w0 (W.alloc (.cells cs.toArray ty)) G B s ((W.heap.size, cs) :: L) := by
 have hb := alloc_below W (.cells cs.toArray ty)
 refine ⟨h.e.ext (Ext.of_below (S := SW) h.e.hi hb), h.p.below h.e.hi hb, fun x hx => ?_⟩
 rcases List.mem_cons.1 hx with rfl | hx
 · have := Bx.new h.e.hi cs.toArray ty W.heap.size rfl
   simpa using this
 · exact (h.l x hx).below hb
theorem c_lives26 (w : World) (hV : Va w OZ) : Calls Tryz.prog 7 #[] w fun e w' => e = .returned (.bool true) ∧ Below w.heap.size w w' := by
 have HW := Lib.hid (c_WorldP 2 w (by decide) (by decide))
 have HV := Lib.hid (fun (W : World) (G : Om) (e : Env w G W) => hV.env e)
 have HD0 := Lib.hid (fun (W : World) (G : Om) (B : Wb) (bx : Nat) (h : LvS w W G B (aw0 2) []) (hx : Bx W G bx [PTR B.p]) => c_xuCall (w := W) (O := G) (B := B) (bx := bx) (an := xu1.2.2.an) (nu := xu1.2.2.nu) (s := aw0 2) (s' := xu1.2.1) 3 0 0 (fun W G hp hv hh => c_xuS (w := W) (O := G) (B := B) (xa 3 0 0) (aw0 2) xu1 rfl xg_xu1.1.1 xg_xu1.1.2 xg_xu1.2.1 rfl (by decide) (by decide) (by decide) hp hv hh) h.p (hV.env h.e) hx h.e.hi)
 rw [xg_xu1.2.2.1.1, xg_xu1.2.2.1.2] at HD0
 unfold ansV at HD0
 have HD1 := Lib.hid (fun (W : World) (G : Om) (B : Wb) (bx : Nat) (h : LvS w W G B (xu1.2.1) []) (hx : Bx W G bx [PTR B.p]) => c_xuCall (w := W) (O := G) (B := B) (bx := bx) (an := xu2.2.2.an) (nu := xu2.2.2.nu) (s := xu1.2.1) (s' := xu2.2.1) 9 0 3 (fun W G hp hv hh => c_xuC (w := W) (O := G) (B := B) (xa 9 0 3) (xu1.2.1) xu2 rfl xg_xu2.1.1 xg_xu2.1.2 xg_xu2.2.1 (by decide) (by decide) (by decide) xg_xu1.2.2.2.1 xg_xu1.2.2.2.2 hp hv hh) h.p (hV.env h.e) hx h.e.hi)
 rw [xg_xu2.2.2.1.1, xg_xu2.2.2.1.2] at HD1
 unfold ansV at HD1
 have HD3 := Lib.hid (fun (W : World) (G : Om) (B : Wb) (bx : Nat) (h : LvS w W G B (xu2.2.1) []) (hx : Bx W G bx [PTR B.p]) => c_xuCall (w := W) (O := G) (B := B) (bx := bx) (an := xu3.2.2.an) (nu := xu3.2.2.nu) (s := xu2.2.1) (s' := xu3.2.1) 10 0 20 (fun W G hp hv hh => c_xuC (w := W) (O := G) (B := B) (xa 10 0 20) (xu2.2.1) xu3 rfl xg_xu3.1.1 xg_xu3.1.2 xg_xu3.2.1 (by decide) (by decide) (by decide) xg_xu2.2.2.2.1 xg_xu2.2.2.2.2 hp hv hh) h.p (hV.env h.e) hx h.e.hi)
 rw [xg_xu3.2.2.1.1, xg_xu3.2.2.1.2] at HD3
 unfold ansV at HD3
 have HD4 := Lib.hid (fun (W : World) (G : Om) (B : Wb) (bx : Nat) (h : LvS w W G B (xu3.2.1) []) (hx : Bx W G bx [PTR B.p]) => c_xuCall (w := W) (O := G) (B := B) (bx := bx) (an := xu4.2.2.an) (nu := xu4.2.2.nu) (s := xu3.2.1) (s' := xu4.2.1) 8 (-1) 0 (fun W G hp hv hh => c_xuC (w := W) (O := G) (B := B) (xa 8 (-1) 0) (xu3.2.1) xu4 rfl xg_xu4.1.1 xg_xu4.1.2 xg_xu4.2.1 (by decide) (by decide) (by decide) xg_xu3.2.2.2.1 xg_xu3.2.2.2.2 hp hv hh) h.p (hV.env h.e) hx h.e.hi)
 rw [xg_xu4.2.2.1.1, xg_xu4.2.2.1.2] at HD4
 unfold ansV at HD4
 have HD5 := Lib.hid (fun (W : World) (G : Om) (B : Wb) (bx : Nat) (h : LvS w W G B (xu4.2.1) []) (hx : Bx W G bx [PTR B.p]) => c_xuCall (w := W) (O := G) (B := B) (bx := bx) (an := xu5.2.2.an) (nu := xu5.2.2.nu) (s := xu4.2.1) (s' := xu5.2.1) 7 0 0 (fun W G hp hv hh => c_xuC (w := W) (O := G) (B := B) (xa 7 0 0) (xu4.2.1) xu5 rfl xg_xu5.1.1 xg_xu5.1.2 xg_xu5.2.1 (by decide) (by decide) (by decide) xg_xu4.2.2.2.1 xg_xu4.2.2.2.2 hp hv hh) h.p (hV.env h.e) hx h.e.hi)
 rw [xg_xu5.2.2.1.1, xg_xu5.2.2.1.2] at HD5
 unfold ansV at HD5
 have HD6 := Lib.hid (fun (W : World) (G : Om) (B : Wb) (h : LvS w W G B (xu5.2.1) []) => (fun hp hv hh => c_xuS (w := W) (O := G) (B := B) (x6) (xu5.2.1) xu6 rfl xg_xu6.1.1 xg_xu6.1.2 xg_xu6.2.1 rfl (by decide) (by decide) xg_xu5.2.2.2.1 hp hv hh) h.p (hV.env h.e) h.e.hi)
 rw [xg_xu6.2.2.1.1, xg_xu6.2.2.1.2] at HD6
 unfold clV x6 kN at HD6
 dsimp only at HD6
 unfold ansV at HD6
 have HD7 := Lib.hid (fun (W : World) (G : Om) (B : Wb) (bx : Nat) (h : LvS w W G B (xu6.2.1) []) (hx : Bx W G bx [PTR B.p]) => c_xuCall (w := W) (O := G) (B := B) (bx := bx) (an := xu7.2.2.an) (nu := xu7.2.2.nu) (s := xu6.2.1) (s' := xu7.2.1) 9 0 1 (fun W G hp hv hh => c_xuC (w := W) (O := G) (B := B) (xa 9 0 1) (xu6.2.1) xu7 rfl xg_xu7.1.1 xg_xu7.1.2 xg_xu7.2.1 (by decide) (by decide) (by decide) xg_xu6.2.2.2.1 xg_xu6.2.2.2.2 hp hv hh) h.p (hV.env h.e) hx h.e.hi)
 rw [xg_xu7.2.2.1.1, xg_xu7.2.2.1.2] at HD7
 unfold ansV at HD7
 have HD8 := Lib.hid (fun (W : World) (G : Om) (B : Wb) (bx : Nat) (h : LvS w W G B (xu7.2.1) []) (hx : Bx W G bx [PTR B.p]) => c_xuCall (w := W) (O := G) (B := B) (bx := bx) (an := xu8.2.2.an) (nu := xu8.2.2.nu) (s := xu7.2.1) (s' := xu8.2.1) 7 0 0 (fun W G hp hv hh => c_xuC (w := W) (O := G) (B := B) (xa 7 0 0) (xu7.2.1) xu8 rfl xg_xu8.1.1 xg_xu8.1.2 xg_xu8.2.1 (by decide) (by decide) (by decide) xg_xu7.2.2.2.1 xg_xu7.2.2.2.2 hp hv hh) h.p (hV.env h.e) hx h.e.hi)
 rw [xg_xu8.2.2.1.1, xg_xu8.2.2.1.2] at HD8
 unfold ansV at HD8
 have HD9 := Lib.hid (fun (W : World) (G : Om) (B : Wb) (bx : Nat) (h : LvS w W G B (xu8.2.1) []) (hx : Bx W G bx [PTR B.p]) => c_xuCall (w := W) (O := G) (B := B) (bx := bx) (an := xu9.2.2.an) (nu := xu9.2.2.nu) (s := xu8.2.1) (s' := xu9.2.1) 7 0 0 (fun W G hp hv hh => c_xuC (w := W) (O := G) (B := B) (xa 7 0 0) (xu8.2.1) xu9 rfl xg_xu9.1.1 xg_xu9.1.2 xg_xu9.2.1 (by decide) (by decide) (by decide) xg_xu8.2.2.2.1 xg_xu8.2.2.2.2 hp hv hh) h.p (hV.env h.e) hx h.e.hi)
 rw [xg_xu9.2.2.1.1, xg_xu9.2.2.1.2] at HD9
 unfold ansV at HD9
 have HRC := Lib.hid (fun (W : World) (G : Om) (B : Wb) (h : LvS w W G B xu2.2.1 []) => c_rec26 (key := kN) xg_at h.p (by decide) (Nat.le_trans xg_rec.2.2.2.2.2.2 (by decide)) (by decide) h.e.hi)
 rw [xg_it] at HRC
 obtain ⟨is, his⟩ : ∃ b, b = itIs xu2.2.1.it 2 := ⟨_, rfl⟩
 rw [← his] at HRC
 unfold itV kN at HRC
 dsimp only at HRC
 clear his hV
 obtain ⟨s1, hs1⟩ : ∃ s, s = xu1.2.1 := ⟨_, rfl⟩
 obtain ⟨s2, hs2⟩ : ∃ s, s = xu2.2.1 := ⟨_, rfl⟩
 obtain ⟨s3, hs3⟩ : ∃ s, s = xu3.2.1 := ⟨_, rfl⟩
 obtain ⟨s4, hs4⟩ : ∃ s, s = xu4.2.1 := ⟨_, rfl⟩
 obtain ⟨s5, hs5⟩ : ∃ s, s = xu5.2.1 := ⟨_, rfl⟩
 obtain ⟨s6, hs6⟩ : ∃ s, s = xu6.2.1 := ⟨_, rfl⟩
 obtain ⟨s7, hs7⟩ : ∃ s, s = xu7.2.1 := ⟨_, rfl⟩
 obtain ⟨s8, hs8⟩ : ∃ s, s = xu8.2.1 := ⟨_, rfl⟩
 obtain ⟨s9, hs9⟩ : ∃ s, s = xu9.2.1 := ⟨_, rfl⟩
 rw [← hs1] at HD0
 rw [← hs1, ← hs2] at HD1
 rw [← hs2] at HRC
 rw [← hs2, ← hs3] at HD3
 rw [← hs3, ← hs4] at HD4
 rw [← hs4, ← hs5] at HD5
 rw [← hs5, ← hs6] at HD6
 rw [← hs6, ← hs7] at HD7
 rw [← hs7, ← hs8] at HD8
 rw [← hs8, ← hs9] at HD9
 clear hs1 hs2 hs3 hs4 hs5 hs6 hs7 hs8 hs9
 go_enter Tryz.func7, Tryz.ntmps7
 go_wp2_with fail
 refine HW.out.mono ?_
 rintro e w1 ⟨B, G1, rfl, p1, E1⟩
 obtain ⟨V0, hV0⟩ : ∃ W, W = w1.alloc (.cells #[.pointer (some ⟨B.p, 0, none⟩)] 28) := ⟨_, rfl⟩
 obtain ⟨bx, hbx⟩ : ∃ n, n = w1.heap.size := ⟨_, rfl⟩
 have HS0 := Lib.hid ((⟨E1, p1, fun x hx => by cases hx⟩ : LvS w w1 G1 B (aw0 2) []).lay [PTR B.p] 28)
 have HS0 : Hid (LvS w V0 G1 B (aw0 2) [(bx, [PTR B.p])]) := by rw [hV0, hbx]; exact HS0
 clear E1 p1 HW
 go_upto_region 2 with fail
 rw [← hV0, ← hbx]
 clear hV0 hbx
 have y0 := (HS0.out.l _ (.head _)).c 0 _ rfl
 unfold PTR at y0
 have HE := Lib.hid (HD0.out V0 G1 B bx ⟨HS0.out.e, HS0.out.p, fun x hx => by cases hx⟩ (HS0.out.l _ (.head _)))
 go_wp2_with fail
 refine HE.out.mono ?_
 rintro e v1 ⟨rfl, H1, e1, p1⟩
 have HS1 := Lib.hid (HS0.out.to e1 p1)
 clear e1 p1 HE y0 HS0
 have y0 := (HS1.out.l _ (.head _)).c 0 _ rfl
 unfold PTR at y0
 have HE := Lib.hid (HD1.out v1 H1 B bx ⟨HS1.out.e, HS1.out.p, fun x hx => by cases hx⟩ (HS1.out.l _ (.head _)))
 go_wp2_with fail
 refine HE.out.mono ?_
 rintro e v2 ⟨rfl, H2, e2, p2⟩
 obtain ⟨V2, hV⟩ : ∃ W, W = v2.alloc (.cells #[.int .u8 8, .int .u64 12, .string ⟨#[]⟩, .string ⟨#[]⟩, .int .u32 0, .int .u64 0, .int .i64 0, .int .i64 0] 36) := ⟨_, rfl⟩
 obtain ⟨b2, hb⟩ : ∃ n, n = v2.heap.size := ⟨_, rfl⟩
 have HS2 := Lib.hid ((HS1.out.to e2 p2).lay [.int .u8 8, .int .u64 12, .string ⟨#[]⟩, .string ⟨#[]⟩, .int .u32 0, .int .u64 0, .int .i64 0, .int .i64 0] 36)
 have HS2 : Hid (LvS w V2 H2 B s2 [(b2, [.int .u8 8, .int .u64 12, .string ⟨#[]⟩, .string ⟨#[]⟩, .int .u32 0, .int .u64 0, .int .i64 0, .int .i64 0]), (bx, [PTR B.p])]) := by rw [hV, hb]; exact HS2
 clear e2 p2 HE y0 HS1
 go_upto_region 7 with fail
 rw [← hV, ← hb]
 clear hV hb
 have y0 := (HS2.out.l _ (.tail _ (.head _))).c 0 _ rfl
 unfold PTR at y0
 have HE := Lib.hid (HRC.out V2 H2 B ⟨HS2.out.e, HS2.out.p, fun x hx => by cases hx⟩)
 go_wp2_with fail
 refine HE.out.mono ?_
 rintro e v3 ⟨rfl, H3, e3, p3⟩
 obtain ⟨V3, hV⟩ : ∃ W, W = v3.alloc (.cells #[.string ⟨#[110]⟩, .string ⟨#[49, 50]⟩, .int .u32 0, .int .u64 2, .int .i64 (-1), .int .i64 0] 34) := ⟨_, rfl⟩
 obtain ⟨b3, hb⟩ : ∃ n, n = v3.heap.size := ⟨_, rfl⟩
 have HS3 := Lib.hid ((HS2.out.to e3 p3).lay [.string ⟨#[110]⟩, .string ⟨#[49, 50]⟩, .int .u32 0, .int .u64 2, .int .i64 (-1), .int .i64 0] 34)
 have HS3 : Hid (LvS w V3 H3 B s2 [(b3, [.string ⟨#[110]⟩, .string ⟨#[49, 50]⟩, .int .u32 0, .int .u64 2, .int .i64 (-1), .int .i64 0]), (b2, [.int .u8 8, .int .u64 12, .string ⟨#[]⟩, .string ⟨#[]⟩, .int .u32 0, .int .u64 0, .int .i64 0, .int .i64 0]), (bx, [PTR B.p])]) := by rw [hV, hb]; exact HS3
 clear e3 p3 HE y0 HS2
 go_upto_region 8 with fail
 rw [← hV, ← hb]
 clear hV hb
 have y0 := (HS3.out.l _ (.tail _ (.tail _ (.head _)))).c 0 _ rfl
 unfold PTR at y0
 have HE := Lib.hid (HD3.out V3 H3 B bx ⟨HS3.out.e, HS3.out.p, fun x hx => by cases hx⟩ (HS3.out.l _ (.tail _ (.tail _ (.head _)))))
 go_wp2_with fail
 refine HE.out.mono ?_
 rintro e v4 ⟨rfl, H4, e4, p4⟩
 obtain ⟨V4, hV⟩ : ∃ W, W = v4.alloc (.cells #[.int .u8 8, .int .u64 0, .string ⟨#[]⟩, .string ⟨#[]⟩, .int .u32 0, .int .u64 0, .int .i64 0, .int .i64 0] 36) := ⟨_, rfl⟩
 obtain ⟨b4, hb⟩ : ∃ n, n = v4.heap.size := ⟨_, rfl⟩
 have HS4 := Lib.hid ((HS3.out.to e4 p4).lay [.int .u8 8, .int .u64 0, .string ⟨#[]⟩, .string ⟨#[]⟩, .int .u32 0, .int .u64 0, .int .i64 0, .int .i64 0] 36)
 have HS4 : Hid (LvS w V4 H4 B s3 [(b4, [.int .u8 8, .int .u64 0, .string ⟨#[]⟩, .string ⟨#[]⟩, .int .u32 0, .int .u64 0, .int .i64 0, .int .i64 0]), (b3, [.string ⟨#[110]⟩, .string ⟨#[49, 50]⟩, .int .u32 0, .int .u64 2, .int .i64 (-1), .int .i64 0]), (b2, [.int .u8 8, .int .u64 12, .string ⟨#[]⟩, .string ⟨#[]⟩, .int .u32 0, .int .u64 0, .int .i64 0, .int .i64 0]), (bx, [PTR B.p])]) := by rw [hV, hb]; exact HS4
 clear e4 p4 HE y0 HS3
 go_upto_region 9 with fail
 rw [← hV, ← hb]
 clear hV hb
 have y0 := (HS4.out.l _ (.tail _ (.tail _ (.tail _ (.head _))))).c 0 _ rfl
 unfold PTR at y0
 have HE := Lib.hid (HD4.out V4 H4 B bx ⟨HS4.out.e, HS4.out.p, fun x hx => by cases hx⟩ (HS4.out.l _ (.tail _ (.tail _ (.tail _ (.head _))))))
 go_wp2_with fail
 refine HE.out.mono ?_
 rintro e v5 ⟨rfl, H5, e5, p5⟩
 obtain ⟨V5, hV⟩ : ∃ W, W = v5.alloc (.cells #[.int .u8 7, .int .u64 0, .string ⟨#[]⟩, .string ⟨#[]⟩, .int .u32 0, .int .u64 0, .int .i64 0, .int .i64 0] 36) := ⟨_, rfl⟩
 obtain ⟨b5, hb⟩ : ∃ n, n = v5.heap.size := ⟨_, rfl⟩
 have HS5 := Lib.hid ((HS4.out.to e5 p5).lay [.int .u8 7, .int .u64 0, .string ⟨#[]⟩, .string ⟨#[]⟩, .int .u32 0, .int .u64 0, .int .i64 0, .int .i64 0] 36)
 have HS5 : Hid (LvS w V5 H5 B s4 [(b5, [.int .u8 7, .int .u64 0, .string ⟨#[]⟩, .string ⟨#[]⟩, .int .u32 0, .int .u64 0, .int .i64 0, .int .i64 0]), (b4, [.int .u8 8, .int .u64 0, .string ⟨#[]⟩, .string ⟨#[]⟩, .int .u32 0, .int .u64 0, .int .i64 0, .int .i64 0]), (b3, [.string ⟨#[110]⟩, .string ⟨#[49, 50]⟩, .int .u32 0, .int .u64 2, .int .i64 (-1), .int .i64 0]), (b2, [.int .u8 8, .int .u64 12, .string ⟨#[]⟩, .string ⟨#[]⟩, .int .u32 0, .int .u64 0, .int .i64 0, .int .i64 0]), (bx, [PTR B.p])]) := by rw [hV, hb]; exact HS5
 clear e5 p5 HE y0 HS4
 go_upto_region 10 with fail
 rw [← hV, ← hb]
 clear hV hb
 have y0 := (HS5.out.l _ (.tail _ (.tail _ (.tail _ (.tail _ (.head _)))))).c 0 _ rfl
 unfold PTR at y0
 have HE := Lib.hid (HD5.out V5 H5 B bx ⟨HS5.out.e, HS5.out.p, fun x hx => by cases hx⟩ (HS5.out.l _ (.tail _ (.tail _ (.tail _ (.tail _ (.head _)))))))
 go_wp2_with fail
 refine HE.out.mono ?_
 rintro e v6 ⟨rfl, H6, e6, p6⟩
 obtain ⟨V6, hV⟩ : ∃ W, W = v6.alloc (.cells #[.int .u8 4, .int .u64 0, .string ⟨#[]⟩, .string ⟨#[]⟩, .int .u32 0, .int .u64 0, .int .i64 0, .int .i64 0] 36) := ⟨_, rfl⟩
 obtain ⟨b6, hb⟩ : ∃ n, n = v6.heap.size := ⟨_, rfl⟩
 have HS6 := Lib.hid ((HS5.out.to e6 p6).lay [.int .u8 4, .int .u64 0, .string ⟨#[]⟩, .string ⟨#[]⟩, .int .u32 0, .int .u64 0, .int .i64 0, .int .i64 0] 36)
 have HS6 : Hid (LvS w V6 H6 B s5 [(b6, [.int .u8 4, .int .u64 0, .string ⟨#[]⟩, .string ⟨#[]⟩, .int .u32 0, .int .u64 0, .int .i64 0, .int .i64 0]), (b5, [.int .u8 7, .int .u64 0, .string ⟨#[]⟩, .string ⟨#[]⟩, .int .u32 0, .int .u64 0, .int .i64 0, .int .i64 0]), (b4, [.int .u8 8, .int .u64 0, .string ⟨#[]⟩, .string ⟨#[]⟩, .int .u32 0, .int .u64 0, .int .i64 0, .int .i64 0]), (b3, [.string ⟨#[110]⟩, .string ⟨#[49, 50]⟩, .int .u32 0, .int .u64 2, .int .i64 (-1), .int .i64 0]), (b2, [.int .u8 8, .int .u64 12, .string ⟨#[]⟩, .string ⟨#[]⟩, .int .u32 0, .int .u64 0, .int .i64 0, .int .i64 0]), (bx, [PTR B.p])]) := by rw [hV, hb]; exact HS6
 clear e6 p6 HE y0 HS5
 go_upto_region 11 with fail
 rw [← hV, ← hb]
 clear hV hb
 have y0 := (HS6.out.l _ (.tail _ (.tail _ (.tail _ (.tail _ (.tail _ (.head _))))))).c 0 _ rfl
 unfold PTR at y0
 have HE := Lib.hid (HD6.out V6 H6 B ⟨HS6.out.e, HS6.out.p, fun x hx => by cases hx⟩)
 go_wp2_with fail
 refine HE.out.mono ?_
 rintro e v7 ⟨rfl, H7, e7, p7⟩
 have HS7 := Lib.hid (HS6.out.to e7 p7)
 clear e7 p7 HE y0 HS6
 have y0 := (HS7.out.l _ (.tail _ (.tail _ (.tail _ (.tail _ (.tail _ (.head _))))))).c 0 _ rfl
 unfold PTR at y0
 have HE := Lib.hid (HD7.out v7 H7 B bx ⟨HS7.out.e, HS7.out.p, fun x hx => by cases hx⟩ (HS7.out.l _ (.tail _ (.tail _ (.tail _ (.tail _ (.tail _ (.head _))))))))
 go_wp2_with fail
 refine HE.out.mono ?_
 rintro e v8 ⟨rfl, H8, e8, p8⟩
 obtain ⟨V8, hV⟩ : ∃ W, W = v8.alloc (.cells #[.int .u8 9, .int .u64 0, .string ⟨#[]⟩, .string ⟨#[]⟩, .int .u32 0, .int .u64 0, .int .i64 0, .int .i64 0] 36) := ⟨_, rfl⟩
 obtain ⟨b8, hb⟩ : ∃ n, n = v8.heap.size := ⟨_, rfl⟩
 have HS8 := Lib.hid ((HS7.out.to e8 p8).lay [.int .u8 9, .int .u64 0, .string ⟨#[]⟩, .string ⟨#[]⟩, .int .u32 0, .int .u64 0, .int .i64 0, .int .i64 0] 36)
 have HS8 : Hid (LvS w V8 H8 B s7 [(b8, [.int .u8 9, .int .u64 0, .string ⟨#[]⟩, .string ⟨#[]⟩, .int .u32 0, .int .u64 0, .int .i64 0, .int .i64 0]), (b6, [.int .u8 4, .int .u64 0, .string ⟨#[]⟩, .string ⟨#[]⟩, .int .u32 0, .int .u64 0, .int .i64 0, .int .i64 0]), (b5, [.int .u8 7, .int .u64 0, .string ⟨#[]⟩, .string ⟨#[]⟩, .int .u32 0, .int .u64 0, .int .i64 0, .int .i64 0]), (b4, [.int .u8 8, .int .u64 0, .string ⟨#[]⟩, .string ⟨#[]⟩, .int .u32 0, .int .u64 0, .int .i64 0, .int .i64 0]), (b3, [.string ⟨#[110]⟩, .string ⟨#[49, 50]⟩, .int .u32 0, .int .u64 2, .int .i64 (-1), .int .i64 0]), (b2, [.int .u8 8, .int .u64 12, .string ⟨#[]⟩, .string ⟨#[]⟩, .int .u32 0, .int .u64 0, .int .i64 0, .int .i64 0]), (bx, [PTR B.p])]) := by rw [hV, hb]; exact HS8
 clear e8 p8 HE y0 HS7
 go_upto_region 13 with fail
 rw [← hV, ← hb]
 clear hV hb
 have y0 := (HS8.out.l _ (.tail _ (.tail _ (.tail _ (.tail _ (.tail _ (.tail _ (.head _)))))))).c 0 _ rfl
 unfold PTR at y0
 have HE := Lib.hid (HD8.out V8 H8 B bx ⟨HS8.out.e, HS8.out.p, fun x hx => by cases hx⟩ (HS8.out.l _ (.tail _ (.tail _ (.tail _ (.tail _ (.tail _ (.tail _ (.head _)))))))))
 go_wp2_with fail
 refine HE.out.mono ?_
 rintro e v9 ⟨rfl, H9, e9, p9⟩
 obtain ⟨V9, hV⟩ : ∃ W, W = v9.alloc (.cells #[.int .u8 6, .int .u64 0, .string ⟨#[]⟩, .string ⟨#[]⟩, .int .u32 0, .int .u64 0, .int .i64 0, .int .i64 0] 36) := ⟨_, rfl⟩
 obtain ⟨b9, hb⟩ : ∃ n, n = v9.heap.size := ⟨_, rfl⟩
 have HS9 := Lib.hid ((HS8.out.to e9 p9).lay [.int .u8 6, .int .u64 0, .string ⟨#[]⟩, .string ⟨#[]⟩, .int .u32 0, .int .u64 0, .int .i64 0, .int .i64 0] 36)
 have HS9 : Hid (LvS w V9 H9 B s8 [(b9, [.int .u8 6, .int .u64 0, .string ⟨#[]⟩, .string ⟨#[]⟩, .int .u32 0, .int .u64 0, .int .i64 0, .int .i64 0]), (b8, [.int .u8 9, .int .u64 0, .string ⟨#[]⟩, .string ⟨#[]⟩, .int .u32 0, .int .u64 0, .int .i64 0, .int .i64 0]), (b6, [.int .u8 4, .int .u64 0, .string ⟨#[]⟩, .string ⟨#[]⟩, .int .u32 0, .int .u64 0, .int .i64 0, .int .i64 0]), (b5, [.int .u8 7, .int .u64 0, .string ⟨#[]⟩, .string ⟨#[]⟩, .int .u32 0, .int .u64 0, .int .i64 0, .int .i64 0]), (b4, [.int .u8 8, .int .u64 0, .string ⟨#[]⟩, .string ⟨#[]⟩, .int .u32 0, .int .u64 0, .int .i64 0, .int .i64 0]), (b3, [.string ⟨#[110]⟩, .string ⟨#[49, 50]⟩, .int .u32 0, .int .u64 2, .int .i64 (-1), .int .i64 0]), (b2, [.int .u8 8, .int .u64 12, .string ⟨#[]⟩, .string ⟨#[]⟩, .int .u32 0, .int .u64 0, .int .i64 0, .int .i64 0]), (bx, [PTR B.p])]) := by rw [hV, hb]; exact HS9
 clear e9 p9 HE y0 HS8
 go_upto_region 14 with fail
 rw [← hV, ← hb]
 clear hV hb
 have y0 := (HS9.out.l _ (.tail _ (.tail _ (.tail _ (.tail _ (.tail _ (.tail _ (.tail _ (.head _))))))))).c 0 _ rfl
 unfold PTR at y0
 have HE := Lib.hid (HD9.out V9 H9 B bx ⟨HS9.out.e, HS9.out.p, fun x hx => by cases hx⟩ (HS9.out.l _ (.tail _ (.tail _ (.tail _ (.tail _ (.tail _ (.tail _ (.tail _ (.head _))))))))))
 go_wp2_with fail
 refine HE.out.mono ?_
 rintro e v10 ⟨rfl, H10, e10, p10⟩
 obtain ⟨V10, hV⟩ : ∃ W, W = v10.alloc (.cells #[.int .u8 4, .int .u64 0, .string ⟨#[]⟩, .string ⟨#[]⟩, .int .u32 0, .int .u64 0, .int .i64 0, .int .i64 0] 36) := ⟨_, rfl⟩
 obtain ⟨b10, hb⟩ : ∃ n, n = v10.heap.size := ⟨_, rfl⟩
 have HS10 := Lib.hid ((HS9.out.to e10 p10).lay [.int .u8 4, .int .u64 0, .string ⟨#[]⟩, .string ⟨#[]⟩, .int .u32 0, .int .u64 0, .int .i64 0, .int .i64 0] 36)
 have HS10 : Hid (LvS w V10 H10 B s9 [(b10, [.int .u8 4, .int .u64 0, .string ⟨#[]⟩, .string ⟨#[]⟩, .int .u32 0, .int .u64 0, .int .i64 0, .int .i64 0]), (b9, [.int .u8 6, .int .u64 0, .string ⟨#[]⟩, .string ⟨#[]⟩, .int .u32 0, .int .u64 0, .int .i64 0, .int .i64 0]), (b8, [.int .u8 9, .int .u64 0, .string ⟨#[]⟩, .string ⟨#[]⟩, .int .u32 0, .int .u64 0, .int .i64 0, .int .i64 0]), (b6, [.int .u8 4, .int .u64 0, .string ⟨#[]⟩, .string ⟨#[]⟩, .int .u32 0, .int .u64 0, .int .i64 0, .int .i64 0]), (b5, [.int .u8 7, .int .u64 0, .string ⟨#[]⟩, .string ⟨#[]⟩, .int .u32 0, .int .u64 0, .int .i64 0, .int .i64 0]), (b4, [.int .u8 8, .int .u64 0, .string ⟨#[]⟩, .string ⟨#[]⟩, .int .u32 0, .int .u64 0, .int .i64 0, .int .i64 0]), (b3, [.string ⟨#[110]⟩, .string ⟨#[49, 50]⟩, .int .u32 0, .int .u64 2, .int .i64 (-1), .int .i64 0]), (b2, [.int .u8 8, .int .u64 12, .string ⟨#[]⟩, .string ⟨#[]⟩, .int .u32 0, .int .u64 0, .int .i64 0, .int .i64 0]), (bx, [PTR B.p])]) := by rw [hV, hb]; exact HS10
 clear e10 p10 HE y0 HS9
 go_upto_region 15 with fail
 rw [← hV, ← hb]
 clear hV hb
 have c0_0 := (HS10.out.l _ (.head _)).c 0 _ rfl
 have c0_1 := (HS10.out.l _ (.head _)).c 1 _ rfl
 have c0_2 := (HS10.out.l _ (.head _)).c 2 _ rfl
 have c0_3 := (HS10.out.l _ (.head _)).c 3 _ rfl
 have c0_4 := (HS10.out.l _ (.head _)).c 4 _ rfl
 have c0_5 := (HS10.out.l _ (.head _)).c 5 _ rfl
 have c0_6 := (HS10.out.l _ (.head _)).c 6 _ rfl
 have c0_7 := (HS10.out.l _ (.head _)).c 7 _ rfl
 have c1_0 := (HS10.out.l _ (.tail _ (.head _))).c 0 _ rfl
 have c1_1 := (HS10.out.l _ (.tail _ (.head _))).c 1 _ rfl
 have c1_2 := (HS10.out.l _ (.tail _ (.head _))).c 2 _ rfl
 have c1_3 := (HS10.out.l _ (.tail _ (.head _))).c 3 _ rfl
 have c1_4 := (HS10.out.l _ (.tail _ (.head _))).c 4 _ rfl
 have c1_5 := (HS10.out.l _ (.tail _ (.head _))).c 5 _ rfl
 have c1_6 := (HS10.out.l _ (.tail _ (.head _))).c 6 _ rfl
 have c1_7 := (HS10.out.l _ (.tail _ (.head _))).c 7 _ rfl
 have c2_0 := (HS10.out.l _ (.tail _ (.tail _ (.head _)))).c 0 _ rfl
 have c2_1 := (HS10.out.l _ (.tail _ (.tail _ (.head _)))).c 1 _ rfl
 have c2_2 := (HS10.out.l _ (.tail _ (.tail _ (.head _)))).c 2 _ rfl
 have c2_3 := (HS10.out.l _ (.tail _ (.tail _ (.head _)))).c 3 _ rfl
 have c2_4 := (HS10.out.l _ (.tail _ (.tail _ (.head _)))).c 4 _ rfl
 have c2_5 := (HS10.out.l _ (.tail _ (.tail _ (.head _)))).c 5 _ rfl
 have c2_6 := (HS10.out.l _ (.tail _ (.tail _ (.head _)))).c 6 _ rfl
 have c2_7 := (HS10.out.l _ (.tail _ (.tail _ (.head _)))).c 7 _ rfl
 have c3_0 := (HS10.out.l _ (.tail _ (.tail _ (.tail _ (.head _))))).c 0 _ rfl
 have c3_1 := (HS10.out.l _ (.tail _ (.tail _ (.tail _ (.head _))))).c 1 _ rfl
 have c3_2 := (HS10.out.l _ (.tail _ (.tail _ (.tail _ (.head _))))).c 2 _ rfl
 have c3_3 := (HS10.out.l _ (.tail _ (.tail _ (.tail _ (.head _))))).c 3 _ rfl
 have c3_4 := (HS10.out.l _ (.tail _ (.tail _ (.tail _ (.head _))))).c 4 _ rfl
 have c3_5 := (HS10.out.l _ (.tail _ (.tail _ (.tail _ (.head _))))).c 5 _ rfl
 have c3_6 := (HS10.out.l _ (.tail _ (.tail _ (.tail _ (.head _))))).c 6 _ rfl
 have c3_7 := (HS10.out.l _ (.tail _ (.tail _ (.tail _ (.head _))))).c 7 _ rfl
 have c4_0 := (HS10.out.l _ (.tail _ (.tail _ (.tail _ (.tail _ (.head _)))))).c 0 _ rfl
 have c4_1 := (HS10.out.l _ (.tail _ (.tail _ (.tail _ (.tail _ (.head _)))))).c 1 _ rfl
 have c4_2 := (HS10.out.l _ (.tail _ (.tail _ (.tail _ (.tail _ (.head _)))))).c 2 _ rfl
 have c4_3 := (HS10.out.l _ (.tail _ (.tail _ (.tail _ (.tail _ (.head _)))))).c 3 _ rfl
 have c4_4 := (HS10.out.l _ (.tail _ (.tail _ (.tail _ (.tail _ (.head _)))))).c 4 _ rfl
 have c4_5 := (HS10.out.l _ (.tail _ (.tail _ (.tail _ (.tail _ (.head _)))))).c 5 _ rfl
 have c4_6 := (HS10.out.l _ (.tail _ (.tail _ (.tail _ (.tail _ (.head _)))))).c 6 _ rfl
 have c4_7 := (HS10.out.l _ (.tail _ (.tail _ (.tail _ (.tail _ (.head _)))))).c 7 _ rfl
 have c5_0 := (HS10.out.l _ (.tail _ (.tail _ (.tail _ (.tail _ (.tail _ (.head _))))))).c 0 _ rfl
 have c5_1 := (HS10.out.l _ (.tail _ (.tail _ (.tail _ (.tail _ (.tail _ (.head _))))))).c 1 _ rfl
 have c5_2 := (HS10.out.l _ (.tail _ (.tail _ (.tail _ (.tail _ (.tail _ (.head _))))))).c 2 _ rfl
 have c5_3 := (HS10.out.l _ (.tail _ (.tail _ (.tail _ (.tail _ (.tail _ (.head _))))))).c 3 _ rfl
 have c5_4 := (HS10.out.l _ (.tail _ (.tail _ (.tail _ (.tail _ (.tail _ (.head _))))))).c 4 _ rfl
 have c5_5 := (HS10.out.l _ (.tail _ (.tail _ (.tail _ (.tail _ (.tail _ (.head _))))))).c 5 _ rfl
 have c5_6 := (HS10.out.l _ (.tail _ (.tail _ (.tail _ (.tail _ (.tail _ (.head _))))))).c 6 _ rfl
 have c5_7 := (HS10.out.l _ (.tail _ (.tail _ (.tail _ (.tail _ (.tail _ (.head _))))))).c 7 _ rfl
 have c6_0 := (HS10.out.l _ (.tail _ (.tail _ (.tail _ (.tail _ (.tail _ (.tail _ (.head _)))))))).c 0 _ rfl
 have c6_1 := (HS10.out.l _ (.tail _ (.tail _ (.tail _ (.tail _ (.tail _ (.tail _ (.head _)))))))).c 1 _ rfl
 have c6_2 := (HS10.out.l _ (.tail _ (.tail _ (.tail _ (.tail _ (.tail _ (.tail _ (.head _)))))))).c 2 _ rfl
 have c6_3 := (HS10.out.l _ (.tail _ (.tail _ (.tail _ (.tail _ (.tail _ (.tail _ (.head _)))))))).c 3 _ rfl
 have c6_4 := (HS10.out.l _ (.tail _ (.tail _ (.tail _ (.tail _ (.tail _ (.tail _ (.head _)))))))).c 4 _ rfl
 have c6_5 := (HS10.out.l _ (.tail _ (.tail _ (.tail _ (.tail _ (.tail _ (.tail _ (.head _)))))))).c 5 _ rfl
 have c7_0 := (HS10.out.l _ (.tail _ (.tail _ (.tail _ (.tail _ (.tail _ (.tail _ (.tail _ (.head _))))))))).c 0 _ rfl
 have c7_1 := (HS10.out.l _ (.tail _ (.tail _ (.tail _ (.tail _ (.tail _ (.tail _ (.tail _ (.head _))))))))).c 1 _ rfl
 have c7_2 := (HS10.out.l _ (.tail _ (.tail _ (.tail _ (.tail _ (.tail _ (.tail _ (.tail _ (.head _))))))))).c 2 _ rfl
 have c7_3 := (HS10.out.l _ (.tail _ (.tail _ (.tail _ (.tail _ (.tail _ (.tail _ (.tail _ (.head _))))))))).c 3 _ rfl
 have c7_4 := (HS10.out.l _ (.tail _ (.tail _ (.tail _ (.tail _ (.tail _ (.tail _ (.tail _ (.head _))))))))).c 4 _ rfl
 have c7_5 := (HS10.out.l _ (.tail _ (.tail _ (.tail _ (.tail _ (.tail _ (.tail _ (.tail _ (.head _))))))))).c 5 _ rfl
 have c7_6 := (HS10.out.l _ (.tail _ (.tail _ (.tail _ (.tail _ (.tail _ (.tail _ (.tail _ (.head _))))))))).c 6 _ rfl
 have c7_7 := (HS10.out.l _ (.tail _ (.tail _ (.tail _ (.tail _ (.tail _ (.tail _ (.tail _ (.head _))))))))).c 7 _ rfl
 go_wp2_with fail
 go_ret
 exact ⟨rfl, HS10.out.e.bel⟩
end
end Go.Proofs.YtifkfhnbkjkakaaGreatDoor
