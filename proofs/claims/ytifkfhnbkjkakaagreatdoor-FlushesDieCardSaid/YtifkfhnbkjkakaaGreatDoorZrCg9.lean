/- Layer 26: a call by itself; the record of a key, if just one slot has it. -/
import Derived.Test.YtifkfhnbkjkakaaGreatDoorZrCg8
import Derived.Test.YtifkfhnbkjkakaaGreatDoorZrSC
import Derived.Test.YtifkfhnbkjkakaaGreatDoorZrSE
import Derived.Test.YtifkfhnbkjkakaaGreatDoorZrSN
namespace Go.Proofs.YtifkfhnbkjkakaaGreatDoor
set_option linter.unusedSimpArgs false
set_option linter.unusedVariables false
set_option maxHeartbeats 4000000
set_option maxRecDepth 100000
open Go.RowKit
section
variable {w : World} {O : Om} {B : Wb} {f : Cf} {s s' : AW} {k X : Nat} {c : Clm}
theorem c_Begin26C (t : Nat) (ht : t < 64) (hm : chMay c = true) (hz : c.key.size ≤ maxLen) (hk : 10 ≤ k) (hhi : ∀ j, O j ≠ 0 → j < w.heap.size) :
 Calls Tryz.prog 32 #[.int .i64 t, clV c] w fun e w' => ∃ X, RP (NX k) w O (.iface 78 (PTR X)) (fun W G => ChAt W G k X t c chNew) e w' := by
 have hc : (c.verb == 7) = true ∨ ((c.verb == 7) = false ∧ (c.verb == 8) = true) ∨ ((c.verb == 7) = false ∧ (c.verb == 8) = false ∧ (c.verb == 9) = true) ∨ ((c.verb == 7) = false ∧ (c.verb == 8) = false ∧ (c.verb == 9) = false ∧ (c.verb == 10) = true) := by
  unfold chMay at hm
  rw [Bool.and_eq_true] at hm
  have h := hm.1
  unfold vbIs at h
  rw [decide_eq_true_eq] at h
  simp only [beq_iff_eq, beq_eq_false_iff_ne]
  omega
 have b1 := alloc_below w (.cells (clCs c).toArray 26)
 have HN := Lib.hid (c_NewChange (w := w.alloc (.cells (clCs c).toArray 26)) (O := O) (k := k) t ht hm hz hk (hi_below hhi b1))
 have HE := Lib.hid (Ext.of_below (S := NX k) hhi b1)
 clear b1 hm hz hhi
 unfold clCs at HN HE
 unfold clV at HN ⊢
 rcases hc with d7 | ⟨d7, d8⟩ | ⟨d7, d8, d9⟩ | ⟨d7, d8, d9, d10⟩
 all_goals
  go_enter Tryz.func32, Tryz.ntmps32
  go_wp2_with fail
  refine HN.out.mono ?_
  rintro e w2 ⟨X, rfl, G2, e2, h2⟩
  have HJ := Lib.hid (And.intro (HE.out.trans e2) h2)
  clear e2 h2 HN HE
  unfold PTR
  go_wp2_with fail
  go_ret
  exact ⟨X, rfl, G2, HJ.out⟩
theorem c_Begin26S (t : Nat) (ht : t < 64) (hm : mayB c = true) (hz : c.key.size ≤ maxLen) (hv : c.val.size ≤ maxLen) (hk : 10 ≤ k) (hhi : ∀ j, O j ≠ 0 → j < w.heap.size) :
 Calls Tryz.prog 32 #[.int .i64 t, clV c] w fun e w' => ∃ X, RP (NX k) w O (.iface 134 (PTR X)) (fun W G => StAt W G k X t c stNew) e w' := by
 have hc : (c.verb == 7) = false ∧ (c.verb == 8) = false ∧ (c.verb == 9) = false ∧ (c.verb == 10) = false := by
  unfold mayB at hm
  rw [Bool.and_eq_true] at hm
  have h := hm.1
  rw [decide_eq_true_eq] at h
  simp only [beq_eq_false_iff_ne]
  omega
 obtain ⟨d7, d8, d9, d10⟩ := hc
 have b1 := alloc_below w (.cells (clCs c).toArray 26)
 have HN := Lib.hid (c_NewStore (w := w.alloc (.cells (clCs c).toArray 26)) (O := O) (k := k) t ht hm hz hv hk (hi_below hhi b1))
 have HE := Lib.hid (Ext.of_below (S := NX k) hhi b1)
 clear b1 hm hz hhi hv
 unfold clCs at HN HE
 unfold clV at HN ⊢
 go_enter Tryz.func32, Tryz.ntmps32
 go_wp2_with fail
 refine HN.out.mono ?_
 rintro e w2 ⟨X, rfl, G2, e2, h2⟩
 have HJ := Lib.hid (And.intro (HE.out.trans e2) h2)
 clear e2 h2 HN HE
 unfold PTR
 go_wp2_with fail
 go_ret
 exact ⟨X, rfl, G2, HJ.out⟩
theorem c_Does26G {NQ RQ : World → Om → Nat → Prop} (t : Nat) (c : Clm) (ty : TypeId) (fG : FuncId) (n an nu ep pt : Int)
 (HB : ∀ W G, (∀ j, G j ≠ 0 → j < W.heap.size) → Calls Tryz.prog 32 #[.int .i64 t, clV c] W fun e w' => ∃ X, RP (NX 10) W G (.iface ty (PTR X)) (fun W1 G1 => NQ W1 G1 X) e w')
 (HR : ∀ W G X, PW W G B f s → Va W G → NQ W G X → (∀ j, G j ≠ 0 → j < W.heap.size) → Calls Tryz.prog 33 #[.pointer (some ⟨B.p, 0, none⟩), .iface ty (.pointer (some ⟨X, 0, none⟩)), .int .i64 200000] W (RP (SX 10 40) W G (.int .i64 n) fun W1 G1 => PW W1 G1 B f s' ∧ RQ W1 G1 X))
 (HG : ∀ W G X, RQ W G X → Calls Tryz.prog fG #[.pointer (some ⟨X, 0, none⟩)] W fun e w' => e = .returned (.tuple #[ansV an nu, .int .u64 ep, .int .i64 pt]) ∧ Below W.heap.size W w')
 (hm : ∀ X W, (method 635 ty (.pointer (some ⟨X, 0, none⟩)) "Got").run Tryz.prog W = .ok (fG, .pointer (some ⟨X, 0, none⟩)) W) (hK : enters fG)
 (hP : PW w O B f s) (hV : Va w O) (hhi : ∀ j, O j ≠ 0 → j < w.heap.size) :
 Calls Tryz.prog 10 #[.pointer (some ⟨B.p, 0, none⟩), .int .i64 t, clV c] w (RP (SX 10 41) w O (ansV an nu) fun W G => PW W G B f s') := by
 unfold enters at hK
 have b1 := alloc_below w (.cells (clCs c).toArray 26)
 obtain ⟨O2, e2, x2, -⟩ := alloc_ob (hi_below hhi b1) 41 a0Cs.toArray 36 (w.heap.size + 1) (by simp)
 have P2 := (hP.below hhi b1).ext e2 (by decide) (by decide) (by decide) (by decide)
 have E2 := (Ext.of_below (S := SX 10 41) hhi b1).trans (e2.mono fun t _ ht => .inr (by omega))
 have HN := Lib.hid (HB ((w.alloc (.cells (clCs c).toArray 26)).alloc (.cells a0Cs.toArray 36)) O2 e2.hi)
 have HJ := Lib.hid (And.intro E2 (And.intro P2 (And.intro x2 ((hV.below b1).ext e2))))
 have HRN := Lib.hid HR
 have HGT := Lib.hid HG
 clear b1 e2 P2 E2 x2 hP hhi HB HR HG hV
 unfold clCs a0Cs at HN HJ
 unfold clV at HN ⊢
 unfold ansV at HGT ⊢
 go_enter Tryz.func10, Tryz.ntmps10
 go_wp2_with fail
 refine HN.out.mono ?_
 rintro e w3 ⟨X, rfl, G3, e3, h3⟩
 have m3 := e3.mono (T := SX 10 41) fun t _ ht => SX.mono (by decide) (by decide) ht.sx
 have p3 := HJ.out.2.1.ext e3 (by unfold NX; omega) (by unfold NX; omega) (by unfold NX; omega) (by unfold NX; omega)
 have x3 := HJ.out.2.2.1.ext e3 (by unfold NX; omega)
 have HR3 := Lib.hid (HRN.out _ _ X p3 (HJ.out.2.2.2.ext e3) h3 e3.hi)
 have HJ3 := Lib.hid (And.intro (HJ.out.1.trans m3) (And.intro x3 (HJ.out.2.2.2.ext e3)))
 clear m3 p3 x3 h3 e3 HN HRN HJ
 unfold PTR
 go_wp2_with fail
 refine HR3.out.mono ?_
 rintro e w4 ⟨rfl, G4, e4, p4, h4⟩
 have x4 := HJ3.out.2.1.ext e4 (by unfold SX; omega)
 have HG := Lib.hid (HGT.out w4 G4 X h4)
 have HJ4 := Lib.hid (And.intro (HJ3.out.1.trans (e4.mono (T := SX 10 41) fun t _ ht => SX.mono (by decide) (by decide) ht)) (And.intro x4 (And.intro p4 (HJ3.out.2.2.ext e4))))
 clear x4 e4 p4 h4 HJ3 HR3 HGT
 go_wp2_with fail
 refine HG.out.mono ?_
 rintro e w5 ⟨rfl, hb5⟩
 have b6 := hb5.trans ((alloc_below w5 (.cells (aCs an nu).toArray 36)).mono hb5.size)
 have HJ6 := Lib.hid (And.intro (HJ4.out.1.below b6) (And.intro (HJ4.out.2.1.below b6) (And.intro (HJ4.out.2.2.1.below HJ4.out.1.hi b6) (HJ4.out.2.2.2.below b6))))
 unfold aCs at HJ6
 clear hb5 b6 HJ4 HG
 obtain ⟨w6, hw6⟩ : ∃ W, W = w5.alloc (.cells #[.int .u8 an, .int .u64 nu, .string ⟨#[]⟩, .string ⟨#[]⟩, .int .u32 0, .int .u64 0, .int .i64 0, .int .i64 0] 36) := ⟨_, rfl⟩
 rw [← hw6] at HJ6
 have hc : ∀ j u, [.int .u8 an, .int .u64 nu, .string ⟨#[]⟩, .string ⟨#[]⟩, .int .u32 0, .int .u64 0, .int .i64 0, .int .i64 0][j]? = some u → w6.cell? ⟨w5.heap.size, j, none⟩ = some u := fun j u hu => by
  rw [hw6]; exact cell_newA w5 #[.int .u8 an, .int .u64 nu, .string ⟨#[]⟩, .string ⟨#[]⟩, .int .u32 0, .int .u64 0, .int .i64 0, .int .i64 0] _ _ rfl j u (by simpa using hu)
 have y0 := hc 0 _ rfl
 have y1 := hc 1 _ rfl
 have y2 := hc 2 _ rfl
 have y3 := hc 3 _ rfl
 have y4 := hc 4 _ rfl
 have y5 := hc 5 _ rfl
 have y6 := hc 6 _ rfl
 have y7 := hc 7 _ rfl
 have x := HJ6.out.2.1
 have x0 := x.c 0 _ rfl
 have x1 := x.c 1 _ rfl
 have x2 := x.c 2 _ rfl
 have x3 := x.c 3 _ rfl
 have x4 := x.c 4 _ rfl
 have x5 := x.c 5 _ rfl
 have x6 := x.c 6 _ rfl
 have x7 := x.c 7 _ rfl
 have f0 := x.f 0
 have f1 := x.f 1
 have f2 := x.f 2
 have f3 := x.f 3
 have f4 := x.f 4
 have f5 := x.f 5
 have f6 := x.f 6
 have f7 := x.f 7
 clear hc x
 go_upto_region 4 with fail
 rw [← hw6]
 clear hw6
 go_wp2_with fail
 have M6 : Me 10 41 w O w6 G4 B f s' 41 (w.heap.size + 1) [.int .u8 0, .int .u64 0, .string ⟨#[]⟩, .string ⟨#[]⟩, .int .u32 0, .int .u64 0, .int .i64 0, .int .i64 0] := ⟨HJ6.out.1, HJ6.out.2.2.1, HJ6.out.2.1⟩
 have M9 := (((((((M6.set (by decide) (by decide) (by decide) 0 (.int .u8 an) (by simp)).set (by decide) (by decide) (by decide) 1 (.int .u64 nu) (by simp)).set (by decide) (by decide) (by decide) 2 (.string ⟨#[]⟩) (by simp)).set (by decide) (by decide) (by decide) 3 (.string ⟨#[]⟩) (by simp)).set (by decide) (by decide) (by decide) 4 (.int .u32 0) (by simp)).set (by decide) (by decide) (by decide) 5 (.int .u64 0) (by simp)).set (by decide) (by decide) (by decide) 6 (.int .i64 0) (by simp)).set (by decide) (by decide) (by decide) 7 (.int .i64 0) (by simp)
 obtain ⟨w9, hw9⟩ : ∃ W, W = ((((((((w6.setCell ⟨w.heap.size + 1, 0, none⟩ (.int .u8 an)).setCell ⟨w.heap.size + 1, 1, none⟩ (.int .u64 nu)).setCell ⟨w.heap.size + 1, 2, none⟩ (.string ⟨#[]⟩)).setCell ⟨w.heap.size + 1, 3, none⟩ (.string ⟨#[]⟩)).setCell ⟨w.heap.size + 1, 4, none⟩ (.int .u32 0)).setCell ⟨w.heap.size + 1, 5, none⟩ (.int .u64 0)).setCell ⟨w.heap.size + 1, 6, none⟩ (.int .i64 0)).setCell ⟨w.heap.size + 1, 7, none⟩ (.int .i64 0)) := ⟨_, rfl⟩
 rw [← hw9] at M9 ⊢
 have z0 := M9.t.c 0 _ rfl
 have z1 := M9.t.c 1 _ rfl
 have z2 := M9.t.c 2 _ rfl
 have z3 := M9.t.c 3 _ rfl
 have z4 := M9.t.c 4 _ rfl
 have z5 := M9.t.c 5 _ rfl
 have z6 := M9.t.c 6 _ rfl
 have z7 := M9.t.c 7 _ rfl
 have HF := Lib.hid M9
 clear M9 M6 hw9 HJ6
 exact bodyPost_ret (v := .agg #[.int .u8 an, .int .u64 nu, .string ⟨#[]⟩, .string ⟨#[]⟩, .int .u32 0, .int .u64 0, .int .i64 0, .int .i64 0]) (by simp [results, Tryz.results10, go_sem, z0, z1, z2, z3, z4, z5, z6, z7]) rfl ⟨rfl, G4, HF.out.e, HF.out.p⟩
theorem m_ChGot (a : Addr) (w : World) : (method 635 78 (.pointer (some a)) "Got").run Tryz.prog w = .ok (24, .pointer (some a)) w := by kernel_rfl
theorem m_StGot (a : Addr) (w : World) : (method 635 134 (.pointer (some a)) "Got").run Tryz.prog w = .ok (53, .pointer (some a)) w := by kernel_rfl
theorem c_DoesCG {t m : Nat} {s' : AW} {z' : Chm} (N : Nat) (hg : goodN chOver (chStep t c) (fun y => chPre c y.1 y.2) N (s, chNew) = true) (hr : runN chOver (chStep t c) 200000 (s, chNew) = (m, s', z')) (hv : z'.ln = 0) (hP : PW w O B f s) (hV : Va w O) (ht : t < 64) (hm : chMay c = true) (hex : -9223372036854775808 ≤ c.exp ∧ c.exp ≤ 9223372036854775807) (hby : 0 ≤ c.by_ ∧ c.by_ < 18446744073709551616) (hkz : c.key.size ≤ maxLen) (hvl : ∀ y ∈ s.it, y.val.size ≤ maxLen) (hhi : ∀ j, O j ≠ 0 → j < w.heap.size) (n0 : 0 ≤ s.n) (n1 : s.n + 200000 ≤ 4611686018427387904) :
 Calls Tryz.prog 10 #[.pointer (some ⟨B.p, 0, none⟩), .int .i64 t, clV c] w (RP (SX 10 41) w O (ansV z'.an z'.nu) fun W G => PW W G B f s') := by
 have hvb : c.verb = 7 ∨ c.verb = 8 ∨ c.verb = 9 ∨ c.verb = 10 := by
  unfold chMay at hm
  rw [Bool.and_eq_true] at hm
  have h := hm.1
  unfold vbIs at h
  rwa [decide_eq_true_eq] at h
 refine c_Does26G (NQ := fun W G X => ChAt W G 10 X t c chNew) (RQ := fun W G X => ChAt W G 10 X t c z') t c 78 24 m z'.an z'.nu z'.ep z'.pt (fun W G hh => c_Begin26C t ht hm hkz (by decide) hh) (fun W G X hp hv1 hx hh => ?_) (fun W G X hx => c_ChGot hx hv) (fun X W => m_ChGot _ W) (run_enter Tryz.func24 (by kernel_rfl) (by kernel_rfl)) hP hV hhi
 have h := c_ChRun (k := 10) 200000 N chNew hp hx hv1 ⟨hvl, fun e => by cases e⟩ hg ht hvb hex hby hkz (by decide) hh n0 n1
 rw [hr] at h
 exact h.mono fun e w' h2 => RP.mono h2 (fun _ _ h => h) fun W1 G1 h => ⟨h.1, h.2.1⟩
theorem c_DoesC {b : Int} {t m : Nat} {s' : AW} {z' : Chm} (hS : ChI c b s chNew) (hr : runN chOver (chStep t c) 200000 (s, chNew) = (m, s', z')) (ho : chOver z' = true) (hP : PW w O B f s) (hV : Va w O) (ht : t < 64) (hm : chMay c = true) (hex : -9223372036854775808 ≤ c.exp ∧ c.exp ≤ 9223372036854775807) (hby : 0 ≤ c.by_ ∧ c.by_ < 18446744073709551616) (hkz : c.key.size ≤ maxLen) (hvl : ∀ y ∈ s.it, y.val.size ≤ maxLen) (hhi : ∀ j, O j ≠ 0 → j < w.heap.size) (n0 : 0 ≤ s.n) (n1 : s.n + 200000 ≤ 4611686018427387904) :
 Calls Tryz.prog 10 #[.pointer (some ⟨B.p, 0, none⟩), .int .i64 t, clV c] w (RP (SX 10 41) w O (ansV z'.an z'.nu) fun W G => PW W G B f s') :=
 c_DoesCG 200000 (hS.goodR hr ho) hr (by unfold chOver at ho; exact of_decide_eq_true (by simpa using ho)) hP hV ht hm hex hby hkz hvl hhi n0 n1
theorem c_DoesSG {t m : Nat} {s' : AW} {z' : Stm} (N : Nat) (hg : goodN stOver (stStep t c 16) (fun y => stPre c f.g y.1 y.2) N (s, stNew) = true) (hr : runN stOver (stStep t c 16) 200000 (s, stNew) = (m, s', z')) (hv : z'.ln = 0) (hP : PW w O B f s) (hV : Va w O) (ht : t < 64) (hm : mayB c = true) (hex : -9223372036854775808 ≤ c.exp ∧ c.exp ≤ 9223372036854775807) (hkz : c.key.size ≤ maxLen) (hvz : c.val.size ≤ maxLen) (g0 : 1 ≤ f.g) (g1 : f.g ≤ 65536) (hhi : ∀ j, O j ≠ 0 → j < w.heap.size) (n0 : 0 ≤ s.n) (n1 : s.n + 200000 ≤ 4611686018427387904) :
 Calls Tryz.prog 10 #[.pointer (some ⟨B.p, 0, none⟩), .int .i64 t, clV c] w (RP (SX 10 41) w O (ansV z'.an z'.nu) fun W G => PW W G B f s') := by
 refine c_Does26G (NQ := fun W G X => StAt W G 10 X t c stNew) (RQ := fun W G X => StAt W G 10 X t c z') t c 134 53 m z'.an z'.nu z'.ep z'.pt (fun W G hh => c_Begin26S t ht hm hkz hvz (by decide) hh) (fun W G X hp hv1 hx hh => ?_) (fun W G X hx => c_StGot hx hv) (fun X W => m_StGot _ W) (run_enter Tryz.func53 (by kernel_rfl) (by kernel_rfl)) hP hV hhi
 have h := c_StRun (k := 10) 200000 N 16 stNew hp hx hg ht hex hkz (by decide) g0 g1 hh n0 n1
 rw [hr] at h
 exact h
theorem c_DoesS {b : Int} {t m : Nat} {s' : AW} {z' : Stm} (hS : StI c f.g b s stNew) (hr : runN stOver (stStep t c 16) 200000 (s, stNew) = (m, s', z')) (ho : stOver z' = true) (hP : PW w O B f s) (hV : Va w O) (ht : t < 64) (hm : mayB c = true) (hex : -9223372036854775808 ≤ c.exp ∧ c.exp ≤ 9223372036854775807) (hkz : c.key.size ≤ maxLen) (hvz : c.val.size ≤ maxLen) (g0 : 1 ≤ f.g) (g1 : f.g ≤ 65536) (hhi : ∀ j, O j ≠ 0 → j < w.heap.size) (n0 : 0 ≤ s.n) (n1 : s.n + 200000 ≤ 4611686018427387904) :
 Calls Tryz.prog 10 #[.pointer (some ⟨B.p, 0, none⟩), .int .i64 t, clV c] w (RP (SX 10 41) w O (ansV z'.an z'.nu) fun W G => PW W G B f s') :=
 c_DoesSG 200000 (hS.goodR hr ho) hr (by unfold stOver at ho; exact of_decide_eq_true (by simpa using ho)) hP hV ht hm hex hkz hvz g0 g1 hhi n0 n1
def RecCut (w0 : World) (O0 : Om) (O : Om) (B : Wb) (f : Cf) (s : AW) (R : Nat) (x : It) (is : Bool) (v : Value) (wx : World) : Prop := v = .bool is ∧ Me 10 41 w0 O0 wx O B f s 41 R (itCs x)
theorem Me.setRec {w0 : World} {O0 : Om} {R : Nat} {x : It} (M : Me 10 41 w0 O0 w O B f s 41 R (itCs x)) (y : It) :
 Me 10 41 w0 O0 ((((((w.setCell ⟨R, 0, none⟩ (.string y.key)).setCell ⟨R, 1, none⟩ (.string y.val)).setCell ⟨R, 2, none⟩ (.int .u32 y.fl)).setCell ⟨R, 3, none⟩ (.int .u64 y.id)).setCell ⟨R, 4, none⟩ (.int .i64 y.dies)).setCell ⟨R, 5, none⟩ (.int .i64 y.gen)) O B f s 41 R (itCs y) :=
 (((((M.set (by decide) (by decide) (by decide) 0 (.string y.key) (by simp [itCs])).set (by decide) (by decide) (by decide) 1 (.string y.val) (by simp [itCs])).set (by decide) (by decide) (by decide) 2 (.int .u32 y.fl) (by simp [itCs])).set (by decide) (by decide) (by decide) 3 (.int .u64 y.id) (by simp [itCs])).set (by decide) (by decide) (by decide) 4 (.int .i64 y.dies) (by simp [itCs])).set (by decide) (by decide) (by decide) 5 (.int .i64 y.gen) (by simp [itCs])
theorem c_rec26 {key : ByteArray} {n : Int} (ha : atL key s = [n]) (hP : PW w O B f s) (hkz : key.size ≤ maxLen) (hil : s.it.length ≤ 1000000) (n0 : -9223372036854775808 ≤ n ∧ n ≤ 9223372036854775807) (hhi : ∀ j, O j ≠ 0 → j < w.heap.size) :
 Calls Tryz.prog 11 #[.pointer (some ⟨B.p, 0, none⟩), .string key] w (RP (SX 10 41) w O (.tuple #[itV (itAt s.it n), .bool (itIs s.it n)]) fun W G => PW W G B f s) := by
 obtain ⟨O1, e1, r1, -⟩ := alloc_ob hhi 41 (itCs it00).toArray 34 w.heap.size rfl
 have P1 := hP.ext e1 (by decide) (by decide) (by decide) (by decide)
 have HA := Lib.hid (c_At14 (key := key) 10 (by decide) P1 hkz hil e1.hi)
 rw [ha] at HA
 have HM := Lib.hid ((⟨e1.mono fun t _ ht => .inr (by omega), P1, r1⟩ : Me 10 41 w O (w.alloc (.cells (itCs it00).toArray 34)) O1 B f s 41 w.heap.size (itCs it00)))
 unfold itCs it00 at HA HM
 clear e1 r1 P1 hP hhi
 have HIL := Lib.hid hil
 clear hil ha
 obtain ⟨R, hR⟩ : ∃ r, r = w.heap.size := ⟨_, rfl⟩
 obtain ⟨is, his⟩ : ∃ b, b = itIs s.it n := ⟨_, rfl⟩
 obtain ⟨y, hy⟩ : ∃ y, y = itAt s.it n := ⟨_, rfl⟩
 have HIS := Lib.hid his
 have HY := Lib.hid hy
 rw [← his, ← hy]
 clear his hy
 unfold itV
 go_enter Tryz.func11, Tryz.ntmps11
 go_wp2_with fail
 refine HA.out.mono ?_
 rintro e w2 ⟨lv, rfl, G2, e2, p2, r2⟩
 have har := Arr.of_own r2.own
 obtain ⟨h1, ⟨-, h0⟩ | ⟨lb, lc, cur, rfl, -⟩⟩ := r2.own
 · cases h0
 have ho := r2.vo lb rfl
 obtain ⟨-, ao, c2, hv, -, -, hx⟩ := har
 injection hv with hao
 subst hao
 obtain ⟨b', o', hbo, hXl, l0⟩ := hx 0 _ rfl
 injection hbo with hbo
 injection hbo with hb1 ho1
 subst hb1
 subst ho1
 have l0 : w2.cell? ⟨lb, 0, none⟩ = some (.int .i64 n) := l0
 have m2 := HM.out.oth (by decide) e2 (by intro t ht; omega)
 rw [← hR] at m2
 have bd := drew_below w2
 have HM2 := Lib.hid (m2.below bd)
 have hne2 : ¬ lb = R := fun e => by have := m2.t.o; rw [← e, ho] at this; cases this
 have hne1 : ¬ B.p = R := m2.p.ne_obj m2.t (by decide)
 have hne3 : ¬ R = lb := fun e => hne2 e.symm
 have hne4 : ¬ R = B.p := fun e => hne1 e.symm
 have HAT := Lib.hid (c_IAtB n (m2.below bd).p.ar HIL.out)
 have q1 := m2.p.wo.c1
 have HLD := Lib.hid (And.intro (Nat.lt_of_lt_of_le hXl bd.size) ((bd.cell (p := ⟨lb, 0, none⟩) hXl).trans l0))
 clear r2 h1 hx hXl ho m2 bd HA HM HIL e2 p2
 rw [← hR]
 clear hR
 rw [← HIS.out, ← HY.out] at HAT
 clear HIS HY
 go_upto_region 4 with fail
 go_cut [5] (fun v wx => RecCut w O G2 B f s R y is v wx)
 case first =>
  go_region_held3 (fun w' => w'.cell? ⟨B.p, 1, none⟩ = some (.pointer (some ⟨B.ip, 0, none⟩)) ∧ w'.cell? ⟨lb, 0, none⟩ = some (.int .i64 n)) (first | (go_keep; done) | (simp [go_sem, hne1, hne2, q1, l0]; done) | (refine ⟨?_, ?_⟩ <;> simp [go_sem, hne1, hne2, q1, l0]))
   (first
     | (go_at_call 35
        refine HAT.out.mono ?_
        rintro e w3 ⟨rfl, hb3⟩
        have m3 := HM2.out.below hb3
        have q1 := m3.p.wo.c1
        have l0 := (hb3.cell (p := ⟨lb, 0, none⟩) HLD.out.1).trans HLD.out.2
        have z0 := m3.t.c 0 _ rfl
        have z1 := m3.t.c 1 _ rfl
        have z2 := m3.t.c 2 _ rfl
        have z3 := m3.t.c 3 _ rfl
        have z4 := m3.t.c 4 _ rfl
        have z5 := m3.t.c 5 _ rfl
        have f0 := m3.t.f 0
        have f1 := m3.t.f 1
        have f2 := m3.t.f 2
        have f3 := m3.t.f 3
        have f4 := m3.t.f 4
        have f5 := m3.t.f 5
        have HJ := Lib.hid m3
        clear m3 hb3))
  all_goals
   go_wp2_with fail
   go_meet
   exact ⟨rfl, Me.setRec (x := it00) HJ.out y⟩
 obtain ⟨rfl, m⟩ := hcut
 have z0 := m.t.c 0 _ rfl
 have z1 := m.t.c 1 _ rfl
 have z2 := m.t.c 2 _ rfl
 have z3 := m.t.c 3 _ rfl
 have z4 := m.t.c 4 _ rfl
 have z5 := m.t.c 5 _ rfl
 have HF := Lib.hid m
 clear m
 go_wp2_with fail
 exact bodyPost_ret (v := .tuple #[.agg #[.string y.key, .string y.val, .int .u32 y.fl, .int .u64 y.id, .int .i64 y.dies, .int .i64 y.gen], .bool is]) (by simp [results, Tryz.results11, go_sem, z0, z1, z2, z3, z4, z5]) rfl ⟨rfl, G2, HF.out.e, HF.out.p⟩
theorem c_rec26N {key : ByteArray} (ha : atL key s = []) (hP : PW w O B f s) (hkz : key.size ≤ maxLen) (hil : s.it.length ≤ 1000000) (hhi : ∀ j, O j ≠ 0 → j < w.heap.size) :
 Calls Tryz.prog 11 #[.pointer (some ⟨B.p, 0, none⟩), .string key] w (RP (SX 10 41) w O (.tuple #[itV it00, .bool false]) fun W G => PW W G B f s) := by
 obtain ⟨O1, e1, r1, -⟩ := alloc_ob hhi 41 (itCs it00).toArray 34 w.heap.size rfl
 have P1 := hP.ext e1 (by decide) (by decide) (by decide) (by decide)
 have HA := Lib.hid (c_At14 (key := key) 10 (by decide) P1 hkz hil e1.hi)
 rw [ha] at HA
 have HM := Lib.hid ((⟨e1.mono fun t _ ht => .inr (by omega), P1, r1⟩ : Me 10 41 w O (w.alloc (.cells (itCs it00).toArray 34)) O1 B f s 41 w.heap.size (itCs it00)))
 unfold itCs it00 at HA HM
 clear e1 r1 P1 hP hhi hil ha
 obtain ⟨R, hR⟩ : ∃ r, r = w.heap.size := ⟨_, rfl⟩
 unfold itV it00
 go_enter Tryz.func11, Tryz.ntmps11
 go_wp2_with fail
 refine HA.out.mono ?_
 rintro e w2 ⟨lv, rfl, G2, e2, p2, r2⟩
 obtain ⟨-, ao, c2, rfl, -, -, -⟩ := Arr.of_own r2.own
 have m2 := HM.out.oth (by decide) e2 (by intro t ht; omega)
 rw [← hR] at m2
 have z0 := m2.t.c 0 _ rfl
 have z1 := m2.t.c 1 _ rfl
 have z2 := m2.t.c 2 _ rfl
 have z3 := m2.t.c 3 _ rfl
 have z4 := m2.t.c 4 _ rfl
 have z5 := m2.t.c 5 _ rfl
 have f0 := m2.t.f 0
 have f1 := m2.t.f 1
 have f2 := m2.t.f 2
 have f3 := m2.t.f 3
 have f4 := m2.t.f 4
 have f5 := m2.t.f 5
 have HF := Lib.hid (Me.setRec (x := it00) m2 it00)
 unfold it00 at HF
 clear r2 m2 HA HM e2 p2
 rw [← hR]
 clear hR
 go_wp2_with fail
 obtain ⟨w9, hw9⟩ : ∃ W, W = ((((((w2.setCell ⟨R, 0, none⟩ (.string ⟨#[]⟩)).setCell ⟨R, 1, none⟩ (.string ⟨#[]⟩)).setCell ⟨R, 2, none⟩ (.int .u32 0)).setCell ⟨R, 3, none⟩ (.int .u64 0)).setCell ⟨R, 4, none⟩ (.int .i64 0)).setCell ⟨R, 5, none⟩ (.int .i64 0)) := ⟨_, rfl⟩
 have HF : Hid (Me 10 41 w O w9 G2 B f s 41 R (itCs it00)) := by rw [hw9]; exact HF
 rw [← hw9]
 clear z0 z1 z2 z3 z4 z5 f0 f1 f2 f3 f4 f5 hw9
 have z0 := HF.out.t.c 0 _ rfl
 have z1 := HF.out.t.c 1 _ rfl
 have z2 := HF.out.t.c 2 _ rfl
 have z3 := HF.out.t.c 3 _ rfl
 have z4 := HF.out.t.c 4 _ rfl
 have z5 := HF.out.t.c 5 _ rfl
 exact bodyPost_ret (v := .tuple #[.agg #[.string ⟨#[]⟩, .string ⟨#[]⟩, .int .u32 0, .int .u64 0, .int .i64 0, .int .i64 0], .bool false]) (by simp [results, Tryz.results11, go_sem, z0, z1, z2, z3, z4, z5, it00]) rfl ⟨rfl, G2, HF.out.e, HF.out.p⟩
end
end Go.Proofs.YtifkfhnbkjkakaaGreatDoor
