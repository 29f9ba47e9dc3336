/- Layer 26: the program's Change: it takes the key away; it stores a new record. -/
import Derived.Test.YtifkfhnbkjkakaaGreatDoorZrCg2
namespace Go.Proofs.YtifkfhnbkjkakaaGreatDoor
set_option linter.unusedSimpArgs false
set_option linter.unusedVariables false
set_option maxHeartbeats 4000000
set_option maxRecDepth 100000
open Go.RowKit
def DL1V (bx : Nat) : Value := .func (.func 187) #[] #[.pointer (some ⟨bx, 0, none⟩)]
def DL12V (bx : Nat) : Value := .func (.func 189) #[] #[.pointer (some ⟨bx, 0, none⟩)]
def LESSV : Value := ACCV (.func 188) #[] #[]
def ST1V (bx br : Nat) : Value := ACCV (.func 245) #[] #[.pointer (some ⟨bx, 0, none⟩), .pointer (some ⟨br, 0, none⟩)]
def ST2V (ba bx : Nat) : Value := .func (.func 246) #[] #[.pointer (some ⟨ba, 0, none⟩), .pointer (some ⟨bx, 0, none⟩)]
def aKs (ka kn : Int) : List Value := [.int .u8 ka, .int .u64 kn, .string ⟨#[]⟩, .string ⟨#[]⟩, .int .u32 0, .int .u64 0, .int .i64 0, .int .i64 0]
section
variable {w w0 : World} {O O0 : Om} {B : Wb} {f : Cf} {s : AW} {a b k X : Nat} {pv th : Value} {tl : List Value} {c : Clm} {p : Spt} {x : It} {rf an nu ep pt : Int}
theorem c_ChDeletes (wv : Value) (M : Me k (k + 30) w0 O0 w O B f s k X (chCs c pv th (chTl p x rf an nu ep pt))) (hp : p.ok) (hk : 10 ≤ k) :
 Calls Tryz.prog 124 #[.pointer (some ⟨X, 0, none⟩), wv] w fun e w' => ∃ U bx, ChQ k w0 O0 w O B f s X c (.iface 288 (.pointer (some ⟨U, 0, none⟩))) (DL1V bx) (chTl p x rf an nu ep pt) (fun W G => OutAt W G (k + 9) U p ⟨0, 0⟩ ∧ Bx W G bx [.pointer (some ⟨X, 0, none⟩)]) e w' := by
 obtain ⟨m1, x1, b1⟩ := box_more M (.pointer (some ⟨X, 0, none⟩)) 78 w.heap.size rfl
 obtain ⟨W, hW⟩ : ∃ W, W = w.alloc (.cells #[.pointer (some ⟨X, 0, none⟩)] 78) := ⟨_, rfl⟩
 rw [← hW] at m1 x1 b1
 have hE := Ext.of_below (S := SX k (k + 30)) M.e.hi b1
 have y0 := x1.c 0 _ rfl
 have q9 := m1.t.c 9 _ rfl
 have q10 := m1.t.c 10 _ rfl
 have q11 := m1.t.c 11 _ rfl
 have bd := drew_below W
 have HN := Lib.hid (c_NewOut (k := k + 9) (w := W.drew) (O := O) hp (hi_below m1.e.hi bd))
 have HB := Lib.hid (And.intro (m1.below bd) (And.intro (x1.below bd) (hE.below bd)))
 obtain ⟨bx, hbx⟩ : ∃ n, n = w.heap.size := ⟨_, rfl⟩
 rw [← hbx] at y0 HB
 obtain ⟨pb, hpb⟩ : ∃ v, v = p.b := ⟨_, rfl⟩
 obtain ⟨pq, hpq⟩ : ∃ v, v = p.q := ⟨_, rfl⟩
 obtain ⟨ps, hps⟩ : ∃ v, v = p.s := ⟨_, rfl⟩
 obtain ⟨tl, htl⟩ : ∃ tl, tl = chTl p x rf an nu ep pt := ⟨_, rfl⟩
 have t0 : tl[0]? = some (.int .i64 pb) := by rw [htl, hpb]; rfl
 have t1 : tl[1]? = some (.int .i64 pq) := by rw [htl, hpq]; rfl
 have t2 : tl[2]? = some (.int .i64 ps) := by rw [htl, hps]; rfl
 rw [← htl] at HB ⊢
 rw [← hpb, ← hpq, ← hps] at HN
 rw [← hpb] at q9
 rw [← hpq] at q10
 rw [← hps] at q11
 clear M m1 x1 b1 hE bd hp hpb hpq hps htl
 go_enter Tryz.func124, Tryz.ntmps124
 go_upto_region 1 with fail
 rw [← hW, ← hbx]
 clear hW hbx
 go_region_held3 (fun w' => w'.cell? ⟨bx, 0, none⟩ = some (.pointer (some ⟨X, 0, none⟩)) ∧ w'.cell? ⟨X, 9, none⟩ = some (.int .i64 pb) ∧ w'.cell? ⟨X, 10, none⟩ = some (.int .i64 pq) ∧ w'.cell? ⟨X, 11, none⟩ = some (.int .i64 ps)) (go_keep)
  (first
    | (go_at_call 186
       refine HN.out.mono ?_
       rintro e w1 ⟨U, rfl, G1, e1, k1⟩
       obtain ⟨M1, em⟩ := HB.out.1.ow e1 (by intro t ht; omega) hk
       have y0 := (HB.out.2.1.ext e1).c 0 _ rfl
       have q9 : w1.cell? ⟨X, 9, none⟩ = some (.int .i64 pb) := M1.t.c 9 _ t0
       have q10 : w1.cell? ⟨X, 10, none⟩ = some (.int .i64 pq) := M1.t.c 10 _ t1
       have q11 : w1.cell? ⟨X, 11, none⟩ = some (.int .i64 ps) := M1.t.c 11 _ t2
       have HM1 := Lib.hid (And.intro (HB.out.2.1.ext e1) (And.intro (HB.out.2.2.trans em) k1))
       have HS := Lib.hid (c_ChOn (c := c) (tl := tl) 288 (.pointer (some ⟨U, 0, none⟩)) (.func 187) #[] #[.pointer (some ⟨bx, 0, none⟩)] M1 hk)
       clear em e1 k1 M1)
    | (go_at_call 66
       refine HS.out.mono ?_
       rintro e w2 ⟨rfl, m2, e2⟩
       have y0 := (HM1.out.1.ext e2).c 0 _ rfl
       have q9 : w2.cell? ⟨X, 9, none⟩ = some (.int .i64 pb) := m2.t.c 9 _ t0
       have q10 : w2.cell? ⟨X, 10, none⟩ = some (.int .i64 pq) := m2.t.c 10 _ t1
       have q11 : w2.cell? ⟨X, 11, none⟩ = some (.int .i64 ps) := m2.t.c 11 _ t2
       have HQ := Lib.hid (And.intro m2 e2)
       clear m2 e2))
 all_goals
  go_wp2_with fail
  go_end0
  obtain ⟨m2, e2⟩ := HQ.out
  obtain ⟨h2, h3, h4⟩ := HM1.out
  exact ⟨U, bx, rfl, G1, m2, h3.trans (e2.mono fun t _ ht => SX.one ht), h4.ext e2 (by omega), h2.ext e2⟩
theorem c_ChDel1 {bx : Nat} (wv : Value) (M : Me k (k + 30) w0 O0 w O B f s k X (chCs c pv th tl)) (hx : Bx w O bx [.pointer (some ⟨X, 0, none⟩)]) (hk : 10 ≤ k) :
 Calls Tryz.prog 187 #[wv, .pointer (some ⟨bx, 0, none⟩)] w (ChQ k w0 O0 w O B f s X c LESSV (DL12V bx) tl fun W G => Bx W G bx [.pointer (some ⟨X, 0, none⟩)]) := by
 have HO := Lib.hid (c_ChOn (c := c) (tl := tl) 244 (.func (.func 188) #[] #[]) (.func 189) #[] #[.pointer (some ⟨bx, 0, none⟩)] M hk)
 have HX := Lib.hid hx
 have q0 := hx.c 0 _ rfl
 clear M hx
 go_enter Tryz.func187, Tryz.ntmps187
 go_wp2_with fail
 refine HO.out.mono ?_
 rintro e w1 ⟨rfl, m1, e1⟩
 have HR := Lib.hid (And.intro m1 (And.intro (e1.mono (T := SX k (k + 30)) fun t _ ht => SX.one ht) (HX.out.ext e1)))
 clear m1 e1
 go_wp2_with fail
 go_end0
 exact ⟨rfl, O, HR.out.1, HR.out.2.1, HR.out.2.2⟩
theorem c_ChDel11 (hP : PW w O B f s) (hhi : ∀ j, O j ≠ 0 → j < w.heap.size) (n0 : 0 ≤ s.n) (n1 : s.n ≤ 4611686018427387904) :
 Calls Tryz.prog 188 #[.pointer (some ⟨B.p, 0, none⟩)] w (RP SW w O (.tuple #[]) fun W G => PW W G B f (awAdd 6 18446744073709551615 s)) := by
 have HA := Lib.hid (c_AddP 6 18446744073709551615 hP hhi (by decide) (by decide) (by decide) (by decide) n0 n1)
 have p0 := hP.wo.c0
 clear hP hhi
 go_enter Tryz.func188, Tryz.ntmps188
 go_wp2_with fail
 refine HA.out.mono ?_
 rintro e w1 ⟨rfl, G, e1, p1⟩
 have HR := Lib.hid (And.intro e1 p1)
 clear e1 p1
 go_wp2_with fail
 go_end0
 exact ⟨rfl, G, HR.out⟩
theorem c_ChDel12 {bx : Nat} (wv : Value) (M : Me k (k + 30) w0 O0 w O B f s k X (chCs c pv th (chTl p x rf an nu ep pt))) (hx : Bx w O bx [.pointer (some ⟨X, 0, none⟩)]) (hp : p.ok) (hk : 10 ≤ k) :
 Calls Tryz.prog 189 #[wv, .pointer (some ⟨bx, 0, none⟩)] w fun e w' => ∃ Mk bx bk, ChQ k w0 O0 w O B f s X c (.iface 246 (.pointer (some ⟨Mk, 0, none⟩))) (MKSV bx bk) (chTl p x rf 6 nu ep pt) (fun W G => MkAt W G (k + 6) Mk [p.ver] ∧ Bx W G bx [.pointer (some ⟨X, 0, none⟩)] ∧ Bx W G bk [.int .u8 6]) e w' := by
 have HG := Lib.hid (c_ChMarks 6 M hp hk)
 have q0 := hx.c 0 _ rfl
 clear M hx hp
 go_enter Tryz.func189, Tryz.ntmps189
 go_wp2_with fail
 refine HG.out.mono ?_
 rintro e w1 ⟨Mk, bx', bk, rfl, h⟩
 have HR := Lib.hid h
 clear h
 go_wp2_with fail
 go_end0
 exact ⟨Mk, bx', bk, rfl, HR.out⟩
theorem c_ChSt1 {r : Int} {bx br : Nat} (M : Me k (k + 30) w0 O0 w O B f s k X (chCs c pv th (chTl p x rf an nu ep pt))) (hp : p.ok) (hx : Bx w O bx [.pointer (some ⟨X, 0, none⟩)]) (hr : Ob w O (k + 27) br [.int .i64 r]) (r0 : 0 ≤ r) (r1 : r ≤ 9223372036854775807) (hk : 10 ≤ k) (n0 : 0 ≤ s.n) (n1 : s.n ≤ 4611686018427387904) :
 Calls Tryz.prog 245 #[.pointer (some ⟨B.p, 0, none⟩), .pointer (some ⟨bx, 0, none⟩), .pointer (some ⟨br, 0, none⟩)] w (RP SW w O (.tuple #[]) fun W G => PW W G B f (awStore p.item r s)) := by
 have hw : IntKind.u64.wrap r = r := by rw [IntKind.wrap_u64]; omega
 have ht := hp.item
 have hq := hp.q2
 have HIT := Lib.hid (fun W => c_Item p.b p.q p.s W (by have := hp.b0; omega) (by have := hp.b1; omega) (by have := hp.q0; omega) (by omega) (by have := hp.s0; omega) (by have := hp.s1; omega))
 rw [show plItem p.b p.q p.s = p.item from rfl] at HIT
 have HST := Lib.hid (fun (W : World) (G : Om) (q : PW W G B f s) (hh : ∀ j, G j ≠ 0 → j < W.heap.size) => c_StoreP p.item (IntKind.u64.wrap r) q hh (by omega) (by omega) (by rw [hw]; exact r0) (by rw [hw]; omega) n0 n1)
 have HW := Lib.hid hw
 have bd := drew_below w
 have HJ := Lib.hid (And.intro (M.below bd) (And.intro (hx.below bd) (And.intro (hr.below bd) (Ext.of_below (S := SW) M.e.hi bd))))
 have q0 := hx.c 0 _ rfl
 have q1 := hr.c 0 _ rfl
 have p0 := M.p.wo.c0
 have z9 := M.t.c 9 _ rfl
 have z10 := M.t.c 10 _ rfl
 have z11 := M.t.c 11 _ rfl
 clear M hp hx hr hw ht hq r0 r1 n0 n1 bd
 go_enter Tryz.func245, Tryz.ntmps245
 go_region_held3 (fun w' => w'.cell? ⟨bx, 0, none⟩ = some (.pointer (some ⟨X, 0, none⟩)) ∧ w'.cell? ⟨br, 0, none⟩ = some (.int .i64 r) ∧ w'.cell? ⟨B.p, 0, none⟩ = some (.pointer (some ⟨B.c, 0, none⟩)) ∧ w'.cell? ⟨X, 9, none⟩ = some (.int .i64 p.b) ∧ w'.cell? ⟨X, 10, none⟩ = some (.int .i64 p.q) ∧ w'.cell? ⟨X, 11, none⟩ = some (.int .i64 p.s)) (go_keep)
  (first
    | (go_at_call 154
       refine (HIT.out _).mono ?_
       rintro e w1 ⟨rfl, hb⟩
       replace HJ := Lib.hid (And.intro (HJ.out.1.below hb) (And.intro (HJ.out.2.1.below hb) (And.intro (HJ.out.2.2.1.below hb) (HJ.out.2.2.2.below hb))))
       clear hb
       have q0 := HJ.out.2.1.c 0 _ rfl
       have q1 := HJ.out.2.2.1.c 0 _ rfl
       have p0 := HJ.out.1.p.wo.c0
       have z9 := HJ.out.1.t.c 9 _ rfl
       have z10 := HJ.out.1.t.c 10 _ rfl
       have z11 := HJ.out.1.t.c 11 _ rfl)
    | (go_at_call 50
       refine (HST.out _ _ HJ.out.1.p HJ.out.1.e.hi).mono ?_
       rintro e w2 ⟨rfl, G2, e2, p2⟩
       rw [HW.out] at p2
       have m2 := HJ.out.1.world hk e2 p2
       have HJ2 := Lib.hid (And.intro p2 (HJ.out.2.2.2.trans e2))
       have q0 := (HJ.out.2.1.ext e2).c 0 _ rfl
       have q1 := (HJ.out.2.2.1.ext e2 (by unfold SW; omega)).c 0 _ rfl
       have p0 := p2.wo.c0
       have z9 := m2.t.c 9 _ rfl
       have z10 := m2.t.c 10 _ rfl
       have z11 := m2.t.c 11 _ rfl
       clear e2 p2 m2))
 all_goals
  clear HJ HIT HST
  go_wp2_with fail
  go_end0
  exact ⟨rfl, G2, HJ2.out.2, HJ2.out.1⟩
theorem c_ChSt2 {ka kn : Int} {ba bx : Nat} (wv : Value) (M : Me k (k + 30) w0 O0 w O B f s k X (chCs c pv th (chTl p x rf an nu ep pt))) (hx : Bx w O bx [.pointer (some ⟨X, 0, none⟩)]) (ha : Bx w O ba (aKs ka kn)) (hp : p.ok) (hk : 10 ≤ k) :
 Calls Tryz.prog 246 #[wv, .pointer (some ⟨ba, 0, none⟩), .pointer (some ⟨bx, 0, none⟩)] w fun e w' => ∃ Mk bx bk, ChQ k w0 O0 w O B f s X c (.iface 246 (.pointer (some ⟨Mk, 0, none⟩))) (MKSV bx bk) (chTl p x rf ka kn ep pt) (fun W G => MkAt W G (k + 6) Mk [p.ver] ∧ Bx W G bx [.pointer (some ⟨X, 0, none⟩)] ∧ Bx W G bk [.int .u8 ka]) e w' := by
 have q0 := hx.c 0 _ rfl
 have a0 := ha.c 0 _ rfl
 have a1 := ha.c 1 _ rfl
 have a2 := ha.c 2 _ rfl
 have a3 := ha.c 3 _ rfl
 have a4 := ha.c 4 _ rfl
 have a5 := ha.c 5 _ rfl
 have a6 := ha.c 6 _ rfl
 have a7 := ha.c 7 _ rfl
 have q19 := M.t.c 19 _ rfl
 have q20 := M.t.c 20 _ rfl
 have q21 := M.t.c 21 _ rfl
 have q22 := M.t.c 22 _ rfl
 have q23 := M.t.c 23 _ rfl
 have q24 := M.t.c 24 _ rfl
 have q25 := M.t.c 25 _ rfl
 have q26 := M.t.c 26 _ rfl
 have f19 := M.t.f 19
 have f20 := M.t.f 20
 have f21 := M.t.f 21
 have f22 := M.t.f 22
 have f23 := M.t.f 23
 have f24 := M.t.f 24
 have f25 := M.t.f 25
 have f26 := M.t.f 26
 have m19 := M.set hk (Nat.le_refl _) (by omega) 19 (.int .u8 ka) (by simp [chCs, chTl])
 have m20 := m19.set hk (Nat.le_refl _) (by omega) 20 (.int .u64 kn) (by simp [chCs, chTl])
 have m21 := m20.set hk (Nat.le_refl _) (by omega) 21 (.string ⟨#[]⟩) (by simp [chCs, chTl])
 have m22 := m21.set hk (Nat.le_refl _) (by omega) 22 (.string ⟨#[]⟩) (by simp [chCs, chTl])
 have m23 := m22.set hk (Nat.le_refl _) (by omega) 23 (.int .u32 0) (by simp [chCs, chTl])
 have m24 := m23.set hk (Nat.le_refl _) (by omega) 24 (.int .u64 0) (by simp [chCs, chTl])
 have m25 := m24.set hk (Nat.le_refl _) (by omega) 25 (.int .i64 0) (by simp [chCs, chTl])
 have m26 := m25.set hk (Nat.le_refl _) (by omega) 26 (.int .i64 0) (by simp [chCs, chTl])
 have e0 := Ext.refl (S := fun t => t = k) M.e.hi
 have e1 := e0.trans (Ext.of_set (j := 19) (v := .int .u8 ka) (S := fun t => t = k) M.e.hi M.t.o (by omega) rfl)
 have e2 := e1.trans (Ext.of_set (j := 20) (v := .int .u64 kn) (S := fun t => t = k) m19.e.hi m19.t.o (by omega) rfl)
 have e3 := e2.trans (Ext.of_set (j := 21) (v := .string ⟨#[]⟩) (S := fun t => t = k) m20.e.hi m20.t.o (by omega) rfl)
 have e4 := e3.trans (Ext.of_set (j := 22) (v := .string ⟨#[]⟩) (S := fun t => t = k) m21.e.hi m21.t.o (by omega) rfl)
 have e5 := e4.trans (Ext.of_set (j := 23) (v := .int .u32 0) (S := fun t => t = k) m22.e.hi m22.t.o (by omega) rfl)
 have e6 := e5.trans (Ext.of_set (j := 24) (v := .int .u64 0) (S := fun t => t = k) m23.e.hi m23.t.o (by omega) rfl)
 have e7 := e6.trans (Ext.of_set (j := 25) (v := .int .i64 0) (S := fun t => t = k) m24.e.hi m24.t.o (by omega) rfl)
 have e8 := e7.trans (Ext.of_set (j := 26) (v := .int .i64 0) (S := fun t => t = k) m25.e.hi m25.t.o (by omega) rfl)
 have b0 := (ha.ext e8).c 0 _ rfl
 have y0 := (hx.ext e8).c 0 _ rfl
 obtain ⟨W, hW⟩ : ∃ W, W = ((((((((w.setCell ⟨X, 19, none⟩ (.int .u8 ka)).setCell ⟨X, 20, none⟩ (.int .u64 kn)).setCell ⟨X, 21, none⟩ (.string ⟨#[]⟩)).setCell ⟨X, 22, none⟩ (.string ⟨#[]⟩)).setCell ⟨X, 23, none⟩ (.int .u32 0)).setCell ⟨X, 24, none⟩ (.int .u64 0)).setCell ⟨X, 25, none⟩ (.int .i64 0)).setCell ⟨X, 26, none⟩ (.int .i64 0)) := ⟨_, rfl⟩
 rw [← hW] at m26 e8 b0 y0
 have HG := Lib.hid (c_ChMarks ka (c := c) (pv := pv) (th := th) (p := p) (x := x) (rf := rf) (an := ka) (nu := kn) (ep := ep) (pt := pt) m26 hp hk)
 have HE := Lib.hid e8
 clear M m19 m20 m21 m22 m23 m24 m25 m26 e0 e1 e2 e3 e4 e5 e6 e7 e8 hx ha hp
 go_enter Tryz.func246, Tryz.ntmps246
 go_upto_region 1 with fail
 rw [← hW]
 clear hW a0 a1 a2 a3 a4 a5 a6 a7 q19 q20 q21 q22 q23 q24 q25 q26 f19 f20 f21 f22 f23 f24 f25 f26 q0
 go_wp2_with fail
 refine HG.out.mono ?_
 rintro e w1 ⟨Mk, bx', bk, rfl, G, m, e1, h⟩
 have HR := Lib.hid (And.intro m (And.intro ((HE.out.mono fun t _ ht => SX.one ht).trans e1) h))
 clear m e1 h
 go_wp2_with fail
 go_end0
 exact ⟨Mk, bx', bk, rfl, G, HR.out⟩
end
end Go.Proofs.YtifkfhnbkjkakaaGreatDoor
