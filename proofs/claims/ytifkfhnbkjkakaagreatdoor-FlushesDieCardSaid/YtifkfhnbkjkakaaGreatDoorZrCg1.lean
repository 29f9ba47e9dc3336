/- Layer 26: the program's Change: its struct; over; what goes on; the load of the epoch; the lock given back; the place marked again. -/
import Derived.Test.YtifkfhnbkjkakaaGreatDoorZrChP
import Derived.Test.YtifkfhnbkjkakaaGreatDoorZrSeQ
namespace Go.Proofs.YtifkfhnbkjkakaaGreatDoor
set_option linter.unusedSimpArgs false
set_option linter.unusedVariables false
set_option maxHeartbeats 4000000
set_option maxRecDepth 100000
open Go.RowKit
def chTl (p : Spt) (x : It) (rf an nu ep pt : Int) : List Value := [.int .i64 p.b, .int .i64 p.q, .int .i64 p.s, .string x.key, .string x.val, .int .u32 x.fl, .int .u64 x.id, .int .i64 x.dies, .int .i64 x.gen, .int .i64 rf, .int .u8 an, .int .u64 nu, .string ⟨#[]⟩, .string ⟨#[]⟩, .int .u32 0, .int .u64 0, .int .i64 0, .int .i64 0, .int .u64 ep, .int .i64 pt]
def chCs (c : Clm) (pv th : Value) (tl : List Value) : List Value := .int .u8 c.verb :: .string c.key :: .string c.val :: .int .u32 c.fl :: .int .i64 c.exp :: .int .u64 c.id :: .int .u64 c.by_ :: pv :: th :: tl
def ChIdle (w : World) (X : Nat) (t : Bool) : Prop := (t = true ∧ w.cell? ⟨X, 7, none⟩ = some .nilIface) ∨ (t = false ∧ ∃ ty v, w.cell? ⟨X, 7, none⟩ = some (.iface ty v))
def ChQ (k : Nat) (w0 : World) (O0 : Om) (w : World) (O : Om) (B : Wb) (f : Cf) (s : AW) (X : Nat) (c : Clm) (pv th : Value) (tl : List Value) (Q : World → Om → Prop) (e : Ending) (w' : World) : Prop :=
 e = .returned (.tuple #[]) ∧ ∃ G, Me k (k + 30) w0 O0 w' G B f s k X (chCs c pv th tl) ∧ Ext (SX k (k + 30)) O w G w' ∧ Q w' G
def MKSV (bx bk : Nat) : Value := .func (.func 244) #[] #[.pointer (some ⟨bx, 0, none⟩), .pointer (some ⟨bk, 0, none⟩)]
def GVSV : Value := .func (.func 195) #[] #[]
section
variable {w w0 : World} {O O0 : Om} {B : Wb} {f : Cf} {s : AW} {a b k X : Nat} {pv th : Value} {tl : List Value} {c : Clm} {p : Spt} {x : It} {rf an nu ep pt : Int}
theorem c_ChOver {b : Bool} (h : ChIdle w X b) : Calls Tryz.prog 25 #[.pointer (some ⟨X, 0, none⟩)] w fun e w' => e = .returned (.bool b) ∧ w = w' := by
 rcases h with ⟨rfl, q7⟩ | ⟨rfl, ty, v, q7⟩
 · go_enter Tryz.func25, Tryz.ntmps25
   go_wp2
   go_ret
   exact ⟨rfl, rfl⟩
 · go_enter Tryz.func25, Tryz.ntmps25
   go_wp2
   go_ret
   exact ⟨rfl, rfl⟩
theorem Me.ow {S : Nat → Prop} {w1 : World} {G : Om} {cs : List Value} (m : Me k (k + 30) w0 O0 w O B f s k X cs) (e : Ext S O w G w1) (hS : ∀ t, S t → k < t ∧ t ≤ k + 30) (hk : 10 ≤ k) :
 Me k (k + 30) w0 O0 w1 G B f s k X cs ∧ Ext (SX k (k + 30)) O w G w1 :=
 ⟨m.oth hk e fun t ht => by have := hS t ht; omega, e.mono fun t _ ht => .inr (by have := hS t ht; omega)⟩
theorem c_ChOn (ty : TypeId) (v : Value) (gf : Fn) (gb gc : Array Value) (M : Me k (k + 30) w0 O0 w O B f s k X (chCs c pv th tl)) (hk : 10 ≤ k) :
 Calls Tryz.prog 66 #[.pointer (some ⟨X, 0, none⟩), .iface ty v, .func gf gb gc] w fun e w' => e = .returned (.tuple #[]) ∧ Me k (k + 30) w0 O0 w' O B f s k X (chCs c (.iface ty v) (.func gf gb gc) tl) ∧ Ext (fun t => t = k) O w O w' := by
 have q7 := M.t.c 7 _ rfl
 have f7 := M.t.f 7
 have q8 := M.t.c 8 _ rfl
 have f8 := M.t.f 8
 have m2 := M.set2 hk (Nat.le_refl _) (by omega) (i := 7) (j := 8) (.iface ty v) (.func gf gb gc) (by simp [chCs]) (by simp [chCs])
 have HM := Lib.hid m2
 clear M m2
 go_enter Tryz.func66, Tryz.ntmps66
 go_wp2
 go_end0
 exact ⟨rfl, HM.out⟩
theorem c_ChLoad (M : Me k (k + 30) w0 O0 w O B f s k X (chCs c pv th (chTl p x rf an nu ep pt))) (hk : 10 ≤ k) (n0 : 0 ≤ s.n) (n1 : s.n ≤ 4611686018427387904) :
 Calls Tryz.prog 132 #[.pointer (some ⟨X, 0, none⟩), .pointer (some ⟨B.p, 0, none⟩)] w (ChQ k w0 O0 w O B f (awLoad 8 s) X c pv th (chTl p x rf an nu (s.M 8) (s.n + 1)) fun W G => True) := by
 have HL := Lib.hid (c_LoadP 8 M.p M.e.hi (by decide) (by decide) n0 n1)
 have p0 := M.p.wo.c0
 have HM := Lib.hid M
 clear M
 go_enter Tryz.func132, Tryz.ntmps132
 go_wp2_with fail
 refine HL.out.mono ?_
 rintro e w1 ⟨rfl, G1, e1, p1⟩
 have m1 := HM.out.world hk e1 p1
 have q27 := m1.t.c 27 _ rfl
 have f27 := m1.t.f 27
 have es := Ext.of_set (j := 27) (v := .int .u64 (s.M 8)) (S := fun t => t = k) m1.e.hi m1.t.o (by omega) rfl
 have m2 := m1.set hk (Nat.le_refl _) (by omega) 27 (.int .u64 (s.M 8)) (by simp [chCs, chTl])
 have HW := Lib.hid (c_WSteps _ _ _ _ _ m2.p)
 have q28 := m2.t.c 28 _ rfl
 have f28 := m2.t.f 28
 have es2 := Ext.of_set (j := 28) (v := .int .i64 (s.n + 1)) (S := fun t => t = k) m2.e.hi m2.t.o (by omega) rfl
 have m3 := m2.set hk (Nat.le_refl _) (by omega) 28 (.int .i64 (s.n + 1)) (by simp [chCs, chTl])
 have HR := Lib.hid (And.intro m3 (((e1.mono (T := SX k (k + 30)) fun t _ ht => .inl ht).trans (es.mono fun t _ ht => .inr (by omega))).trans (es2.mono fun t _ ht => .inr (by omega))))
 clear e1 p1 m1 es m2 es2 m3 HM
 go_wp2_with fail
 refine HW.out.mono ?_
 rintro e w' ⟨rfl, rfl⟩
 go_wp2_with fail
 go_end0
 exact ⟨rfl, G1, HR.out.1, HR.out.2, trivial⟩
theorem c_ChGives (kk : Int) (M : Me k (k + 30) w0 O0 w O B f s k X (chCs c pv th (chTl p x rf an nu ep pt))) (hk : 10 ≤ k) :
 Calls Tryz.prog 134 #[.pointer (some ⟨X, 0, none⟩), .int .u8 kk] w fun e w' => ∃ V, ChQ k w0 O0 w O B f s X c (.iface 219 (.pointer (some ⟨V, 0, none⟩))) GVSV (chTl p x rf kk nu ep pt) (fun W G => Ob W G (k + 8) V [.int .i64 1]) e w' := by
 have q19 := M.t.c 19 _ rfl
 have f19 := M.t.f 19
 have e1 := Ext.of_set (j := 19) (v := .int .u8 kk) (S := fun t => t = k) M.e.hi M.t.o (by omega) rfl
 have m1 := M.set hk (Nat.le_refl _) (by omega) 19 (.int .u8 kk) (by simp [chCs, chTl])
 have HN := Lib.hid (c_NewGiveE _ O (k + 8) (by omega) m1.e.hi)
 have HM := Lib.hid (And.intro m1 (e1.mono (T := SX k (k + 30)) fun t _ ht => SX.one ht))
 clear M m1 e1
 go_enter Tryz.func134, Tryz.ntmps134
 go_wp2_with fail
 refine HN.out.mono ?_
 rintro e w2 ⟨V, rfl, G2, e2, v2⟩
 obtain ⟨m2, em⟩ := HM.out.1.ow e2 (by intro t ht; omega) hk
 have HO := Lib.hid (c_ChOn (c := c) (tl := chTl p x rf kk nu ep pt) 219 (.pointer (some ⟨V, 0, none⟩)) (.func 195) #[] #[] m2 hk)
 have HJ := Lib.hid (And.intro (HM.out.2.trans em) v2)
 clear m2 em e2 v2 HM HN q19 f19
 go_wp2_with fail
 refine HO.out.mono ?_
 rintro e w3 ⟨rfl, m3, e3⟩
 have HQ := Lib.hid (And.intro m3 (And.intro (HJ.out.1.trans (e3.mono fun t _ ht => SX.one ht)) (HJ.out.2.ext e3 (by omega))))
 clear m3 e3
 go_wp2_with fail
 go_end0
 exact ⟨V, rfl, G2, HQ.out⟩
theorem c_ChMarks (kk : Int) (M : Me k (k + 30) w0 O0 w O B f s k X (chCs c pv th (chTl p x rf an nu ep pt))) (hp : p.ok) (hk : 10 ≤ k) :
 Calls Tryz.prog 190 #[.pointer (some ⟨X, 0, none⟩), .int .u8 kk] w fun e w' => ∃ Mk bx bk, ChQ k w0 O0 w O B f s X c (.iface 246 (.pointer (some ⟨Mk, 0, none⟩))) (MKSV bx bk) (chTl p x rf kk nu ep pt) (fun W G => MkAt W G (k + 6) Mk [p.ver] ∧ Bx W G bx [.pointer (some ⟨X, 0, none⟩)] ∧ Bx W G bk [.int .u8 kk]) e w' := by
 obtain ⟨m1, x1, b1⟩ := box_more M (.pointer (some ⟨X, 0, none⟩)) 78 w.heap.size rfl
 obtain ⟨m2, x2, b2⟩ := box_more m1 (.int .u8 kk) 32 (w.heap.size + 1) (by simp)
 have q19 := m2.t.c 19 _ rfl
 have f19 := m2.t.f 19
 have y0 := (x1.below b2).c 0 _ rfl
 have y1 := x2.c 0 _ rfl
 have e3 := Ext.of_set (j := 19) (v := .int .u8 kk) (S := fun t => t = k) m2.e.hi m2.t.o (by omega) rfl
 have m3 := m2.set hk (Nat.le_refl _) (by omega) 19 (.int .u8 kk) (by simp [chCs, chTl])
 have x3 := (x1.below b2).ext e3
 have z3 := x2.ext e3
 have E3 := ((Ext.of_below (S := SX k (k + 30)) M.e.hi (b1.trans (b2.mono b1.size)))).trans (e3.mono (T := SX k (k + 30)) fun t _ ht => SX.one ht)
 obtain ⟨W, hW⟩ : ∃ W, W = ((w.alloc (.cells #[.pointer (some ⟨X, 0, none⟩)] 78)).alloc (.cells #[.int .u8 kk] 32)).setCell ⟨X, 19, none⟩ (.int .u8 kk) := ⟨_, rfl⟩
 rw [← hW] at m3 x3 z3 E3
 have HM := Lib.hid (And.intro m3 (And.intro x3 (And.intro z3 E3)))
 clear M m1 x1 b1 m2 x2 b2 e3 m3 x3 z3 E3
 obtain ⟨pv', hpv⟩ : ∃ v, v = p.ver := ⟨_, rfl⟩
 obtain ⟨tl, htl⟩ : ∃ tl, tl = chTl p x rf kk nu ep pt := ⟨_, rfl⟩
 rw [← hpv, ← htl]
 have HPV := Lib.hid (And.intro hpv htl)
 clear hpv htl
 go_enter Tryz.func190, Tryz.ntmps190
 go_upto_region 2 with fail
 rw [← hW]
 clear hW q19 f19 y0 y1
 have q9 := HM.out.1.t.c 9 _ rfl
 have q10 := HM.out.1.t.c 10 _ rfl
 have y0 := HM.out.2.1.c 0 _ rfl
 obtain ⟨bx, hbx⟩ : ∃ n, n = w.heap.size := ⟨_, rfl⟩
 obtain ⟨bk, hbk⟩ : ∃ n, n = w.heap.size + 1 := ⟨_, rfl⟩
 rw [← hbk, ← hbx]
 rw [← hbx] at y0
 rw [← hbk, ← hbx] at HM
 clear hbx hbk
 have b0 := (drew_below W).trans ((alloc_below W.drew (.cells #[.int .i64 p.b, .int .i64 p.q] 73)).mono (Nat.le_refl _))
 have HN := Lib.hid (c_NewMark1 (w := W.drew.alloc (.cells #[.int .i64 p.b, .int .i64 p.q] 73)) (O := O) p hp (b := W.heap.size) (o := 0) (c := 1) (k + 6) (by omega) ⟨Nat.le_refl _, by unfold maxLen; omega⟩ (by simp) (cell_newA _ #[.int .i64 p.b, .int .i64 p.q] _ _ rfl 0 _ rfl) (cell_newA _ #[.int .i64 p.b, .int .i64 p.q] _ _ rfl 1 _ rfl) (hi_below HM.out.1.e.hi b0))
 have HB := Lib.hid (And.intro (HM.out.1.below b0) (And.intro (HM.out.2.1.below b0) (And.intro (HM.out.2.2.1.below b0) (HM.out.2.2.2.below b0))))
 obtain ⟨hpv, htl⟩ := HPV.out
 rw [← hpv] at HN
 obtain ⟨pb, hpb⟩ : ∃ v, v = p.b := ⟨_, rfl⟩
 obtain ⟨pq, hpq⟩ : ∃ v, v = p.q := ⟨_, rfl⟩
 have t0 : tl[0]? = some (.int .i64 pb) := by rw [htl, hpb]; rfl
 have t1 : tl[1]? = some (.int .i64 pq) := by rw [htl, hpq]; rfl
 have HB : Hid (Me k (k + 30) w0 O0 (W.drew.alloc (.cells #[.int .i64 p.b, .int .i64 p.q] 73)) O B f s k X (chCs c pv th (chTl p x rf kk nu ep pt)) ∧ Bx (W.drew.alloc (.cells #[.int .i64 p.b, .int .i64 p.q] 73)) O bx [.pointer (some ⟨X, 0, none⟩)] ∧ Bx (W.drew.alloc (.cells #[.int .i64 p.b, .int .i64 p.q] 73)) O bk [.int .u8 kk] ∧ Ext (SX k (k + 30)) O w O (W.drew.alloc (.cells #[.int .i64 p.b, .int .i64 p.q] 73))) := HB
 rw [← hpb, ← hpq, ← htl] at HB
 rw [← hpb, ← hpq] at HN
 rw [← hpb] at q9
 rw [← hpq] at q10
 clear HM hp hpv hpb hpq htl b0 HPV
 go_region_held3 (fun w' => w'.cell? ⟨bx, 0, none⟩ = some (.pointer (some ⟨X, 0, none⟩)) ∧ w'.cell? ⟨X, 9, none⟩ = some (.int .i64 pb) ∧ w'.cell? ⟨X, 10, none⟩ = some (.int .i64 pq)) (go_keep)
  (first
    | (go_at_call 135
       refine HN.out.mono ?_
       rintro e w1 ⟨Mk, rfl, G1, e1, k1⟩
       obtain ⟨M1, em⟩ := HB.out.1.ow e1 (by intro t ht; omega) hk
       have y0 := (HB.out.2.1.ext e1).c 0 _ rfl
       have q9 : w1.cell? ⟨X, 9, none⟩ = some (.int .i64 pb) := M1.t.c 9 _ t0
       have q10 : w1.cell? ⟨X, 10, none⟩ = some (.int .i64 pq) := M1.t.c 10 _ t1
       have HM1 := Lib.hid (And.intro M1 (And.intro (HB.out.2.1.ext e1) (And.intro (HB.out.2.2.1.ext e1) (And.intro (HB.out.2.2.2.trans em) k1))))
       have HS := Lib.hid (c_ChOn (c := c) (tl := tl) 246 (.pointer (some ⟨Mk, 0, none⟩)) (.func 244) #[] #[.pointer (some ⟨bx, 0, none⟩), .pointer (some ⟨bk, 0, none⟩)] M1 hk)
       clear em e1 k1 M1)
    | (go_at_call 66
       refine HS.out.mono ?_
       rintro e w2 ⟨rfl, m2, e2⟩
       have y0 := (HM1.out.2.1.ext e2).c 0 _ rfl
       have q9 : w2.cell? ⟨X, 9, none⟩ = some (.int .i64 pb) := m2.t.c 9 _ t0
       have q10 : w2.cell? ⟨X, 10, none⟩ = some (.int .i64 pq) := m2.t.c 10 _ t1
       have HQ := Lib.hid (And.intro m2 e2)
       clear m2 e2))
 all_goals
  go_wp2_with fail
  go_end0
  obtain ⟨m2, e2⟩ := HQ.out
  obtain ⟨-, h2, h3, h4, h5⟩ := HM1.out
  exact ⟨Mk, bx, bk, rfl, G1, m2, h4.trans (e2.mono fun t _ ht => SX.one ht), h5.ext e2 (by omega) (by omega), h2.ext e2, h3.ext e2⟩
theorem c_ChMarks1 {bx bk : Nat} {kk : Int} (wv : Value) (M : Me k (k + 30) w0 O0 w O B f s k X (chCs c pv th (chTl p x rf an nu ep pt))) (hx : Bx w O bx [.pointer (some ⟨X, 0, none⟩)]) (hb : Bx w O bk [.int .u8 kk]) (hk : 10 ≤ k) :
 Calls Tryz.prog 244 #[wv, .pointer (some ⟨bx, 0, none⟩), .pointer (some ⟨bk, 0, none⟩)] w fun e w' => ∃ V, ChQ k w0 O0 w O B f s X c (.iface 219 (.pointer (some ⟨V, 0, none⟩))) GVSV (chTl p x rf kk nu ep pt) (fun W G => Ob W G (k + 8) V [.int .i64 1]) e w' := by
 have HG := Lib.hid (c_ChGives kk M hk)
 have q0 := hx.c 0 _ rfl
 have q1 := hb.c 0 _ rfl
 clear M hx hb
 go_enter Tryz.func244, Tryz.ntmps244
 go_wp2_with fail
 refine HG.out.mono ?_
 rintro e w1 ⟨V, rfl, h⟩
 have HR := Lib.hid h
 clear h
 go_wp2_with fail
 go_end0
 exact ⟨V, rfl, HR.out⟩
theorem c_ChGives1 (wv : Value) (w : World) : Calls Tryz.prog 195 #[wv] w fun e w' => e = .returned (.tuple #[]) ∧ w = w' := by
 go_enter Tryz.func195, Tryz.ntmps195
 go_wp2_with fail
 go_end0
 exact ⟨rfl, rfl⟩
end
end Go.Proofs.YtifkfhnbkjkakaaGreatDoor
