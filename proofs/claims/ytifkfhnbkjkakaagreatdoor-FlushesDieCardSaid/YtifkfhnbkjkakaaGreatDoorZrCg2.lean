/- Layer 26: the program's Change: from the lock to the key (lines 2 to 4). -/
import Derived.Test.YtifkfhnbkjkakaaGreatDoorZrCg1
namespace Go.Proofs.YtifkfhnbkjkakaaGreatDoor
set_option linter.unusedSimpArgs false
set_option linter.unusedVariables false
set_option maxHeartbeats 4000000
set_option maxRecDepth 100000
open Go.RowKit
def SEEKV (X : Nat) : Value := .func (.func 69) #[.pointer (some ⟨X, 0, none⟩)] #[]
def CNW1V (bx : Nat) : Value := .func (.func 67) #[] #[.pointer (some ⟨bx, 0, none⟩)]
def SK1V (bf bx : Nat) : Value := .func (.func 130) #[] #[.pointer (some ⟨bf, 0, none⟩), .pointer (some ⟨bx, 0, none⟩)]
def SK11V (bx : Nat) : Value := .func (.func 133) #[] #[.pointer (some ⟨bx, 0, none⟩)]
def SK12V (bx : Nat) : Value := .func (.func 136) #[] #[.pointer (some ⟨bx, 0, none⟩)]
def FNDV (X : Nat) : Value := .func (.func 137) #[.pointer (some ⟨X, 0, none⟩)] #[]
def ACCV (gf : Fn) (gb gc : Array Value) : Value := .iface 244 (.func gf gb gc)
def LOADV (X : Nat) : Value := ACCV (.func 132) #[.pointer (some ⟨X, 0, none⟩)] #[]
section
variable {w w0 : World} {O O0 : Om} {B : Wb} {f : Cf} {s : AW} {a b k X : Nat} {pv th : Value} {tl : List Value} {c : Clm} {p : Spt} {x : It} {rf an nu ep pt : Int}
theorem c_ChNew1 {bx : Nat} (wv : Value) (M : Me k (k + 30) w0 O0 w O B f s k X (chCs c pv th tl)) (hb : Bx w O bx [.pointer (some ⟨X, 0, none⟩)]) (hk : 10 ≤ k) :
 Calls Tryz.prog 67 #[wv, .pointer (some ⟨bx, 0, none⟩)] w fun e w' => ∃ U, ChQ k w0 O0 w O B f s X c (.iface 157 (.pointer (some ⟨U, 0, none⟩))) (SEEKV X) tl (fun W G => Ob W G (k + 2) U (tuCs 1 0)) e w' := by
 have HN := Lib.hid (c_NewTurn1 (w := w.drew) (O := O) (k + 2) (hi_below M.e.hi (drew_below w)))
 have HM := Lib.hid (And.intro (M.below (drew_below w)) (And.intro (hb.below (drew_below w)) (Ext.of_below (S := SX k (k + 30)) M.e.hi (drew_below w))))
 have q0 := hb.c 0 _ rfl
 clear M hb
 go_enter Tryz.func67, Tryz.ntmps67
 go_region_held3 (fun w' => w'.cell? ⟨bx, 0, none⟩ = some (.pointer (some ⟨X, 0, none⟩))) (go_keep)
  (first
    | (go_at_call 68
       refine HN.out.mono ?_
       rintro e w1 ⟨U, rfl, G1, e1, k1⟩
       obtain ⟨M1, em⟩ := HM.out.1.ow e1 (by intro t ht; omega) hk
       have q0 := (HM.out.2.1.ext e1).c 0 _ rfl
       have HM1 := Lib.hid (And.intro (HM.out.2.1.ext e1) (And.intro (HM.out.2.2.trans em) k1))
       have HS := Lib.hid (c_ChOn (c := c) (tl := tl) 157 (.pointer (some ⟨U, 0, none⟩)) (.func 69) #[.pointer (some ⟨X, 0, none⟩)] #[] M1 hk)
       clear em e1 k1 M1)
    | (go_at_call 66
       refine HS.out.mono ?_
       rintro e w2 ⟨rfl, m2, e2⟩
       have q0 := (HM1.out.1.ext e2).c 0 _ rfl
       have HQ := Lib.hid (And.intro m2 e2)
       clear m2 e2))
 all_goals
  go_wp2_with fail
  go_end0
  obtain ⟨m2, e2⟩ := HQ.out
  obtain ⟨-, h2, h3⟩ := HM1.out
  exact ⟨U, rfl, G1, m2, h2.trans (e2.mono fun t _ ht => SX.one ht), h3.ext e2 (by omega)⟩
theorem c_ChSeek (wv : Value) (M : Me k (k + 30) w0 O0 w O B f s k X (chCs c pv th tl)) (hk : 10 ≤ k) :
 Calls Tryz.prog 69 #[.pointer (some ⟨X, 0, none⟩), wv] w fun e w' => ∃ F bf bx, ChQ k w0 O0 w O B f s X c (.iface 240 (.pointer (some ⟨F, 0, none⟩))) (SK1V bf bx) tl (fun W G => FdAt W G (k + 3) F c.key fdNew ∧ Bx W G bf [.pointer (some ⟨F, 0, none⟩)] ∧ Bx W G bx [.pointer (some ⟨X, 0, none⟩)]) e w' := by
 obtain ⟨m1, x1, b1⟩ := box_more M (.pointer (some ⟨X, 0, none⟩)) 78 w.heap.size rfl
 have HN := Lib.hid (c_NewFind (w := w.alloc (.cells #[.pointer (some ⟨X, 0, none⟩)] 78)) (O := O) (key := c.key) (k := k + 3) (by omega) m1.e.hi)
 have q0 := x1.c 0 _ rfl
 have q1 := m1.t.c 1 _ rfl
 have HM := Lib.hid (And.intro m1 (And.intro x1 (Ext.of_below (S := SX k (k + 30)) M.e.hi b1)))
 clear M b1 x1 m1
 go_enter Tryz.func69, Tryz.ntmps69
 go_wp2_with fail
 refine HN.out.mono ?_
 rintro e w2 ⟨F, rfl, G2, e2, k2⟩
 obtain ⟨m2, em⟩ := HM.out.1.ow e2 (by intro t ht; omega) hk
 obtain ⟨m3, x3, b3⟩ := box_more m2 (.pointer (some ⟨F, 0, none⟩)) 240 w2.heap.size rfl
 have y3 := (HM.out.2.1.ext e2).below b3
 have q0 := y3.c 0 _ rfl
 have q1 := x3.c 0 _ rfl
 have HS := Lib.hid (c_ChOn (c := c) (tl := tl) 240 (.pointer (some ⟨F, 0, none⟩)) (.func 130) #[] #[.pointer (some ⟨w2.heap.size, 0, none⟩), .pointer (some ⟨w.heap.size, 0, none⟩)] m3 hk)
 have HJ := Lib.hid (And.intro (k2.below b3) (And.intro x3 (And.intro y3 ((HM.out.2.2.trans em).below b3))))
 clear m2 em m3 x3 b3 y3 e2 k2 HM HN
 go_wp2_with fail
 refine HS.out.mono ?_
 rintro e w4 ⟨rfl, m4, e4⟩
 have HQ := Lib.hid (And.intro m4 e4)
 clear m4 e4
 go_wp2_with fail
 go_end0
 obtain ⟨m4, e4⟩ := HQ.out
 obtain ⟨h1, h2, h3, h4⟩ := HJ.out
 exact ⟨F, w2.heap.size, w.heap.size, rfl, G2, m4, h4.trans (e4.mono fun t _ ht => SX.one ht), h1.ext e4 (by omega) (by omega), h2.ext e4, h3.ext e4⟩
theorem c_ChSeek11 {bx : Nat} (wv : Value) (M : Me k (k + 30) w0 O0 w O B f s k X (chCs c pv th (chTl p x rf an nu ep pt))) (hx : Bx w O bx [.pointer (some ⟨X, 0, none⟩)]) (hk : 10 ≤ k) :
 Calls Tryz.prog 133 #[wv, .pointer (some ⟨bx, 0, none⟩)] w fun e w' => ∃ V, ChQ k w0 O0 w O B f s X c (.iface 219 (.pointer (some ⟨V, 0, none⟩))) GVSV (chTl p x rf 4 nu ep pt) (fun W G => Ob W G (k + 8) V [.int .i64 1]) e w' := by
 have HG := Lib.hid (c_ChGives 4 M hk)
 have q0 := hx.c 0 _ rfl
 clear M hx
 go_enter Tryz.func133, Tryz.ntmps133
 go_wp2_with fail
 refine HG.out.mono ?_
 rintro e w1 ⟨V, rfl, h⟩
 have HR := Lib.hid h
 clear h
 go_wp2_with fail
 go_end0
 exact ⟨V, rfl, HR.out⟩
theorem c_ChSeek12 {bx : Nat} (wv : Value) (M : Me k (k + 30) w0 O0 w O B f s k X (chCs c pv th tl)) (hx : Bx w O bx [.pointer (some ⟨X, 0, none⟩)]) (hk : 10 ≤ k) :
 Calls Tryz.prog 136 #[wv, .pointer (some ⟨bx, 0, none⟩)] w (ChQ k w0 O0 w O B f s X c (LOADV X) (FNDV X) tl fun W G => True) := by
 have HO := Lib.hid (c_ChOn (c := c) (tl := tl) 244 (.func (.func 132) #[.pointer (some ⟨X, 0, none⟩)] #[]) (.func 137) #[.pointer (some ⟨X, 0, none⟩)] #[] M hk)
 have q0 := hx.c 0 _ rfl
 clear M hx
 go_enter Tryz.func136, Tryz.ntmps136
 go_wp2_with fail
 refine HO.out.mono ?_
 rintro e w1 ⟨rfl, m1, e1⟩
 have HR := Lib.hid (And.intro m1 (e1.mono (T := SX k (k + 30)) fun t _ ht => SX.one ht))
 clear m1 e1
 go_wp2_with fail
 go_end0
 exact ⟨rfl, O, HR.out.1, HR.out.2, trivial⟩
theorem Me.chSpot (M : Me k (k + 30) w0 O0 w O B f s k X (chCs c pv th (chTl p x rf an nu ep pt))) (hk : 10 ≤ k) (q : Spt) :
 Me k (k + 30) w0 O0 (((w.setCell ⟨X, 9, none⟩ (.int .i64 q.b)).setCell ⟨X, 10, none⟩ (.int .i64 q.q)).setCell ⟨X, 11, none⟩ (.int .i64 q.s)) O B f s k X (chCs c pv th (chTl q x rf an nu ep pt)) ∧
 Ext (fun t => t = k) O w O (((w.setCell ⟨X, 9, none⟩ (.int .i64 q.b)).setCell ⟨X, 10, none⟩ (.int .i64 q.q)).setCell ⟨X, 11, none⟩ (.int .i64 q.s)) := by
 have h1 := M.set2 hk (Nat.le_refl _) (by omega) (i := 9) (j := 10) (.int .i64 q.b) (.int .i64 q.q) (by simp [chCs, chTl]) (by simp [chCs, chTl])
 have e3 := Ext.of_set (j := 11) (v := .int .i64 q.s) (S := fun t => t = k) h1.2.hi h1.1.t.o (by omega) rfl
 exact ⟨h1.1.set hk (Nat.le_refl _) (by omega) 11 (.int .i64 q.s) (by simp [chCs, chTl]), h1.2.trans e3⟩
theorem Me.chRef (M : Me k (k + 30) w0 O0 w O B f s k X (chCs c pv th (chTl p x rf an nu ep pt))) (hk : 10 ≤ k) (r : Int) :
 Me k (k + 30) w0 O0 (w.setCell ⟨X, 18, none⟩ (.int .i64 r)) O B f s k X (chCs c pv th (chTl p x r an nu ep pt)) ∧ Ext (fun t => t = k) O w O (w.setCell ⟨X, 18, none⟩ (.int .i64 r)) :=
 ⟨M.set hk (Nat.le_refl _) (by omega) 18 (.int .i64 r) (by simp [chCs, chTl]), Ext.of_set (j := 18) (v := .int .i64 r) (S := fun t => t = k) M.e.hi M.t.o (by omega) rfl⟩
def SkCut (k : Nat) (w0 : World) (O0 : Om) (w : World) (O : Om) (B : Wb) (f : Cf) (s : AW) (X : Nat) (c : Clm) (pv th : Value) (tl : List Value) (bx : Nat) (wx : World) : Prop :=
 Me k (k + 30) w0 O0 wx O B f s k X (chCs c pv th tl) ∧ Ext (SX k (k + 30)) O w O wx ∧ Bx wx O bx [.pointer (some ⟨X, 0, none⟩)]
theorem skA {w1 : World} {q : Spt} {r : Int} {bx : Nat} (h : Me k (k + 30) w0 O0 w1 O B f s k X (chCs c pv th (chTl p x rf an nu ep pt)) ∧ Ext (SX k (k + 30)) O w O w1 ∧ Bx w1 O bx [.pointer (some ⟨X, 0, none⟩)]) (hk : 10 ≤ k) :
 SkCut k w0 O0 w O B f s X c pv th (chTl q x r an nu ep pt) bx ((((w1.setCell ⟨X, 9, none⟩ (.int .i64 q.b)).setCell ⟨X, 10, none⟩ (.int .i64 q.q)).setCell ⟨X, 11, none⟩ (.int .i64 q.s)).setCell ⟨X, 18, none⟩ (.int .i64 r)) ∧
 SkCut k w0 O0 w O B f s X c pv th (chTl q x r an nu ep pt) bx ((((w1.setCell ⟨X, 18, none⟩ (.int .i64 r)).setCell ⟨X, 9, none⟩ (.int .i64 q.b)).setCell ⟨X, 10, none⟩ (.int .i64 q.q)).setCell ⟨X, 11, none⟩ (.int .i64 q.s)) := by
 obtain ⟨m, e, hx⟩ := h
 have a1 := m.chSpot hk q
 have a2 := a1.1.chRef hk r
 have b1 := m.chRef hk r
 have b2 := b1.1.chSpot hk q
 exact ⟨⟨a2.1, (e.trans (a1.2.mono fun t _ ht => SX.one ht)).trans (a2.2.mono fun t _ ht => SX.one ht), (hx.ext a1.2).ext a2.2⟩, ⟨b2.1, (e.trans (b1.2.mono fun t _ ht => SX.one ht)).trans (b2.2.mono fun t _ ht => SX.one ht), (hx.ext b1.2).ext b2.2⟩⟩
def ChFdQ (k : Nat) (w0 : World) (O0 : Om) (w : World) (O : Om) (B : Wb) (f : Cf) (s : AW) (X : Nat) (c : Clm) (p : Spt) (x : It) (rf an nu ep pt : Int) (z : Fdm) (e : Ending) (w' : World) : Prop :=
 if 0 < z.ref then ∃ Mk bx, ChQ k w0 O0 w O B f s X c (.iface 246 (.pointer (some ⟨Mk, 0, none⟩))) (SK12V bx) (chTl z.p x z.ref an nu ep pt) (fun W G => MkAt W G (k + 6) Mk [z.p.ver] ∧ Bx W G bx [.pointer (some ⟨X, 0, none⟩)]) e w'
 else ∃ bx, ChQ k w0 O0 w O B f s X c (LOADV X) (SK11V bx) (chTl z.p x z.ref an nu ep pt) (fun W G => Bx W G bx [.pointer (some ⟨X, 0, none⟩)]) e w'
theorem c_ChSeek1 {F bf bx : Nat} {z : Fdm} (wv : Value) (M : Me k (k + 30) w0 O0 w O B f s k X (chCs c pv th (chTl p x rf an nu ep pt))) (hf : Bx w O bf [.pointer (some ⟨F, 0, none⟩)]) (hb : Bx w O bx [.pointer (some ⟨X, 0, none⟩)]) (hF : FdAt w O (k + 3) F c.key z) (hp : 0 < z.ref → z.p.ok) (hr : 0 < z.ref ∨ z.ref = 0) (hk : 10 ≤ k) :
 Calls Tryz.prog 130 #[wv, .pointer (some ⟨bf, 0, none⟩), .pointer (some ⟨bx, 0, none⟩)] w (ChFdQ k w0 O0 w O B f s X c p x rf an nu ep pt z) := by
 have q0 := hf.c 0 _ rfl
 have q1 := hb.c 0 _ rfl
 have HG := Lib.hid (c_FdGot (hF.below (drew_below w)))
 have HM := Lib.hid (And.intro (M.below (drew_below w)) (And.intro (Ext.of_below (S := SX k (k + 30)) M.e.hi (drew_below w)) (hb.below (drew_below w))))
 have HBF := Lib.hid (hf.below (drew_below w))
 have hbf0 := hf.o
 have hbx0 := hb.o
 have hX0 := M.t.o
 have hn1 : ¬ X = bf := fun e => by rw [e, hbf0] at hX0; omega
 have hn2 : ¬ X = bx := fun e => by rw [e, hbx0] at hX0; omega
 clear M hf hb hF hbf0 hbx0 hX0
 obtain ⟨r, hrr⟩ : ∃ r, r = z.ref := ⟨_, rfl⟩
 obtain ⟨q, hq⟩ : ∃ q, q = z.p := ⟨_, rfl⟩
 have HFQ : Hid (∀ e w', (if 0 < r then ∃ Mk bx, ChQ k w0 O0 w O B f s X c (.iface 246 (.pointer (some ⟨Mk, 0, none⟩))) (SK12V bx) (chTl q x r an nu ep pt) (fun W G => MkAt W G (k + 6) Mk [q.ver] ∧ Bx W G bx [.pointer (some ⟨X, 0, none⟩)]) e w'
  else ∃ bx, ChQ k w0 O0 w O B f s X c (LOADV X) (SK11V bx) (chTl q x r an nu ep pt) (fun W G => Bx W G bx [.pointer (some ⟨X, 0, none⟩)]) e w') → ChFdQ k w0 O0 w O B f s X c p x rf an nu ep pt z e w') := Lib.hid (fun e w' h => by unfold ChFdQ; rw [← hrr, ← hq]; exact h)
 rw [← hrr, ← hq] at hp HG
 rw [← hrr] at hr
 have HP := Lib.hid hp
 have HR := Lib.hid hr
 clear hrr hq hp hr
 go_enter Tryz.func130, Tryz.ntmps130
 go_upto_region 0 with fail
 go_cut [4] (fun vv wx => SkCut k w0 O0 w O B f s X c pv th (chTl q x r an nu ep pt) bx wx)
 case first =>
  go_region_held3 (fun w' => w'.cell? ⟨bf, 0, none⟩ = some (.pointer (some ⟨F, 0, none⟩)) ∧ w'.cell? ⟨bx, 0, none⟩ = some (.pointer (some ⟨X, 0, none⟩))) (first | go_keep | (refine ⟨?_, ?_⟩ <;> simp [go_sem, hn1, hn2, q0, q1]))
   (first
     | (go_at_call 131
        refine HG.out.mono ?_
        rintro e w1 ⟨rfl, hb1⟩
        have m1 := HM.out.1.below hb1
        have x1 := HM.out.2.2.below hb1
        have q0 := (HBF.out.below hb1).c 0 _ rfl
        have q1 := x1.c 0 _ rfl
        have z9 := m1.t.c 9 _ rfl
        have z10 := m1.t.c 10 _ rfl
        have z11 := m1.t.c 11 _ rfl
        have z18 := m1.t.c 18 _ rfl
        have f9 := m1.t.f 9
        have f10 := m1.t.f 10
        have f11 := m1.t.f 11
        have f18 := m1.t.f 18
        have HJ := Lib.hid (skA (q := q) (r := r) (And.intro m1 (And.intro (HM.out.2.1.below hb1) x1)) hk)
        clear m1 x1 hb1))
  all_goals
   go_wp2_with fail
   go_meet
   first
    | exact HJ.out.1
    | exact HJ.out.2
 obtain ⟨m2, e2, x2⟩ := hcut
 have HC := Lib.hid (And.intro m2 (And.intro e2 x2))
 have y0 := x2.c 0 _ rfl
 have y18 := m2.t.c 18 _ rfl
 clear m2 e2 x2 HM HG HBF q0 q1 hn1 hn2
 rcases HR.out with hr | hr
 · have d0 : (r == 0) = false := by simp; omega
   have hp := HP.out hr
   have HFQ2 := Lib.hid (fun e w' h => HFQ.out e w' (by rw [if_pos hr]; exact h))
   clear HFQ HP HR hr
   go_upto_region 3 with fail
   have q9 := HC.out.1.t.c 9 _ rfl
   have q10 := HC.out.1.t.c 10 _ rfl
   have b0 := (drew_below wc).trans ((alloc_below wc.drew (.cells #[.int .i64 q.b, .int .i64 q.q] 73)).mono (Nat.le_refl _))
   have HN := Lib.hid (c_NewMark1 (w := wc.drew.alloc (.cells #[.int .i64 q.b, .int .i64 q.q] 73)) (O := O) q hp (b := wc.heap.size) (o := 0) (c := 1) (k + 6) (by omega) ⟨Nat.le_refl _, by unfold maxLen; omega⟩ (by simp) (cell_newA _ #[.int .i64 q.b, .int .i64 q.q] _ _ rfl 0 _ rfl) (cell_newA _ #[.int .i64 q.b, .int .i64 q.q] _ _ rfl 1 _ rfl) (hi_below HC.out.1.e.hi b0))
   have HB := Lib.hid (And.intro (HC.out.1.below b0) (And.intro (HC.out.2.2.below b0) (HC.out.2.1.below b0)))
   obtain ⟨pv', hpv⟩ : ∃ v, v = q.ver := ⟨_, rfl⟩
   rw [← hpv] at HN HFQ2
   obtain ⟨pb, hpb⟩ : ∃ v, v = q.b := ⟨_, rfl⟩
   obtain ⟨pq, hpq⟩ : ∃ v, v = q.q := ⟨_, rfl⟩
   obtain ⟨tl, htl⟩ : ∃ tl, tl = chTl q x r an nu ep pt := ⟨_, rfl⟩
   have t0 : tl[0]? = some (.int .i64 pb) := by rw [htl, hpb]; rfl
   have t1 : tl[1]? = some (.int .i64 pq) := by rw [htl, hpq]; rfl
   rw [← hpb, ← hpq, ← htl] at HB
   rw [← hpb, ← hpq] at HN
   rw [← hpb] at q9
   rw [← hpq] at q10
   rw [← htl] at HFQ2
   clear HC hp hpv hpb hpq htl b0 y18
   go_region_held3 (fun w' => w'.cell? ⟨bx, 0, none⟩ = some (.pointer (some ⟨X, 0, none⟩)) ∧ w'.cell? ⟨X, 9, none⟩ = some (.int .i64 pb) ∧ w'.cell? ⟨X, 10, none⟩ = some (.int .i64 pq)) (go_keep)
    (first
      | (go_at_call 135
         refine HN.out.mono ?_
         rintro e w1 ⟨Mk, rfl, G1, e1, k1⟩
         obtain ⟨M1, em⟩ := HB.out.1.ow e1 (by intro t ht; omega) hk
         have y0 := (HB.out.2.1.ext e1).c 0 _ rfl
         have q9 : w1.cell? ⟨X, 9, none⟩ = some (.int .i64 pb) := M1.t.c 9 _ t0
         have q10 : w1.cell? ⟨X, 10, none⟩ = some (.int .i64 pq) := M1.t.c 10 _ t1
         have HM1 := Lib.hid (And.intro M1 (And.intro (HB.out.2.1.ext e1) (And.intro (HB.out.2.2.trans em) k1)))
         have HS := Lib.hid (c_ChOn (c := c) (tl := tl) 246 (.pointer (some ⟨Mk, 0, none⟩)) (.func 136) #[] #[.pointer (some ⟨bx, 0, none⟩)] M1 hk)
         clear em e1 k1 M1)
      | (go_at_call 66
         refine HS.out.mono ?_
         rintro e w2 ⟨rfl, m2, e2⟩
         have y0 := (HM1.out.2.1.ext e2).c 0 _ rfl
         have q9 : w2.cell? ⟨X, 9, none⟩ = some (.int .i64 pb) := m2.t.c 9 _ t0
         have q10 : w2.cell? ⟨X, 10, none⟩ = some (.int .i64 pq) := m2.t.c 10 _ t1
         have HQ := Lib.hid (And.intro m2 e2)
         clear m2 e2))
   all_goals
    go_wp2_with fail
    go_end0
    obtain ⟨m2, e2⟩ := HQ.out
    obtain ⟨-, h2, h3, h4⟩ := HM1.out
    exact HFQ2.out _ _ ⟨Mk, bx, rfl, G1, m2, h3.trans (e2.mono fun t _ ht => SX.one ht), h4.ext e2 (by omega) (by omega), h2.ext e2⟩
 · have d0 : (r == 0) = true := by simp [hr]
   have HFQ2 : Hid (∀ e w', (∃ bx, ChQ k w0 O0 w O B f s X c (LOADV X) (SK11V bx) (chTl q x r an nu ep pt) (fun W G => Bx W G bx [.pointer (some ⟨X, 0, none⟩)]) e w') → ChFdQ k w0 O0 w O B f s X c p x rf an nu ep pt z e w') := Lib.hid (fun e w' h => HFQ.out e w' (by rw [if_neg (by omega)]; exact h))
   have HO := Lib.hid (c_ChOn (c := c) 244 (.func (.func 132) #[.pointer (some ⟨X, 0, none⟩)] #[]) (.func 133) #[] #[.pointer (some ⟨bx, 0, none⟩)] HC.out.1 hk)
   clear HFQ HP HR hr
   go_wp2_with fail
   refine HO.out.mono ?_
   rintro e w3 ⟨rfl, m3, e3⟩
   have HQ := Lib.hid (And.intro m3 (And.intro (HC.out.2.1.trans (e3.mono fun t _ ht => SX.one ht)) (HC.out.2.2.ext e3)))
   clear m3 e3
   go_wp2_with fail
   refine bodyPost_ret (v := .tuple #[]) (results_none (by rfl) _ _ _) rfl ?_
   exact HFQ2.out _ _ ⟨bx, rfl, O, HQ.out.1, HQ.out.2.1, HQ.out.2.2⟩
end
end Go.Proofs.YtifkfhnbkjkakaaGreatDoor
