/- Layer 25: what comes behind a Store's Take, Turn and Find. Layer 25: what a Store does behind its Find. -/
import Derived.Test.YtifkfhnbkjkakaaGreatDoorZrGoA
import Derived.Test.YtifkfhnbkjkakaaGreatDoorZrFiA
namespace Go.Proofs.YtifkfhnbkjkakaaGreatDoor
set_option linter.unusedSimpArgs false
set_option linter.unusedVariables false
set_option maxHeartbeats 4000000
set_option maxRecDepth 100000
section
open Go.RowKit
def NEW1V (bx : Nat) : Value := .func (.func 98) #[] #[.pointer (some ⟨bx, 0, none⟩)]
def FI1V (bf bx : Nat) : Value := .func (.func 161) #[] #[.pointer (some ⟨bf, 0, none⟩), .pointer (some ⟨bx, 0, none⟩)]
def MK1V (bx br : Nat) : Value := .func (.func 163) #[] #[.pointer (some ⟨bx, 0, none⟩), .pointer (some ⟨br, 0, none⟩)]
def DEC1V (bx br : Nat) : Value := .func (.func 165) #[] #[.pointer (some ⟨bx, 0, none⟩), .pointer (some ⟨br, 0, none⟩)]
def FINDV (X : Nat) : Value := .func (.func 100) #[.pointer (some ⟨X, 0, none⟩)] #[]
def MISSV (X : Nat) : Value := .func (.func 167) #[.pointer (some ⟨X, 0, none⟩)] #[]
def CNTV (X : Nat) : Value := .func (.func 168) #[.pointer (some ⟨X, 0, none⟩)] #[]
theorem m_TuOver (a : Addr) (w : World) : (method 635 157 (.pointer (some a)) "Over").run Tryz.prog w = .ok (443, .pointer (some a)) w := by kernel_rfl
theorem m_TuStep (a : Addr) (w : World) : (method 635 157 (.pointer (some a)) "Step").run Tryz.prog w = .ok (444, .pointer (some a)) w := by kernel_rfl
theorem m_FdOver (a : Addr) (w : World) : (method 635 240 (.pointer (some a)) "Over").run Tryz.prog w = .ok (456, .pointer (some a)) w := by kernel_rfl
theorem m_FdStep (a : Addr) (w : World) : (method 635 240 (.pointer (some a)) "Step").run Tryz.prog w = .ok (457, .pointer (some a)) w := by kernel_rfl
section
variable {w w0 : World} {O O0 : Om} {B : Wb} {f : Cf} {s : AW} {k X : Nat} {op th ac : Value} {tl : List Value} {c : Clm} {p : Spt} {an nu ep pt : Int}
theorem c_StNew1 {bx : Nat} (wv : Value) (M : Me k (k + 30) w0 O0 w O B f s k X (op :: th :: ac :: tl)) (hb : Bx w O bx [.pointer (some ⟨X, 0, none⟩)]) (hk : 10 ≤ k) :
 Calls Tryz.prog 98 #[wv, .pointer (some ⟨bx, 0, none⟩)] w fun e w' => ∃ U, StQ k w0 O0 w O B f s X (.iface 157 (.pointer (some ⟨U, 0, none⟩))) (FINDV X) .nilFunc tl (fun W G => Ob W G (k + 2) U (tuCs 1 0)) e w' := by
 have HN := Lib.hid (c_NewTurn1 (w := w.drew) (O := O) (k + 2) (hi_below M.e.hi (drew_below w)))
 have HM := Lib.hid (M.below (drew_below w))
 have HB := Lib.hid (hb.below (drew_below w))
 have HE := Lib.hid (Ext.of_below (S := SX k (k + 30)) M.e.hi (drew_below w))
 have q0 := hb.c 0 _ rfl
 clear M hb
 go_enter Tryz.func98, Tryz.ntmps98
 go_region_held3 (fun w' => w'.cell? ⟨bx, 0, none⟩ = some (.pointer (some ⟨X, 0, none⟩))) (go_keep)
  (first
    | (go_at_call 68
       refine HN.out.mono ?_
       rintro e w1 ⟨U, rfl, G1, e1, k1⟩
       have em := e1.mono (T := SX k (k + 30)) fun t _ ht => .inr (by omega)
       have M1 : Me k (k + 30) w0 O0 w1 G1 B f s k X (op :: th :: ac :: tl) := ⟨HM.out.e.trans em, HM.out.p.ext e1 (by omega) (by omega) (by omega) (by omega), HM.out.t.ext e1 (by omega)⟩
       have q0 := (HB.out.ext e1).c 0 _ rfl
       have HM1 := Lib.hid (And.intro (HB.out.ext e1) (And.intro (HE.out.trans em) k1))
       have hg := k1.c 0 _ rfl
       have HS := Lib.hid (c_goSteps (w := w1) (.func 100) #[.pointer (some ⟨X, 0, none⟩)] #[] wv (m_TuOver ⟨U, 0, none⟩) (run_enter Tryz.func443 (by kernel_rfl) (by kernel_rfl)) ((c_TuOver hg).mono fun e w' h => ⟨h.1, by rw [← h.2]; exact Below.refl _ _⟩) M1 hk (Nat.le_refl _) (by omega))
       clear em e1 k1 M1 hg)
    | (go_at_call 99
       refine HS.out.mono ?_
       rintro e w2 ⟨rfl, m2, e2⟩
       have q0 := (HM1.out.1.ext e2).c 0 _ rfl
       have HQ := Lib.hid (And.intro m2 e2)
       clear m2 e2))
 all_goals
  go_wp2_with fail
  go_end0
  obtain ⟨m2, e2⟩ := HQ.out
  obtain ⟨-, h2, h3⟩ := HM1.out
  exact ⟨U, rfl, G1, m2, h2.trans (e2.mono fun t _ ht => .inr (by omega)), h3.ext e2 (by omega)⟩
theorem c_StFinds (wv : Value) (M : Me k (k + 30) w0 O0 w O B f s k X (stCs op th ac c p an nu ep pt)) (hk : 10 ≤ k) :
 Calls Tryz.prog 100 #[.pointer (some ⟨X, 0, none⟩), wv] w fun e w' => ∃ F bf bx, StQ k w0 O0 w O B f s X (.iface 240 (.pointer (some ⟨F, 0, none⟩))) (FI1V bf bx) .nilFunc (stTl c p an nu ep pt) (fun W G => FdAt W G (k + 3) F c.key fdNew ∧ Bx W G bf [.pointer (some ⟨F, 0, none⟩)] ∧ Bx W G bx [.pointer (some ⟨X, 0, none⟩)]) e w' := by
 have b1 := alloc_below w (.cells #[.pointer (some ⟨X, 0, none⟩)] 134)
 have BX := Bx.new M.e.hi #[.pointer (some ⟨X, 0, none⟩)] 134 w.heap.size rfl
 have M1 := M.below b1
 have HN := Lib.hid (c_NewFind (w := w.alloc (.cells #[.pointer (some ⟨X, 0, none⟩)] 134)) (O := O) (key := c.key) (k := k + 3) (by omega) M1.e.hi)
 have q0 := BX.c 0 _ rfl
 have q4 := M1.t.c 4 _ rfl
 have HM := Lib.hid (And.intro M1 (And.intro BX (Ext.of_below (S := SX k (k + 30)) M.e.hi b1)))
 clear M b1 BX M1
 go_enter Tryz.func100, Tryz.ntmps100
 go_wp2_with fail
 refine HN.out.mono ?_
 rintro e w2 ⟨F, rfl, G2, e2, k2⟩
 obtain ⟨m1, bx1, ex1⟩ := HM.out
 have em := e2.mono (T := SX k (k + 30)) fun t _ ht => .inr (by omega)
 have m2 : Me k (k + 30) w0 O0 w2 G2 B f s k X (stCs op th ac c p an nu ep pt) := ⟨m1.e.trans em, m1.p.ext e2 (by omega) (by omega) (by omega) (by omega), m1.t.ext e2 (by omega)⟩
 have b3 := (alloc_below w2 (.cells #[.pointer (some ⟨F, 0, none⟩)] 240))
 have BF := Bx.new m2.e.hi #[.pointer (some ⟨F, 0, none⟩)] 240 w2.heap.size rfl
 have bx3 := (bx1.ext e2).below b3
 have m3 := m2.below b3
 have k3 := k2.below b3
 have bd := drew_below (w2.alloc (.cells #[.pointer (some ⟨F, 0, none⟩)] 240))
 have q0 := bx3.c 0 _ rfl
 have q1 := BF.c 0 _ rfl
 have hlv : ∃ ao cc, (w2.alloc (.cells #[.pointer (some ⟨F, 0, none⟩)] 240)).drew.cell? ⟨F, 1, none⟩ = some (.slice ao 1 cc) := by
  obtain ⟨lv, xs, g, hg, o1, a1, -, -⟩ := (k3.below bd).ex
  obtain ⟨ao, cc, rfl, -, -⟩ := a1.shape
  exact ⟨ao, cc, o1.c 1 _ rfl⟩
 obtain ⟨ao, cc, hlv⟩ := hlv
 have HS := Lib.hid (c_goSteps (w := (w2.alloc (.cells #[.pointer (some ⟨F, 0, none⟩)] 240)).drew) (.func 161) #[] #[.pointer (some ⟨w2.heap.size, 0, none⟩), .pointer (some ⟨w.heap.size, 0, none⟩)] wv (m_FdOver ⟨F, 0, none⟩) (run_enter Tryz.func456 (by kernel_rfl) (by kernel_rfl)) ((c_FdOver hlv).mono fun e w' h => ⟨h.1, by rw [← h.2]; exact Below.refl _ _⟩) (m3.below bd) hk (Nat.le_refl _) (by omega))
 have HQ1 := Lib.hid (And.intro (k3.below bd) (And.intro (BF.below bd) (And.intro (bx3.below bd) (((ex1.trans em).below b3).below bd))))
 clear m1 bx1 ex1 em m2 b3 BF bx3 m3 k3 bd hlv e2 k2
 go_wp2_with fail
 go_region_held3 (fun w' => w'.cell? ⟨w.heap.size, 0, none⟩ = some (.pointer (some ⟨X, 0, none⟩)) ∧ w'.cell? ⟨w2.heap.size, 0, none⟩ = some (.pointer (some ⟨F, 0, none⟩))) (go_keep)
  (first
    | (go_at_call 99
       refine HS.out.mono ?_
       rintro e w4 ⟨rfl, m4, e4⟩
       have q0 := (HQ1.out.2.2.1.ext e4).c 0 _ rfl
       have q1 := (HQ1.out.2.1.ext e4).c 0 _ rfl
       have HQ := Lib.hid (And.intro m4 e4)
       clear m4 e4))
 all_goals
  go_wp2_with fail
  go_end0
  obtain ⟨m4, e4⟩ := HQ.out
  obtain ⟨h1, h2, h3, h4⟩ := HQ1.out
  exact ⟨F, w2.heap.size, w.heap.size, rfl, G2, m4, h4.trans (e4.mono fun t _ ht => .inr (by omega)), h1.ext e4 (by omega) (by omega), h2.ext e4, h3.ext e4⟩
end
end
section
open Go.RowKit
section
variable {w w0 : World} {O O0 : Om} {B : Wb} {f : Cf} {s : AW} {k X : Nat} {op th ac : Value} {tl : List Value} {c : Clm} {p : Spt} {an nu ep pt : Int}
theorem c_FdGot {F : Nat} {key : ByteArray} {z : Fdm} (h : FdAt w O k F key z) :
 Calls Tryz.prog 131 #[.pointer (some ⟨F, 0, none⟩)] w fun e w' => e = .returned (.tuple #[.agg #[.int .i64 z.p.b, .int .i64 z.p.q, .int .i64 z.p.s], .int .i64 z.ref]) ∧ Below w.heap.size w w' := by
 obtain ⟨lv, xs, g, hg, o1, -, -, -⟩ := h.ex
 have x3 := o1.c 3 _ rfl
 have x4 := o1.c 4 _ rfl
 have x5 := o1.c 5 _ rfl
 have x6 := o1.c 6 _ rfl
 have hl := o1.lt
 obtain ⟨pb, hpb⟩ : ∃ b, b = z.p.b := ⟨_, rfl⟩
 obtain ⟨pq, hpq⟩ : ∃ b, b = z.p.q := ⟨_, rfl⟩
 obtain ⟨ps, hps⟩ : ∃ b, b = z.p.s := ⟨_, rfl⟩
 obtain ⟨rf, hrf⟩ : ∃ b, b = z.ref := ⟨_, rfl⟩
 rw [← hpb, ← hpq, ← hps, ← hrf]
 rw [← hpb] at x3
 rw [← hpq] at x4
 rw [← hps] at x5
 rw [← hrf] at x6
 have hne : ¬ F = w.heap.size := by omega
 have hne2 : ¬ w.heap.size = F := by omega
 clear h o1 hpb hpq hps hrf
 go_enter Tryz.func131, Tryz.ntmps131
 go_wp2_with fail
 go_region_held3 (fun w' => w'.cell? ⟨F, 3, none⟩ = some (.int .i64 pb) ∧ w'.cell? ⟨F, 4, none⟩ = some (.int .i64 pq) ∧ w'.cell? ⟨F, 5, none⟩ = some (.int .i64 ps) ∧ w'.cell? ⟨F, 6, none⟩ = some (.int .i64 rf)) (go_keep) (fail)
 all_goals
  go_wp2_with fail
  exact bodyPost_ret (v := .tuple #[.agg #[.int .i64 pb, .int .i64 pq, .int .i64 ps], .int .i64 rf]) (by simp [results, Tryz.results131, go_sem]) rfl ⟨rfl, ((Below.refl _ _).alloc (Nat.le_refl _) _).drew⟩
theorem c_StMk1 {bx br : Nat} (wv : Value) (M : Me k (k + 30) w0 O0 w O B f s k X (op :: th :: ac :: tl)) (hb : Bx w O bx [.pointer (some ⟨X, 0, none⟩)]) (hk : 10 ≤ k) :
 Calls Tryz.prog 163 #[wv, .pointer (some ⟨bx, 0, none⟩), .pointer (some ⟨br, 0, none⟩)] w (StQ k w0 O0 w O B f s X .nilIface th (DEC1V bx br) tl (fun W G => True)) := by
 have HS := Lib.hid (c_goAccess (.func 165) #[] #[.pointer (some ⟨bx, 0, none⟩), .pointer (some ⟨br, 0, none⟩)] M hk (Nat.le_refl _) (by omega))
 have q0 := hb.c 0 _ rfl
 clear M hb
 go_enter Tryz.func163, Tryz.ntmps163
 go_wp2_with fail
 refine HS.out.mono ?_
 rintro e w1 ⟨rfl, m1, e1⟩
 have HQ := Lib.hid (And.intro m1 e1)
 clear m1 e1
 go_wp2_with fail
 go_end0
 exact ⟨rfl, O, HQ.out.1, HQ.out.2.mono (fun t _ ht => .inr (by omega)), trivial⟩
theorem Me.spot (M : Me k (k + 30) w0 O0 w O B f s k X (stCs op th ac c p an nu ep pt)) (hk : 10 ≤ k) (q : Spt) :
 Me k (k + 30) w0 O0 (((w.setCell ⟨X, 11, none⟩ (.int .i64 q.b)).setCell ⟨X, 12, none⟩ (.int .i64 q.q)).setCell ⟨X, 13, none⟩ (.int .i64 q.s)) O B f s k X (stCs op th ac c q an nu ep pt) ∧
 Ext (fun t => t = k) O w O (((w.setCell ⟨X, 11, none⟩ (.int .i64 q.b)).setCell ⟨X, 12, none⟩ (.int .i64 q.q)).setCell ⟨X, 13, none⟩ (.int .i64 q.s)) := by
 have h1 := M.set2 hk (Nat.le_refl _) (by omega) (i := 11) (j := 12) (.int .i64 q.b) (.int .i64 q.q) (by simp [stCs, stTl]) (by simp [stCs, stTl])
 have e3 := Ext.of_set (j := 13) (v := .int .i64 q.s) (S := fun t => t = k) h1.2.hi h1.1.t.o (by omega) rfl
 exact ⟨h1.1.set hk (Nat.le_refl _) (by omega) 13 (.int .i64 q.s) (by simp [stCs, stTl]), h1.2.trans e3⟩
theorem SX.one {k t : Nat} (h : t = k) : SX k (k + 30) t := .inr (by omega)
def FoundQ (k : Nat) (w0 : World) (O0 : Om) (w : World) (O : Om) (B : Wb) (f : Cf) (s : AW) (X : Nat) (th : Value) (c : Clm) (p : Spt) (an nu ep pt : Int) (z : Fdm) (e : Ending) (w' : World) : Prop :=
 if 0 < z.ref then ∃ Mk bx br, StQ k w0 O0 w O B f s X (.iface 246 (.pointer (some ⟨Mk, 0, none⟩))) (MK1V bx br) .nilFunc (stTl c z.p an nu ep pt) (fun W G => MkAt W G (k + 6) Mk [z.p.ver] ∧ Bx W G bx [.pointer (some ⟨X, 0, none⟩)] ∧ Bx W G br [.int .i64 z.ref]) e w'
 else StQ k w0 O0 w O B f s X .nilIface th (if c.verb = 5 ∨ c.verb = 6 then MISSV X else CNTV X) (stTl c p an nu ep pt) (fun W G => True) e w'
theorem c_StFound {F bf bx : Nat} {z : Fdm} (wv : Value) (M : Me k (k + 30) w0 O0 w O B f s k X (stCs op th ac c p an nu ep pt)) (hf : Bx w O bf [.pointer (some ⟨F, 0, none⟩)]) (hb : Bx w O bx [.pointer (some ⟨X, 0, none⟩)]) (hF : FdAt w O (k + 3) F c.key z) (hp : 0 < z.ref → z.p.ok) (hk : 10 ≤ k) :
 Calls Tryz.prog 161 #[wv, .pointer (some ⟨bf, 0, none⟩), .pointer (some ⟨bx, 0, none⟩)] w (FoundQ k w0 O0 w O B f s X th c p an nu ep pt z) := by
 have q0 := hf.c 0 _ rfl
 have HG := Lib.hid (c_FdGot hF)
 have HM := Lib.hid (And.intro M hb)
 by_cases hr : 0 < z.ref
 · have HP := Lib.hid (hp hr)
   have HFQ : Hid (∀ e w', (∃ Mk bx br, StQ k w0 O0 w O B f s X (.iface 246 (.pointer (some ⟨Mk, 0, none⟩))) (MK1V bx br) .nilFunc (stTl c z.p an nu ep pt) (fun W G => MkAt W G (k + 6) Mk [z.p.ver] ∧ Bx W G bx [.pointer (some ⟨X, 0, none⟩)] ∧ Bx W G br [.int .i64 z.ref]) e w') → FoundQ k w0 O0 w O B f s X th c p an nu ep pt z e w') := Lib.hid (fun e w' h => by unfold FoundQ; rw [if_pos hr]; exact h)
   have d1 : decide (0 < z.ref) = true := by simp [hr]
   clear M hb hF hf hp hr
   go_enter Tryz.func161, Tryz.ntmps161
   go_wp2_with fail
   refine HG.out.mono ?_
   rintro e w1 ⟨rfl, hb1⟩
   obtain ⟨m0, bx0⟩ := HM.out
   have bA := alloc_below w1 (.cells #[.int .i64 z.p.b, .int .i64 z.p.q, .int .i64 z.p.s] 75)
   have bB := alloc_below (w1.alloc (.cells #[.int .i64 z.p.b, .int .i64 z.p.q, .int .i64 z.p.s] 75)) (.cells #[.int .i64 z.ref] 3)
   have bAll := (hb1.trans (bA.mono hb1.size)).trans (bB.mono (by have := hb1.size; simp; omega))
   have m1 := m0.below bAll
   have bx1 := bx0.below bAll
   have BS := (Bx.new (hi_below m0.e.hi hb1) #[.int .i64 z.p.b, .int .i64 z.p.q, .int .i64 z.p.s] 75 w1.heap.size rfl).below bB
   have BR := Bx.new (hi_below (hi_below m0.e.hi hb1) bA) #[.int .i64 z.ref] 3 (w1.heap.size + 1) (by simp)
   have HE := Lib.hid (Ext.of_below (S := SX k (k + 30)) m0.e.hi bAll)
   have HM1 := Lib.hid (And.intro m1 (And.intro bx1 (And.intro BS BR)))
   have q0 := bx1.c 0 _ rfl
   have q1 := BS.c 0 _ rfl
   have q2 := BS.c 1 _ rfl
   have q3 := BS.c 2 _ rfl
   have q4 := BR.c 0 _ rfl
   have f11 := m1.t.f 11
   have f12 := m1.t.f 12
   have f13 := m1.t.f 13
   have z11 := m1.t.c 11 _ rfl
   have z12 := m1.t.c 12 _ rfl
   have z13 := m1.t.c 13 _ rfl
   have hxl := m1.t.lt
   have m2 := m1.spot hk z.p
   have HS := Lib.hid (c_StMark (.func 163) #[] #[.pointer (some ⟨bx, 0, none⟩), .pointer (some ⟨w1.heap.size + 1, 0, none⟩)] wv m2.1 HP.out hk)
   have HB2 := Lib.hid (And.intro (bx1.ext m2.2) (And.intro (BR.ext m2.2) (m2.2.mono (T := SX k (k + 30)) fun t _ ht => SX.one ht)))
   clear m0 bx0 bA bB bAll m1 bx1 BS BR hb1 m2
   go_wp2_with fail
   refine HS.out.mono ?_
   rintro e w2 ⟨Mk, rfl, G2, m2, e2, k2⟩
   have HQ := Lib.hid (And.intro m2 (And.intro e2 k2))
   clear m2 e2 k2
   go_wp2_with fail
   go_end0
   obtain ⟨m2, e2, k2⟩ := HQ.out
   obtain ⟨b1, b2, e1⟩ := HB2.out
   exact HFQ.out _ _ ⟨Mk, bx, w1.heap.size + 1, rfl, G2, m2, (HE.out.trans e1).trans e2, k2, b1.ext e2, b2.ext e2⟩
 · have HFQ : Hid (∀ e w', StQ k w0 O0 w O B f s X .nilIface th (if c.verb = 5 ∨ c.verb = 6 then MISSV X else CNTV X) (stTl c p an nu ep pt) (fun W G => True) e w' → FoundQ k w0 O0 w O B f s X th c p an nu ep pt z e w') := Lib.hid (fun e w' h => by unfold FoundQ; rw [if_neg hr]; exact h)
   have d1 : decide (0 < z.ref) = false := by simp; omega
   clear M hb hF hf hp hr
   have hv : (c.verb = 5 ∨ c.verb = 6) ∨ (¬ c.verb = 5 ∧ ¬ c.verb = 6) := by omega
   rcases hv with hv | hv
   · rw [if_pos hv] at HFQ
     have hd : ((c.verb == 5) = true) ∨ ((c.verb == 5) = false ∧ (c.verb == 6) = true) := by
      by_cases h5 : c.verb = 5
      · left; simp [h5]
      · right; simp; omega
     clear hv
     rcases hd with d5 | ⟨d5, d6⟩
     all_goals
      go_enter Tryz.func161, Tryz.ntmps161
      go_wp2_with fail
      refine HG.out.mono ?_
      rintro e w1 ⟨rfl, hb1⟩
      obtain ⟨m0, bx0⟩ := HM.out
      have bA := alloc_below w1 (.cells #[.int .i64 z.p.b, .int .i64 z.p.q, .int .i64 z.p.s] 75)
      have bB := alloc_below (w1.alloc (.cells #[.int .i64 z.p.b, .int .i64 z.p.q, .int .i64 z.p.s] 75)) (.cells #[.int .i64 z.ref] 3)
      have bAll := (hb1.trans (bA.mono hb1.size)).trans (bB.mono (by have := hb1.size; simp; omega))
      have m1 := m0.below bAll
      have bx1 := bx0.below bAll
      have BR := Bx.new (hi_below (hi_below m0.e.hi hb1) bA) #[.int .i64 z.ref] 3 (w1.heap.size + 1) (by simp)
      have q0 := bx1.c 0 _ rfl
      have q4 := BR.c 0 _ rfl
      have z3 := m1.t.c 3 _ rfl
      have hE1 := Ext.of_below (S := SX k (k + 30)) m0.e.hi bAll
      have bd := drew_below ((w1.alloc (.cells #[.int .i64 z.p.b, .int .i64 z.p.q, .int .i64 z.p.s] 75)).alloc (.cells #[.int .i64 z.ref] 3))
      have m1d := m1.below bd
      have HS := Lib.hid (c_goAccess (.func 167) #[.pointer (some ⟨X, 0, none⟩)] #[] m1d hk (Nat.le_refl _) (by omega))
      have HB2 := Lib.hid (And.intro (bx1.below bd) (hE1.below bd))
      clear m0 bx0 bA bB bAll m1 bx1 BR hb1 hE1 bd m1d
      go_upto_region 6 with fail
      go_region_held3 (fun w' => w'.cell? ⟨bx, 0, none⟩ = some (.pointer (some ⟨X, 0, none⟩))) (go_keep)
       (first
         | (go_at_call 164
            refine HS.out.mono ?_
            rintro e w2 ⟨rfl, m2, e2⟩
            have q0 := (HB2.out.1.ext e2).c 0 _ rfl
            have HQ := Lib.hid (And.intro m2 e2)
            clear m2 e2))
      all_goals
       go_wp2_with fail
       go_end0
       obtain ⟨m2, e2⟩ := HQ.out
       exact HFQ.out _ _ ⟨rfl, O, m2, HB2.out.2.trans (e2.mono fun t _ ht => SX.one ht), trivial⟩
   · rw [if_neg (by omega)] at HFQ
     have d5 : (c.verb == 5) = false := by simp; omega
     have d6 : (c.verb == 6) = false := by simp; omega
     clear hv
     go_enter Tryz.func161, Tryz.ntmps161
     go_wp2_with fail
     refine HG.out.mono ?_
     rintro e w1 ⟨rfl, hb1⟩
     obtain ⟨m0, bx0⟩ := HM.out
     have bA := alloc_below w1 (.cells #[.int .i64 z.p.b, .int .i64 z.p.q, .int .i64 z.p.s] 75)
     have bB := alloc_below (w1.alloc (.cells #[.int .i64 z.p.b, .int .i64 z.p.q, .int .i64 z.p.s] 75)) (.cells #[.int .i64 z.ref] 3)
     have bAll := (hb1.trans (bA.mono hb1.size)).trans (bB.mono (by have := hb1.size; simp; omega))
     have m1 := m0.below bAll
     have bx1 := bx0.below bAll
     have BR := Bx.new (hi_below (hi_below m0.e.hi hb1) bA) #[.int .i64 z.ref] 3 (w1.heap.size + 1) (by simp)
     have q0 := bx1.c 0 _ rfl
     have q4 := BR.c 0 _ rfl
     have z3 := m1.t.c 3 _ rfl
     have hE1 := Ext.of_below (S := SX k (k + 30)) m0.e.hi bAll
     have bd := drew_below ((w1.alloc (.cells #[.int .i64 z.p.b, .int .i64 z.p.q, .int .i64 z.p.s] 75)).alloc (.cells #[.int .i64 z.ref] 3))
     have m1d := m1.below bd
     have HS := Lib.hid (c_goAccess (.func 168) #[.pointer (some ⟨X, 0, none⟩)] #[] m1d hk (Nat.le_refl _) (by omega))
     have HB2 := Lib.hid (And.intro (bx1.below bd) (hE1.below bd))
     clear m0 bx0 bA bB bAll m1 bx1 BR hb1 hE1 bd m1d
     go_upto_region 1 with fail
     go_region_held3 (fun w' => w'.cell? ⟨bx, 0, none⟩ = some (.pointer (some ⟨X, 0, none⟩))) (go_keep)
      (first
        | (go_at_call 164
           refine HS.out.mono ?_
           rintro e w2 ⟨rfl, m2, e2⟩
           have q0 := (HB2.out.1.ext e2).c 0 _ rfl
           have HQ := Lib.hid (And.intro m2 e2)
           clear m2 e2))
     all_goals
      go_wp2_with fail
      go_end0
      obtain ⟨m2, e2⟩ := HQ.out
      exact HFQ.out _ _ ⟨rfl, O, m2, HB2.out.2.trans (e2.mono fun t _ ht => SX.one ht), trivial⟩
end
end
end Go.Proofs.YtifkfhnbkjkakaaGreatDoor
