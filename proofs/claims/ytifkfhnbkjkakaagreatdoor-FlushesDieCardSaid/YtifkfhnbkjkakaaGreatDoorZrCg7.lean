/- Layer 26: a step of the program's Change: its lines joined. -/
import Derived.Test.YtifkfhnbkjkakaaGreatDoorZrCg6
import Derived.Test.YtifkfhnbkjkakaaGreatDoorZrSeR
import Derived.Test.YtifkfhnbkjkakaaGreatDoorZrSH
namespace Go.Proofs.YtifkfhnbkjkakaaGreatDoor
set_option linter.unusedSimpArgs false
set_option linter.unusedVariables false
set_option maxHeartbeats 4000000
set_option maxRecDepth 100000
open Go.RowKit
theorem m_AcStep (g : Fn) (b c : Array Value) (w : World) : (method 635 244 (.func g b c) "Step").run Tryz.prog w = .ok (458, .func g b c) w := by kernel_rfl
theorem m_OuStep (a : Addr) (w : World) : (method 635 288 (.pointer (some a)) "Step").run Tryz.prog w = .ok (344, .pointer (some a)) w := by kernel_rfl
def ChL (w : World) (O : Om) (k X t : Nat) (c : Clm) (z : Chm) (pv th : Value) (pp : Spt) (rf : Int) : Nat → Prop
 | 0 => pv = .nilIface
 | 1 => ∃ T bx, pv = .iface 150 (.pointer (some ⟨T, 0, none⟩)) ∧ th = CNW1V bx ∧ Bx w O bx [.pointer (some ⟨X, 0, none⟩)] ∧ Ob w O (k + 1) T (tkCs T t z.tk)
 | 2 => ∃ U, pv = .iface 157 (.pointer (some ⟨U, 0, none⟩)) ∧ th = SEEKV X ∧ Ob w O (k + 2) U (tuCs 1 0)
 | 3 => ∃ F bf bx, pv = .iface 240 (.pointer (some ⟨F, 0, none⟩)) ∧ th = SK1V bf bx ∧ FdAt w O (k + 3) F c.key z.fd ∧ Bx w O bf [.pointer (some ⟨F, 0, none⟩)] ∧ Bx w O bx [.pointer (some ⟨X, 0, none⟩)]
 | 4 => pp = z.p ∧ rf = z.ref ∧ ∃ Mk bx, pv = .iface 246 (.pointer (some ⟨Mk, 0, none⟩)) ∧ th = SK12V bx ∧ MkAt w O (k + 6) Mk z.ml ∧ Bx w O bx [.pointer (some ⟨X, 0, none⟩)]
 | 5 => pp = z.p ∧ rf = z.ref ∧ pv = LOADV X ∧ th = FNDV X
 | 6 => pp = z.p ∧ ∃ U bx, pv = .iface 288 (.pointer (some ⟨U, 0, none⟩)) ∧ th = DL1V bx ∧ OutAt w O (k + 9) U z.p z.o ∧ Bx w O bx [.pointer (some ⟨X, 0, none⟩)]
 | 7 => pp = z.p ∧ ∃ bx, pv = LESSV ∧ th = DL12V bx ∧ Bx w O bx [.pointer (some ⟨X, 0, none⟩)]
 | 8 => pp = z.p ∧ ∃ Mk bx bk, pv = .iface 246 (.pointer (some ⟨Mk, 0, none⟩)) ∧ th = MKSV bx bk ∧ MkAt w O (k + 6) Mk z.ml ∧ Bx w O bx [.pointer (some ⟨X, 0, none⟩)] ∧ Bx w O bk [.int .u8 z.an]
 | 9 => ∃ V, pv = .iface 219 (.pointer (some ⟨V, 0, none⟩)) ∧ th = GVSV ∧ Ob w O (k + 8) V [.int .i64 1]
 | 10 => ∃ bx, pv = LOADV X ∧ th = SK11V bx ∧ Bx w O bx [.pointer (some ⟨X, 0, none⟩)]
 | 11 => pp = z.p ∧ ∃ bx br ba, pv = ST1V bx br ∧ th = ST2V ba bx ∧ Bx w O bx [.pointer (some ⟨X, 0, none⟩)] ∧ Ob w O (k + 27) br [.int .i64 z.ref] ∧ Bx w O ba (aKs z.ka z.kn)
 | 12 => pp = z.p ∧ z.ka = 8 ∧ ∃ bx bi bn, pv = CN1V bi ∧ th = CN2V bx bi bn ∧ Bx w O bx [.pointer (some ⟨X, 0, none⟩)] ∧ Ob w O (k + 10) bi (itCs z.r) ∧ Ob w O (k + 11) bn [.int .u64 z.kn]
 | _ => False
structure ChAt (w : World) (O : Om) (k X t : Nat) (c : Clm) (z : Chm) : Prop where
 ex : ∃ pv th pp x rf, Ob w O k X (chCs c pv th (chTl pp x rf z.an z.nu z.ep z.pt)) ∧ ChL w O k X t c z pv th pp rf z.ln
def ChR (k : Nat) (w : World) (O : Om) (B : Wb) (f : Cf) (X t : Nat) (c : Clm) (y : AW × Chm) (w' : World) : Prop := ∃ G, Ext (SX k (k + 30)) O w G w' ∧ PW w' G B f y.1 ∧ ChAt w' G k X t c y.2
section
variable {w w0 : World} {O O0 : Om} {B : Wb} {f : Cf} {s : AW} {k X t : Nat} {c : Clm} {z : Chm} {pv th : Value} {tl : List Value}
theorem ChAt.idle (h : ChAt w O k X t c z) : ChIdle w X (z.ln == 0) := by
 obtain ⟨pv, th, pp, x, rf, ho, hl⟩ := h.ex
 have q7 : w.cell? ⟨X, 7, none⟩ = some pv := ho.c 7 _ rfl
 obtain ⟨ln, tk, fd, ml, o, p, ref, r, an, nu, ep, pt, ka, kn⟩ := z
 dsimp only at hl ⊢
 match ln, hl with
 | 0, hl => rw [show pv = .nilIface from hl] at q7; exact .inl ⟨rfl, q7⟩
 | 1, hl => obtain ⟨T, bx, rfl, -⟩ := hl; exact .inr ⟨rfl, _, _, q7⟩
 | 2, hl => obtain ⟨U, rfl, -⟩ := hl; exact .inr ⟨rfl, _, _, q7⟩
 | 3, hl => obtain ⟨F, bf, bx, rfl, -⟩ := hl; exact .inr ⟨rfl, _, _, q7⟩
 | 4, hl => obtain ⟨-, -, Mk, bx, rfl, -⟩ := hl; exact .inr ⟨rfl, _, _, q7⟩
 | 5, hl => obtain ⟨-, -, rfl, -⟩ := hl; exact .inr ⟨rfl, _, _, q7⟩
 | 6, hl => obtain ⟨-, U, bx, rfl, -⟩ := hl; exact .inr ⟨rfl, _, _, q7⟩
 | 7, hl => obtain ⟨-, bx, rfl, -⟩ := hl; exact .inr ⟨rfl, _, _, q7⟩
 | 8, hl => obtain ⟨-, Mk, bx, bk, rfl, -⟩ := hl; exact .inr ⟨rfl, _, _, q7⟩
 | 9, hl => obtain ⟨V, rfl, -⟩ := hl; exact .inr ⟨rfl, _, _, q7⟩
 | 10, hl => obtain ⟨bx, rfl, -⟩ := hl; exact .inr ⟨rfl, _, _, q7⟩
 | 11, hl => obtain ⟨-, bx, br, ba, rfl, -⟩ := hl; exact .inr ⟨rfl, _, _, q7⟩
 | 12, hl => obtain ⟨-, -, bx, bi, bn, rfl, -⟩ := hl; exact .inr ⟨rfl, _, _, q7⟩
theorem ChR.idle {y : AW × Chm} {W : World} (h : ChR k w O B f X t c y W) : ChIdle W X (y.2.ln == 0) := by
 obtain ⟨G, -, -, h⟩ := h
 exact h.idle
theorem ChR.mk {w' : World} {G : Om} {s' : AW} {pp : Spt} {x : It} {rf : Int} {z : Chm} (m : Me k (k + 30) w O w' G B f s' k X (chCs c pv th (chTl pp x rf z.an z.nu z.ep z.pt))) (L : ChL w' G k X t c z pv th pp rf z.ln) : ChR k w O B f X t c (s', z) w' := ⟨G, m.e, m.p, pv, th, pp, x, rf, m.t, L⟩
theorem Me.chNil (M : Me k (k + 30) w0 O0 w O B f s k X (chCs c pv th tl)) (hk : 10 ≤ k) :
 Me k (k + 30) w0 O0 ((w.setCell ⟨X, 7, none⟩ .nilIface).setCell ⟨X, 8, none⟩ .nilFunc) O B f s k X (chCs c .nilIface .nilFunc tl) ∧ Ext (fun t => t = k) O w O ((w.setCell ⟨X, 7, none⟩ .nilIface).setCell ⟨X, 8, none⟩ .nilFunc) :=
 M.set2 hk (Nat.le_refl _) (by omega) (i := 7) (j := 8) .nilIface .nilFunc (by simp [chCs]) (by simp [chCs])
theorem c_ChStepNo {wp : Addr} {ty : TypeId} {fS : FuncId} {v : Value} {R : World → Prop} (q7 : w.cell? ⟨X, 7, none⟩ = some (.iface ty v)) (hm : ∀ W, (method 635 ty v "Step").run Tryz.prog W = .ok (fS, v) W) (hK : enters fS)
 (HC : Calls Tryz.prog fS #[v, .pointer (some wp)] w fun e w' => e = .returned (.bool false) ∧ R w') (hR : ∀ W, R W → ChIdle W X false) :
 Calls Tryz.prog 26 #[.pointer (some ⟨X, 0, none⟩), .pointer (some wp)] w fun e w' => e = .returned (.bool false) ∧ R w' := by
 unfold enters at hK
 have HO := Lib.hid (c_ChOver (.inr ⟨rfl, ty, v, q7⟩ : ChIdle w X false))
 have HCH := Lib.hid HC
 have HRH := Lib.hid hR
 clear HC hR
 go_enter Tryz.func26, Tryz.ntmps26
 go_wp2_with fail
 refine HO.out.mono ?_
 rintro e w' ⟨rfl, rfl⟩
 go_wp2_with fail
 refine HCH.out.mono ?_
 rintro e w1 ⟨rfl, h⟩
 have H1 := Lib.hid (c_ChOver (HRH.out w1 h))
 have HR := Lib.hid h
 clear h
 go_wp2_with fail
 refine H1.out.mono ?_
 rintro e w' ⟨rfl, rfl⟩
 go_wp2_with fail
 go_ret
 exact ⟨rfl, HR.out⟩
theorem c_ChStepYes {wp : Addr} {ty : TypeId} {fS KF : FuncId} {v : Value} {bd caps : Array Value} {b : Bool} {R R1 : World → Prop} (q7 : w.cell? ⟨X, 7, none⟩ = some (.iface ty v)) (hm : ∀ W, (method 635 ty v "Step").run Tryz.prog W = .ok (fS, v) W) (hK : enters fS) (hKF : enters KF)
 (HC : Calls Tryz.prog fS #[v, .pointer (some wp)] w fun e w' => e = .returned (.bool true) ∧ R1 w')
 (HT : ∀ W, R1 W → (W.cell? ⟨X, 8, none⟩ = some (.func (.func KF) bd caps) ∧ (∃ u, W.cell? ⟨X, 7, none⟩ = some u) ∧ W.frozen? ⟨X, 7, none⟩ = false ∧ W.frozen? ⟨X, 8, none⟩ = false) ∧ Calls Tryz.prog KF (bd ++ #[.pointer (some wp)] ++ caps) ((W.setCell ⟨X, 7, none⟩ .nilIface).setCell ⟨X, 8, none⟩ .nilFunc) fun e w' => e = .returned (.tuple #[]) ∧ R w')
 (hR : ∀ W, R W → ChIdle W X b) :
 Calls Tryz.prog 26 #[.pointer (some ⟨X, 0, none⟩), .pointer (some wp)] w fun e w' => e = .returned (.bool b) ∧ R w' := by
 unfold enters at hK hKF
 have HO := Lib.hid (c_ChOver (.inr ⟨rfl, ty, v, q7⟩ : ChIdle w X false))
 have HCH := Lib.hid HC
 have HTH := Lib.hid HT
 have HRH := Lib.hid hR
 clear HC hR HT
 go_enter Tryz.func26, Tryz.ntmps26
 go_wp2_with fail
 refine HO.out.mono ?_
 rintro e w' ⟨rfl, rfl⟩
 go_wp2_with fail
 refine HCH.out.mono ?_
 rintro e w1 ⟨rfl, h⟩
 obtain ⟨⟨q8, ⟨u, q7'⟩, f7, f8⟩, HTC⟩ := HTH.out w1 h
 have H2 := Lib.hid HTC
 clear h HTC HTH HCH HO
 go_wp2_with fail
 refine H2.out.mono ?_
 rintro e w2 ⟨rfl, h⟩
 have H1 := Lib.hid (c_ChOver (HRH.out w2 h))
 have HR := Lib.hid h
 clear h
 go_wp2_with fail
 refine H1.out.mono ?_
 rintro e w' ⟨rfl, rfl⟩
 go_wp2_with fail
 go_ret
 exact ⟨rfl, HR.out⟩
theorem c_AcStep {KA : FuncId} {bd caps : Array Value} {wv : Value} {R : World → Prop} (hKA : enters KA) (HC : Calls Tryz.prog KA (bd ++ #[wv] ++ caps) w fun e w' => e = .returned (.tuple #[]) ∧ R w') :
 Calls Tryz.prog 458 #[.func (.func KA) bd caps, wv] w fun e w' => e = .returned (.bool true) ∧ R w' := by
 unfold enters at hKA
 have HCH := Lib.hid HC
 clear HC
 go_enter Tryz.func458, Tryz.ntmps458
 go_wp2_with fail
 refine HCH.out.mono ?_
 rintro e w1 ⟨rfl, h⟩
 have HR := Lib.hid h
 clear h
 go_wp2_with fail
 go_ret
 exact ⟨rfl, HR.out⟩
theorem Me.chThen {W : World} {G : Om} {KF : FuncId} {bd caps : Array Value} (m : Me k (k + 30) w0 O0 W G B f s k X (chCs c pv (.func (.func KF) bd caps) tl)) : W.cell? ⟨X, 8, none⟩ = some (.func (.func KF) bd caps) ∧ (∃ u, W.cell? ⟨X, 7, none⟩ = some u) ∧ W.frozen? ⟨X, 7, none⟩ = false ∧ W.frozen? ⟨X, 8, none⟩ = false :=
 ⟨m.t.c 8 _ rfl, ⟨_, m.t.c 7 _ rfl⟩, m.t.f 7, m.t.f 8⟩
theorem ChQ.fin {W W2 : World} {G : Om} {pv' th' : Value} {pp : Spt} {x : It} {rf : Int} {Q : World → Om → Prop} {s' : AW} {e : Ending} (h : ChQ k w O W G B f s' X c pv' th' (chTl pp x rf z.an z.nu z.ep z.pt) Q e W2) (hL : ∀ G2, Ext (SX k (k + 30)) G W G2 W2 → Q W2 G2 → ChL W2 G2 k X t c z pv' th' pp rf z.ln) : e = .returned (.tuple #[]) ∧ ChR k w O B f X t c (s', z) W2 := by
 obtain ⟨he, G2, m, e2, q⟩ := h
 exact ⟨he, ChR.mk m (hL G2 e2 q)⟩
theorem c_ChStep (z : Chm) (hP : PW w O B f s) (hX : ChAt w O k X t c z) (hpre : chPre c s z = true) (hV : Va w O) (hz : z.ln ≠ 0) (ht : t < 64) (hvb : c.verb = 7 ∨ c.verb = 8 ∨ c.verb = 9 ∨ c.verb = 10) (hex : -9223372036854775808 ≤ c.exp ∧ c.exp ≤ 9223372036854775807) (hby : 0 ≤ c.by_ ∧ c.by_ < 18446744073709551616) (hkz : c.key.size ≤ maxLen) (hvl : ∀ x ∈ s.it, x.val.size ≤ maxLen) (hk : 10 ≤ k) (hhi : ∀ j, O j ≠ 0 → j < w.heap.size) (n0 : 0 ≤ s.n) (n1 : s.n ≤ 4611686018427387904) :
 Calls Tryz.prog 26 #[.pointer (some ⟨X, 0, none⟩), .pointer (some ⟨B.p, 0, none⟩)] w fun e w' => e = .returned (.bool ((chStep t c (s, z)).2.ln == 0)) ∧ ChR k w O B f X t c (chStep t c (s, z)) w' := by
 obtain ⟨pv, th, pp, x, rf, ho, hl⟩ := hX.ex
 obtain ⟨ln, tk, fd, ml, o, p, ref, r, an, nu, ep, pt, ka, kn⟩ := z
 unfold chPre at hpre
 rw [Bool.and_eq_true, decide_eq_true_eq] at hpre
 obtain ⟨hil, hpre⟩ := hpre
 have q7 : w.cell? ⟨X, 7, none⟩ = some pv := ho.c 7 _ rfl
 dsimp only at hl hpre hz ho
 have M := Me.start (a := k) (b := k + 30) hhi hP ho
 match ln, hl, hpre, hz with
 | 0, _, _, hz => exact absurd rfl hz
 | 1, hl, hpre, _ =>
   obtain ⟨T, bx, rfl, rfl, hb, hT⟩ := hl
   have hx := of_decide_eq_true hpre
   have HS := c_TakeStep w O B f s (k + 1) T t tk hP hT hx (by omega) ht hhi n0 n1
   have e : chStep t c (s, ⟨1, tk, fd, ml, o, p, ref, r, an, nu, ep, pt, ka, kn⟩) = ((tkStep t s tk).1, ⟨if (tkStep t s tk).2.ln = 0 then 2 else 1, (tkStep t s tk).2, fd, ml, o, p, ref, r, an, nu, ep, pt, ka, kn⟩) := rfl
   rw [e]
   clear e
   obtain ⟨y, hy⟩ : ∃ y, y = tkStep t s tk := ⟨_, rfl⟩
   rw [← hy] at HS ⊢
   clear hy
   by_cases h0 : y.2.ln = 0
   · rw [decide_eq_true h0] at HS
     rw [if_pos h0]
     refine c_ChStepYes (bd := #[]) (caps := #[.pointer (some ⟨bx, 0, none⟩)]) q7 (m_TkStep _) (run_enter Tryz.func106 (by kernel_rfl) (by kernel_rfl)) (run_enter Tryz.func67 (by kernel_rfl) (by kernel_rfl)) (HS.mono fun e w' h => ⟨h.1, h.2⟩) (fun W h => ?_) fun W h => h.idle
     obtain ⟨G, e1, p1, l1⟩ := h
     have m1 := Me.op ho e1 p1 (by omega) hk (by omega)
     have m2 := m1.chNil hk
     refine ⟨m1.chThen, (c_ChNew1 _ m2.1 ((hb.ext e1).ext m2.2) hk).mono fun e w' h => ?_⟩
     obtain ⟨U, h⟩ := h
     exact ChQ.fin (z := ⟨2, y.2, fd, ml, o, p, ref, r, an, nu, ep, pt, ka, kn⟩) h fun G2 _ q => ⟨U, rfl, rfl, q⟩
   · rw [decide_eq_false h0] at HS
     rw [if_neg h0]
     refine c_ChStepNo q7 (m_TkStep _) (run_enter Tryz.func106 (by kernel_rfl) (by kernel_rfl)) (HS.mono fun e w' h => ⟨h.1, ?_⟩) fun W h => h.idle
     obtain ⟨G, e1, p1, l1⟩ := h.2
     exact ChR.mk (z := ⟨1, y.2, fd, ml, o, p, ref, r, an, nu, ep, pt, ka, kn⟩) (Me.op ho e1 p1 (by omega) hk (by omega)) ⟨T, bx, rfl, rfl, hb.ext e1, l1⟩
 | 2, hl, hpre, _ =>
   obtain ⟨U, rfl, rfl, hU⟩ := hl
   have HS := c_TurnStep1 (k := k + 2) hP hU (by omega) (of_decide_eq_true hpre) hhi n0 n1
   refine c_ChStepYes (bd := #[.pointer (some ⟨X, 0, none⟩)]) (caps := #[]) q7 (m_TuStep _) (run_enter Tryz.func444 (by kernel_rfl) (by kernel_rfl)) (run_enter Tryz.func69 (by kernel_rfl) (by kernel_rfl)) (HS.mono fun e w' h => ⟨h.1, h.2⟩) (fun W h => ?_) fun W h => ChR.idle (y := (awLoad 2 s, ⟨3, tk, fdNew, ml, o, p, ref, r, an, nu, ep, pt, ka, kn⟩)) h
   obtain ⟨G, e1, p1⟩ := h
   have m1 := Me.op ho e1 p1 (by omega) hk (by omega)
   have m2 := m1.chNil hk
   refine ⟨m1.chThen, (c_ChSeek _ m2.1 hk).mono fun e w' h => ?_⟩
   obtain ⟨F, bf, bx, h⟩ := h
   exact ChQ.fin (z := ⟨3, tk, fdNew, ml, o, p, ref, r, an, nu, ep, pt, ka, kn⟩) h fun G2 _ q => ⟨F, bf, bx, rfl, rfl, q⟩
 | 3, hl, hpre, _ =>
   obtain ⟨F, bf, bx, rfl, rfl, hF, hf, hb⟩ := hl
   change (fdB fd && (!fd.left.isEmpty && (decide ((fdStep c.key (s, fd)).2.ref = 0) || (spB (fdStep c.key (s, fd)).2.p && decide (1 ≤ (fdStep c.key (s, fd)).2.ref ∧ (fdStep c.key (s, fd)).2.ref ≤ 1000000))))) = true at hpre
   rw [Bool.and_eq_true, Bool.and_eq_true, Bool.or_eq_true, Bool.and_eq_true, decide_eq_true_eq, decide_eq_true_eq] at hpre
   obtain ⟨b1, b2, b3⟩ := hpre
   have hne : fd.left ≠ [] := fun e => by rw [e] at b2; exact absurd b2 (by decide)
   have HS := c_FdStep (k := k + 3) fd hP hF (fdB_ok b1) hne hkz hil (by omega) hhi n0 n1
   rw [chStep_3 t c s _ rfl]
   dsimp only
   obtain ⟨y, hy⟩ : ∃ y, y = fdStep c.key (s, fd) := ⟨_, rfl⟩
   rw [← hy] at HS b3 ⊢
   clear hy
   by_cases h0 : y.2.left = []
   · rw [show (y.2.left.length == 0) = true by rw [h0]; rfl] at HS
     rw [if_pos h0]
     have hr : 0 < y.2.ref ∨ y.2.ref = 0 := by rcases b3 with h | h; exact .inr h; exact .inl (by omega)
     have hp : 0 < y.2.ref → y.2.p.ok := fun h => by rcases b3 with h' | h'; omega; exact spB_ok h'.1
     refine c_ChStepYes (bd := #[]) (caps := #[.pointer (some ⟨bf, 0, none⟩), .pointer (some ⟨bx, 0, none⟩)]) q7 (m_FdStep _) (run_enter Tryz.func457 (by kernel_rfl) (by kernel_rfl)) (run_enter Tryz.func130 (by kernel_rfl) (by kernel_rfl)) (HS.mono fun e w' h => ⟨h.1, h.2⟩) (fun W h => ?_) fun W h => h.idle
     obtain ⟨G, e1, p1, l1⟩ := h
     have m1 := Me.op ho e1 p1 (by omega) hk (by omega)
     have m2 := m1.chNil hk
     refine ⟨m1.chThen, (c_ChSeek1 _ m2.1 ((hf.ext e1).ext m2.2) ((hb.ext e1).ext m2.2) (l1.ext m2.2 (by omega) (by omega)) hp hr hk).mono fun e w' h => ?_⟩
     unfold ChFdQ at h
     unfold chFd
     by_cases hr0 : 0 < y.2.ref
     · rw [if_pos hr0] at h
       rw [if_pos hr0]
       obtain ⟨Mk, bx', h⟩ := h
       exact ChQ.fin (z := ⟨4, tk, y.2, stVer y.2.p, o, y.2.p, y.2.ref, r, an, nu, ep, pt, ka, kn⟩) h fun G2 _ q => ⟨rfl, rfl, Mk, bx', rfl, rfl, q.1, q.2⟩
     · rw [if_neg hr0] at h
       rw [if_neg hr0]
       obtain ⟨bx', h⟩ := h
       exact ChQ.fin (z := ⟨10, tk, y.2, ml, o, p, ref, r, an, nu, ep, pt, ka, kn⟩) h fun G2 _ q => ⟨bx', rfl, rfl, q⟩
   · rw [show (y.2.left.length == 0) = false by cases hq : y.2.left with | nil => exact absurd hq h0 | cons a l => rfl] at HS
     rw [if_neg h0]
     refine c_ChStepNo q7 (m_FdStep _) (run_enter Tryz.func457 (by kernel_rfl) (by kernel_rfl)) (HS.mono fun e w' h => ⟨h.1, ?_⟩) fun W h => h.idle
     obtain ⟨G, e1, p1, l1⟩ := h.2
     exact ChR.mk (z := ⟨3, tk, y.2, ml, o, p, ref, r, an, nu, ep, pt, ka, kn⟩) (Me.op ho e1 p1 (by omega) hk (by omega)) ⟨F, bf, bx, rfl, rfl, l1, hf.ext e1, hb.ext e1⟩
 | 4, hl, hpre, _ =>
   obtain ⟨hpp, hrf, Mk, bx, rfl, rfl, hM, hb⟩ := hl
   have hpp : p = pp := Eq.symm hpp
   have hrf : ref = rf := Eq.symm hrf
   subst hpp hrf
   try dsimp only at M ho
   obtain ⟨a, l, rfl, a0, a1, hl5⟩ := mlB_ok hpre
   have HC := c_MkStep a l (k + 6) hP hM hl5 (by omega) hhi a0 a1 n0 n1
   cases l with
   | nil =>
     refine c_ChStepYes (bd := #[]) (caps := #[.pointer (some ⟨bx, 0, none⟩)]) q7 (m_MkStep _) (run_enter Tryz.func341 (by kernel_rfl) (by kernel_rfl)) (run_enter Tryz.func136 (by kernel_rfl) (by kernel_rfl)) (HC.mono fun _ _ h => RP.swap h) (fun W h => ?_) fun W h => ChR.idle (y := (awAdd a 1 s, ⟨5, tk, fd, [], o, p, ref, r, an, nu, ep, pt, ka, kn⟩)) h
     obtain ⟨G, e1, p1, k1⟩ := h
     have m1 := Me.op ho e1 p1 (by omega) hk (by omega)
     have m2 := m1.chNil hk
     exact ⟨m1.chThen, (c_ChSeek12 _ m2.1 ((hb.ext e1).ext m2.2) hk).mono fun e w' h => ChQ.fin (z := ⟨5, tk, fd, [], o, p, ref, r, an, nu, ep, pt, ka, kn⟩) h fun G2 _ q => ⟨rfl, rfl, rfl, rfl⟩⟩
   | cons b l =>
     refine c_ChStepNo q7 (m_MkStep _) (run_enter Tryz.func341 (by kernel_rfl) (by kernel_rfl)) (HC.mono fun e w1 h1 => ?_) fun W h => ChR.idle (y := (awAdd a 1 s, ⟨4, tk, fd, b :: l, o, p, ref, r, an, nu, ep, pt, ka, kn⟩)) h
     obtain ⟨he, G, e1, p1, k1⟩ := RP.swap h1
     exact ⟨he, ChR.mk (z := ⟨4, tk, fd, b :: l, o, p, ref, r, an, nu, ep, pt, ka, kn⟩) (Me.op ho e1 p1 (by omega) hk (by omega)) ⟨rfl, rfl, Mk, bx, rfl, rfl, k1, hb.ext e1⟩⟩
 | 5, hl, hpre, _ =>
   obtain ⟨hpp, hrf, rfl, rfl⟩ := hl
   have hpp : p = pp := Eq.symm hpp
   have hrf : ref = rf := Eq.symm hrf
   subst hpp hrf
   have hpre : (decide (1 ≤ ref ∧ ref ≤ s.it.length) && (spB p && decide (s.it.length < 1000000))) = true := hpre
   try dsimp only at M ho
   rw [Bool.and_eq_true, Bool.and_eq_true, decide_eq_true_eq, decide_eq_true_eq] at hpre
   obtain ⟨hri, hpb, hi1⟩ := hpre
   have hp := spB_ok hpb
   have hb8 := M.p.bd 8
   have hep : 0 ≤ s.M 8 ∧ s.M 8 ≤ 18446744073709551615 := by omega
   have HL := c_ChLoad M hk n0 n1
   have hval : (itAt s.it ref).val.size ≤ maxLen := by
    obtain ⟨i, hi, -⟩ := itAt_ok hri.1 hri.2
    exact hvl _ (List.mem_of_getElem? hi)
   obtain ⟨y, hy⟩ : ∃ y, y = itAt s.it ref := ⟨_, rfl⟩
   have hst : chStep t c (s, ⟨5, tk, fd, ml, o, p, ref, r, an, nu, ep, pt, ka, kn⟩) = chFound c y (awLoad 8 s) ⟨5, tk, fd, ml, o, p, ref, r, an, nu, s.M 8, s.n + 1, ka, kn⟩ := by rw [hy]; rfl
   rw [hst]
   rw [← hy] at hval
   clear hst
   refine c_ChStepYes (bd := #[.pointer (some ⟨X, 0, none⟩)]) (caps := #[]) q7 (m_AcStep _ _ _) (run_enter Tryz.func458 (by kernel_rfl) (by kernel_rfl)) (run_enter Tryz.func137 (by kernel_rfl) (by kernel_rfl)) (c_AcStep (bd := #[.pointer (some ⟨X, 0, none⟩)]) (caps := #[]) (run_enter Tryz.func132 (by kernel_rfl) (by kernel_rfl)) (HL.mono fun e w' h => ⟨h.1, h.2⟩)) (fun W h => ?_) fun W h => h.idle
   obtain ⟨G, m1, e1, -⟩ := h
   have m2 := m1.chNil hk
   have V2 := (hV.ext e1).ext m2.2
   refine ⟨m1.chThen, ?_⟩
   have hD : epAlive y.dies y.gen (s.M 8) = false → ∀ w', (∃ Mk bx bk, ChQ k w O ((W.setCell ⟨X, 7, none⟩ .nilIface).setCell ⟨X, 8, none⟩ .nilFunc) G B f (awLoad 8 s) X c (.iface 246 (.pointer (some ⟨Mk, 0, none⟩))) (MKSV bx bk) (chTl p y ref 4 nu (s.M 8) (s.n + 1)) (fun W G => MkAt W G (k + 6) Mk [p.ver] ∧ Bx W G bx [.pointer (some ⟨X, 0, none⟩)] ∧ Bx W G bk [.int .u8 4]) (.returned (.tuple #[])) w') → ChR k w O B f X t c (chFound c y (awLoad 8 s) ⟨5, tk, fd, ml, o, p, ref, r, an, nu, s.M 8, s.n + 1, ka, kn⟩) w' := fun hal w' h => by
    obtain ⟨Mk, bx, bk, h⟩ := h
    rw [show chFound c y (awLoad 8 s) ⟨5, tk, fd, ml, o, p, ref, r, an, nu, s.M 8, s.n + 1, ka, kn⟩ = (awLoad 8 s, ⟨8, tk, fd, stVer p, o, p, ref, r, 4, nu, s.M 8, s.n + 1, ka, kn⟩) by unfold chFound; rw [if_pos hal]; rfl]
    exact (ChQ.fin (z := ⟨8, tk, fd, stVer p, o, p, ref, r, 4, nu, s.M 8, s.n + 1, ka, kn⟩) h fun G2 _ q => ⟨rfl, Mk, bx, bk, rfl, rfl, q⟩).2
   have hcnt : ∀ (KF : FuncId), enters KF → (c.verb ≠ 7 ∧ c.verb ≠ 8) → (∀ n, 0 ≤ n → n < 18446744073709551616 → ∀ W, Calls Tryz.prog KF #[.int .u64 n, .int .u64 c.by_] W fun e w' => e = .returned (.int .u64 (nuBy c.verb n c.by_)) ∧ W = w') → epAlive y.dies y.gen (s.M 8) = true → ∀ W2, Me k (k + 30) w O W2 G B f (awLoad 8 s) k X (chCs c .nilIface .nilFunc (chTl p y ref an nu (s.M 8) (s.n + 1))) → Ext (SX k (k + 30)) G ((W.setCell ⟨X, 7, none⟩ .nilIface).setCell ⟨X, 8, none⟩ .nilFunc) G W2 → Calls Tryz.prog 127 #[.pointer (some ⟨X, 0, none⟩), .func (.func KF) #[] #[]] W2 fun e w' => e = .returned (.tuple #[]) ∧ ChR k w O B f X t c (chFound c y (awLoad 8 s) ⟨5, tk, fd, ml, o, p, ref, r, an, nu, s.M 8, s.n + 1, ka, kn⟩) w' := fun KF hKF hv hBY hal W2 m3 e3 => by
    have hnal : ¬ epAlive y.dies y.gen (s.M 8) = false := by rw [hal]; decide
    cases hpn : nuParse y.val with
    | none =>
      rw [show chFound c y (awLoad 8 s) ⟨5, tk, fd, ml, o, p, ref, r, an, nu, s.M 8, s.n + 1, ka, kn⟩ = (awLoad 8 s, ⟨8, tk, fd, stVer p, o, p, ref, r, 9, nu, s.M 8, s.n + 1, ka, kn⟩) by unfold chFound; rw [if_neg hnal, if_neg hv.1, if_neg hv.2, hpn]; rfl]
      refine (c_ChCountsN (.func KF) #[] #[] hpn hval (V2.ext e3) m3 hp hk).mono fun e w' h => ?_
      obtain ⟨Mk, bx, bk, h⟩ := h
      exact ChQ.fin (z := ⟨8, tk, fd, stVer p, o, p, ref, r, 9, nu, s.M 8, s.n + 1, ka, kn⟩) h fun G2 _ q => ⟨rfl, Mk, bx, bk, rfl, rfl, q⟩
    | some n =>
      have hn := nuParse_some _ _ hpn
      have hm : 0 ≤ nuBy c.verb n c.by_ ∧ nuBy c.verb n c.by_ < 18446744073709551616 := by
       unfold nuBy
       split
       · omega
       · split <;> omega
      rw [show chFound c y (awLoad 8 s) ⟨5, tk, fd, ml, o, p, ref, r, an, nu, s.M 8, s.n + 1, ka, kn⟩ = (awLoad 8 s, ⟨12, tk, fd, ml, o, p, ref, { y with val := nuText (nuBy c.verb n c.by_) }, an, nu, s.M 8, s.n + 1, 8, nuBy c.verb n c.by_⟩) by unfold chFound; rw [if_neg hnal, if_neg hv.1, if_neg hv.2, hpn]]
      refine (c_ChCountsY KF hKF (hBY n hn.2.1 hn.2.2) hpn hm.1 hm.2 hval (V2.ext e3) m3 hk).mono fun e w' h => ?_
      obtain ⟨bx, bi, bn, h⟩ := h
      exact ChQ.fin (z := ⟨12, tk, fd, ml, o, p, ref, { y with val := nuText (nuBy c.verb n c.by_) }, an, nu, s.M 8, s.n + 1, 8, nuBy c.verb n c.by_⟩) h fun G2 _ q => ⟨rfl, rfl, bx, bi, bn, rfl, rfl, q⟩
   rcases hvb with hv | hv | hv | hv
   · refine c_ChFound 124 (run_enter Tryz.func124 (by kernel_rfl) (by kernel_rfl)) (by rw [hv]; rfl) m2.1 hy hil hep hp hk hD fun hal W2 m3 e3 => (c_ChDeletes _ m3 hp hk).mono fun e w' h => ?_
     obtain ⟨U, bx, h⟩ := h
     rw [show chFound c y (awLoad 8 s) ⟨5, tk, fd, ml, o, p, ref, r, an, nu, s.M 8, s.n + 1, ka, kn⟩ = (awLoad 8 s, ⟨6, tk, fd, ml, ⟨0, 0⟩, p, ref, r, an, nu, s.M 8, s.n + 1, ka, kn⟩) by unfold chFound; rw [if_neg (by rw [hal]; decide), if_pos hv]]
     exact ChQ.fin (z := ⟨6, tk, fd, ml, ⟨0, 0⟩, p, ref, r, an, nu, s.M 8, s.n + 1, ka, kn⟩) h fun G2 _ q => ⟨rfl, U, bx, rfl, rfl, q⟩
   · refine c_ChFound 125 (run_enter Tryz.func125 (by kernel_rfl) (by kernel_rfl)) (by rw [hv]; rfl) m2.1 hy hil hep hp hk hD fun hal W2 m3 e3 => (c_ChTouches m3 hep hex hil hk).mono fun e w' h => ?_
     obtain ⟨bx, br, ba, h⟩ := h
     rw [show chFound c y (awLoad 8 s) ⟨5, tk, fd, ml, o, p, ref, r, an, nu, s.M 8, s.n + 1, ka, kn⟩ = (awItem { y with dies := epDies (s.M 8) c.exp } (awLoad 8 s), ⟨11, tk, fd, ml, o, p, s.it.length + 1, r, an, nu, s.M 8, s.n + 1, 7, 0⟩) by unfold chFound; rw [if_neg (by rw [hal]; decide), if_neg (by omega), if_pos hv]; rfl]
     exact ChQ.fin (z := ⟨11, tk, fd, ml, o, p, s.it.length + 1, r, an, nu, s.M 8, s.n + 1, 7, 0⟩) h fun G2 _ q => ⟨rfl, bx, br, ba, rfl, rfl, q⟩
   · refine c_ChFound 126 (run_enter Tryz.func126 (by kernel_rfl) (by kernel_rfl)) (by rw [hv]; rfl) m2.1 hy hil hep hp hk hD fun hal W2 m3 e3 => ?_
     have HC := Lib.hid (hcnt 39 (run_enter Tryz.func39 (by kernel_rfl) (by kernel_rfl)) (by omega) (fun n h0 h1 W => by rw [hv]; exact c_nuIncr n c.by_ W h0 h1 hby.1 hby.2) hal W2 m3 e3)
     clear hcnt hD m3 e3 m1 m2 V2 e1 HL M hvl hX ho hP hhi
     go_enter Tryz.func126, Tryz.ntmps126
     go_wp2_with fail
     refine HC.out.mono ?_
     rintro e w' ⟨rfl, h⟩
     have HR := Lib.hid h
     clear h
     go_wp2_with fail
     go_end0
     exact ⟨rfl, HR.out⟩
   · refine c_ChFound 128 (run_enter Tryz.func128 (by kernel_rfl) (by kernel_rfl)) (by rw [hv]; rfl) m2.1 hy hil hep hp hk hD fun hal W2 m3 e3 => ?_
     have HC := Lib.hid (hcnt 40 (run_enter Tryz.func40 (by kernel_rfl) (by kernel_rfl)) (by omega) (fun n h0 h1 W => by rw [hv]; exact c_nuDecr n c.by_ W h0 h1 hby.1 hby.2) hal W2 m3 e3)
     clear hcnt hD m3 e3 m1 m2 V2 e1 HL M hvl hX ho hP hhi
     go_enter Tryz.func128, Tryz.ntmps128
     go_wp2_with fail
     refine HC.out.mono ?_
     rintro e w' ⟨rfl, h⟩
     have HR := Lib.hid h
     clear h
     go_wp2_with fail
     go_end0
     exact ⟨rfl, HR.out⟩
 | 6, hl, hpre, _ =>
   obtain ⟨hpp, U, bx, rfl, rfl, hU, hb⟩ := hl
   have hpp : p = pp := Eq.symm hpp
   subst hpp
   have hpre : (spB p && decide (o.ln < 3 ∧ 0 ≤ o.w ∧ o.w < 18446744073709551616)) = true := hpre
   try dsimp only at M ho
   try dsimp only at hU
   rw [Bool.and_eq_true, decide_eq_true_eq] at hpre
   obtain ⟨hpb, h3, w0, w1⟩ := hpre
   have HC := c_OutStep (k := k + 9) o hP hU (spB_ok hpb) h3 w0 w1 (by omega) hhi n0 n1
   have hln := outStep_ln p s o h3
   have hst : chStep t c (s, ⟨6, tk, fd, ml, o, p, ref, r, an, nu, ep, pt, ka, kn⟩) = ((outStep p s o).1, ⟨if (outStep p s o).2.ln = 3 then 7 else 6, tk, fd, ml, (outStep p s o).2, p, ref, r, an, nu, ep, pt, ka, kn⟩) := rfl
   rw [hst]
   clear hst
   by_cases h2 : o.ln = 2
   · rw [show (o.ln == 2) = true by simp [h2]] at HC
     rw [if_pos (by omega)]
     refine c_ChStepYes (bd := #[]) (caps := #[.pointer (some ⟨bx, 0, none⟩)]) q7 (m_OuStep _) (run_enter Tryz.func344 (by kernel_rfl) (by kernel_rfl)) (run_enter Tryz.func187 (by kernel_rfl) (by kernel_rfl)) (HC.mono fun _ _ h => RP.swap h) (fun W h => ?_) fun W h => h.idle
     obtain ⟨G, e1, p1, k1⟩ := h
     have m1 := Me.op ho e1 p1 (by omega) hk (by omega)
     have m2 := m1.chNil hk
     exact ⟨m1.chThen, (c_ChDel1 _ m2.1 ((hb.ext e1).ext m2.2) hk).mono fun e w' h => ChQ.fin (z := ⟨7, tk, fd, ml, (outStep p s o).2, p, ref, r, an, nu, ep, pt, ka, kn⟩) h fun G2 _ q => ⟨rfl, bx, rfl, rfl, q⟩⟩
   · rw [show (o.ln == 2) = false by simp [h2]] at HC
     rw [if_neg (by omega)]
     refine c_ChStepNo q7 (m_OuStep _) (run_enter Tryz.func344 (by kernel_rfl) (by kernel_rfl)) (HC.mono fun e w1 h1 => ?_) fun W h => h.idle
     obtain ⟨he, G, e1, p1, k1⟩ := RP.swap h1
     exact ⟨he, ChR.mk (z := ⟨6, tk, fd, ml, (outStep p s o).2, p, ref, r, an, nu, ep, pt, ka, kn⟩) (Me.op ho e1 p1 (by omega) hk (by omega)) ⟨rfl, U, bx, rfl, rfl, k1, hb.ext e1⟩⟩
 | 7, hl, hpre, _ =>
   obtain ⟨hpp, bx, rfl, rfl, hb⟩ := hl
   have hpp : p = pp := Eq.symm hpp
   subst hpp
   try dsimp only at M ho
   have hp := spB_ok hpre
   refine c_ChStepYes (bd := #[]) (caps := #[.pointer (some ⟨bx, 0, none⟩)]) q7 (m_AcStep _ _ _) (run_enter Tryz.func458 (by kernel_rfl) (by kernel_rfl)) (run_enter Tryz.func189 (by kernel_rfl) (by kernel_rfl)) (c_AcStep (bd := #[]) (caps := #[]) (run_enter Tryz.func188 (by kernel_rfl) (by kernel_rfl)) ((c_ChDel11 hP hhi n0 n1).mono fun _ _ h => RP.swap h)) (fun W h => ?_) fun W h => ChR.idle (y := (awAdd 6 18446744073709551615 s, ⟨8, tk, fd, stVer p, o, p, ref, r, 6, nu, ep, pt, ka, kn⟩)) h
   obtain ⟨G, e1, p1⟩ := h
   have m1 := M.world hk e1 p1
   have m2 := m1.chNil hk
   refine ⟨m1.chThen, (c_ChDel12 _ m2.1 ((hb.ext e1).ext m2.2) hp hk).mono fun e w' h => ?_⟩
   obtain ⟨Mk, bx', bk, h⟩ := h
   exact ChQ.fin (z := ⟨8, tk, fd, stVer p, o, p, ref, r, 6, nu, ep, pt, ka, kn⟩) h fun G2 _ q => ⟨rfl, Mk, bx', bk, rfl, rfl, q⟩
 | 8, hl, hpre, _ =>
   obtain ⟨hpp, Mk, bx, bk, rfl, rfl, hM, hb, hbk⟩ := hl
   have hpp : p = pp := Eq.symm hpp
   subst hpp
   try dsimp only at M
   try dsimp only at ho
   try dsimp only at hbk
   obtain ⟨a, l, rfl, a0, a1, hl5⟩ := mlB_ok hpre
   have HC := c_MkStep a l (k + 6) hP hM hl5 (by omega) hhi a0 a1 n0 n1
   cases l with
   | nil =>
     refine c_ChStepYes (bd := #[]) (caps := #[.pointer (some ⟨bx, 0, none⟩), .pointer (some ⟨bk, 0, none⟩)]) q7 (m_MkStep _) (run_enter Tryz.func341 (by kernel_rfl) (by kernel_rfl)) (run_enter Tryz.func244 (by kernel_rfl) (by kernel_rfl)) (HC.mono fun _ _ h => RP.swap h) (fun W h => ?_) fun W h => ChR.idle (y := (awAdd a 1 s, ⟨9, tk, fd, [], o, p, ref, r, an, nu, ep, pt, ka, kn⟩)) h
     obtain ⟨G, e1, p1, k1⟩ := h
     have m1 := Me.op ho e1 p1 (by omega) hk (by omega)
     have m2 := m1.chNil hk
     refine ⟨m1.chThen, (c_ChMarks1 _ m2.1 ((hb.ext e1).ext m2.2) ((hbk.ext e1).ext m2.2) hk).mono fun e w' h => ?_⟩
     obtain ⟨V, h⟩ := h
     exact ChQ.fin (z := ⟨9, tk, fd, [], o, p, ref, r, an, nu, ep, pt, ka, kn⟩) h fun G2 _ q => ⟨V, rfl, rfl, q⟩
   | cons b l =>
     refine c_ChStepNo q7 (m_MkStep _) (run_enter Tryz.func341 (by kernel_rfl) (by kernel_rfl)) (HC.mono fun e w1 h1 => ?_) fun W h => ChR.idle (y := (awAdd a 1 s, ⟨8, tk, fd, b :: l, o, p, ref, r, an, nu, ep, pt, ka, kn⟩)) h
     obtain ⟨he, G, e1, p1, k1⟩ := RP.swap h1
     exact ⟨he, ChR.mk (z := ⟨8, tk, fd, b :: l, o, p, ref, r, an, nu, ep, pt, ka, kn⟩) (Me.op ho e1 p1 (by omega) hk (by omega)) ⟨rfl, Mk, bx, bk, rfl, rfl, k1, hb.ext e1, hbk.ext e1⟩⟩
 | 9, hl, hpre, _ =>
   obtain ⟨V, rfl, rfl, hG⟩ := hl
   have HC := c_GiveStep w O B f s (k + 8) V hP hG (by omega) hhi n0 n1
   refine c_ChStepYes (bd := #[]) (caps := #[]) q7 (m_GvStep _) (run_enter Tryz.func104 (by kernel_rfl) (by kernel_rfl)) (run_enter Tryz.func195 (by kernel_rfl) (by kernel_rfl)) (HC.mono fun _ _ h => RP.swap h) (fun W h => ?_) fun W h => ChR.idle (y := (awGive s, ⟨0, tk, fd, ml, o, p, ref, r, an, nu, ep, pt, ka, kn⟩)) h
   obtain ⟨G, e1, p1, -⟩ := h
   have m1 := Me.op ho e1 p1 (by omega) hk (by omega)
   have m2 := m1.chNil hk
   refine ⟨m1.chThen, (c_ChGives1 _ _).mono fun e w' h => ⟨h.1, ?_⟩⟩
   rw [← h.2]
   exact ChR.mk (z := ⟨0, tk, fd, ml, o, p, ref, r, an, nu, ep, pt, ka, kn⟩) m2.1 rfl
 | 10, hl, hpre, _ =>
   obtain ⟨bx, rfl, rfl, hb⟩ := hl
   have HL := c_ChLoad M hk n0 n1
   refine c_ChStepYes (bd := #[]) (caps := #[.pointer (some ⟨bx, 0, none⟩)]) q7 (m_AcStep _ _ _) (run_enter Tryz.func458 (by kernel_rfl) (by kernel_rfl)) (run_enter Tryz.func133 (by kernel_rfl) (by kernel_rfl)) (c_AcStep (bd := #[.pointer (some ⟨X, 0, none⟩)]) (caps := #[]) (run_enter Tryz.func132 (by kernel_rfl) (by kernel_rfl)) (HL.mono fun e w' h => ⟨h.1, h.2⟩)) (fun W h => ?_) fun W h => ChR.idle (y := (awLoad 8 s, ⟨9, tk, fd, ml, o, p, ref, r, 4, nu, s.M 8, s.n + 1, ka, kn⟩)) h
   obtain ⟨G, m1, e1, -⟩ := h
   have m2 := m1.chNil hk
   refine ⟨m1.chThen, (c_ChSeek11 _ m2.1 ((hb.ext e1).ext m2.2) hk).mono fun e w' h => ?_⟩
   obtain ⟨V, h⟩ := h
   exact ChQ.fin (z := ⟨9, tk, fd, ml, o, p, ref, r, 4, nu, s.M 8, s.n + 1, ka, kn⟩) h fun G2 _ q => ⟨V, rfl, rfl, q⟩
 | 11, hl, hpre, _ =>
   obtain ⟨hpp, bx, br, ba, rfl, rfl, hb, hr, ha⟩ := hl
   have hpp : p = pp := Eq.symm hpp
   subst hpp
   have hpre : (spB p && decide (0 ≤ ref ∧ ref ≤ 9223372036854775807)) = true := hpre
   try dsimp only at M
   try dsimp only at ho
   try dsimp only at hr
   try dsimp only at ha
   rw [Bool.and_eq_true, decide_eq_true_eq] at hpre
   obtain ⟨hpb, r0, r1⟩ := hpre
   have hp := spB_ok hpb
   have HC := c_ChSt1 M hp hb hr r0 r1 hk n0 n1
   refine c_ChStepYes (bd := #[]) (caps := #[.pointer (some ⟨ba, 0, none⟩), .pointer (some ⟨bx, 0, none⟩)]) q7 (m_AcStep _ _ _) (run_enter Tryz.func458 (by kernel_rfl) (by kernel_rfl)) (run_enter Tryz.func246 (by kernel_rfl) (by kernel_rfl)) (c_AcStep (bd := #[]) (caps := #[.pointer (some ⟨bx, 0, none⟩), .pointer (some ⟨br, 0, none⟩)]) (run_enter Tryz.func245 (by kernel_rfl) (by kernel_rfl)) (HC.mono fun _ _ h => RP.swap h)) (fun W h => ?_) fun W h => ChR.idle (y := (awStore p.item ref s, ⟨8, tk, fd, stVer p, o, p, ref, r, ka, kn, ep, pt, ka, kn⟩)) h
   obtain ⟨G, e1, p1⟩ := h
   have m1 := M.world hk e1 p1
   have m2 := m1.chNil hk
   refine ⟨m1.chThen, (c_ChSt2 _ m2.1 ((hb.ext e1).ext m2.2) ((ha.ext e1).ext m2.2) hp hk).mono fun e w' h => ?_⟩
   obtain ⟨Mk, bx', bk, h⟩ := h
   exact ChQ.fin (z := ⟨8, tk, fd, stVer p, o, p, ref, r, ka, kn, ep, pt, ka, kn⟩) h fun G2 _ q => ⟨rfl, Mk, bx', bk, rfl, rfl, q⟩
 | 12, hl, hpre, _ =>
   obtain ⟨hpp, hka, bx, bi, bn, rfl, rfl, hb, hi, hn⟩ := hl
   have hpp : p = pp := Eq.symm hpp
   subst hpp
   have hka : ka = 8 := hka
   subst hka
   try dsimp only at M
   try dsimp only at ho
   try dsimp only at hi
   try dsimp only at hn
   have HC := c_ChCnt1 (k := k) hP hi hk hhi n0 n1
   refine c_ChStepYes (bd := #[]) (caps := #[.pointer (some ⟨bx, 0, none⟩), .pointer (some ⟨bi, 0, none⟩), .pointer (some ⟨bn, 0, none⟩)]) q7 (m_AcStep _ _ _) (run_enter Tryz.func458 (by kernel_rfl) (by kernel_rfl)) (run_enter Tryz.func193 (by kernel_rfl) (by kernel_rfl)) (c_AcStep (bd := #[]) (caps := #[.pointer (some ⟨bi, 0, none⟩)]) (run_enter Tryz.func192 (by kernel_rfl) (by kernel_rfl)) (HC.mono fun _ _ h => RP.swap h)) (fun W h => ?_) fun W h => ChR.idle (y := (awItem { r with id := (s.M 7 + 1) % 18446744073709551616 } (awAdd 7 1 s), ⟨11, tk, fd, ml, o, p, s.it.length + 1, r, an, nu, ep, pt, 8, kn⟩)) h
   obtain ⟨G, e1, p1, i1⟩ := h
   have m1 := Me.op ho e1 p1 (by omega) hk (by omega)
   have m2 := m1.chNil hk
   refine ⟨m1.chThen, (c_ChCnt2 m2.1 ((hb.ext e1).ext m2.2) (i1.ext m2.2 (by omega)) ((hn.ext e1 (by unfold SX; omega)).ext m2.2 (by omega)) hil hk).mono fun e w' h => ?_⟩
   obtain ⟨bx', br, ba, h⟩ := h
   exact ChQ.fin (z := ⟨11, tk, fd, ml, o, p, s.it.length + 1, r, an, nu, ep, pt, 8, kn⟩) h fun G2 _ q => ⟨rfl, bx', br, ba, rfl, rfl, q⟩
 | n + 13, hl, _, _ => exact hl.elim
end
end Go.Proofs.YtifkfhnbkjkakaaGreatDoor
