/- Parts of the walk. -/
import Derived.Test.YthbodknlhkapdaaGreatT1
import Derived.Test.YthbodknlhkapdaaGreatDm
import Derived.Test.YthbodknlhkapdaaGreatBaJ
import Derived.Test.YthbodknlhkapdaaGreatBaK
namespace Go.Proofs.YthbodknlhkapdaaGreat
set_option linter.unusedVariables false
set_option linter.unusedSimpArgs false
set_option maxHeartbeats 4000000
set_option maxRecDepth 100000
section
open Go.RowKit Go.Shelf
section
variable {X R : Nat} {w : World} {O : Om} {B C : Wb} {f : Cf} {s : AW} {m k : Nat}
theorem Atg {z : Mvm} (hX : Ac2 w O k R z) (hl : z.ln = 0) :
 C2 34 R C.p w fun e w' => e = .returned (.tuple #[]) ∧ w = w' := by
 have x0 := hX.c0
 rw [hl] at x0
 clear hX hl
 go_enter Tryz.func34, Tryz.ntmps34
 go_wp2_with fail
 go_end0
 exact ⟨rfl, rfl⟩
theorem As6 {z : Mvm} (hz : Afr z) (h : RW w O C f s m) (hM : Ac2 w O k R z) (hlo0 : 0 ≤ z.lost) (hlo1 : z.lost ≤ 1000000) (hil : s.it.length ≤ 1000000) (hks : ∀ r, (Adz s.it r).key.size ≤ maxLen) (hk : 10 ≤ k) (hm : m ≤ 900000) (hhi : Hh O w) (n0 : 0 ≤ s.n) (n1 : s.n ≤ 4611686018427387904) :
 C2 34 R C.p w (Ad4 (Aae f.y (s, z)) k R C f m w O) := by
 by_cases hl : z.ln = 0
 · rw [Aov _ s z hl]
   refine (Atg hM hl).mono ?_
   rintro e w' ⟨rfl, rfl⟩
   exact ⟨rfl, O, Ext.refl hhi, h.up (by omega), hM⟩
 exact Avt hz h hM hl hlo0 hlo1 hil hks hk hm hhi n0 n1
end
theorem Ax0 {it : List It} (h : ∀ x ∈ it, x.key.size ≤ 400) (r : Int) : (Adz it r).key.size ≤ maxLen := by
 have hz : (0 : Nat) ≤ maxLen := Nat.zero_le _
 have h4 : (400 : Nat) ≤ maxLen := by unfold maxLen; decide
 unfold Adz
 split
 · cases hg : it[(r - 1).toNat]? with
   | none => exact hz
   | some x => exact Nat.le_trans (h x (List.mem_of_getElem? hg)) h4
 exact hz
theorem Ap9 (t : Int) : Ab1 (Aav t) 0 = Aav t := by
 unfold Ab1 Aav
 split <;> omega
section
variable {w : World} {O : Om} {C : Wb} {f : Cf} {s : AW} {m k : Nat}
theorem Aqu (t : Int) (hhi : Hh O w) (t0 : 0 ≤ t) (t1 : t < 18446744073709551616) (hn : Aav t ≠ 0) :
 Calls Tryz.prog 32 #[.int .u64 t] w fun e w' => ∃ Z, RP (fun u => u = k + 19) w O (.pointer (some ⟨Z, 0, none⟩)) (fun W G => Ob W G (k + 19) Z [.int .i64 1, .int .i64 (Aav t)]) e w' := by
 have hA := Aqp t w t0 t1
 obtain ⟨o, ho⟩ := exq (Aaz t)
 obtain ⟨n, hno⟩ := exq (Aav t)
 rw [← ho, ← hno] at hA
 rw [← hno] at hn ⊢
 have dn : (n == 0) = false := by simp [hn]
 obtain ⟨O1, e1, l1, -⟩ := Aar hhi (k + 19) #[.int .i64 1, .int .i64 n] 159 w.heap.size rfl
 have HE := hQd (aN e1 l1)
 clear ho hno hhi hn e1 l1
 go_enter Tryz.func32, Tryz.ntmps32
 go_wp2_with fail
 refine hA.mono ?_
 rintro e w' ⟨rfl, rfl⟩
 go_wp2_with fail
 go_ret
 exact ⟨w.heap.size, rfl, O1, HE.out.1, HE.out.2⟩
theorem Atn {Z : Nat} {n : Int} (h : RW w O C f s m) (hZ : Ob w O (k + 19) Z [.int .i64 1, .int .i64 n]) (hk : 10 ≤ k) (hm : m ≤ 900000) (hhi : Hh O w) (d0 : 0 ≤ n) (d1 : n < 256) (n0 : 0 ≤ s.n) (n1 : s.n ≤ 4611686018427387904) :
 C2 33 Z C.p w (RP (SD (k + 19) (k + 19)) w O (.tuple #[]) fun W G => RW W G C f (Abr 5 0 0 0 0 n (Aax 2 n s)) (m + 1)) := by
 obtain ⟨x0, x1⟩ := hZ.c2
 have hw1 : IntKind.u64.wrap n = n := by rw [IntKind.wrap_u64]; omega
 have HS := hQd (Adg 2 n h (by omega) (by decide) (by decide) d0 (by omega) hhi n0 n1)
 have HX := hQd hZ
 clear h hZ hhi
 go_enter Tryz.func33, Tryz.ntmps33
 go_wp2_with fail
 refine HS.out.mono ?_
 rintro e w1 ⟨rfl, G1, e1, P1⟩
 have X1 := HX.out.ext e1 (by unfold SR; omega)
 have H1 := hQd (aN (e1.mono (T := SD (k + 19) (k + 19)) fun t _ h => .inl h) (aN P1 X1))
 have y1 := X1.c 1 _ rfl
 have HN := hQd (Aho 5 0 0 0 0 n P1 e1.hi (by decide) (by decide))
 clear e1 P1 X1 HS HX x0 x1
 go_wp2_with fail
 refine HN.out.mono ?_
 rintro e w2 ⟨rfl, G2, e2, P2⟩
 have X2 := H1.out.2.2.ext e2 (by unfold SR; omega)
 have H2 := hQd (aN (H1.out.1.trans (e2.mono (T := SD (k + 19) (k + 19)) fun t _ h => .inl h)) (aN P2 X2))
 have z0 := X2.c 0 _ rfl
 have f0 := X2.f 0
 obtain ⟨e3, -⟩ := Aal X2 (by omega) e2.hi 0 (.int .i64 0) (by simp)
 have H3 := hQd (aN (e3.mono (T := SD (k + 19) (k + 19)) fun t _ h => .inr (by omega)) (P2.ext e3))
 clear e2 P2 X2 HN H1 y1 e3
 go_wp2_with fail
 go_end0
 exact ⟨rfl, G2, H2.out.1.trans H3.out.1, H3.out.2⟩
structure Alb (W : World) (G : Om) (k R : Nat) (z : Tum) : Prop where
 ex : ∃ mv : Option Addr, Ob W G (k + 18) R [.int .i64 z.ln, .int .i64 z.n, .int .u64 z.t, .int .u64 z.c, .pointer mv] ∧ (z.ln = 4 → ∃ Y, mv = some ⟨Y, 0, none⟩ ∧ Ac2 W G k Y z.mv)
theorem Alb.ext {S : Nat → Prop} {O O' : Om} {w w' : World} {k R : Nat} {z : Tum} (h : Alb w O k R z) (e : Ext S O w O' w') (hs : ∀ t, k ≤ t → t < k + 20 → ¬ S t) : Alb w' O' k R z := by
 obtain ⟨mv, h1, h2⟩ := h.ex
 refine ⟨mv, h1.ext e (hs _ (by omega) (by omega)), fun g => ?_⟩
 obtain ⟨Y, q1, q2⟩ := h2 g
 exact ⟨Y, q1, q2.ext e fun t a b => hs t a (by omega)⟩
theorem Alb.below {O : Om} {w w' : World} {k R : Nat} {z : Tum} (h : Alb w O k R z) (hhi : Hh O w) (hb : Below w.heap.size w w') : Alb w' O k R z := h.ext (S := fun _ => False) (Ext.of_below hhi hb) fun _ _ _ => id
def Ai4 (y : AW × Tum) (k R : Nat) (C : Wb) (f : Cf) (m : Nat) (w : World) (O : Om) (e : Ending) (w' : World) : Prop :=
 RP (SD k (k + 19)) w O (.tuple #[]) (fun W G => RW W G C f y.1 (m + 1) ∧ Alb W G k R y.2) e w'
theorem Aqt (hhi : Hh O w) : Calls Tryz.prog 8 #[] w fun e w' => ∃ R, RP (fun t => t = k + 18) w O (.pointer (some ⟨R, 0, none⟩)) (fun W G => Alb W G k R Ahb) e w' := by
 obtain ⟨O1, e1, x1, -⟩ := Aar hhi (k + 18) #[.int .i64 1, .int .i64 0, .int .u64 0, .int .u64 0, .pointer none] 54 w.heap.size rfl
 go_enter Tryz.func8, Tryz.ntmps8
 go_wp2
 go_ret
 exact ⟨w.heap.size, rfl, O1, e1, ⟨none, x1, fun h => absurd h (by decide)⟩⟩
theorem Bcu {R : Nat} {z : Tum} {p : Nat} (hR : Alb w O k R z) (hl : z.ln = 0) :
 C2 10 R p w fun e w' => e = .returned (.tuple #[]) ∧ w = w' := by
 obtain ⟨mv, hx, -⟩ := hR.ex
 have x0 := hx.c 0 _ rfl
 rw [hl] at x0
 clear hR hl hx
 go_enter Tryz.func10, Tryz.ntmps10
 go_wp2_with fail
 go_end0
 exact ⟨rfl, rfl⟩
theorem Bct {R : Nat} {z : Tum} (h : RW w O C f s m) (hR : Alb w O k R z) (hl : z.ln = 1) (hk : 10 ≤ k) (hm : m ≤ 900000) (hhi : Hh O w) (n0 : 0 ≤ s.n) (n1 : s.n ≤ 4611686018427387904) :
 C2 10 R C.p w (Ai4 (Aam f.q f.y (s, z)) k R C f m w O) := by
 obtain ⟨ln, t, c, n, q⟩ := z
 dsimp only at hl
 subst hl
 obtain ⟨mv, hx, -⟩ := hR.ex
 dsimp only at hx
 have x0 := hx.c 0 _ rfl
 have hbd := h.bd 2
 have HA := hQd (fun W => Aqp (s.M 2) W hbd.1 hbd.2)
 have HL := hQd (Ac1 2 h (by omega) (by decide) (by decide) hhi n0 n1)
 obtain ⟨v, hv⟩ := exq (s.M 2)
 obtain ⟨LN, hLN⟩ : ∃ LN : Int, LN = if Aav v = 0 then 0 else 2 := ⟨_, rfl⟩
 have hst : Hid (Aam f.q f.y (s, ⟨1, t, c, n, q⟩) = (Aan 2 s, ⟨LN, v, c, n, q⟩)) := hQd (by unfold Aam; rw [if_pos rfl, hLN, hv])
 rw [hst.out]
 have HLN := hQd hLN
 rw [← hv] at HA HL
 have HX := hQd hx
 clear h hR hx hhi hbd hv hst hLN
 go_enter Tryz.func10, Tryz.ntmps10
 go_wp2_with fail
 refine HL.out.mono ?_
 rintro e w1 ⟨rfl, G1, e1, P1⟩
 have X1 := HX.out.ext e1 (by unfold SR; omega)
 have y2 := X1.c 2 _ rfl
 have g2 := X1.f 2
 obtain ⟨e2, X2⟩ := Aal X1 (by omega) e1.hi 2 (.int .u64 v) (by simp)
 have P2 := P1.ext e2
 have H2 := hQd (aN ((e1.mono (T := SD k (k + 19)) fun t _ h => .inl h).trans (e2.mono fun t _ h => .inr (by omega))) (aN P2 X2))
 obtain ⟨w2, hw2⟩ := exq (w1.setCell ⟨R, 2, none⟩ (.int .u64 v))
 rw [← hw2] at H2
 clear e1 P1 X1 e2 X2 P2 HL HX x0
 go_wp2_with fail
 rw [← hw2]
 clear hw2 y2 g2
 obtain ⟨y0, -, y2⟩ := H2.out.2.2.c3
 have g0 := H2.out.2.2.f 0
 go_wp2_with fail
 refine (HA.out _).mono ?_
 rintro e w' ⟨rfl, rfl⟩
 obtain ⟨e3, X3⟩ := Aal H2.out.2.2 (by omega) H2.out.1.hi 0 (.int .i64 2) (by simp)
 have P3 := H2.out.2.1.ext e3
 obtain ⟨e4, X4⟩ := Aal X3 (by omega) e3.hi 0 (.int .i64 0) (by simp)
 have P4 := P3.ext e4
 have E3 := H2.out.1.trans (e3.mono (T := SD k (k + 19)) fun t _ h => .inr (by omega))
 have H3 := hQd (aN E3 (aN P3 X3))
 have H4 := hQd (aN (E3.trans (e4.mono (T := SD k (k + 19)) fun t _ h => .inr (by omega))) (aN P4 X4))
 clear e3 X3 P3 e4 X4 P4 E3
 by_cases hz : Aav v = 0
 · have dz : (Aav v == 0) = true := by simp [hz]
   have HZ := hQd hz
   clear hz
   go_wp2_with fail
   go_end0
   have h := HLN.out
   rw [if_pos HZ.out] at h
   subst h
   exact ⟨rfl, G1, H4.out.1, H4.out.2.1, ⟨mv, H4.out.2.2, fun h => absurd (show (0 : Int) = 4 from h) (by decide)⟩⟩
 have dz : (Aav v == 0) = false := by simp [hz]
 have HZ := hQd hz
 clear hz
 go_wp2_with fail
 go_end0
 have h := HLN.out
 rw [if_neg HZ.out] at h
 subst h
 exact ⟨rfl, G1, H3.out.1, H3.out.2.1, ⟨mv, H3.out.2.2, fun h => absurd (show (2 : Int) = 4 from h) (by decide)⟩⟩
theorem Bcs {R : Nat} {z : Tum} (h : RW w O C f s m) (hR : Alb w O k R z) (hl : z.ln = 2) (t0 : 0 ≤ z.t) (t1 : z.t < 18446744073709551616) (hk : 10 ≤ k) (hm : m ≤ 900000) (hhi : Hh O w) (n0 : 0 ≤ s.n) (n1 : s.n ≤ 4611686018427387904) :
 C2 10 R C.p w (Ai4 (Aam f.q f.y (s, z)) k R C f m w O) := by
 obtain ⟨ln, t, c, n, q⟩ := z
 dsimp only at hl t0 t1
 subst hl
 obtain ⟨mv, hx, -⟩ := hR.ex
 dsimp only at hx
 have x0 := hx.c 0 _ rfl
 have hbd := h.bd 3
 obtain ⟨o, ho⟩ := exq (Aaz t)
 have hob : -9223372036854775808 ≤ o ∧ o ≤ 9223372036854775807 := by rw [ho]; unfold Aaz; split <;> omega
 obtain ⟨sz, hsz⟩ := exq (Aac o)
 have hszb : 0 ≤ sz ∧ sz ≤ 4096 := by rw [hsz]; exact Aah o
 have HA := hQd (fun W => Aqp t W t0 t1)
 rw [← ho] at HA
 have HSZ := hQd (fun W => Ab6 o W hob.1 hob.2)
 rw [← hsz] at HSZ
 have HL := hQd (Ac1 3 h (by omega) (by decide) (by decide) hhi n0 n1)
 obtain ⟨v, hv⟩ := exq (s.M 3)
 obtain ⟨LN, hLN⟩ : ∃ LN : Int, LN = if sz ≤ v then 3 else 4 := ⟨_, rfl⟩
 have hst : Hid (Aam f.q f.y (s, ⟨2, t, c, n, q⟩) = (Aan 3 s, ⟨LN, t, v, n, Af1 t v⟩)) := hQd (by unfold Aam; rw [if_neg (show ¬ ((2 : Int) = 1) by decide), if_pos rfl, hLN, hsz, ho, hv])
 rw [hst.out]
 have HLN := hQd hLN
 rw [← hv] at HL hbd
 have HBD := hQd (aN hbd (aN t0 t1))
 have HX := hQd hx
 have hw1 : IntKind.u64.wrap sz = sz := by rw [IntKind.wrap_u64]; omega
 obtain ⟨nw, hnw⟩ := exq (Aav t)
 rw [← hnw] at HA
 clear h hR hx hhi hbd hv hst ho hob hsz hnw t0 t1 hLN
 go_enter Tryz.func10, Tryz.ntmps10
 go_wp2_with fail
 refine HL.out.mono ?_
 rintro e w1 ⟨rfl, G1, e1, P1⟩
 have X1 := HX.out.ext e1 (by unfold SR; omega)
 obtain ⟨y0, -, y2, y3⟩ := X1.c4
 have g3 := X1.f 3
 obtain ⟨e2, X2⟩ := Aal X1 (by omega) e1.hi 3 (.int .u64 v) (by simp)
 have P2 := P1.ext e2
 have H2 := hQd (aN ((e1.mono (T := SD k (k + 19)) fun t _ h => .inl h).trans (e2.mono fun t _ h => .inr (by omega))) (aN P2 X2))
 obtain ⟨w2, hw2⟩ := exq (w1.setCell ⟨R, 3, none⟩ (.int .u64 v))
 rw [← hw2] at H2
 clear e1 P1 X1 e2 X2 P2 HL HX x0
 go_upto_region 9 with fail
 rw [← hw2]
 clear hw2 y0 y2 y3 g3
 obtain ⟨y0, -, y2, y3⟩ := H2.out.2.2.c4
 have g0 := H2.out.2.2.f 0
 go_wp2_with fail
 refine (HA.out _).mono ?_
 rintro e w' ⟨rfl, rfl⟩
 obtain ⟨e3, X3⟩ := Aal H2.out.2.2 (by omega) H2.out.1.hi 0 (.int .i64 3) (by simp)
 have P3 := H2.out.2.1.ext e3
 have H3 := hQd (aN (H2.out.1.trans (e3.mono (T := SD k (k + 19)) fun t _ h => .inr (by omega))) (aN P3 X3))
 obtain ⟨w3, hw3⟩ := exq (w2.setCell ⟨R, 0, none⟩ (.int .i64 3))
 rw [← hw3] at H3
 clear e3 X3 P3 H2
 obtain ⟨y0, -, y2, y3, y4⟩ := H3.out.2.2.c5
 have g0 := H3.out.2.2.f 0
 have hRl := H3.out.2.2.lt
 have hbq : ∀ n, Below w3.heap.size w3 (w3.drewN n) := fun n => ⟨rfl, rfl, rfl, Nat.le_refl _, fun _ _ => rfl⟩
 have HBQ := hQd hbq
 clear hbq
 by_cases hz : v < sz
 · have dz : decide (v < sz) = true := decide_eq_true hz
   have HZ := hQd hz
   have hi64 : IntKind.i64.wrap v = v := by have hb := HBD.out.1; simp [IntKind.wrap, IntKind.bits, IntKind.signed]; omega
   clear hz
   go_upto_region 11 with fail
   rw [← hw3]
   clear hw3
   go_quiet ((go_at_call 30; exact Ack (HSZ.out _)))
   obtain ⟨w4, hw4⟩ := exq (w3.drewN nq)
   have H4 : Hid (Ext (SD k (k + 19)) O w G1 w4 ∧ RW w4 G1 C f (Aan 3 s) (m + 1) ∧ Ob w4 G1 (k + 18) R [.int .i64 3, .int .i64 n, .int .u64 t, .int .u64 v, .pointer mv]) := hQd (by rw [hw4]; exact ⟨H3.out.1.below (HBQ.out _), H3.out.2.1.below H3.out.1.hi (HBQ.out _), H3.out.2.2.below (HBQ.out _)⟩)
   rw [← hw4]
   clear hw4 y0 y2 y3 y4 g0 H3 hRl
   obtain ⟨e5, X5⟩ := Aal H4.out.2.2 (by omega) H4.out.1.hi 0 (.int .i64 4) (by simp)
   have H5 := hQd (aN (H4.out.1.trans (e5.mono (T := SD k (k + 19)) fun t _ h => .inr (by omega))) (aN (H4.out.2.1.ext e5) X5))
   have y0 := H4.out.2.2.c 0 _ rfl
   have g0 := H4.out.2.2.f 0
   obtain ⟨w5, hw5⟩ := exq (w4.setCell ⟨R, 0, none⟩ (.int .i64 4))
   rw [← hw5] at H5
   clear e5 X5
   go_upto_region 13 with fail
   rw [← hw5]
   clear hw5 y0 g0 H4
   obtain ⟨-, -, z2, z3⟩ := H5.out.2.2.c4
   have hRl := H5.out.2.2.lt
   go_region_held3 (fun w' => w'.cell? ⟨R, 2, none⟩ = some (.int .u64 t) ∧ w'.cell? ⟨R, 3, none⟩ = some (.int .u64 v)) (go_keep)
    ((go_at_call 31
      refine (Ayz (k := k) (w := w5.drew) t v HBD.out.2.1 HBD.out.2.2 (by have := HBD.out.1; omega) (by have := HZ.out; omega) hk (H5.out.1.below (Aaa w5)).hi).mono ?_
      rintro e w6 ⟨Y, rfl, G6, e6, d6⟩
      have X6 := (H5.out.2.2.below (Aaa w5)).ext e6
      have P6 := (H5.out.2.1.below H5.out.1.hi (Aaa w5)).ext e6
      obtain ⟨e7, X7⟩ := Aal X6 (by omega) e6.hi 4 (.pointer (some ⟨Y, 0, none⟩)) (by simp)
      have H7 := hQd (aN (((H5.out.1.below (Aaa w5)).trans (e6.mono (T := SD k (k + 19)) fun t _ h => .inr (by omega))).trans (e7.mono (T := SD k (k + 19)) fun t _ h => .inr (by omega))) (aN (P6.ext e7) (aN X7 (d6.ext e7 fun t h1 h2 => by omega))))
      have r4 := X6.c 4 _ rfl
      have f4 := X6.f 4
      obtain ⟨-, -, r2, r3⟩ := X6.c4
      obtain ⟨-, -, q2, q3⟩ := X7.c4
      clear e6 d6 X6 P6 e7 X7))
   all_goals
    go_wp2_with fail
    go_end0
    have h := HLN.out
    rw [if_neg (by have := HZ.out; omega)] at h
    subst h
    exact ⟨rfl, G6, H7.out.1, H7.out.2.1, ⟨_, H7.out.2.2.1, fun _ => ⟨Y, rfl, H7.out.2.2.2⟩⟩⟩
 have dz : decide (v < sz) = false := decide_eq_false hz
 have HZ := hQd hz
 clear hz
 go_upto_region 11 with fail
 rw [← hw3]
 clear hw3
 go_quiet ((go_at_call 30; exact Ack (HSZ.out _)))
 go_wp2_with fail
 go_end0
 have h := HLN.out
 rw [if_pos (by have := HZ.out; omega)] at h
 subst h
 exact ⟨rfl, G1, H3.out.1.below (HBQ.out _), H3.out.2.1.below H3.out.1.hi (HBQ.out _), ⟨mv, H3.out.2.2.below (HBQ.out _), fun h => absurd (show (3 : Int) = 4 from h) (by decide)⟩⟩
theorem Bcr {R : Nat} {z : Tum} (h : RW w O C f s m) (hR : Alb w O k R z) (hl : z.ln = 3) (t0 : 0 ≤ z.t) (t1 : z.t < 18446744073709551616) (hn : Aav z.t ≠ 0) (hk : 10 ≤ k) (hm : m ≤ 900000) (hhi : Hh O w) (n0 : 0 ≤ s.n) (n1 : s.n ≤ 4611686018427387904) :
 C2 10 R C.p w (Ai4 (Aam f.q f.y (s, z)) k R C f m w O) := by
 obtain ⟨ln, t, c, n, q⟩ := z
 dsimp only at hl t0 t1 hn
 subst hl
 obtain ⟨mv, hx, -⟩ := hR.ex
 dsimp only at hx
 obtain ⟨x0, -, x2⟩ := hx.c3
 have hnb : 0 ≤ Aav t ∧ Aav t < 256 := by unfold Aav; split <;> omega
 have HS := hQd (Aqu (k := k) t hhi t0 t1 hn)
 have hst : Hid (Aam f.q f.y (s, ⟨3, t, c, n, q⟩) = (Abr 5 0 0 0 0 (Aav t) (Aax 2 (Aav t) s), ⟨0, t, c, n, q⟩)) := hQd (by unfold Aam; rw [if_neg (show ¬ ((3 : Int) = 1) by decide), if_neg (show ¬ ((3 : Int) = 2) by decide), if_neg (show ¬ ((3 : Int) = 4) by decide), if_neg (show ¬ ((3 : Int) = 5) by decide), if_pos rfl]; dsimp only; rw [Ap9])
 rw [hst.out]
 have HX := hQd (aN h hx)
 have HN := hQd (aN n0 (aN n1 hnb))
 obtain ⟨nw, hnw⟩ := exq (Aav t)
 rw [← hnw] at HS HN ⊢
 clear h hR hx hhi hst n0 n1 hnb t0 t1 hn hnw
 go_enter Tryz.func10, Tryz.ntmps10
 go_wp2_with fail
 refine HS.out.mono ?_
 rintro e w1 ⟨Z, rfl, G1, e1, z1⟩
 have P1 := HX.out.1.ext e1
 have X1 := HX.out.2.ext e1
 have HT := hQd (Atn P1 z1 hk hm e1.hi HN.out.2.2.1 HN.out.2.2.2 HN.out.1 HN.out.2.1)
 have H1 := hQd (aN (e1.mono (T := SD k (k + 19)) fun t _ h => .inr (by omega)) X1)
 clear e1 z1 P1 X1 HS HX x0 x2
 go_wp2_with fail
 refine HT.out.mono ?_
 rintro e w2 ⟨rfl, G2, e2, P2⟩
 have X2 := H1.out.2.ext e2 (by unfold SD SR; omega)
 have x0 := X2.c 0 _ rfl
 have f0 := X2.f 0
 obtain ⟨e3, X3⟩ := Aal X2 (by omega) e2.hi 0 (.int .i64 0) (by simp)
 have H3 := hQd (aN ((H1.out.1.trans (e2.mono (T := SD k (k + 19)) fun t _ h => SD.mono (by omega) (by omega) h)).trans (e3.mono (T := SD k (k + 19)) fun t _ h => .inr (by omega))) (aN (P2.ext e3) X3))
 clear e2 P2 X2 e3 X3 HT H1
 go_wp2_with fail
 go_end0
 exact ⟨rfl, G2, H3.out.1, H3.out.2.1, ⟨mv, H3.out.2.2, fun h => absurd (show (0 : Int) = 4 from h) (by decide)⟩⟩
theorem Bcq {R : Nat} {z : Tum} (h : RW w O C f s m) (hR : Alb w O k R z) (hl : z.ln = 4) (hz : Afr z.mv) (hlo0 : 0 ≤ z.mv.lost) (hlo1 : z.mv.lost ≤ 1000000) (hil : s.it.length ≤ 1000000) (hks : ∀ r, (Adz s.it r).key.size ≤ maxLen) (hk : 10 ≤ k) (hm : m ≤ 900000) (hhi : Hh O w) (n0 : 0 ≤ s.n) (n1 : s.n ≤ 4611686018427387904) :
 C2 10 R C.p w (Ai4 (Aam f.q f.y (s, z)) k R C f m w O) := by
 obtain ⟨ln, t, c, n, q⟩ := z
 dsimp only at hl hz hlo0 hlo1
 subst hl
 obtain ⟨mv, hx, hmv⟩ := hR.ex
 obtain ⟨Y, rfl, hY⟩ := hmv rfl
 dsimp only at hx hY
 obtain ⟨x0, -, -, -, x4⟩ := hx.c5
 have HS := hQd (As6 hz h hY hlo0 hlo1 hil hks hk hm hhi n0 n1)
 obtain ⟨r, hr⟩ := exq (Aae f.y (s, q))
 rw [← hr] at HS
 obtain ⟨LN, hLN⟩ : ∃ LN : Int, LN = if Abg r.2 = true then 5 else 4 := ⟨_, rfl⟩
 have hst : Hid (Aam f.q f.y (s, ⟨4, t, c, n, q⟩) = (r.1, ⟨LN, t, c, n, r.2⟩)) := hQd (by unfold Aam; rw [if_neg (show ¬ ((4 : Int) = 1) by decide), if_neg (show ¬ ((4 : Int) = 2) by decide), if_pos rfl, hLN, hr])
 rw [hst.out]
 have HX := hQd hx
 have HL := hQd hLN
 clear h hR hx hmv hY hhi hst hr hLN hz
 go_enter Tryz.func10, Tryz.ntmps10
 go_wp2_with fail
 refine HS.out.mono ?_
 rintro e w1 ⟨rfl, G1, e1, P1, Y1⟩
 have X1 := HX.out.ext e1 (by unfold SD SR; omega)
 have x4 := X1.c 4 _ rfl
 have x0 := X1.c 0 _ rfl
 have f0 := X1.f 0
 have y0 := Y1.c0
 obtain ⟨e2, X2⟩ := Aal X1 (by omega) e1.hi 0 (.int .i64 5) (by simp)
 have E1 := e1.mono (T := SD k (k + 19)) fun t _ h => SD.mono (Nat.le_refl _) (by omega) h
 have H1 := hQd (aN E1 (aN P1 (aN X1 Y1)))
 have H2 := hQd (aN (E1.trans (e2.mono (T := SD k (k + 19)) fun t _ h => .inr (by omega))) (aN (P1.ext e2) X2))
 clear e1 P1 X1 Y1 e2 X2 E1 HS HX
 by_cases hz : r.2.ln = 0
 · have dz : (r.2.ln == 0) = true := by simp [hz]
   have h := HL.out
   rw [if_pos (by unfold Abg; exact dz)] at h
   subst h
   clear hz
   go_wp2_with fail
   go_end0
   exact ⟨rfl, G1, H2.out.1, H2.out.2.1, ⟨_, H2.out.2.2, fun h => absurd (show (5 : Int) = 4 from h) (by decide)⟩⟩
 have dz : (r.2.ln == 0) = false := by simp [hz]
 have h := HL.out
 rw [if_neg (by unfold Abg; rw [dz]; decide)] at h
 subst h
 clear hz
 go_wp2_with fail
 go_end0
 exact ⟨rfl, G1, H1.out.1, H1.out.2.1, ⟨_, H1.out.2.2.1, fun _ => ⟨Y, rfl, H1.out.2.2.2⟩⟩⟩
theorem Bcp {R : Nat} {z : Tum} (h : RW w O C f s m) (hR : Alb w O k R z) (hl : z.ln = 5) (c0 : 0 ≤ z.c) (c1 : z.c < 4096) (m0 : 0 ≤ z.n) (m1 : z.n ≤ 4611686018427387904) (hk : 10 ≤ k) (hm : m ≤ 900000) (hhi : Hh O w) (n0 : 0 ≤ s.n) (n1 : s.n ≤ 4611686018427387904) :
 C2 10 R C.p w (Ai4 (Aam f.q f.y (s, z)) k R C f m w O) := by
 obtain ⟨ln, t, c, n, q⟩ := z
 dsimp only at hl c0 c1 m0 m1
 subst hl
 obtain ⟨mv, hx, -⟩ := hR.ex
 dsimp only at hx
 obtain ⟨x0, -, -, x3⟩ := hx.c4
 have hw1 : IntKind.u64.wrap (c + 1) = c + 1 := by rw [IntKind.wrap_u64]; omega
 have hw3 : IntKind.i64.wrap (n + 1) = n + 1 := by simp [IntKind.wrap, IntKind.bits, IntKind.signed]; omega
 have HS := hQd (Adg 3 (c + 1) h (by omega) (by decide) (by decide) (by omega) (by omega) hhi n0 n1)
 obtain ⟨Q, hQ⟩ := exq f.q
 obtain ⟨LN, hLN⟩ : ∃ LN : Int, LN = if n + 1 < Q then 1 else 0 := ⟨_, rfl⟩
 have hst : Hid (Aam f.q f.y (s, ⟨5, t, c, n, q⟩) = (Aax 3 (c + 1) s, ⟨LN, t, c, n + 1, q⟩)) := hQd (by unfold Aam; rw [if_neg (show ¬ ((5 : Int) = 1) by decide), if_neg (show ¬ ((5 : Int) = 2) by decide), if_neg (show ¬ ((5 : Int) = 4) by decide), if_pos rfl, hLN, hQ])
 rw [hst.out]
 have HLN := hQd hLN
 have HX := hQd hx
 have HQ := hQd hQ
 clear h hR hx hhi hst hQ hLN
 go_enter Tryz.func10, Tryz.ntmps10
 go_wp2_with fail
 refine HS.out.mono ?_
 rintro e w1 ⟨rfl, G1, e1, P1⟩
 have X1 := HX.out.ext e1 (by unfold SR; omega)
 obtain ⟨x0, x1⟩ := X1.c2
 have f0 := X1.f 0
 have f1 := X1.f 1
 obtain ⟨e2, X2⟩ := Aal X1 (by omega) e1.hi 1 (.int .i64 (n + 1)) (by simp)
 obtain ⟨e3, X3⟩ := Aal X2 (by omega) e2.hi 0 (.int .i64 1) (by simp)
 have H3 := hQd (aN ((e1.mono (T := SD k (k + 19)) fun t _ h => .inl h).trans ((e2.trans e3).mono fun t _ h => .inr (by omega))) (aN ((P1.ext e2).ext e3) X3))
 obtain ⟨w3, hw3⟩ := exq ((w1.setCell ⟨R, 1, none⟩ (.int .i64 (n + 1))).setCell ⟨R, 0, none⟩ (.int .i64 1))
 rw [← hw3] at H3
 clear e1 P1 X1 e2 X2 e3 X3 HS HX
 go_upto_region 25 with fail
 rw [← hw3]
 clear hw3 x0 x1 x3 f0 f1
 have y1 := H3.out.2.2.c 1 _ rfl
 have p6 := H3.out.2.1.wo.c6
 rw [← HQ.out] at p6
 go_quiet (fail)
 have hbq : Below w3.heap.size w3 (w3.drewN nq) := ⟨rfl, rfl, rfl, Nat.le_refl _, fun _ _ => rfl⟩
 obtain ⟨w4, hw4⟩ := exq (w3.drewN nq)
 rw [← hw4] at hbq ⊢
 have H4 := hQd (aN (H3.out.1.below hbq) (aN (H3.out.2.1.below H3.out.1.hi hbq) (H3.out.2.2.below hbq)))
 obtain ⟨e5, X5⟩ := Aal H4.out.2.2 (by omega) H4.out.1.hi 0 (.int .i64 0) (by simp)
 have H5 := hQd (aN (H4.out.1.trans (e5.mono (T := SD k (k + 19)) fun t _ h => .inr (by omega))) (aN (H4.out.2.1.ext e5) X5))
 have y0 := H4.out.2.2.c 0 _ rfl
 have g0 := H4.out.2.2.f 0
 clear hbq hw4 H3 e5 X5 y1 p6
 by_cases hlt : n + 1 < Q
 · have dq : decide (Q ≤ n + 1) = false := decide_eq_false (by omega)
   have dq2 : decide (n + 1 < Q) = true := decide_eq_true hlt
   have HLT := hQd hlt
   go_wp2_with fail
   go_end0
   have h := HLN.out
   rw [if_pos HLT.out] at h
   subst h
   exact ⟨rfl, G1, H4.out.1, H4.out.2.1, ⟨mv, H4.out.2.2, fun h => absurd (show (1 : Int) = 4 from h) (by decide)⟩⟩
 have dq : decide (Q ≤ n + 1) = true := decide_eq_true (by omega)
 have dq2 : decide (n + 1 < Q) = false := decide_eq_false hlt
 have HLT := hQd hlt
 go_wp2_with fail
 go_end0
 have h := HLN.out
 rw [if_neg (by have := HLT.out; omega)] at h
 subst h
 exact ⟨rfl, G1, H5.out.1, H5.out.2.1, ⟨mv, H5.out.2.2, fun h => absurd (show (0 : Int) = 4 from h) (by decide)⟩⟩
end
end
section
open Go.RowKit Go.Shelf
structure Top where
 x : Nat
 R : Nat
 z : Tum
structure Ahf (w : World) (G : Om) (k : Nat) (q : Top) : Prop where
 e : Afq w G k q.x q.z
 r : Alb w G (k + 33) q.R q.z
theorem Ahf.ext {S : Nat → Prop} {O O' : Om} {w w' : World} {k : Nat} {q : Top} (h : Ahf w O k q) (e : Ext S O w O' w') (hs : ∀ t, k ≤ t → t < k + 53 → ¬ S t) : Ahf w' O' k q :=
 ⟨h.e.ext e (fun t h1 h2 => hs t h1 (by omega)), h.r.ext e (fun t h1 h2 => hs t (by omega) (by omega))⟩
theorem Ahf.below {O : Om} {w w' : World} {k : Nat} {q : Top} (h : Ahf w O k q) (hhi : Hh O w) (hb : Below w.heap.size w w') : Ahf w' O k q := h.ext (S := fun _ => False) (Ext.of_below hhi hb) fun _ _ _ => id
def TK : OpK Top := ⟨fun q => q.x, fun q => q.R, Ahf, 53, fun h e hs => h.ext e hs⟩
theorem QI.turn {E : TypeId} {w0 w w1 w2 : World} {B C : Wb} {f : Cf} {N k i : Nat} {vo : Value} {G G1 G2 : Om} {s : AW} {m : Nat} {l : List Top} {q : Top} (h : QI TK E w0 B C f N k w vo G s m l) (hi : l[i]? = some q)
 (e1 : Ext (SD (44 + 53 * i) (44 + 53 * i + 19)) G w G1 w1) (r1 : RW w1 G1 C f (Aam f.q f.y (s, q.z)).1 (m + 1)) (x1 : Alb w1 G1 (44 + 53 * i) q.R (Aam f.q f.y (s, q.z)).2)
 (e2 : Ext (SX (11 + 53 * i) (11 + 53 * i + 32)) G1 w1 G2 w2) (p2 : PW w2 G2 B f (Aam f.q f.y (s, q.z)).1) (x2 : Afq w2 G2 (11 + 53 * i) q.x (Aam f.q f.y (s, q.z)).2) :
 ∃ q' : Top, Ahf w2 G2 (11 + 53 * i) q' ∧ q'.x = q.x ∧ q'.R = q.R ∧ q'.z = (Aam f.q f.y (s, q.z)).2 ∧ QI TK E w0 B C f N (k + 1) w2 vo G2 (Aam f.q f.y (s, q.z)).1 (m + 1) (l.set i q') := by
 have a : Aw1 s (Aam f.q f.y (s, q.z)).1 := Anb f.q f.y (s, q.z)
 have hb : opb TK.wd i = 11 + 53 * i := rfl
 have hw : TK.wd = 53 := rfl
 have hq : Ahf w2 G2 (11 + 53 * i) ⟨q.x, q.R, (Aam f.q f.y (s, q.z)).2⟩ := ⟨x2, by
  have := x1.ext e2 (fun t h1 h2 => SX.not (by omega) (by omega))
  show Alb w2 G2 (11 + 53 * i + 33) q.R _
  rwa [show 11 + 53 * i + 33 = 44 + 53 * i by omega]⟩
 have E12 : Ext (SO (opb TK.wd i) TK.wd) G w G2 w2 := by
  rw [hb]
  refine (e1.mono ?_).trans (e2.mono ?_)
  · intro t _ ht; show SO (11 + 53 * i) 53 t; unfold SD SR at ht; unfold SO; omega
  intro t _ ht; show SO (11 + 53 * i) 53 t; unfold SX at ht; unfold SO; omega
 refine ⟨_, hq, rfl, rfl, rfl, h.step hi E12 ⟨p2, r1.ext e2 (SX.not (by omega) (by omega)) (SX.not (by omega) (by omega)) (SX.not (by omega) (by omega)) (SX.not (by omega) (by omega))⟩ (by rw [hb]; exact hq) rfl rfl (by have := h.n0; have := a.n0; omega) (by have := a.n1; omega) (by omega) (by rw [a.it]; omega) (by have := a.nt; omega) ?_⟩
 intro x hx
 rcases a.nk x hx with g | g
 · exact h.hnk x g
 exact g
theorem Avm {w : World} {O : Om} {k : Nat} {q : Top} (h : Ahf w O k q) (hhi : Hh O w) :
 Calls Tryz.prog 12 #[.agg #[.pointer (some ⟨q.x, 0, none⟩), .pointer (some ⟨q.R, 0, none⟩)]] w fun e w' => e = .returned (.bool true) ∧ Below w.heap.size w w' := by
 obtain ⟨X, hX⟩ := exq q.x
 obtain ⟨R, hR⟩ := exq q.R
 obtain ⟨mv, hr, -⟩ := h.r.ex
 have r0 : w.cell? ⟨R, 0, none⟩ = some (.int .i64 q.z.ln) := by rw [hR]; exact hr.c 0 _ rfl
 have r1 : w.cell? ⟨R, 1, none⟩ = some (.int .i64 q.z.n) := by rw [hR]; exact hr.c 1 _ rfl
 obtain ⟨nn, hnn⟩ := exq q.z.n
 obtain ⟨ln, hln⟩ := exq q.z.ln
 obtain ⟨ov, hov⟩ := exq (Acj q.z)
 have HL : Hid (∀ W, Below w.heap.size w W → C1 43 X W fun e w' => e = .returned (.int .i64 nn) ∧ W = w') := hQd fun W hb => by rw [hX, hnn]; exact Avz (h.e.below hhi hb)
 have HO : Hid (∀ W, Below w.heap.size w W → C1 35 X W fun e w' => e = .returned (.bool ov) ∧ W = w') := hQd fun W hb => by rw [hX, hov]; exact Apn (h.e.below hhi hb)
 have hd : (ln == 0) = ov := by rw [hov, hln]; rfl
 rw [← hln] at r0
 rw [← hnn] at r1
 rw [← hX, ← hR]
 have hRl := Aj0 r0
 clear h hX hR hnn hln hov hhi hr
 go_enter Tryz.func12, Tryz.ntmps12
 go_upto_region 2 with fail
 obtain ⟨W1, hW1⟩ := exq (w.alloc (.cells #[.pointer (some ⟨X, 0, none⟩), .pointer (some ⟨R, 0, none⟩)] 48))
 have y0 : W1.cell? ⟨w.heap.size, 0, none⟩ = some (.pointer (some ⟨X, 0, none⟩)) := by rw [hW1]; simp
 have y1 : W1.cell? ⟨w.heap.size, 1, none⟩ = some (.pointer (some ⟨R, 0, none⟩)) := by rw [hW1]; simp
 have hl1 : w.heap.size < W1.heap.size := by rw [hW1]; simp
 have b1 : Below w.heap.size w W1 := by rw [hW1]; exact bal _ _
 have q0 := (b1.cell (p := ⟨R, 0, none⟩) hRl).trans r0
 have q1 := (b1.cell (p := ⟨R, 1, none⟩) hRl).trans r1
 rw [← hW1]
 clear hW1 r0 r1
 have HB1 := hQd b1
 clear b1
 have hdn : ∀ n, Below W1.heap.size W1 (W1.drewN n) := fun n => ⟨rfl, rfl, rfl, Nat.le_refl _, fun _ _ => rfl⟩
 have HDN := hQd hdn
 clear hdn
 have HOQ := hQd (fun W (h : ∃ n, W = W1.drewN n) => HO.out W (by obtain ⟨n, rfl⟩ := h; exact HB1.out.trans ((HDN.out n).mono HB1.out.size)))
 have HLQ := hQd (fun W (h : ∃ n, W = W1.drewN n) => HL.out W (by obtain ⟨n, rfl⟩ := h; exact HB1.out.trans ((HDN.out n).mono HB1.out.size)))
 go_quiet ((first
  | (go_at_call 35; exact Ack (HOQ.out _ ⟨_, rfl⟩))
  | (go_at_call 43; exact Ack (HLQ.out _ ⟨_, rfl⟩))))
 go_wp2
 go_ret
 exact ⟨rfl, HB1.out.trans ((HDN.out nq).mono HB1.out.size)⟩
def TX (lo : List Top) (s : AW) (it : List It) : Prop := (∀ q ∈ lo, Am4 s q.z) ∧ s.it = it
theorem TX.up {lo : List Top} {s s' : AW} {it : List It} (h : TX lo s it) (hs : s'.it = s.it) (hn : s.n ≤ s'.n) : TX lo s' it := ⟨fun q hq => (h.1 q hq).mono hn, hs.trans h.2⟩
theorem TX.snoc {lo : List Top} {s : AW} {it : List It} {X R : Nat} (h : TX lo s it) (n0 : 0 ≤ s.n) : TX (lo ++ [⟨X, R, Ahb⟩]) s it :=
 ⟨fun x hx => by
   rcases List.mem_append.1 hx with g | g
   · exact h.1 x g
   rw [List.mem_singleton.1 g]; exact Am4.new n0, h.2⟩
theorem TX.step {lo : List Top} {s : AW} {i : Nat} {it : List It} {q q' : Top} {a y : Int} (h : TX lo s it) (hb : Bd s.M) (hq : lo[i]? = some q) (hz : q'.z = (Aam a y (s, q.z)).2) : TX (lo.set i q') (Aam a y (s, q.z)).1 it :=
 ⟨fun x hx => by
   rcases List.mem_or_eq_of_mem_set hx with g | g
   · exact (h.1 x g).mono (Anb a y (s, q.z)).n0
   rw [g, hz]; exact (h.1 q (List.mem_of_getElem? hq)).step hb, (Anb a y (s, q.z)).it.trans h.2⟩
theorem Atr {X k : Nat} {z : Tum} {w : World} {O : Om} {B : Wb} {f : Cf} {s : AW} (hP : PW w O B f s) (hX : Afq w O k X z) (hz : Am4 s z) (hil : s.it.length ≤ 1000000) (hks : ∀ r, (Adz s.it r).key.size ≤ maxLen) (hk : 10 ≤ k) (hhi : Hh O w) (n0 : 0 ≤ s.n) (n1 : s.n ≤ 4611686018427387904) :
 C2 11 X B.p w (RP (SX k (k + 32)) w O (.bool (Acj (Aam f.q f.y (s, z)).2)) fun W G => PW W G B f (Aam f.q f.y (s, z)).1 ∧ Afq W G k X (Aam f.q f.y (s, z)).2) := by
 by_cases ho : Acj z = true
 · have hl : z.ln = 0 := by unfold Acj at ho; simpa using ho
   rw [Aj5 _ _ _ _ hl]
   have HO := hQd (Apn hX)
   rw [ho] at HO
   have HX := hQd (aN hP (aN hX (aN hhi ho)))
   clear hP hX hz hhi ho hl
   go_enter Tryz.func11, Tryz.ntmps11
   go_wp2_with fail
   refine HO.out.mono ?_
   rintro e w' ⟨rfl, rfl⟩
   go_wp2_with fail
   refine HO.out.mono ?_
   rintro e w' ⟨rfl, rfl⟩
   go_wp2_with fail
   go_ret
   exact ⟨by rw [HX.out.2.2.2]; rfl, O, Ext.refl HX.out.2.2.1, HX.out.1, HX.out.2.1⟩
 exact Apm hk hP hX hz (by simpa using ho) hil hks hhi n0 n1
theorem As0 {R k m : Nat} {z : Tum} {w : World} {O : Om} {C : Wb} {f : Cf} {s : AW} (h : RW w O C f s m) (hR : Alb w O k R z) (hz : Am4 s z) (hil : s.it.length ≤ 1000000) (hks : ∀ r, (Adz s.it r).key.size ≤ maxLen) (hk : 10 ≤ k) (hm : m ≤ 900000) (hhi : Hh O w) (n0 : 0 ≤ s.n) (n1 : s.n ≤ 4611686018427387904) :
 C2 10 R C.p w (Ai4 (Aam f.q f.y (s, z)) k R C f m w O) := by
 rcases hz.ln with g | g | g | g | g | g
 · rw [Aj5 _ _ _ _ g]
   refine (Bcu hR g).mono ?_
   rintro e w' ⟨rfl, rfl⟩
   exact ⟨rfl, O, Ext.refl hhi, h.up (by omega), hR⟩
 · exact Bct h hR g hk hm hhi n0 n1
 · exact Bcs h hR g hz.t0 hz.t1 hk hm hhi n0 n1
 · exact Bcr h hR g hz.t0 hz.t1 (hz.nw (.inr (.inl g))) hk hm hhi n0 n1
 · obtain ⟨m1, m2, m3, m4⟩ := hz.mv g
   have := (m1.p m2).s1
   exact Bcq h hR g m1 m3 (by omega) hil hks hk hm hhi n0 n1
 have hn := hz.n1
 exact Bcp h hR g (hz.c5 (.inr g)).1 (hz.c5 (.inr g)).2 hz.n0 (by omega) hk hm hhi n0 n1
end
section
open Go.RowKit Go.Shelf
theorem Ax1 : (Tryz.prog.info? 48).map (fun i => (i.zero, i.size, i.bytes)) = some (some (.agg #[.pointer none, .pointer none]), 2, 16) := by kernel_rfl
theorem w_TurnsPlay (v : Value) (F : Fst) (vl : Value) (l : List Azn) (w : World) (g : Azs F) (c : Amy w v F) (gl : ∀ q ∈ l, Apx q) (hA : Arr w vl l.length 4 (Aa2 Ali l)) :
 Calls Tryz.prog 3 #[v, vl] w fun e w' => e = .returned (.bool true) ∧ Below w.heap.size w w' := by
 obtain ⟨⟨fb, fg, ft, fq, fy⟩, gr, it, pu, st, ti⟩ := F
 obtain ⟨vi, vp, vs, rfl, a1, a2, a3⟩ := c.ex
 obtain ⟨ai, ci, rfl, hci, hmi⟩ := a1.shape
 obtain ⟨ap, cp, rfl, hcp, hmp⟩ := a2.shape
 obtain ⟨as', cs, rfl, hcs, hms⟩ := a3.shape
 obtain ⟨al, cl, rfl, hcl, hml⟩ := hA.shape
 unfold Ax3 at c ⊢
 dsimp only at c a1 a2 a3 ⊢
 have HC := hQd c
 have HA := hQd (aN a1 (aN a2 a3))
 have HG := hQd g
 have HL := hQd hA
 have HGL := hQd gl
 clear c a1 a2 a3 g hA gl
 obtain ⟨i0, hi, hz0, hz1, hz2⟩ := info_parts Ax1
 have HI := hQd (aN hi (aN hz0 (aN hz1 hz2)))
 clear hi hz0 hz1 hz2
 have hml9 : l.length ≤ 9223372036854775807 := by unfold maxLen at hml; omega
 go_enter Tryz.func3, Tryz.ntmps3
 go_wp2_with fail
 obtain ⟨W1, hW1⟩ := exq (w.alloc (.cells #[.int .i64 fb, .int .i64 fg, .int .i64 ft, .int .i64 fq, .int .i64 fy, .bool gr, .slice ai it.length ci, .slice ap pu.length cp, .slice as' st.length cs, .int .i64 ti] 28))
 have B1 : Hid (Below w.heap.size w W1) := hQd (by rw [hW1]; exact bal _ _)
 have n1 : w.heap.size < W1.heap.size := by rw [hW1]; simp
 have y0 : W1.cell? ⟨w.heap.size, 0, none⟩ = some (.int .i64 fb) := by rw [hW1]; simp
 have y1 : W1.cell? ⟨w.heap.size, 1, none⟩ = some (.int .i64 fg) := by rw [hW1]; simp
 have y2 : W1.cell? ⟨w.heap.size, 2, none⟩ = some (.int .i64 ft) := by rw [hW1]; simp
 have y3 : W1.cell? ⟨w.heap.size, 3, none⟩ = some (.int .i64 fq) := by rw [hW1]; simp
 have y4 : W1.cell? ⟨w.heap.size, 4, none⟩ = some (.int .i64 fy) := by rw [hW1]; simp
 have y5 : W1.cell? ⟨w.heap.size, 5, none⟩ = some (.bool gr) := by rw [hW1]; simp
 have y6 : W1.cell? ⟨w.heap.size, 6, none⟩ = some (.slice ai it.length ci) := by rw [hW1]; simp
 have y7 : W1.cell? ⟨w.heap.size, 7, none⟩ = some (.slice ap pu.length cp) := by rw [hW1]; simp
 have y8 : W1.cell? ⟨w.heap.size, 8, none⟩ = some (.slice as' st.length cs) := by rw [hW1]; simp
 have y9 : W1.cell? ⟨w.heap.size, 9, none⟩ = some (.int .i64 ti) := by rw [hW1]; simp
 rw [← hW1]
 clear hW1
 refine (Azg (HC.out.below B1.out)).mono ?_
 rintro e w3 ⟨b, rfl, hb3, hbd⟩
 have B3 := hQd (B1.out.trans (hb3.mono B1.out.size))
 have HBD := hQd hbd
 cases b with
 | true =>
   clear hb3 hbd y0 y1 y2 y3 y4 y5 y6 y7 y8 y9
   go_wp2_with fail
   refine (Aiq w3).mono ?_
   rintro e w4 ⟨rfl, hb4⟩
   go_wp2_with fail
   go_ret
   exact ⟨rfl, B3.out.trans (hb4.mono B3.out.size)⟩
 | false =>
   by_cases hl3 : 400 < l.length
   · have d3 : decide ((400 : Int) < (l.length : Int)) = true := by simp; omega
     clear hb3 hbd y0 y1 y2 y3 y4 y5 y6 y7 y8 y9
     go_wp2_with fail
     refine (Aiq w3).mono ?_
     rintro e w4 ⟨rfl, hb4⟩
     go_wp2_with fail
     go_ret
     exact ⟨rfl, B3.out.trans (hb4.mono B3.out.size)⟩
   have d3 : decide ((400 : Int) < (l.length : Int)) = false := by simp; omega
   have k := fun j => hb3.cell (p := ⟨w.heap.size, j, none⟩) n1
   have z0 := (k 0).trans y0
   have z1 := (k 1).trans y1
   have z2 := (k 2).trans y2
   have z3 := (k 3).trans y3
   have z4 := (k 4).trans y4
   have z5 := (k 5).trans y5
   have z6 := (k 6).trans y6
   have z7 := (k 7).trans y7
   have z8 := (k 8).trans y8
   have z9 := (k 9).trans y9
   clear hb3 hbd k y0 y1 y2 y3 y4 y5 y6 y7 y8 y9
   have hbb := HBD.out (by first | rfl | trivial)
   have hBg := Azh ⟨⟨fb, fg, ft, fq, fy⟩, gr, it, pu, st, ti⟩ (.slice ai it.length ci) (.slice ap pu.length cp) (.slice as' st.length cs) w3 ⟨HA.out.1.below B3.out, HA.out.2.1.below B3.out, HA.out.2.2.below B3.out, hbb.1, hbb.2.1, hbb.2.2.1, hbb.2.2.2, HG.out.pub, HG.out.stb, HG.out.ti0, HG.out.ti1⟩
   have hit40 := hbb.1
   have HKS := hQd (Ax0 hbb.2.2.2)
   unfold Ax3 at hBg
   dsimp only at hBg
   have HBg := hQd hBg
   clear hBg hbb
   go_wp2_with fail
   refine HBg.out.mono ?_
   rintro e w4 ⟨B, C, rfl, G, e4, s, m, pr, n0, n1, m1, hit, hnt⟩
   have E4 := Aqk B3.out e4
   obtain ⟨f, hf⟩ : ∃ f : Cf, f = Ax6 ⟨fb, fg, ft, fq, fy⟩ := ⟨_, rfl⟩
   rw [← hf] at pr
   clear HBg e4 hf z0 z1 z2 z3 z4 z5 z6 z7 z8 z9
   obtain ⟨W5, hW5⟩ := exq (w4.alloc (.cells #[.pointer (some ⟨B.p, 0, none⟩), .pointer (some ⟨C.p, 0, none⟩)] 34))
   have b5 : Below w4.heap.size w4 W5 := by rw [hW5]; exact bal _ _
   have y0 : W5.cell? ⟨w4.heap.size, 0, none⟩ = some (.pointer (some ⟨B.p, 0, none⟩)) := by rw [hW5]; simp
   have y1 : W5.cell? ⟨w4.heap.size, 1, none⟩ = some (.pointer (some ⟨C.p, 0, none⟩)) := by rw [hW5]; simp
   have yl : w4.heap.size < W5.heap.size := by rw [hW5]; simp
   have H0 : QI TK 48 w B C f w4.heap.size 0 W5 (.slice none 0 0) G s m [] := ⟨E4.ext (S := fun _ => True) (Ext.of_below E4.hi b5), pr.below E4.hi b5, n0, by omega, by omega, by rw [hit]; exact hit40, by rw [hnt]; exact Nat.le_refl _, (fun n h => by rw [hnt] at h; cases h), Row.nil _ _ _ _ _, Nat.le_refl _, (fun j q h => by cases h), yl, Acs E4.hi (Nat.le_refl _), y0, y1⟩
   have HH0 := hQd H0
   have HM0 : Hid (TX [] s it) := hQd ⟨fun q h => (by cases h), hit⟩
   clear H0 b5 pr E4 hit hnt hit40 n0 n1 m1
   go_wp2_with fail
   rw [← hW5]
   clear hW5
   obtain ⟨N, hN⟩ := exq w4.heap.size
   rw [← hN] at HH0 y0 y1 yl ⊢
   clear hN y0 y1 yl
   go_loopw [6, 7] (fun vo i wr => ∃ (k : Nat) (G : Om) (s : AW) (m : Nat) (lo : List Top), k ≤ l.length ∧ i = .int .i64 k ∧ QI TK 48 w B C f N k wr vo G s m lo ∧ TX lo s it) (fun _ i _ => l.length - (intOf i).toNat)
   case atStart => exact ⟨0, G, s, m, [], Nat.zero_le _, rfl, HH0.out, HM0.out⟩
   clear HH0 HM0
   obtain ⟨k, G, s, m, lo, hk, rfl, hr, hmx⟩ := hrel
   have HR := hQd hr
   have HMX := hQd hmx
   clear hmx
   obtain ⟨ao, cp2, rfl, hcp2, hmp2⟩ := (Arr.of_own hr.row.own).shape
   have hmo : lo.length ≤ 9223372036854775807 := by unfold maxLen at hmp2; omega
   have p0 := hr.p0
   have p1 := hr.p1
   have hlo : lo.length ≤ 400 := by have := hr.len; omega
   have hk400 : k ≤ 400 := by omega
   obtain ⟨L, hL⟩ := exq lo.length
   rw [← hL] at HR hcp2 hmo ⊢
   have HLL := hQd hL
   clear hr hL
   by_cases hk2 : k < l.length
   · obtain ⟨b', o', c', he, -, -, hlt, hx⟩ := HL.out.open (by omega) (by omega)
     cases he
     obtain ⟨x, hxe⟩ := exq (l[k])
     have hr : ∀ j, j < 4 → (Aa2 Ali l)[k * 4 + j]? = (Ali x)[j]? := fun j hj => by rw [hxe]; exact Abk (f := Ali) (fun _ => rfl) l k j hk2 hj
     have hv : ∀ j u, j < 4 → (Ali x)[j]? = some u → wr.cell? ⟨b', o' + k * 4 + j, none⟩ = some u := fun j u hj hu => by
      have := (HR.out.env.bel.cell (p := ⟨b', o' + (k * 4 + j), none⟩) hlt).trans (hx _ _ ((hr j hj).trans hu))
      rwa [Nat.add_assoc]
     have v0 := hv 0 _ (by omega) rfl
     have v1 := hv 1 _ (by omega) rfl
     have v2 := hv 2 _ (by omega) rfl
     have v3 := hv 3 _ (by omega) rfl
     rw [Nat.add_zero] at v0
     have hok := HGL.out x (by rw [hxe]; exact List.getElem_mem _)
     obtain ⟨kd, wh, sa, sv⟩ := x
     obtain ⟨k0, k1, h0, h1, a0, a1, u0, u1⟩ := hok
     dsimp only at v0 v1 v2 v3 k0 k1 h0 h1 a0 a1 u0 u1
     have hck : kd % 30 < 30 := Int.emod_lt_of_pos _ (by decide)
     have hck0 : 0 ≤ kd % 30 := Int.emod_nonneg _ (by decide)
     clear hxe hx hr hv
     obtain ⟨W2, hW2⟩ := exq (wr.alloc (.cells #[.int .u8 kd, .int .u8 wh, .int .u64 sa, .int .u64 sv] 42))
     have b2 : Below wr.heap.size wr W2 := by rw [hW2]; exact bal _ _
     have HR2 := hQd (HR.out.below b2)
     have q0 : W2.cell? ⟨wr.heap.size, 0, none⟩ = some (.int .u8 kd) := by rw [hW2]; simp
     have q1 : W2.cell? ⟨wr.heap.size, 1, none⟩ = some (.int .u8 wh) := by rw [hW2]; simp
     have q2 : W2.cell? ⟨wr.heap.size, 2, none⟩ = some (.int .u64 sa) := by rw [hW2]; simp
     have q3 : W2.cell? ⟨wr.heap.size, 3, none⟩ = some (.int .u64 sv) := by rw [hW2]; simp
     have ql : wr.heap.size < W2.heap.size := by rw [hW2]; simp
     have qo : Hid (G wr.heap.size = 0) := hQd (Acs HR.out.env.hi (Nat.le_refl _))
     by_cases h2 : kd % 30 = 0
     · have d2 : (kd % 30 == 0) = true := by simp [h2]
       clear h2
       go_upto_region 11 with fail
       rw [← hW2]
       clear hW2 v0 v1 v2 v3 p0 p1 q0 q1 q2 q3 ql
       have HNT := hQd (Amr (11 + 53 * lo.length) HR2.out.env.hi)
       go_wp2_with fail
       refine HNT.out.mono ?_
       rintro e w5 ⟨X, rfl, G5, e5, x5⟩
       have HND := hQd (Aqt (k := 11 + 53 * lo.length + 33) e5.hi)
       have H5 := hQd (aN e5 x5)
       clear e5 x5 HNT
       go_wp2_with fail
       refine HND.out.mono ?_
       rintro e w6 ⟨R, rfl, G6, e6, r6⟩
       have hb : opb TK.wd lo.length = 11 + 53 * lo.length := rfl
       have hw : TK.wd = 53 := rfl
       have HR8 := hQd (HR2.out.mk2 (G' := G6) (w' := w6) ((H5.out.1.mono fun t _ h => by rw [hb, hw]; omega).trans (e6.mono fun t _ h => by rw [hb, hw]; omega)))
       have HQ9 : Hid (TK.A w6 G6 (opb TK.wd lo.length) (⟨X, R, Ahb⟩ : Top)) := hQd (show Ahf w6 G6 (11 + 53 * lo.length) ⟨X, R, Ahb⟩ from ⟨H5.out.2.ext e6 (fun t h1 h2 => by omega), r6⟩)
       clear e6 r6 HND H5 HR2 HR hb hw
       go_wp2_with (at_builtin; refine Ace w6 rfl _ _ 36 rfl 48 i0 (.agg #[.pointer none, .pointer none]) 2 16 Tryz.underlying36 HI.out.1 HI.out.2.1 HI.out.2.2.1 HI.out.2.2.2 rfl (by decide) (by decide) G6 9 (by decide) HR8.out.env.hi (.slice ao L cp2) lo.length (Aa2 (opc TK) lo) rfl HR8.out.row (opc TK ⟨X, R, Ahb⟩) _ rfl rfl (by simp [Value.oneCell', opc]) (by omega) ?_; intro gg cap Wz Gz ez rz; have HRn := hQd (QI.snoc HR8.out HQ9.out ez rz); have p0 := HRn.out.p0; have p1 := HRn.out.p1; clear ez rz)
       refine (Aix HRn.out.pr HRn.out.env.hi (by have := HRn.out.m1; omega)).mono ?_
       rintro e w9 ⟨rfl, hb9⟩
       have HR9 := hQd (HRn.out.below hb9)
       clear hb9 p0 p1 HRn
       go_wp2_with fail
       go_roundw
       case rel => exact ⟨k + 1, _, _, _, _, by omega, by go_num, HR9.out, HMX.out.snoc HR9.out.n0⟩
       case measure => simp [intOf]; omega
     have d2 : (kd % 30 == 0) = false := by simp [h2]
     by_cases h3 : kd % 30 = 1
     · have d3 : (kd % 30 == 1) = true := by simp [h3]
       clear h2 h3
       go_upto_region 13 with fail
       rw [← hW2]
       clear hW2
       have p0 := HR2.out.p0
       have p1 := HR2.out.p1
       clear v0 v1 v2 v3
       go_wp2_with fail
       refine (Af8 sa sv HR2.out.pr HR2.out.env.hi (by have := HR2.out.m1; omega) a0 (by omega) u0 (by omega) HR2.out.n0 (by have := HR2.out.n1; omega)).mono ?_
       rintro e w5 ⟨rfl, G5, e5, P5⟩
       have HRn := hQd (HR2.out.sp e5 P5 (by show 0 ≤ s.n + 1; have := HR2.out.n0; omega) (by show s.n + 1 ≤ _; have := HR2.out.n1; omega) (by have := HR2.out.m1; omega) (by have := HR2.out.hit; show s.it.length ≤ _; omega) (by have := HR2.out.hnt; show s.nt.length ≤ _; omega) HR2.out.hnk)
       clear e5 P5 p0 p1 q0 q1 q2 q3 HR2 HR
       have p0 := HRn.out.p0
       have p1 := HRn.out.p1
       go_wp2_with fail
       refine (Aix HRn.out.pr HRn.out.env.hi (by have := HRn.out.m1; omega)).mono ?_
       rintro e w9 ⟨rfl, hb9⟩
       have HR9 := hQd (HRn.out.below hb9)
       clear hb9 p0 p1 HRn
       go_wp2_with fail
       go_roundw
       case rel => exact ⟨k + 1, _, _, _, _, by omega, by go_num, HR9.out, HMX.out.up rfl (by first | exact Int.le_refl _ | (show s.n ≤ s.n + 1; omega))⟩
       case measure => simp [intOf]; omega
     have d3 : (kd % 30 == 1) = false := by simp [h3]
     · clear h2 h3
       by_cases hl0 : L = 0
       · have t0 : decide ((0 : Int) < (L : Int)) = false := decide_eq_false (by omega)
         have t0' : decide (0 < L) = false := decide_eq_false (by omega)
         clear hl0
         go_upto_region 19 with fail
         rw [← hW2]
         clear hW2 v0 v1 v2 v3 q0 q1 q2 q3 p0 p1
         have HRn := hQd (HR2.out.up (Nat.le_succ k))
         have p0 := HRn.out.p0
         have p1 := HRn.out.p1
         clear HR2 HR
         go_wp2_with fail
         refine (Aix HRn.out.pr HRn.out.env.hi (by have := HRn.out.m1; omega)).mono ?_
         rintro e w9 ⟨rfl, hb9⟩
         have HR9 := hQd (HRn.out.below hb9)
         clear hb9 p0 p1 HRn
         go_wp2_with fail
         go_roundw
         case rel => exact ⟨k + 1, _, _, _, _, by omega, by go_num, HR9.out, HMX.out.up rfl (by first | exact Int.le_refl _ | (show s.n ≤ s.n + 1; omega))⟩
         case measure => simp [intOf]; omega
       have t0 : decide ((0 : Int) < (L : Int)) = true := decide_eq_true (by omega)
       have t0' : decide (0 < L) = true := decide_eq_true (by omega)
       have tz : ((L : Int) == 0) = false := by rw [beq_eq_false_iff_ne]; omega
       obtain ⟨i, hwi⟩ : ∃ i : Nat, wh % (L : Int) = i := ⟨(wh % (L : Int)).toNat, by have := Int.emod_nonneg wh (show (L : Int) ≠ 0 by omega); omega⟩
       have hiL : i < L := by have := Int.emod_lt_of_pos wh (show (0 : Int) < L by omega); omega
       have hil : i < lo.length := by rw [← HLL.out]; exact hiL
       obtain ⟨q, hqi⟩ : ∃ q, lo[i]? = some q := ⟨_, List.getElem?_eq_getElem hil⟩
       have hqe := (List.getElem?_eq_some_iff.1 hqi).2
       obtain ⟨gb, go', gc, he, -, -, glt, gx⟩ := (Arr.of_own HR2.out.row.own).open (show 0 < lo.length by omega) (by omega)
       have hao := (Value.slice.inj he).1
       subst hao
       clear he
       have g0 : W2.cell? ⟨gb, go' + i * 2, none⟩ = some (.pointer (some ⟨q.x, 0, none⟩)) := gx _ _ ((Abk (Ar1 TK) lo i 0 hil (by omega)).trans (by rw [hqe]; rfl))
       have g1 : W2.cell? ⟨gb, go' + i * 2 + 1, none⟩ = some (.pointer (some ⟨q.R, 0, none⟩)) := gx _ _ ((Abk (Ar1 TK) lo i 1 hil (by omega)).trans (by rw [hqe]; rfl))
       have HQI := hQd hqi
       obtain ⟨x, hx⟩ := exq q.x
       obtain ⟨R, hR⟩ := exq q.R
       rw [← hx] at g0
       rw [← hR] at g1
       have HX := hQd (aN hx hR)
       clear hl0 gx hqi hqe hx hR hil
       go_upto_region 15 with fail
       rw [← hW2]
       clear hW2 v0 v1 v2 v3 p0 p1
       go_upto_region 16 with fail
       obtain ⟨W3, hW3⟩ := exq (W2.alloc (.cells #[.pointer (some ⟨x, 0, none⟩), .pointer (some ⟨R, 0, none⟩)] 48))
       have b3 : Below W2.heap.size W2 W3 := by rw [hW3]; exact bal _ _
       have s0 : W3.cell? ⟨W2.heap.size, 0, none⟩ = some (.pointer (some ⟨x, 0, none⟩)) := by rw [hW3]; simp
       have s1 : W3.cell? ⟨W2.heap.size, 1, none⟩ = some (.pointer (some ⟨R, 0, none⟩)) := by rw [hW3]; simp
       have sl : W2.heap.size < W3.heap.size := by rw [hW3]; simp
       have so : Hid (G W2.heap.size = 0) := hQd (Acs HR2.out.env.hi (Nat.le_refl _))
       have HR3 := hQd (HR2.out.below b3)
       have HQ3 : Ahf W3 G (11 + 53 * i) q := HR3.out.ops i q HQI.out
       rw [← hW3]
       clear hW3 q0 q1 q2 q3 b3 g0 g1 HR2 HR
       obtain ⟨Z, hZ⟩ := exq (Aam f.q f.y (s, q.z))
       have hr3 : Alb W3 G (44 + 53 * i) q.R q.z := by have := HQ3.r; rwa [show 11 + 53 * i + 33 = 44 + 53 * i by omega] at this
       have hqm := HMX.out.1 q (List.mem_of_getElem? HQI.out)
       have hks : ∀ r, (Adz s.it r).key.size ≤ maxLen := by rw [HMX.out.2]; exact HKS.out
       have hil9 : s.it.length ≤ 1000000 := by have := HR3.out.hit; omega
       have HT := As0 HR3.out.pr.r hr3 hqm hil9 hks (by omega) (by have := HR3.out.m1; omega) HR3.out.env.hi HR3.out.n0 (by have := HR3.out.n1; omega)
       rw [← hZ, ← HX.out.2] at HT
       unfold Ai4 at HT
       have HT := hQd HT
       have HQ3 := hQd HQ3
       have p0 := HR3.out.p0
       have p1 := HR3.out.p1
       have HZ := hQd hZ
       clear hZ hr3
       go_wp2_with fail
       refine HT.out.mono ?_
       rintro e w5 ⟨rfl, G5, e5, P5, x5⟩
       have n0K : ¬ SD (44 + 53 * i) (44 + 53 * i + 19) 0 := fun h => by unfold SD SR at h; omega
       have hR5 := x5
       obtain ⟨_, hob, -⟩ := hR5.ex
       have hlc := hob.c 0 _ rfl
       have hll := hob.lt
       obtain ⟨ln', hln⟩ : ∃ ln' : Int, ln' = Z.2.ln := ⟨_, rfl⟩
       rw [← hln] at hlc
       obtain ⟨b, hb⟩ := exq (Acj Z.2)
       have hov : (ln' == 0) = b := by rw [hb, hln]; rfl
       have P5' := hQd P5
       have X5' := hQd x5
       have E5 := hQd e5
       have y0 := (e5.nob n0K HR3.out.pN HR3.out.oN 0).trans p0
       have y1 := (e5.nob n0K HR3.out.pN HR3.out.oN 1).trans p1
       have z0 := (e5.nob n0K sl so.out 0).trans s0
       have z1 := (e5.nob n0K sl so.out 1).trans s1
       have hO5 := hQd ((e5.lo _ sl).trans so.out)
       have hOR := hQd hob.o
       have hN5 : N < w5.heap.size := Nat.lt_of_lt_of_le HR3.out.pN e5.size
       have hS5 : W2.heap.size < w5.heap.size := Nat.lt_of_lt_of_le sl e5.size
       have ON5 := hQd ((e5.lo _ HR3.out.pN).trans HR3.out.oN)
       have D5 : Ext (SX (11 + 53 * i) (11 + 53 * i + 32)) G5 w5 G5 w5.drew := Ext.of_below e5.hi (Aaa _)
       have HPT := Atr (k := 11 + 53 * i) ((HR3.out.pr.p.ext e5 (fun h => by unfold SD SR at h; omega) (fun h => by unfold SD SR at h; omega) (fun h => by unfold SD SR at h; omega) (fun h => by unfold SD SR at h; omega)).below e5.hi (Aaa w5)) ((HQ3.out.e.ext e5 (fun t h1 h2 h => by unfold SD SR at h; omega)).below e5.hi (Aaa w5)) hqm hil9 hks (by omega) D5.hi HR3.out.n0 (by have := HR3.out.n1; omega)
       rw [← HZ.out, ← HX.out.1] at HPT
       rw [← hb] at HPT
       have HPT := hQd HPT
       have D5 := hQd D5
       clear hb n0K hob hR5 hqm hks hil9 P5 e5 x5 s0 s1 p0 p1 HT hln
       go_upto_region 17 with fail
       go_region_held3 (fun w' => w'.cell? ⟨N, 0, none⟩ = some (.pointer (some ⟨B.p, 0, none⟩)) ∧ w'.cell? ⟨N, 1, none⟩ = some (.pointer (some ⟨C.p, 0, none⟩)) ∧ w'.cell? ⟨W2.heap.size, 0, none⟩ = some (.pointer (some ⟨x, 0, none⟩)) ∧ w'.cell? ⟨W2.heap.size, 1, none⟩ = some (.pointer (some ⟨R, 0, none⟩)) ∧ w'.cell? ⟨R, 0, none⟩ = some (.int .i64 ln'))
        (first | assumption | exact ⟨Agj hN5 y0 (Aaa _), Agj hN5 y1 (Aaa _), Agj hS5 z0 (Aaa _), Agj hS5 z1 (Aaa _), Agj hll hlc (Aaa _)⟩ | exact ⟨a0', a1', a2', a3', a4'⟩ | exact ⟨c0', c1', c2', c3', c4'⟩ | go_keep)
        ((first
          | (go_at_call 11
             refine HPT.out.mono ?_
             rintro e w6 ⟨rfl, G6, e6, P6, T6⟩
             have hsx0 : ¬ SX (11 + 53 * i) (11 + 53 * i + 32) 0 := fun h => by unfold SX at h; omega
             have e56 := D5.out.trans e6
             have a0' := (e56.nob hsx0 hN5 ON5.out 0).trans y0
             have a1' := (e56.nob hsx0 hN5 ON5.out 1).trans y1
             have a2' := (e56.nob hsx0 hS5 hO5.out 0).trans z0
             have a3' := (e56.nob hsx0 hS5 hO5.out 1).trans z1
             have a4' := (e56.cell (p := ⟨R, 0, none⟩) hll (by show ¬ SX _ _ (G5 R); rw [hOR.out]; exact SX.not (by omega) (by omega))).trans hlc
             have hS6 : W2.heap.size < w6.heap.size := Nat.lt_of_lt_of_le hS5 e56.size
             have hR6 : R < w6.heap.size := Nat.lt_of_lt_of_le hll e56.size
             have P5'' := P5'.out
             have X5'' := X5'.out
             rw [HX.out.2] at X5''
             rw [HZ.out] at P5'' X5'' P6 T6
             rw [HX.out.1] at T6
             obtain ⟨q', hq', ex, eR, eT, hri⟩ := HR3.out.turn HQI.out E5.out P5'' X5'' e56 P6 T6
             have HMX7 := hQd (HMX.out.step HR3.out.pr.p.bd HQI.out eT)
             have HSM := Avm hq' hri.env.hi
             rw [ex, eR, ← HX.out.1, ← HX.out.2] at HSM
             have HSM := hQd HSM
             have HR7 := hQd hri
             have hN6 := hri.pN
             clear hq' ex eR eT hri P6 T6 P5'' X5'' e6 e56 hsx0)
          | (go_at_call 12
             refine HSM.out.mono ?_
             rintro e w7 ⟨rfl, hb7⟩
             have c0' := Agj hN6 a0' hb7
             have c1' := Agj hN6 a1' hb7
             have c2' := Agj hS6 a2' hb7
             have c3' := Agj hS6 a3' hb7
             have c4' := Agj hR6 a4' hb7
             have HRn := hQd (HR7.out.below hb7)
             clear hb7)))
       all_goals
        clear a0' a1' a2' a3' a4' c0' c1' c2' c3' c4' y0 y1 z0 z1
        have p0 := HRn.out.p0
        have p1 := HRn.out.p1
        go_wp2_with fail
        refine (Aix HRn.out.pr HRn.out.env.hi (by have := HRn.out.m1; omega)).mono ?_
        rintro e w9 ⟨rfl, hb9⟩
        have HR9 := hQd (HRn.out.below hb9)
        clear hb9 p0 p1 HRn
        go_wp2_with fail
        go_roundw
        case rel => exact ⟨k + 1, _, _, _, _, by omega, by go_num, HR9.out, HMX7.out⟩
        case measure => simp [intOf]; omega
   obtain rfl : k = l.length := by omega
   have HB := hQd HR.out.env.bel
   go_wp2_with fail
   refine (An6 HR.out.pr HR.out.env.hi (by have := HR.out.m1; omega) (by have := HR.out.hnt; omega) HR.out.hnk (by have := HR.out.hit; omega)).mono ?_
   rintro e w5 ⟨rfl, hb5⟩
   have HB5 := hQd (HB.out.trans (hb5.mono HB.out.size))
   clear hb5 p0 p1
   go_wp2_with fail
   refine (Aiq w5).mono ?_
   rintro e w6 ⟨rfl, hb6⟩
   have HB6 := hQd (HB5.out.trans (hb6.mono HB5.out.size))
   clear hb6
   go_wp2_with fail
   go_ret
   exact ⟨rfl, HB6.out⟩
end
end Go.Proofs.YthbodknlhkapdaaGreat
