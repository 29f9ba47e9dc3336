/- Layer 20: a drop: an Out that tells of what it dropped; an act that fails. Layer 20: a step of the program's Move, line by line: lines 3 (going on), 8 to 11. -/
import Derived.Test.YtfnmdafpdcgcmaaGreatZ3
import Derived.Test.YtfnmdafpdcgcmaaGreatZ5
namespace Go.Proofs.YtfnmdafpdcgcmaaGreat
set_option linter.unusedSimpArgs false
section
set_option linter.unusedVariables false
set_option maxHeartbeats 2000000
set_option maxRecDepth 100000
open Go.RowKit Go.Shelf
theorem m_DrOver (u : Nat) (ref b q sl : Int) (w : World) : (method 371 266 (.agg #[.pointer (some ⟨u, 0, none⟩), .int .i64 ref, .int .i64 b, .int .i64 q, .int .i64 sl]) "Over").run Tryz.prog w = .ok (170, .pointer (some ⟨u, 0, none⟩)) w := by kernel_rfl
theorem m_DrStep (u : Nat) (ref b q sl : Int) (w : World) : (method 371 266 (.agg #[.pointer (some ⟨u, 0, none⟩), .int .i64 ref, .int .i64 b, .int .i64 q, .int .i64 sl]) "Step").run Tryz.prog w = .ok (178, .agg #[.pointer (some ⟨u, 0, none⟩), .int .i64 ref, .int .i64 b, .int .i64 q, .int .i64 sl]) w := by kernel_rfl
def dropN (ref : Int) (p : Spt) (o : Otm) (s : AW) : AW := if o.ln = 1 then awNote 1 ref p.b p.q p.s 0 s else s
section
variable {X : Nat} {w : World} {O : Om} {B : Wb} {f : Cf} {s : AW} {k : Nat}
theorem POver.drop {u g : Nat} {p : Spt} {ref : Int} {o : Otm} (h : OutAt w O g u p o) (hp : p.ok) (ho : o.ln ≤ 3) (hg : g ≠ k) : POver w O k (IDrop u ref p) (o.ln == 3) := by
 refine ⟨_, _, _, _, rfl, m_DrOver u ref p.b p.q p.s, run_enter Tryz.func170 (by kernel_rfl) (by kernel_rfl), fun W hW => ?_⟩
 have h2 := h.ext hW hg
 have ht := hp.tags
 exact c_OutOver p.tags o.ln (h2.ob.c 0 _ rfl) (h2.ob.c 4 _ rfl) (by omega) ho
theorem c_DropStep {u : Nat} (ref : Int) {p : Spt} (o : Otm) (hP : PW w O B f s) (hU : OutAt w O k u p o) (hp : p.ok) (ho : o.ln < 3) (w0 : 0 ≤ o.w) (w1 : o.w < 18446744073709551616) (hk : 10 ≤ k) (hhi : ∀ j, O j ≠ 0 → j < w.heap.size) (n0 : 0 ≤ s.n) (n1 : s.n ≤ 4611686018427387904) :
 Calls Tryz.prog 178 #[.agg #[.pointer (some ⟨u, 0, none⟩), .int .i64 ref, .int .i64 p.b, .int .i64 p.q, .int .i64 p.s], .pointer (some ⟨B.p, 0, none⟩)] w (RP (SX k k) w O (.bool (o.ln == 2)) fun W G => PW W G B f (dropN ref p o (outStep p s o).1) ∧ OutAt W G k u p (outStep p s o).2) := by
 have ht := hp.tags
 obtain ⟨pb, hpb⟩ : ∃ z, z = p.b := ⟨_, rfl⟩
 obtain ⟨pq, hpq⟩ : ∃ z, z = p.q := ⟨_, rfl⟩
 obtain ⟨ps, hps⟩ : ∃ z, z = p.s := ⟨_, rfl⟩
 have hln := outStep_ln p s o ho
 have hc : o.ln = 0 ∨ o.ln = 1 ∨ o.ln = 2 := by omega
 have hb := (Below.refl w.heap.size w).alloc (Nat.le_refl _) (.cells #[.pointer (some ⟨u, 0, none⟩), .int .i64 ref, .int .i64 pb, .int .i64 pq, .int .i64 ps] 266)
 obtain ⟨eA, tA⟩ := alloc_nbH (S := SX k k) hhi #[.pointer (some ⟨u, 0, none⟩), .int .i64 ref, .int .i64 pb, .int .i64 pq, .int .i64 ps] 266 w.heap.size rfl
 have hHS := c_OutStep o (hP.below hhi hb) (hU.below hb) hp ho w0 w1 hk eA.hi n0 n1
 have hx := hU.below hb
 have x0 := hx.ob.c 0 _ rfl
 have x4 := hx.ob.c 4 _ rfl
 have hG0 := c_OutGone p.tags o.ln x0 x4 (by omega)
 have hD : ∀ s1, dropN ref p o s1 = if o.ln = 1 then awNote 1 ref pb pq ps 0 s1 else s1 := by intro s1; unfold dropN; rw [hpb, hpq, hps]
 obtain ⟨y, hy⟩ : ∃ y, y = outStep p s o := ⟨_, rfl⟩
 rw [← hy] at hHS hln ⊢
 obtain ⟨s1, o1⟩ := y
 dsimp only at hHS hln ⊢
 have HT := Lib.hid (show p.tags ≠ 0 by omega)
 rw [hD, ← hpb, ← hpq, ← hps]
 have HK := Lib.hid (show 5 ≤ k by omega)
 have EA := Lib.hid eA
 have TA := Lib.hid tA
 clear hP hU hp ho w0 w1 hhi n0 n1 x0 x4 hy hpb hpq hps hD ht hb hx eA tA hk
 rcases hc with q | q | q
 · rw [q] at hG0 hHS hln
   rw [if_neg (by omega)]
   have hG0 : Calls Tryz.prog 169 #[.pointer (some ⟨u, 0, none⟩)] (w.alloc (.cells #[.pointer (some ⟨u, 0, none⟩), .int .i64 ref, .int .i64 pb, .int .i64 pq, .int .i64 ps] 266)) fun e w' => e = .returned (.bool false) ∧ (w.alloc (.cells #[.pointer (some ⟨u, 0, none⟩), .int .i64 ref, .int .i64 pb, .int .i64 pq, .int .i64 ps] 266)) = w' := hG0
   have hHS : Calls Tryz.prog 171 #[.pointer (some ⟨u, 0, none⟩), .pointer (some ⟨B.p, 0, none⟩)] (w.alloc (.cells #[.pointer (some ⟨u, 0, none⟩), .int .i64 ref, .int .i64 pb, .int .i64 pq, .int .i64 ps] 266)) (RP (SX k k) (w.alloc (.cells #[.pointer (some ⟨u, 0, none⟩), .int .i64 ref, .int .i64 pb, .int .i64 pq, .int .i64 ps] 266)) O (.bool false) fun W G => PW W G B f s1 ∧ OutAt W G k u p o1) := hHS
   rw [show (o.ln == 2) = false by rw [q]; rfl]
   have HS := Lib.hid hHS
   have HG0 := Lib.hid hG0
   have HL := Lib.hid hln
   clear hHS hG0 hln q
   go_enter Tryz.func178, Tryz.ntmps178
   go_wp2_with fail
   refine HG0.out.mono ?_
   rintro e w' ⟨rfl, rfl⟩
   go_wp2_with fail
   refine HS.out.mono ?_
   rintro e w1 ⟨rfl, G1, e1, P1, r1⟩
   have hG1 := c_OutGone p.tags o1.ln (r1.ob.c 0 _ rfl) (r1.ob.c 4 _ rfl) HT.out
   rw [HL.out] at hG1
   have hG1 : Calls Tryz.prog 169 #[.pointer (some ⟨u, 0, none⟩)] w1 fun e w' => e = .returned (.bool false) ∧ w1 = w' := hG1
   have HG1 := Lib.hid hG1
   have TT := TA.out.ext e1 (by have := HK.out; unfold SX; omega)
   have H1 := Lib.hid (And.intro (EA.out.trans e1) (And.intro P1 r1))
   have t0 := TT.c 0 _ rfl
   have t1 := TT.c 1 _ rfl
   have t2 := TT.c 2 _ rfl
   have t3 := TT.c 3 _ rfl
   have t4 := TT.c 4 _ rfl
   clear e1 P1 r1 hG1 HG0 HS TT
   go_wp2_with fail
   refine HG1.out.mono ?_
   rintro e w' ⟨rfl, rfl⟩
   go_wp2_with fail
   go_ret
   exact ⟨rfl, G1, H1.out.1, H1.out.2.1, H1.out.2.2⟩
 · rw [q] at hG0 hHS hln
   rw [if_pos q]
   have hG0 : Calls Tryz.prog 169 #[.pointer (some ⟨u, 0, none⟩)] (w.alloc (.cells #[.pointer (some ⟨u, 0, none⟩), .int .i64 ref, .int .i64 pb, .int .i64 pq, .int .i64 ps] 266)) fun e w' => e = .returned (.bool false) ∧ (w.alloc (.cells #[.pointer (some ⟨u, 0, none⟩), .int .i64 ref, .int .i64 pb, .int .i64 pq, .int .i64 ps] 266)) = w' := hG0
   have hHS : Calls Tryz.prog 171 #[.pointer (some ⟨u, 0, none⟩), .pointer (some ⟨B.p, 0, none⟩)] (w.alloc (.cells #[.pointer (some ⟨u, 0, none⟩), .int .i64 ref, .int .i64 pb, .int .i64 pq, .int .i64 ps] 266)) (RP (SX k k) (w.alloc (.cells #[.pointer (some ⟨u, 0, none⟩), .int .i64 ref, .int .i64 pb, .int .i64 pq, .int .i64 ps] 266)) O (.bool false) fun W G => PW W G B f s1 ∧ OutAt W G k u p o1) := hHS
   rw [show (o.ln == 2) = false by rw [q]; rfl]
   have HS := Lib.hid hHS
   have HG0 := Lib.hid hG0
   have HL := Lib.hid hln
   clear hHS hG0 hln q
   go_enter Tryz.func178, Tryz.ntmps178
   go_wp2_with fail
   refine HG0.out.mono ?_
   rintro e w' ⟨rfl, rfl⟩
   go_wp2_with fail
   refine HS.out.mono ?_
   rintro e w1 ⟨rfl, G1, e1, P1, r1⟩
   have hG1 := c_OutGone p.tags o1.ln (r1.ob.c 0 _ rfl) (r1.ob.c 4 _ rfl) HT.out
   rw [HL.out] at hG1
   have hG1 : Calls Tryz.prog 169 #[.pointer (some ⟨u, 0, none⟩)] w1 fun e w' => e = .returned (.bool true) ∧ w1 = w' := hG1
   have HG1 := Lib.hid hG1
   have TT := TA.out.ext e1 (by have := HK.out; unfold SX; omega)
   have H1 := Lib.hid (And.intro (EA.out.trans e1) (And.intro P1 r1))
   have HNO := Lib.hid (c_WNote 1 ref pb pq ps 0 P1 e1.hi (by decide) (by decide))
   have t0 := TT.c 0 _ rfl
   have t1 := TT.c 1 _ rfl
   have t2 := TT.c 2 _ rfl
   have t3 := TT.c 3 _ rfl
   have t4 := TT.c 4 _ rfl
   clear e1 P1 r1 hG1 HG0 HS TT
   go_wp2_with fail
   refine HG1.out.mono ?_
   rintro e w' ⟨rfl, rfl⟩
   go_wp2_with fail
   refine HNO.out.mono ?_
   rintro e w2 ⟨rfl, G2, e2, P2⟩
   have H2 := Lib.hid (And.intro (H1.out.1.trans (e2.mono (T := SX k k) fun t _ h => .inl h)) (And.intro P2 (H1.out.2.2.ext e2 (by have := HK.out; unfold SW; omega))))
   clear e2 P2
   go_wp2_with fail
   go_ret
   exact ⟨rfl, G2, H2.out.1, H2.out.2.1, H2.out.2.2⟩
 · rw [q] at hG0 hHS hln
   rw [if_neg (by omega)]
   have hG0 : Calls Tryz.prog 169 #[.pointer (some ⟨u, 0, none⟩)] (w.alloc (.cells #[.pointer (some ⟨u, 0, none⟩), .int .i64 ref, .int .i64 pb, .int .i64 pq, .int .i64 ps] 266)) fun e w' => e = .returned (.bool true) ∧ (w.alloc (.cells #[.pointer (some ⟨u, 0, none⟩), .int .i64 ref, .int .i64 pb, .int .i64 pq, .int .i64 ps] 266)) = w' := hG0
   have hHS : Calls Tryz.prog 171 #[.pointer (some ⟨u, 0, none⟩), .pointer (some ⟨B.p, 0, none⟩)] (w.alloc (.cells #[.pointer (some ⟨u, 0, none⟩), .int .i64 ref, .int .i64 pb, .int .i64 pq, .int .i64 ps] 266)) (RP (SX k k) (w.alloc (.cells #[.pointer (some ⟨u, 0, none⟩), .int .i64 ref, .int .i64 pb, .int .i64 pq, .int .i64 ps] 266)) O (.bool true) fun W G => PW W G B f s1 ∧ OutAt W G k u p o1) := hHS
   rw [show (o.ln == 2) = true by rw [q]; rfl]
   have HS := Lib.hid hHS
   have HG0 := Lib.hid hG0
   have HL := Lib.hid hln
   clear hHS hG0 hln q
   go_enter Tryz.func178, Tryz.ntmps178
   go_wp2_with fail
   refine HG0.out.mono ?_
   rintro e w' ⟨rfl, rfl⟩
   go_wp2_with fail
   refine HS.out.mono ?_
   rintro e w1 ⟨rfl, G1, e1, P1, r1⟩
   have hG1 := c_OutGone p.tags o1.ln (r1.ob.c 0 _ rfl) (r1.ob.c 4 _ rfl) HT.out
   rw [HL.out] at hG1
   have hG1 : Calls Tryz.prog 169 #[.pointer (some ⟨u, 0, none⟩)] w1 fun e w' => e = .returned (.bool true) ∧ w1 = w' := hG1
   have HG1 := Lib.hid hG1
   have TT := TA.out.ext e1 (by have := HK.out; unfold SX; omega)
   have H1 := Lib.hid (And.intro (EA.out.trans e1) (And.intro P1 r1))
   have t0 := TT.c 0 _ rfl
   have t1 := TT.c 1 _ rfl
   have t2 := TT.c 2 _ rfl
   have t3 := TT.c 3 _ rfl
   have t4 := TT.c 4 _ rfl
   clear e1 P1 r1 hG1 HG0 HS TT
   go_wp2_with fail
   refine HG1.out.mono ?_
   rintro e w' ⟨rfl, rfl⟩
   go_wp2_with fail
   go_ret
   exact ⟨rfl, G1, H1.out.1, H1.out.2.1, H1.out.2.2⟩
theorem c_MvFail {now tag ref lost : Int} {p : Spt} {lv : Value} {d : Nat} {ds : List Value} (hP : PW w O B f s) (hx : Ob w O k X (mvCs now p lv tag ref lost)) (hS : Sls w O (k + 1) 1 lv 1 [IAct d]) (hd : Ob w O (k + 2) d ds) (hl0 : 0 ≤ lost) (hl1 : lost ≤ 1000000) (hk : 10 ≤ k) (hhi : ∀ j, O j ≠ 0 → j < w.heap.size) (n0 : 0 ≤ s.n) (n1 : s.n ≤ 4611686018427387904) :
 Calls Tryz.prog 161 #[.pointer (some ⟨X, 0, none⟩), .pointer (some ⟨B.p, 0, none⟩)] w fun e w' => e = .returned (.tuple #[]) ∧ ∃ G, Ext (SX k k) O w G w' ∧ PW w' G B f (awNote 2 ref p.b p.q p.s 0 (awAdd 6 18446744073709551615 s)) ∧ Ob w' G k X (mvCs now p lv tag ref (lost + 1)) ∧ Sls w' G (k + 1) 1 lv 1 [IAct d] ∧ Ob w' G (k + 2) d ds := by
 have HX := Lib.hid (And.intro hx (And.intro hS hd))
 have HA := Lib.hid (c_AddP 6 18446744073709551615 hP hhi (by decide) (by decide) (by decide) (by decide) n0 n1)
 have p0 := hP.wo.c0
 have HK := Lib.hid hk
 clear hP hx hS hd hhi n0 n1 hk
 go_enter Tryz.func161, Tryz.ntmps161
 go_wp2_with fail
 refine HA.out.mono ?_
 rintro e w1 ⟨rfl, G1, e1, P1⟩
 have hk := HK.out
 have hx1 := HX.out.1.ext e1 (by unfold SW; omega)
 have H1 := Lib.hid (And.intro e1 (And.intro P1 (And.intro hx1 (And.intro (HX.out.2.1.ext e1 (by unfold SW; omega)) (HX.out.2.2.ext e1 (by unfold SW; omega))))))
 have x1 := hx1.c 1 _ rfl
 have x2 := hx1.c 2 _ rfl
 have x3 := hx1.c 3 _ rfl
 have x6 := hx1.c 6 _ rfl
 have x7 := hx1.c 7 _ rfl
 clear e1 P1 hx1 p0 HA hk HX
 go_upto_region 30 with fail
 go_region_held3 (fun w' => w'.cell? ⟨X, 1, none⟩ = some (.int .i64 p.b) ∧ w'.cell? ⟨X, 2, none⟩ = some (.int .i64 p.q) ∧ w'.cell? ⟨X, 3, none⟩ = some (.int .i64 p.s) ∧ w'.cell? ⟨X, 6, none⟩ = some (.int .i64 ref)) (go_keep)
  ((go_at_call 96
    refine (c_WNote 2 ref p.b p.q p.s 0 (w := w1.drew) (H1.out.2.1.below H1.out.1.hi (drew_below w1)) (H1.out.1.below (drew_below w1)).hi (by decide) (by decide)).mono ?_
    rintro e w2 ⟨rfl, G2, e2, P2⟩
    have hk := HK.out
    have X2 := (H1.out.2.2.1.below (drew_below w1)).ext e2 (by unfold SW; omega)
    have H2 := Lib.hid (And.intro ((H1.out.1.below (drew_below w1)).trans e2) (And.intro P2 (And.intro X2 (And.intro ((H1.out.2.2.2.1.below (drew_below w1)).ext e2 (by unfold SW; omega)) ((H1.out.2.2.2.2.below (drew_below w1)).ext e2 (by unfold SW; omega))))))
    have z1 := X2.c 1 _ rfl
    have z2 := X2.c 2 _ rfl
    have z3 := X2.c 3 _ rfl
    have z6 := X2.c 6 _ rfl
    clear e2 P2 X2 hk))
 all_goals
  have y7 := H2.out.2.2.1.c 7 _ rfl
  have f7 := H2.out.2.2.1.f 7
  clear x1 x2 x3 x6 x7 z1 z2 z3 z6 H1
  go_wp2_with fail
  go_end0
  have hk := HK.out
  have e3 := ext_set (j := 7) (v := .int .i64 (lost + 1)) H2.out.1.hi H2.out.2.2.1 hk
  exact ⟨rfl, G2, (H2.out.1.mono (T := SX k k) fun t _ h => .inl h).trans (e3.mono fun t _ h => .inr (by omega)), H2.out.2.1.ext e3 (by omega) (by omega) (by omega) (by omega), H2.out.2.2.1.set 7 (.int .i64 (lost + 1)) (by simp [mvCs]), H2.out.2.2.2.1.ext e3 (by omega), H2.out.2.2.2.2.ext e3 (by omega)⟩
end
end
section
set_option linter.unusedVariables false
set_option maxHeartbeats 2000000
set_option maxRecDepth 100000
open Go.RowKit Go.Shelf
section
variable {X : Nat} {w : World} {O : Om} {B : Wb} {f : Cf} {s : AW} {k : Nat}
theorem mk8b {z : Mvm} {s1 : AW} {W : World} {G : Om} {lv : Value} {m1 u m2 d : Nat} (h8 : 8 ≤ z.ln) (e : Ext (SX k (k + 24)) O w G W) (hP : PW W G B f s1) (x : Ob W G k X (mvCs z.now z.p lv z.tag z.ref z.lost)) (l : Sls W G (k + 1) 1 lv (12 - z.ln).toNat ([IMark m1, IDrop u z.ref z.p, IMark m2, IAct d].drop (z.ln - 8).toNat))
 (a1 : z.ln = 8 → MkAt W G (k + 19) m1 [z.p.ver]) (a2 : z.ln ≤ 9 → OutAt W G (k + 21) u z.p z.o) (a3 : z.ln ≤ 10 → MkAt W G (k + 23) m2 [z.p.ver]) (a4 : Ob W G (k + 2) d [FAILM X, .bool false]) : MvPost w O B f k X (s1, z) W :=
 ⟨G, e, hP, z.p, lv, x, fun _ => rfl, ⟨fun g => by (dsimp only at g; omega), fun g => by (dsimp only at g; omega), fun g => by (dsimp only at g; omega), fun g => by (dsimp only at g; omega), fun g => by (dsimp only at g; omega), fun _ => ⟨m1, u, m2, d, l, a1, a2, a3, a4⟩⟩⟩
theorem c_Mv8 {z : Mvm} (mo : Int) (hz : MvOk z) (hP : PW w O B f s) (hM : MvAt w O k X z) (hl : z.ln = 8) (hk : 10 ≤ k) (hhi : ∀ j, O j ≠ 0 → j < w.heap.size) (n0 : 0 ≤ s.n) (n1 : s.n ≤ 4611686018427387904) :
 Calls Tryz.prog 137 #[.pointer (some ⟨X, 0, none⟩), .pointer (some ⟨B.p, 0, none⟩)] w (RP (SX k (k + 24)) w O (.bool (mvOver (mvStep mo (s, z)).2)) fun W G => PW W G B f (mvStep mo (s, z)).1 ∧ MvAt W G k X (mvStep mo (s, z)).2) := by
 rw [mvStep_8 mo s z hl]
 have hp := hz.p (by omega)
 have hv := hp.ver
 have ho := hz.o0 (.inr hl)
 obtain ⟨p, lv, hx, hpp, hparts⟩ := hM.ex
 obtain rfl := hpp (by omega)
 clear hz hM hpp
 obtain ⟨ln, lost, now, p, tag, ref, rm, dd, m, o, u⟩ := z
 dsimp only at *
 subst hl
 subst ho
 obtain ⟨m1, u', m2, d, hS, b1, b2, b3, b4⟩ := hparts.2.2.2.2.2 (by (dsimp only; omega))
 dsimp only at hS b1 b2 b3 b4
 have b1 := b1 rfl
 have b2 := b2 (by decide)
 have b3 := b3 (by decide)
 obtain ⟨A, off, c, rfl, hc1, hc2⟩ := hS.open (by decide)
 have a0 := hS.c 0 _ rfl
 rw [Nat.add_zero] at a0
 have HA := c_MkStep p.ver [] (k + 19) hP b1 (by simp) (by omega) hhi (by omega) (by omega) n0 n1
 have HA2 := HA.mono (fun e w' h => (⟨_, h.1, h.2⟩ : ∃ v, e = .returned v ∧ _))
 refine (c_MvStepG (n := 3) (Q2 := MvPost w O B f k X (awAdd p.ver 1 s, ⟨9, lost, now, p, tag, ref, rm, dd, [], ⟨0, 0⟩, u⟩)) (hx.c 4 _ rfl) a0 (m_MkStep _) (run_enter Tryz.func168 (by kernel_rfl) (by kernel_rfl)) HA2 ?_ (fun w2 h2 => h2.left (by dsimp only; omega) (by dsimp only; omega))).mono fun e w' h => MvPost.step h
 rintro w1 ⟨G1, e1, P1, k1⟩
 have E1 : Ext (SX k (k + 24)) O w G1 w1 := e1.mono fun t _ h => SX.mono (by omega) (by omega) h
 have x1 := hx.ext e1 (SX.not (by omega) (by omega))
 have s1 := hS.ext e1 (SX.not (by omega) (by omega))
 have c2 := b2.ext e1 (SX.not (by omega) (by omega))
 have c3 := b3.ext e1 (SX.not (by omega) (by omega)) (SX.not (by omega) (by omega))
 have c4 := b4.ext e1 (SX.not (by omega) (by omega))
 have hm := POver.mark (k := k) k1 ⟨by omega, by omega⟩
 have hou := POver.drop (k := k) (ref := ref) c2 hp (by dsimp only; omega) (by omega)
 refine (c_on1 (l := [IMark m2, IAct d]) x1 s1 hm hou hk E1.hi).mono ?_
 rintro e w2 ⟨rfl, G2, e2, rfl, lv2, x2, s2⟩
 exact ⟨rfl, mk8b (m1 := m1) (u := u') (by dsimp only; omega) (E1.trans (e2.mono fun t _ h => .inr (by omega))) (P1.ext e2 (by omega) (by omega) (by omega) (by omega)) x2 s2 (fun h => absurd h (by dsimp only; omega)) (fun _ => c2.ext e2 (by omega)) (fun _ => c3.ext e2 (by omega) (by omega)) (c4.ext e2 (by omega))⟩
theorem c_Mv9 {z : Mvm} (mo : Int) (hz : MvOk z) (hP : PW w O B f s) (hM : MvAt w O k X z) (hl : z.ln = 9) (hk : 10 ≤ k) (hhi : ∀ j, O j ≠ 0 → j < w.heap.size) (n0 : 0 ≤ s.n) (n1 : s.n ≤ 4611686018427387904) :
 Calls Tryz.prog 137 #[.pointer (some ⟨X, 0, none⟩), .pointer (some ⟨B.p, 0, none⟩)] w (RP (SX k (k + 24)) w O (.bool (mvOver (mvStep mo (s, z)).2)) fun W G => PW W G B f (mvStep mo (s, z)).1 ∧ MvAt W G k X (mvStep mo (s, z)).2) := by
 rw [mvStep_9 mo s z hl]
 have hp := hz.p (by omega)
 obtain ⟨ho, w0, w1⟩ := hz.o (.inr hl)
 obtain ⟨p, lv, hx, hpp, hparts⟩ := hM.ex
 obtain rfl := hpp (by omega)
 clear hz hM hpp
 obtain ⟨ln, lost, now, p, tag, ref, rm, dd, m, o, u⟩ := z
 dsimp only at *
 subst hl
 obtain ⟨m1, u', m2, d, hS, -, b2, b3, b4⟩ := hparts.2.2.2.2.2 (by (dsimp only; omega))
 dsimp only at hS b2 b3 b4
 have b2 := b2 (by decide)
 have b3 := b3 (by decide)
 obtain ⟨A, off, c, rfl, hc1, hc2⟩ := hS.open (by decide)
 have a0 := hS.c 0 _ rfl
 rw [Nat.add_zero] at a0
 have HA := c_DropStep ref o hP b2 hp ho w0 w1 (show 10 ≤ k + 21 by omega) hhi n0 n1
 have HA2 := HA.mono (fun e w' h => (⟨_, h.1, h.2⟩ : ∃ v, e = .returned v ∧ _))
 have hln := outStep_ln p s o ho
 have hdN : (if o.ln = 1 then awNote 1 ref p.b p.q p.s 0 (outStep p s o).1 else (outStep p s o).1) = dropN ref p o (outStep p s o).1 := rfl
 rw [hdN]
 obtain ⟨y, hy⟩ : ∃ y, y = outStep p s o := ⟨_, rfl⟩
 rw [← hy] at HA2 hln ⊢
 obtain ⟨s0, o1⟩ := y
 dsimp only at HA2 hln ⊢
 obtain ⟨s1, hs1⟩ : ∃ s1, s1 = dropN ref p o s0 := ⟨_, rfl⟩
 rw [← hs1] at HA2 ⊢
 obtain ⟨z2, hz2⟩ : ∃ z2, z2 = (⟨if o.ln = 2 then 10 else 9, lost, now, p, tag, ref, rm, dd, if o.ln = 2 then [p.ver] else [], o1, u⟩ : Mvm) := ⟨_, rfl⟩
 rw [← hz2]
 have hzl : 9 ≤ z2.ln ∧ z2.ln ≤ 10 := by
  rw [hz2]; dsimp only; split <;> omega
 refine (c_MvStepG (n := 2) (Q2 := MvPost w O B f k X (s1, z2)) (hx.c 4 _ rfl) a0 (m_DrStep u' ref p.b p.q p.s) (run_enter Tryz.func178 (by kernel_rfl) (by kernel_rfl)) HA2 ?_ (fun w2 h2 => h2.left (by dsimp only; omega) (by dsimp only; omega))).mono fun e w' h => MvPost.step h
 rintro w1 ⟨G1, e1, P1, k1⟩
 have E1 : Ext (SX k (k + 24)) O w G1 w1 := e1.mono fun t _ h => SX.mono (by omega) (by omega) h
 have x1 := hx.ext e1 (SX.not (by omega) (by omega))
 have l1 := hS.ext e1 (SX.not (by omega) (by omega))
 have c3 := b3.ext e1 (SX.not (by omega) (by omega)) (SX.not (by omega) (by omega))
 have c4 := b4.ext e1 (SX.not (by omega) (by omega))
 have hou := POver.drop (k := k) (ref := ref) k1 hp (by omega) (by omega)
 have hm2 := POver.mark (k := k) c3 ⟨by omega, by omega⟩
 by_cases h1 : o.ln = 2
 · have b1 : (o1.ln == 3) = true := by rw [hln, h1]; rfl
   rw [b1] at hou
   rw [if_pos h1, if_pos h1] at hz2
   subst hz2
   refine (c_on1 (l := [IAct d]) x1 l1 hou hm2 hk E1.hi).mono ?_
   rintro e w2 ⟨rfl, G2, e2, rfl, lv2, x2, s2⟩
   exact ⟨rfl, mk8b (m1 := m1) (u := u') (by dsimp only; omega) (E1.trans (e2.mono fun t _ h => .inr (by omega))) (P1.ext e2 (by omega) (by omega) (by omega) (by omega)) x2 s2 (fun h => absurd h (by dsimp only; omega)) (fun h => absurd h (by dsimp only; omega)) (fun _ => c3.ext e2 (by omega) (by omega)) (c4.ext e2 (by omega))⟩
 · have b1 : (o1.ln == 3) = false := by rw [hln]; simp; omega
   rw [b1] at hou
   rw [if_neg h1, if_neg h1] at hz2
   subst hz2
   refine (c_on0 (l := [IMark m2, IAct d]) x1 l1 hou hk E1.hi).mono ?_
   rintro e w2 ⟨rfl, hb⟩
   exact ⟨rfl, mk8b (m1 := m1) (u := u') (by dsimp only; omega) (E1.below hb) (P1.below E1.hi hb) (x1.below hb) (l1.below hb) (fun h => absurd h (by dsimp only; omega)) (fun _ => k1.below hb) (fun _ => c3.below hb) (c4.below hb)⟩
theorem c_Mv10 {z : Mvm} (mo : Int) (hz : MvOk z) (hP : PW w O B f s) (hM : MvAt w O k X z) (hl : z.ln = 10) (hk : 10 ≤ k) (hhi : ∀ j, O j ≠ 0 → j < w.heap.size) (n0 : 0 ≤ s.n) (n1 : s.n ≤ 4611686018427387904) :
 Calls Tryz.prog 137 #[.pointer (some ⟨X, 0, none⟩), .pointer (some ⟨B.p, 0, none⟩)] w (RP (SX k (k + 24)) w O (.bool (mvOver (mvStep mo (s, z)).2)) fun W G => PW W G B f (mvStep mo (s, z)).1 ∧ MvAt W G k X (mvStep mo (s, z)).2) := by
 rw [mvStep_10 mo s z hl]
 have hp := hz.p (by omega)
 have hv := hp.ver
 obtain ⟨p, lv, hx, hpp, hparts⟩ := hM.ex
 obtain rfl := hpp (by omega)
 clear hz hM hpp
 obtain ⟨ln, lost, now, p, tag, ref, rm, dd, m, o, u⟩ := z
 dsimp only at *
 subst hl
 obtain ⟨m1, u', m2, d, hS, -, -, b3, b4⟩ := hparts.2.2.2.2.2 (by (dsimp only; omega))
 dsimp only at hS b3 b4
 have b3 := b3 (by decide)
 obtain ⟨A, off, c, rfl, hc1, hc2⟩ := hS.open (by decide)
 have a0 := hS.c 0 _ rfl
 rw [Nat.add_zero] at a0
 have HA := c_MkStep p.ver [] (k + 23) hP b3 (by simp) (by omega) hhi (by omega) (by omega) n0 n1
 have HA2 := HA.mono (fun e w' h => (⟨_, h.1, h.2⟩ : ∃ v, e = .returned v ∧ _))
 refine (c_MvStepG (n := 1) (Q2 := MvPost w O B f k X (awAdd p.ver 1 s, ⟨11, lost, now, p, tag, ref, rm, dd, [], o, u⟩)) (hx.c 4 _ rfl) a0 (m_MkStep _) (run_enter Tryz.func168 (by kernel_rfl) (by kernel_rfl)) HA2 ?_ (fun w2 h2 => h2.left (by dsimp only; omega) (by dsimp only; omega))).mono fun e w' h => MvPost.step h
 rintro w1 ⟨G1, e1, P1, k1⟩
 have E1 : Ext (SX k (k + 24)) O w G1 w1 := e1.mono fun t _ h => SX.mono (by omega) (by omega) h
 have x1 := hx.ext e1 (SX.not (by omega) (by omega))
 have s1 := hS.ext e1 (SX.not (by omega) (by omega))
 have c4 := b4.ext e1 (SX.not (by omega) (by omega))
 have hm := POver.mark (k := k) k1 ⟨by omega, by omega⟩
 have ha := POver.act (k := k) c4 (by omega)
 refine (c_on1 (l := []) x1 s1 hm ha hk E1.hi).mono ?_
 rintro e w2 ⟨rfl, G2, e2, rfl, lv2, x2, s2⟩
 exact ⟨rfl, mk8b (m1 := m1) (u := u') (m2 := m2) (by dsimp only; omega) (E1.trans (e2.mono fun t _ h => .inr (by omega))) (P1.ext e2 (by omega) (by omega) (by omega) (by omega)) x2 s2 (fun h => absurd h (by dsimp only; omega)) (fun h => absurd h (by dsimp only; omega)) (fun h => absurd h (by dsimp only; omega)) (c4.ext e2 (by omega))⟩
theorem c_Mv11 {z : Mvm} (mo : Int) (hz : MvOk z) (hlo : 0 ≤ z.lost ∧ z.lost ≤ 1000000) (hP : PW w O B f s) (hM : MvAt w O k X z) (hl : z.ln = 11) (hk : 10 ≤ k) (hhi : ∀ j, O j ≠ 0 → j < w.heap.size) (n0 : 0 ≤ s.n) (n1 : s.n ≤ 4611686018427387904) :
 Calls Tryz.prog 137 #[.pointer (some ⟨X, 0, none⟩), .pointer (some ⟨B.p, 0, none⟩)] w (RP (SX k (k + 24)) w O (.bool (mvOver (mvStep mo (s, z)).2)) fun W G => PW W G B f (mvStep mo (s, z)).1 ∧ MvAt W G k X (mvStep mo (s, z)).2) := by
 rw [mvStep_11 mo s z hl]
 have hp := hz.p (by omega)
 obtain ⟨p, lv, hx, hpp, hparts⟩ := hM.ex
 obtain rfl := hpp (by omega)
 clear hz hM hpp
 obtain ⟨m1, u', m2, d, hS, -, -, -, hd⟩ := hparts.2.2.2.2.2 (by omega)
 have hS : Sls w O (k + 1) 1 lv 1 [IAct d] := by rw [hl] at hS; exact hS
 obtain ⟨A, o, c, rfl, hc1, hc2⟩ := hS.open (by decide)
 have a0 := hS.c 0 _ rfl
 rw [Nat.add_zero] at a0
 have e0 := ext_set (j := 1) (v := .bool true) hhi hd (show 10 ≤ k + 2 by omega)
 have hd1 := hd.set 1 (.bool true) (by simp)
 have HT := c_MvFail (hP.ext e0 (by omega) (by omega) (by omega) (by omega)) (hx.ext e0 (by omega)) (hS.ext e0 (by omega)) hd1 hlo.1 hlo.2 hk e0.hi n0 n1
 have HA := c_ActStep hd (run_enter Tryz.func161 (by kernel_rfl) (by kernel_rfl)) HT
 have HA2 := HA.mono (fun e w' h => (⟨.bool true, h.1, h.2⟩ : ∃ v, e = .returned v ∧ _))
 refine (c_MvStepG (n := 0) (Q2 := MvPost w O B f k X (awNote 2 z.ref z.p.b z.p.q z.p.s 0 (awAdd 6 18446744073709551615 s), mvNext ⟨11, z.lost + 1, z.now, z.p, z.tag, z.ref, z.rm, z.d, z.m, z.o, z.u⟩)) (hx.c 4 _ rfl) a0 (m_ActStep _) (run_enter Tryz.func154 (by kernel_rfl) (by kernel_rfl)) HA2 ?_ (fun w2 h2 => h2.left (by rcases mvNext_ln ⟨11, z.lost + 1, z.now, z.p, z.tag, z.ref, z.rm, z.d, z.m, z.o, z.u⟩ with h | h <;> (dsimp only; omega)) (by rcases mvNext_ln ⟨11, z.lost + 1, z.now, z.p, z.tag, z.ref, z.rm, z.d, z.m, z.o, z.u⟩ with h | h <;> (dsimp only; omega)))).mono fun e w' h => MvPost.step h
 rintro w1 ⟨G1, e1, P1, x1, l1, q1⟩
 exact c_onNext (z := ⟨11, z.lost + 1, z.now, z.p, z.tag, z.ref, z.rm, z.d, z.m, z.o, z.u⟩) ((e0.mono (T := SX k (k + 24)) fun t _ h => .inr (by omega)).trans (e1.mono fun t _ h => SX.mono (by omega) (by omega) h)) P1 x1 l1 (POver.act q1 (by omega)) hp hk
theorem c_SeStepOn {d R : Nat} {z1 : Rmm} {s1 : AW} (hd : Ob w O (k + 3) d [.pointer (some ⟨X, 0, none⟩), .pointer (some ⟨R, 0, none⟩)])
 (HR : Calls Tryz.prog 156 #[.pointer (some ⟨R, 0, none⟩), .pointer (some ⟨B.p, 0, none⟩)] w (RP (SX (k + 4) (k + 18)) w O (.bool false) fun W G => PW W G B f s1 ∧ RoomAt W G (k + 4) R z1)) :
 Calls Tryz.prog 158 #[.pointer (some ⟨d, 0, none⟩), .pointer (some ⟨B.p, 0, none⟩)] w (RP (SX (k + 4) (k + 18)) w O (.bool false) fun W G => PW W G B f s1 ∧ RoomAt W G (k + 4) R z1) := by
 have HRR := Lib.hid HR
 have d0 := hd.c 0 _ rfl
 have d1 := hd.c 1 _ rfl
 clear hd HR
 go_enter Tryz.func158, Tryz.ntmps158
 go_wp2_with fail
 refine HRR.out.mono ?_
 rintro e w1 ⟨rfl, G1, e1, P1, r1'⟩
 have H1 := Lib.hid (And.intro e1 (And.intro P1 r1'))
 clear e1 P1 r1' d0 d1 HRR
 go_wp2_with fail
 go_ret
 exact ⟨rfl, G1, H1.out⟩
theorem c_Mv3o {z : Mvm} {s1 : AW} {rm1 : Rmm} (mo : Int) (hM : MvAt w O k X z) (hl : z.ln = 3) (hs : rmStep mo (s, z.rm) = (s1, rm1)) (h0 : rm1.ln ≠ 0)
 (HR : ∀ R, RoomAt w O (k + 4) R z.rm → Calls Tryz.prog 156 #[.pointer (some ⟨R, 0, none⟩), .pointer (some ⟨B.p, 0, none⟩)] w (RP (SX (k + 4) (k + 18)) w O (.bool false) fun W G => PW W G B f s1 ∧ RoomAt W G (k + 4) R rm1))
 (hk : 10 ≤ k) (hhi : ∀ j, O j ≠ 0 → j < w.heap.size) :
 Calls Tryz.prog 137 #[.pointer (some ⟨X, 0, none⟩), .pointer (some ⟨B.p, 0, none⟩)] w (RP (SX k (k + 24)) w O (.bool (mvOver (mvStep mo (s, z)).2)) fun W G => PW W G B f (mvStep mo (s, z)).1 ∧ MvAt W G k X (mvStep mo (s, z)).2) := by
 rw [mvStep_3 mo s z hl, hs]
 dsimp only
 rw [if_neg h0]
 obtain ⟨p, lv, hx, hpp, hparts⟩ := hM.ex
 obtain rfl := hpp (by omega)
 obtain ⟨d, R, hS, hd, hr⟩ := hparts.2.2.2.1 hl
 obtain ⟨A, o, c, rfl, hc1, hc2⟩ := hS.open (by decide)
 have a0 := hS.c 0 _ rfl
 rw [Nat.add_zero] at a0
 have HA := c_SeStepOn hd (HR R hr)
 have HA2 := HA.mono (fun e w' h => (⟨.bool false, h.1, h.2⟩ : ∃ v, e = .returned v ∧ _))
 refine (c_MvStepG (n := 0) (Q2 := MvPost w O B f k X (s1, ⟨3, z.lost, z.now, z.p, z.tag, z.ref, rm1, z.d, z.m, z.o, z.u⟩)) (hx.c 4 _ rfl) a0 (m_SeStep _) (run_enter Tryz.func158 (by kernel_rfl) (by kernel_rfl)) HA2 ?_ (fun w2 h2 => h2.left (by dsimp only; omega) (by dsimp only; omega))).mono fun e w' h => MvPost.step h
 rintro w1 ⟨G1, e1, P1, r1'⟩
 have E1 : Ext (SX k (k + 24)) O w G1 w1 := e1.mono fun t _ h => SX.mono (by omega) (by omega) h
 have x1 := hx.ext e1 (SX.not (by omega) (by omega))
 have l1 := hS.ext e1 (SX.not (by omega) (by omega))
 have d1 := hd.ext e1 (SX.not (by omega) (by omega))
 have ho := POver.search (k := k) d1 r1' (by omega) (by omega)
 have h0b : (rm1.ln == 0) = false := by simp; omega
 rw [h0b] at ho
 refine (c_on0 (l := []) x1 l1 ho hk E1.hi).mono ?_
 rintro e w2 ⟨rfl, hb⟩
 exact ⟨rfl, G1, E1.below hb, P1.below E1.hi hb, z.p, _, x1.below hb, fun _ => rfl, ⟨fun g => absurd g (by dsimp only; omega), fun g => absurd g (by dsimp only; omega), fun g => absurd g (by dsimp only; omega), fun _ => ⟨d, R, l1.below hb, d1.below hb, r1'.below hb⟩, fun g => absurd g (by dsimp only; omega), fun g => absurd g (by dsimp only; omega)⟩⟩
end
end
end Go.Proofs.YtfnmdafpdcgcmaaGreat
