/- Parts of the walk. -/
import Derived.Test.YthbodknlhkapdaaGreatG4
import Derived.Test.YthbodknlhkapdaaGreatG6
import Derived.Test.YthbodknlhkapdaaGreatW5
import Derived.Test.YthbodknlhkapdaaGreatG1
import Derived.Test.YthbodknlhkapdaaGreatBaG
namespace Go.Proofs.YthbodknlhkapdaaGreat
set_option linter.unusedVariables false
set_option linter.unusedSimpArgs false
set_option maxHeartbeats 20000000
set_option maxRecDepth 100000
section
open Go.RowKit Go.Shelf
theorem Ava (u : Nat) (ref b q sl : Int) (w : World) : (method 464 354 (.agg #[.pointer (some ⟨u, 0, none⟩), .int .i64 ref, .int .i64 b, .int .i64 q, .int .i64 sl]) "Over").run Tryz.prog w = .ok (251, .pointer (some ⟨u, 0, none⟩)) w := by kernel_rfl
theorem Au9 (u : Nat) (ref b q sl : Int) (w : World) : (method 464 354 (.agg #[.pointer (some ⟨u, 0, none⟩), .int .i64 ref, .int .i64 b, .int .i64 q, .int .i64 sl]) "Step").run Tryz.prog w = .ok (267, .agg #[.pointer (some ⟨u, 0, none⟩), .int .i64 ref, .int .i64 b, .int .i64 q, .int .i64 sl]) w := by kernel_rfl
def Ask (ref : Int) (p : Spt) (o : Otm) (s : AW) : AW := if o.ln = 1 then Abr 1 ref p.b p.q p.s 0 s else s
section
variable {X : Nat} {w : World} {O : Om} {B : Wb} {f : Cf} {s : AW} {k : Nat}
theorem Aa4.drop {u g : Nat} {p : Spt} {ref : Int} {o : Otm} (h : Abx w O g u p o) (hp : p.ok) (ho : o.ln ≤ 3) (hg : g ≠ k) : Aa4 w O k (Amw u ref p) (o.ln == 3) := by
 refine ⟨_, _, _, _, rfl, Ava u ref p.b p.q p.s, Aao Tryz.func251 (by kernel_rfl) (by kernel_rfl), fun W hW => ?_⟩
 have h2 := h.ext hW hg
 have ht := hp.tags
 exact Ac5 p.tags o.ln (h2.ob.c 0 _ rfl) (h2.ob.c 4 _ rfl) (by omega) ho
theorem Aq7 {u : Nat} (ref : Int) {p : Spt} (o : Otm) (hP : PW w O B f s) (hU : Abx w O k u p o) (hp : p.ok) (ho : o.ln < 3) (w0 : 0 ≤ o.w) (w1 : o.w < 18446744073709551616) (hk : 10 ≤ k) (hhi : Hh O w) (n0 : 0 ≤ s.n) (n1 : s.n ≤ 4611686018427387904) :
 Calls Tryz.prog 267 #[.agg #[.pointer (some ⟨u, 0, none⟩), .int .i64 ref, .int .i64 p.b, .int .i64 p.q, .int .i64 p.s], .pointer (some ⟨B.p, 0, none⟩)] w (RP (SX k k) w O (.bool (o.ln == 2)) fun W G => PW W G B f (Ask ref p o (Aaj p s o).1) ∧ Abx W G k u p (Aaj p s o).2) := by
 have ht := hp.tags
 obtain ⟨pb, hpb⟩ := exq p.b
 obtain ⟨pq, hpq⟩ := exq p.q
 obtain ⟨ps, hps⟩ := exq p.s
 have hln := Ab5 p s o ho
 have hc : o.ln = 0 ∨ o.ln = 1 ∨ o.ln = 2 := by omega
 have hb := bal w (.cells #[.pointer (some ⟨u, 0, none⟩), .int .i64 ref, .int .i64 pb, .int .i64 pq, .int .i64 ps] 354)
 obtain ⟨eA, tA⟩ := Aau (S := SX k k) hhi #[.pointer (some ⟨u, 0, none⟩), .int .i64 ref, .int .i64 pb, .int .i64 pq, .int .i64 ps] 354 w.heap.size rfl
 have hHS := Aiy o (hP.below hhi hb) (hU.below hb) hp ho w0 w1 hk eA.hi n0 n1
 have hx := hU.below hb
 obtain ⟨x0, -, -, -, x4⟩ := hx.ob.c5
 have hG0 := Af9 p.tags o.ln x0 x4 (by omega)
 have hD : ∀ s1, Ask ref p o s1 = if o.ln = 1 then Abr 1 ref pb pq ps 0 s1 else s1 := by intro s1; unfold Ask; rw [hpb, hpq, hps]
 obtain ⟨y, hy⟩ := exq (Aaj p s o)
 rw [← hy] at hHS hln ⊢
 obtain ⟨s1, o1⟩ := y
 dsimp only at hHS hln ⊢
 have HT := hQd (show p.tags ≠ 0 by omega)
 rw [hD, ← hpb, ← hpq, ← hps]
 have HK := hQd (show 5 ≤ k by omega)
 have EA := hQd eA
 have TA := hQd tA
 clear hP hU hp ho w0 w1 hhi n0 n1 x0 x4 hy hpb hpq hps hD ht hb hx eA tA hk
 rcases hc with q | q | q
 · rw [q] at hG0 hHS hln
   rw [if_neg (by omega)]
   have hG0 : C1 250 u (w.alloc (.cells #[.pointer (some ⟨u, 0, none⟩), .int .i64 ref, .int .i64 pb, .int .i64 pq, .int .i64 ps] 354)) fun e w' => e = .returned (.bool false) ∧ (w.alloc (.cells #[.pointer (some ⟨u, 0, none⟩), .int .i64 ref, .int .i64 pb, .int .i64 pq, .int .i64 ps] 354)) = w' := hG0
   have hHS : C2 252 u B.p (w.alloc (.cells #[.pointer (some ⟨u, 0, none⟩), .int .i64 ref, .int .i64 pb, .int .i64 pq, .int .i64 ps] 354)) (RP (SX k k) (w.alloc (.cells #[.pointer (some ⟨u, 0, none⟩), .int .i64 ref, .int .i64 pb, .int .i64 pq, .int .i64 ps] 354)) O (.bool false) fun W G => PW W G B f s1 ∧ Abx W G k u p o1) := hHS
   rw [show (o.ln == 2) = false by rw [q]; rfl]
   have HS := hQd hHS
   have HG0 := hQd hG0
   have HL := hQd hln
   clear hHS hG0 hln q
   go_enter Tryz.func267, Tryz.ntmps267
   go_wp2_with fail
   refine HG0.out.mono ?_
   rintro e w' ⟨rfl, rfl⟩
   go_wp2_with fail
   refine HS.out.mono ?_
   rintro e w1 ⟨rfl, G1, e1, P1, r1⟩
   have hG1 := Af9 p.tags o1.ln (r1.ob.c 0 _ rfl) (r1.ob.c 4 _ rfl) HT.out
   rw [HL.out] at hG1
   have hG1 : C1 250 u w1 fun e w' => e = .returned (.bool false) ∧ w1 = w' := hG1
   have HG1 := hQd hG1
   have TT := TA.out.ext e1 (by have := HK.out; unfold SX; omega)
   have H1 := hQd (aN (EA.out.trans e1) (aN P1 r1))
   obtain ⟨t0, t1, t2, t3, t4⟩ := TT.c5
   clear e1 P1 r1 hG1 HG0 HS TT
   go_wp2_with fail
   refine HG1.out.mono ?_
   rintro e w' ⟨rfl, rfl⟩
   go_wp2_with fail
   go_ret
   exact ⟨rfl, G1, H1.out.1, H1.out.2.1, H1.out.2.2⟩
 · rw [q] at hG0 hHS hln
   rw [if_pos q]
   have hG0 : C1 250 u (w.alloc (.cells #[.pointer (some ⟨u, 0, none⟩), .int .i64 ref, .int .i64 pb, .int .i64 pq, .int .i64 ps] 354)) fun e w' => e = .returned (.bool false) ∧ (w.alloc (.cells #[.pointer (some ⟨u, 0, none⟩), .int .i64 ref, .int .i64 pb, .int .i64 pq, .int .i64 ps] 354)) = w' := hG0
   have hHS : C2 252 u B.p (w.alloc (.cells #[.pointer (some ⟨u, 0, none⟩), .int .i64 ref, .int .i64 pb, .int .i64 pq, .int .i64 ps] 354)) (RP (SX k k) (w.alloc (.cells #[.pointer (some ⟨u, 0, none⟩), .int .i64 ref, .int .i64 pb, .int .i64 pq, .int .i64 ps] 354)) O (.bool false) fun W G => PW W G B f s1 ∧ Abx W G k u p o1) := hHS
   rw [show (o.ln == 2) = false by rw [q]; rfl]
   have HS := hQd hHS
   have HG0 := hQd hG0
   have HL := hQd hln
   clear hHS hG0 hln q
   go_enter Tryz.func267, Tryz.ntmps267
   go_wp2_with fail
   refine HG0.out.mono ?_
   rintro e w' ⟨rfl, rfl⟩
   go_wp2_with fail
   refine HS.out.mono ?_
   rintro e w1 ⟨rfl, G1, e1, P1, r1⟩
   have hG1 := Af9 p.tags o1.ln (r1.ob.c 0 _ rfl) (r1.ob.c 4 _ rfl) HT.out
   rw [HL.out] at hG1
   have hG1 : C1 250 u w1 fun e w' => e = .returned (.bool true) ∧ w1 = w' := hG1
   have HG1 := hQd hG1
   have TT := TA.out.ext e1 (by have := HK.out; unfold SX; omega)
   have H1 := hQd (aN (EA.out.trans e1) (aN P1 r1))
   have HNO := hQd (Ak3 1 ref pb pq ps 0 P1 e1.hi (by decide) (by decide))
   obtain ⟨t0, t1, t2, t3, t4⟩ := TT.c5
   clear e1 P1 r1 hG1 HG0 HS TT
   go_wp2_with fail
   refine HG1.out.mono ?_
   rintro e w' ⟨rfl, rfl⟩
   go_wp2_with fail
   refine HNO.out.mono ?_
   rintro e w2 ⟨rfl, G2, e2, P2⟩
   have H2 := hQd (aN (H1.out.1.trans (e2.mono (T := SX k k) fun t _ h => .inl h)) (aN P2 (H1.out.2.2.ext e2 (by have := HK.out; unfold SW; omega))))
   clear e2 P2
   go_wp2_with fail
   go_ret
   exact ⟨rfl, G2, H2.out.1, H2.out.2.1, H2.out.2.2⟩
 rw [q] at hG0 hHS hln
 rw [if_neg (by omega)]
 have hG0 : C1 250 u (w.alloc (.cells #[.pointer (some ⟨u, 0, none⟩), .int .i64 ref, .int .i64 pb, .int .i64 pq, .int .i64 ps] 354)) fun e w' => e = .returned (.bool true) ∧ (w.alloc (.cells #[.pointer (some ⟨u, 0, none⟩), .int .i64 ref, .int .i64 pb, .int .i64 pq, .int .i64 ps] 354)) = w' := hG0
 have hHS : C2 252 u B.p (w.alloc (.cells #[.pointer (some ⟨u, 0, none⟩), .int .i64 ref, .int .i64 pb, .int .i64 pq, .int .i64 ps] 354)) (RP (SX k k) (w.alloc (.cells #[.pointer (some ⟨u, 0, none⟩), .int .i64 ref, .int .i64 pb, .int .i64 pq, .int .i64 ps] 354)) O (.bool true) fun W G => PW W G B f s1 ∧ Abx W G k u p o1) := hHS
 rw [show (o.ln == 2) = true by rw [q]; rfl]
 have HS := hQd hHS
 have HG0 := hQd hG0
 have HL := hQd hln
 clear hHS hG0 hln q
 go_enter Tryz.func267, Tryz.ntmps267
 go_wp2_with fail
 refine HG0.out.mono ?_
 rintro e w' ⟨rfl, rfl⟩
 go_wp2_with fail
 refine HS.out.mono ?_
 rintro e w1 ⟨rfl, G1, e1, P1, r1⟩
 have hG1 := Af9 p.tags o1.ln (r1.ob.c 0 _ rfl) (r1.ob.c 4 _ rfl) HT.out
 rw [HL.out] at hG1
 have hG1 : C1 250 u w1 fun e w' => e = .returned (.bool true) ∧ w1 = w' := hG1
 have HG1 := hQd hG1
 have TT := TA.out.ext e1 (by have := HK.out; unfold SX; omega)
 have H1 := hQd (aN (EA.out.trans e1) (aN P1 r1))
 obtain ⟨t0, t1, t2, t3, t4⟩ := TT.c5
 clear e1 P1 r1 hG1 HG0 HS TT
 go_wp2_with fail
 refine HG1.out.mono ?_
 rintro e w' ⟨rfl, rfl⟩
 go_wp2_with fail
 go_ret
 exact ⟨rfl, G1, H1.out.1, H1.out.2.1, H1.out.2.2⟩
theorem Awc {now tag ref lost : Int} {p : Spt} {lv : Value} {d : Nat} {ds : List Value} (hP : PW w O B f s) (hx : Ob w O k X (Ac6 now p lv tag ref lost)) (hS : Sls w O (k + 1) 1 lv 1 [Afo d]) (hd : Ob w O (k + 2) d ds) (hl0 : 0 ≤ lost) (hl1 : lost ≤ 1000000) (hk : 10 ≤ k) (hhi : Hh O w) (n0 : 0 ≤ s.n) (n1 : s.n ≤ 4611686018427387904) :
 C2 242 X B.p w fun e w' => e = .returned (.tuple #[]) ∧ ∃ G, Ext (SX k k) O w G w' ∧ PW w' G B f (Abr 2 ref p.b p.q p.s 0 (Ab0 6 18446744073709551615 s)) ∧ Ob w' G k X (Ac6 now p lv tag ref (lost + 1)) ∧ Sls w' G (k + 1) 1 lv 1 [Afo d] ∧ Ob w' G (k + 2) d ds := by
 have HX := hQd (aN hx (aN hS hd))
 have HA := hQd (Awy 6 18446744073709551615 hP hhi (by decide) (by decide) (by decide) (by decide) n0 n1)
 have p0 := hP.wo.c0
 have HK := hQd hk
 clear hP hx hS hd hhi n0 n1 hk
 go_enter Tryz.func242, Tryz.ntmps242
 go_wp2_with fail
 refine HA.out.mono ?_
 rintro e w1 ⟨rfl, G1, e1, P1⟩
 have hk := HK.out
 have hx1 := HX.out.1.ext e1 (by unfold SW; omega)
 have H1 := hQd (aN e1 (aN P1 (aN hx1 (aN (HX.out.2.1.ext e1 (by unfold SW; omega)) (HX.out.2.2.ext e1 (by unfold SW; omega))))))
 obtain ⟨-, x1, x2, x3, -, -, x6, x7⟩ := hx1.c8
 clear e1 P1 hx1 p0 HA hk HX
 go_upto_region 30 with fail
 go_region_held3 (fun w' => w'.cell? ⟨X, 1, none⟩ = some (.int .i64 p.b) ∧ w'.cell? ⟨X, 2, none⟩ = some (.int .i64 p.q) ∧ w'.cell? ⟨X, 3, none⟩ = some (.int .i64 p.s) ∧ w'.cell? ⟨X, 6, none⟩ = some (.int .i64 ref)) (go_keep)
  ((go_at_call 126
    refine (Ak3 2 ref p.b p.q p.s 0 (w := w1.drew) (H1.out.2.1.below H1.out.1.hi (Aaa w1)) (H1.out.1.below (Aaa w1)).hi (by decide) (by decide)).mono ?_
    rintro e w2 ⟨rfl, G2, e2, P2⟩
    have hk := HK.out
    have X2 := (H1.out.2.2.1.below (Aaa w1)).ext e2 (by unfold SW; omega)
    have H2 := hQd (aN ((H1.out.1.below (Aaa w1)).trans e2) (aN P2 (aN X2 (aN ((H1.out.2.2.2.1.below (Aaa w1)).ext e2 (by unfold SW; omega)) ((H1.out.2.2.2.2.below (Aaa w1)).ext e2 (by unfold SW; omega))))))
    obtain ⟨-, z1, z2, z3, -, -, z6⟩ := X2.c7
    clear e2 P2 X2 hk))
 all_goals
  have y7 := H2.out.2.2.1.c 7 _ rfl
  have f7 := H2.out.2.2.1.f 7
  clear x1 x2 x3 x6 x7 z1 z2 z3 z6 H1
  go_wp2_with fail
  go_end0
  have hk := HK.out
  have e3 := Aaf (j := 7) (v := .int .i64 (lost + 1)) H2.out.1.hi H2.out.2.2.1 hk
  exact ⟨rfl, G2, (H2.out.1.mono (T := SX k k) fun t _ h => .inl h).trans (e3.mono fun t _ h => .inr (by omega)), H2.out.2.1.ext e3, H2.out.2.2.1.set 7 (.int .i64 (lost + 1)) (by simp [Ac6]), H2.out.2.2.2.1.ext e3, H2.out.2.2.2.2.ext e3⟩
end
end
section
open Go.RowKit Go.Shelf
section
variable {X : Nat} {w : World} {O : Om} {B : Wb} {f : Cf} {s : AW} {k : Nat}
theorem Baj {z : Mvm} {s1 : AW} {W : World} {G : Om} {lv : Value} {m1 u m2 d : Nat} (h8 : 8 ≤ z.ln) (e : Ext (SX k (k + 24)) O w G W) (hP : PW W G B f s1) (x : Ob W G k X (Ac6 z.now z.p lv z.tag z.ref z.lost)) (l : Sls W G (k + 1) 1 lv (12 - z.ln).toNat ([Abb m1, Amw u z.ref z.p, Abb m2, Afo d].drop (z.ln - 8).toNat))
 (a1 : z.ln = 8 → Ada W G (k + 19) m1 [z.p.ver]) (a2 : z.ln ≤ 9 → Abx W G (k + 21) u z.p z.o) (a3 : z.ln ≤ 10 → Ada W G (k + 23) m2 [z.p.ver]) (a4 : Ob W G (k + 2) d [Aud X, .bool false]) : Abd w O B f k X (s1, z) W :=
 ⟨G, e, hP, z.p, lv, x, fun _ => rfl, ⟨fun g => by (dsimp only at g; omega), fun g => by (dsimp only at g; omega), fun g => by (dsimp only at g; omega), fun g => by (dsimp only at g; omega), fun g => by (dsimp only at g; omega), fun _ => ⟨m1, u, m2, d, l, a1, a2, a3, a4⟩⟩⟩
theorem Bc7 {z : Mvm} (mo : Int) (hz : Afr z) (hP : PW w O B f s) (hM : Adl w O k X z) (hl : z.ln = 8) (hk : 10 ≤ k) (hhi : Hh O w) (n0 : 0 ≤ s.n) (n1 : s.n ≤ 4611686018427387904) :
 C2 41 X B.p w (RP (SX k (k + 24)) w O (.bool (Abg (Aae mo (s, z)).2)) fun W G => PW W G B f (Aae mo (s, z)).1 ∧ Adl W G k X (Aae mo (s, z)).2) := by
 rw [Aki mo s z hl]
 have hp := hz.p (by omega)
 have hv := hp.ver
 have ho := hz.o0 (.inr hl)
 obtain ⟨p, lv, hx, hpp, hparts⟩ := hM.ex
 obtain rfl := hpp (by omega)
 clear hz hM hpp
 obtain ⟨ln, lost, now, p, tag, ref, rm, dd, m, o, u⟩ := z
 dsimp only at *
 subst hl
 subst ho
 obtain ⟨m1, u', m2, d, hS, b1, b2, b3, b4⟩ := hparts.2.2.2.2.2 (by (dsimp only; omega))
 dsimp only at hS b1 b2 b3 b4
 have b1 := b1 rfl
 have b2 := b2 (by decide)
 have b3 := b3 (by decide)
 obtain ⟨A, off, c, rfl, hc1, hc2⟩ := hS.open (by decide)
 have a0 := hS.c 0 _ rfl
 rw [Nat.add_zero] at a0
 have HA := Afa p.ver [] (k + 19) hP b1 (by simp) (by omega) hhi (by omega) (by omega) n0 n1
 have HA2 := HA.mono (fun e w' h => (⟨_, h.1, h.2⟩ : ∃ v, e = .returned v ∧ _))
 refine (Abo (n := 3) (Q2 := Abd w O B f k X (Ab0 p.ver 1 s, ⟨9, lost, now, p, tag, ref, rm, dd, [], ⟨0, 0⟩, u⟩)) (hx.c 4 _ rfl) a0 (Ae6 _) (Aao Tryz.func249 (by kernel_rfl) (by kernel_rfl)) HA2 ?_ (fun w2 h2 => h2.left (by dsimp only; omega) (by dsimp only; omega))).mono fun e w' h => Abd.step h
 rintro w1 ⟨G1, e1, P1, k1⟩
 have E1 : Ext (SX k (k + 24)) O w G1 w1 := e1.mono fun t _ h => SX.mono (by omega) (by omega) h
 have x1 := hx.ext e1 (SX.not (by omega) (by omega))
 have s1 := hS.ext e1 (SX.not (by omega) (by omega))
 have c2 := b2.ext e1 (SX.not (by omega) (by omega))
 have c3 := b3.ext e1 (SX.not (by omega) (by omega)) (SX.not (by omega) (by omega))
 have c4 := b4.ext e1 (SX.not (by omega) (by omega))
 have hm := Aa4.mark (k := k) k1 ⟨by omega, by omega⟩
 have hou := Aa4.drop (k := k) (ref := ref) c2 hp (by dsimp only; omega) (by omega)
 refine (Ajb (l := [Abb m2, Afo d]) x1 s1 hm hou hk E1.hi).mono ?_
 rintro e w2 ⟨rfl, G2, e2, rfl, lv2, x2, s2⟩
 exact ⟨rfl, Baj (m1 := m1) (u := u') (by dsimp only; omega) (E1.trans (e2.mono fun t _ h => .inr (by omega))) (P1.ext e2) x2 s2 (fun h => absurd h (by dsimp only; omega)) (fun _ => c2.ext e2) (fun _ => c3.ext e2) (c4.ext e2)⟩
theorem Bc6 {z : Mvm} (mo : Int) (hz : Afr z) (hP : PW w O B f s) (hM : Adl w O k X z) (hl : z.ln = 9) (hk : 10 ≤ k) (hhi : Hh O w) (n0 : 0 ≤ s.n) (n1 : s.n ≤ 4611686018427387904) :
 C2 41 X B.p w (RP (SX k (k + 24)) w O (.bool (Abg (Aae mo (s, z)).2)) fun W G => PW W G B f (Aae mo (s, z)).1 ∧ Adl W G k X (Aae mo (s, z)).2) := by
 rw [Akh mo s z hl]
 have hp := hz.p (by omega)
 obtain ⟨ho, w0, w1⟩ := hz.o (.inr hl)
 obtain ⟨p, lv, hx, hpp, hparts⟩ := hM.ex
 obtain rfl := hpp (by omega)
 clear hz hM hpp
 obtain ⟨ln, lost, now, p, tag, ref, rm, dd, m, o, u⟩ := z
 dsimp only at *
 subst hl
 obtain ⟨m1, u', m2, d, hS, -, b2, b3, b4⟩ := hparts.2.2.2.2.2 (by (dsimp only; omega))
 dsimp only at hS b2 b3 b4
 have b2 := b2 (by decide)
 have b3 := b3 (by decide)
 obtain ⟨A, off, c, rfl, hc1, hc2⟩ := hS.open (by decide)
 have a0 := hS.c 0 _ rfl
 rw [Nat.add_zero] at a0
 have HA := Aq7 ref o hP b2 hp ho w0 w1 (show 10 ≤ k + 21 by omega) hhi n0 n1
 have HA2 := HA.mono (fun e w' h => (⟨_, h.1, h.2⟩ : ∃ v, e = .returned v ∧ _))
 have hln := Ab5 p s o ho
 have hdN : (if o.ln = 1 then Abr 1 ref p.b p.q p.s 0 (Aaj p s o).1 else (Aaj p s o).1) = Ask ref p o (Aaj p s o).1 := rfl
 rw [hdN]
 obtain ⟨y, hy⟩ := exq (Aaj p s o)
 rw [← hy] at HA2 hln ⊢
 obtain ⟨s0, o1⟩ := y
 dsimp only at HA2 hln ⊢
 obtain ⟨s1, hs1⟩ := exq (Ask ref p o s0)
 rw [← hs1] at HA2 ⊢
 obtain ⟨z2, hz2⟩ := exq (⟨if o.ln = 2 then 10 else 9, lost, now, p, tag, ref, rm, dd, if o.ln = 2 then [p.ver] else [], o1, u⟩ : Mvm)
 rw [← hz2]
 have hzl : 9 ≤ z2.ln ∧ z2.ln ≤ 10 := by
  rw [hz2]; dsimp only; split <;> omega
 refine (Abo (n := 2) (Q2 := Abd w O B f k X (s1, z2)) (hx.c 4 _ rfl) a0 (Au9 u' ref p.b p.q p.s) (Aao Tryz.func267 (by kernel_rfl) (by kernel_rfl)) HA2 ?_ (fun w2 h2 => h2.left (by dsimp only; omega) (by dsimp only; omega))).mono fun e w' h => Abd.step h
 rintro w1 ⟨G1, e1, P1, k1⟩
 have E1 : Ext (SX k (k + 24)) O w G1 w1 := e1.mono fun t _ h => SX.mono (by omega) (by omega) h
 have x1 := hx.ext e1 (SX.not (by omega) (by omega))
 have l1 := hS.ext e1 (SX.not (by omega) (by omega))
 have c3 := b3.ext e1 (SX.not (by omega) (by omega)) (SX.not (by omega) (by omega))
 have c4 := b4.ext e1 (SX.not (by omega) (by omega))
 have hou := Aa4.drop (k := k) (ref := ref) k1 hp (by omega) (by omega)
 have hm2 := Aa4.mark (k := k) c3 ⟨by omega, by omega⟩
 by_cases h1 : o.ln = 2
 · have b1 : (o1.ln == 3) = true := by rw [hln, h1]; rfl
   rw [b1] at hou
   rw [if_pos h1, if_pos h1] at hz2
   subst hz2
   refine (Ajb (l := [Afo d]) x1 l1 hou hm2 hk E1.hi).mono ?_
   rintro e w2 ⟨rfl, G2, e2, rfl, lv2, x2, s2⟩
   exact ⟨rfl, Baj (m1 := m1) (u := u') (by dsimp only; omega) (E1.trans (e2.mono fun t _ h => .inr (by omega))) (P1.ext e2) x2 s2 (fun h => absurd h (by dsimp only; omega)) (fun h => absurd h (by dsimp only; omega)) (fun _ => c3.ext e2) (c4.ext e2)⟩
 have b1 : (o1.ln == 3) = false := by rw [hln]; simp; omega
 rw [b1] at hou
 rw [if_neg h1, if_neg h1] at hz2
 subst hz2
 refine (Aqq (l := [Abb m2, Afo d]) x1 l1 hou hk E1.hi).mono ?_
 rintro e w2 ⟨rfl, hb⟩
 exact ⟨rfl, Baj (m1 := m1) (u := u') (by dsimp only; omega) (E1.below hb) (P1.below E1.hi hb) (x1.below hb) (l1.below hb) (fun h => absurd h (by dsimp only; omega)) (fun _ => k1.below hb) (fun _ => c3.below hb) (c4.below hb)⟩
theorem Bbo {z : Mvm} (mo : Int) (hz : Afr z) (hP : PW w O B f s) (hM : Adl w O k X z) (hl : z.ln = 10) (hk : 10 ≤ k) (hhi : Hh O w) (n0 : 0 ≤ s.n) (n1 : s.n ≤ 4611686018427387904) :
 C2 41 X B.p w (RP (SX k (k + 24)) w O (.bool (Abg (Aae mo (s, z)).2)) fun W G => PW W G B f (Aae mo (s, z)).1 ∧ Adl W G k X (Aae mo (s, z)).2) := by
 rw [Aia mo s z hl]
 have hp := hz.p (by omega)
 have hv := hp.ver
 obtain ⟨p, lv, hx, hpp, hparts⟩ := hM.ex
 obtain rfl := hpp (by omega)
 clear hz hM hpp
 obtain ⟨ln, lost, now, p, tag, ref, rm, dd, m, o, u⟩ := z
 dsimp only at *
 subst hl
 obtain ⟨m1, u', m2, d, hS, -, -, b3, b4⟩ := hparts.2.2.2.2.2 (by (dsimp only; omega))
 dsimp only at hS b3 b4
 have b3 := b3 (by decide)
 obtain ⟨A, off, c, rfl, hc1, hc2⟩ := hS.open (by decide)
 have a0 := hS.c 0 _ rfl
 rw [Nat.add_zero] at a0
 have HA := Afa p.ver [] (k + 23) hP b3 (by simp) (by omega) hhi (by omega) (by omega) n0 n1
 have HA2 := HA.mono (fun e w' h => (⟨_, h.1, h.2⟩ : ∃ v, e = .returned v ∧ _))
 refine (Abo (n := 1) (Q2 := Abd w O B f k X (Ab0 p.ver 1 s, ⟨11, lost, now, p, tag, ref, rm, dd, [], o, u⟩)) (hx.c 4 _ rfl) a0 (Ae6 _) (Aao Tryz.func249 (by kernel_rfl) (by kernel_rfl)) HA2 ?_ (fun w2 h2 => h2.left (by dsimp only; omega) (by dsimp only; omega))).mono fun e w' h => Abd.step h
 rintro w1 ⟨G1, e1, P1, k1⟩
 have E1 : Ext (SX k (k + 24)) O w G1 w1 := e1.mono fun t _ h => SX.mono (by omega) (by omega) h
 have x1 := hx.ext e1 (SX.not (by omega) (by omega))
 have s1 := hS.ext e1 (SX.not (by omega) (by omega))
 have c4 := b4.ext e1 (SX.not (by omega) (by omega))
 have hm := Aa4.mark (k := k) k1 ⟨by omega, by omega⟩
 have ha := Aa4.act (k := k) c4 (by omega)
 refine (Ajb (l := []) x1 s1 hm ha hk E1.hi).mono ?_
 rintro e w2 ⟨rfl, G2, e2, rfl, lv2, x2, s2⟩
 exact ⟨rfl, Baj (m1 := m1) (u := u') (m2 := m2) (by dsimp only; omega) (E1.trans (e2.mono fun t _ h => .inr (by omega))) (P1.ext e2) x2 s2 (fun h => absurd h (by dsimp only; omega)) (fun h => absurd h (by dsimp only; omega)) (fun h => absurd h (by dsimp only; omega)) (c4.ext e2)⟩
theorem Bbn {z : Mvm} (mo : Int) (hz : Afr z) (hlo : 0 ≤ z.lost ∧ z.lost ≤ 1000000) (hP : PW w O B f s) (hM : Adl w O k X z) (hl : z.ln = 11) (hk : 10 ≤ k) (hhi : Hh O w) (n0 : 0 ≤ s.n) (n1 : s.n ≤ 4611686018427387904) :
 C2 41 X B.p w (RP (SX k (k + 24)) w O (.bool (Abg (Aae mo (s, z)).2)) fun W G => PW W G B f (Aae mo (s, z)).1 ∧ Adl W G k X (Aae mo (s, z)).2) := by
 rw [Ah9 mo s z hl]
 have hp := hz.p (by omega)
 obtain ⟨p, lv, hx, hpp, hparts⟩ := hM.ex
 obtain rfl := hpp (by omega)
 clear hz hM hpp
 obtain ⟨m1, u', m2, d, hS, -, -, -, hd⟩ := hparts.2.2.2.2.2 (by omega)
 have hS : Sls w O (k + 1) 1 lv 1 [Afo d] := by rw [hl] at hS; exact hS
 obtain ⟨A, o, c, rfl, hc1, hc2⟩ := hS.open (by decide)
 have a0 := hS.c 0 _ rfl
 rw [Nat.add_zero] at a0
 have e0 := Aaf (j := 1) (v := .bool true) hhi hd (show 10 ≤ k + 2 by omega)
 have hd1 := hd.set 1 (.bool true) (by simp)
 have HT := Awc (hP.ext e0) (hx.ext e0) (hS.ext e0) hd1 hlo.1 hlo.2 hk e0.hi n0 n1
 have HA := Ai2 hd (Aao Tryz.func242 (by kernel_rfl) (by kernel_rfl)) HT
 have HA2 := HA.mono (fun e w' h => (⟨.bool true, h.1, h.2⟩ : ∃ v, e = .returned v ∧ _))
 refine (Abo (n := 0) (Q2 := Abd w O B f k X (Abr 2 z.ref z.p.b z.p.q z.p.s 0 (Ab0 6 18446744073709551615 s), Abl ⟨11, z.lost + 1, z.now, z.p, z.tag, z.ref, z.rm, z.d, z.m, z.o, z.u⟩)) (hx.c 4 _ rfl) a0 (Af3 _) (Aao Tryz.func234 (by kernel_rfl) (by kernel_rfl)) HA2 ?_ (fun w2 h2 => h2.left (by rcases Ade ⟨11, z.lost + 1, z.now, z.p, z.tag, z.ref, z.rm, z.d, z.m, z.o, z.u⟩ with h | h <;> (dsimp only; omega)) (by rcases Ade ⟨11, z.lost + 1, z.now, z.p, z.tag, z.ref, z.rm, z.d, z.m, z.o, z.u⟩ with h | h <;> (dsimp only; omega)))).mono fun e w' h => Abd.step h
 rintro w1 ⟨G1, e1, P1, x1, l1, q1⟩
 exact Ak1 (z := ⟨11, z.lost + 1, z.now, z.p, z.tag, z.ref, z.rm, z.d, z.m, z.o, z.u⟩) ((e0.mono (T := SX k (k + 24)) fun t _ h => .inr (by omega)).trans (e1.mono fun t _ h => SX.mono (by omega) (by omega) h)) P1 x1 l1 (Aa4.act q1 (by omega)) hp hk
theorem Aqx {d R : Nat} {z1 : Rmm} {s1 : AW} (hd : Ob w O (k + 3) d [.pointer (some ⟨X, 0, none⟩), .pointer (some ⟨R, 0, none⟩)])
 (HR : C2 237 R B.p w (RP (SX (k + 4) (k + 18)) w O (.bool false) fun W G => PW W G B f s1 ∧ Aa1 W G (k + 4) R z1)) :
 C2 239 d B.p w (RP (SX (k + 4) (k + 18)) w O (.bool false) fun W G => PW W G B f s1 ∧ Aa1 W G (k + 4) R z1) := by
 have HRR := hQd HR
 obtain ⟨d0, d1⟩ := hd.c2
 clear hd HR
 go_enter Tryz.func239, Tryz.ntmps239
 go_wp2_with fail
 refine HRR.out.mono ?_
 rintro e w1 ⟨rfl, G1, e1, P1, r1'⟩
 have H1 := hQd (aN e1 (aN P1 r1'))
 clear e1 P1 r1' d0 d1 HRR
 go_wp2_with fail
 go_ret
 exact ⟨rfl, G1, H1.out⟩
theorem Bbk {z : Mvm} {s1 : AW} {rm1 : Rmm} (mo : Int) (hM : Adl w O k X z) (hl : z.ln = 3) (hs : Aaq mo (s, z.rm) = (s1, rm1)) (h0 : rm1.ln ≠ 0)
 (HR : ∀ R, Aa1 w O (k + 4) R z.rm → C2 237 R B.p w (RP (SX (k + 4) (k + 18)) w O (.bool false) fun W G => PW W G B f s1 ∧ Aa1 W G (k + 4) R rm1))
 (hk : 10 ≤ k) (hhi : Hh O w) :
 C2 41 X B.p w (RP (SX k (k + 24)) w O (.bool (Abg (Aae mo (s, z)).2)) fun W G => PW W G B f (Aae mo (s, z)).1 ∧ Adl W G k X (Aae mo (s, z)).2) := by
 rw [Ahl mo s z hl, hs]
 dsimp only
 rw [if_neg h0]
 obtain ⟨p, lv, hx, hpp, hparts⟩ := hM.ex
 obtain rfl := hpp (by omega)
 obtain ⟨d, R, hS, hd, hr⟩ := hparts.2.2.2.1 hl
 obtain ⟨A, o, c, rfl, hc1, hc2⟩ := hS.open (by decide)
 have a0 := hS.c 0 _ rfl
 rw [Nat.add_zero] at a0
 have HA := Aqx hd (HR R hr)
 have HA2 := HA.mono (fun e w' h => (⟨.bool false, h.1, h.2⟩ : ∃ v, e = .returned v ∧ _))
 refine (Abo (n := 0) (Q2 := Abd w O B f k X (s1, ⟨3, z.lost, z.now, z.p, z.tag, z.ref, rm1, z.d, z.m, z.o, z.u⟩)) (hx.c 4 _ rfl) a0 (Akp _) (Aao Tryz.func239 (by kernel_rfl) (by kernel_rfl)) HA2 ?_ (fun w2 h2 => h2.left (by dsimp only; omega) (by dsimp only; omega))).mono fun e w' h => Abd.step h
 rintro w1 ⟨G1, e1, P1, r1'⟩
 have E1 : Ext (SX k (k + 24)) O w G1 w1 := e1.mono fun t _ h => SX.mono (by omega) (by omega) h
 have x1 := hx.ext e1 (SX.not (by omega) (by omega))
 have l1 := hS.ext e1 (SX.not (by omega) (by omega))
 have d1 := hd.ext e1 (SX.not (by omega) (by omega))
 have ho := Aa4.search (k := k) d1 r1' (by omega) (by omega)
 have h0b : (rm1.ln == 0) = false := by simp; omega
 rw [h0b] at ho
 refine (Aqq (l := []) x1 l1 ho hk E1.hi).mono ?_
 rintro e w2 ⟨rfl, hb⟩
 exact ⟨rfl, G1, E1.below hb, P1.below E1.hi hb, z.p, _, x1.below hb, fun _ => rfl, ⟨nnn, nnn, nnn, fun _ => ⟨d, R, l1.below hb, d1.below hb, r1'.below hb⟩, nnn, nnn⟩⟩
end
end
section
open Go.RowKit Go.Shelf
section
variable {X : Nat} {w : World} {O : Om} {B : Wb} {f : Cf} {s : AW} {k : Nat}
theorem Ar2 {g : Nat} {cs : List Value} (hx : Ob w O g X cs) (hk : 10 ≤ g) (hhi : Hh O w) (j : Nat) (v : Value) (hj : j < cs.length) : Ext (fun t => t = g) O w O (w.setCell ⟨X, j, none⟩ v) ∧ Ob (w.setCell ⟨X, j, none⟩ v) O g X (cs.set j v) := ⟨Aaf hhi hx hk, hx.set j v hj⟩
theorem Bdd {z : Hom} (hz : Ahh z) (hP : PW w O B f s) (hM : Amx w O k X z) (hl : z.ln = 1) (hk : 10 ≤ k) (hhi : Hh O w) (n0 : 0 ≤ s.n) (n1 : s.n ≤ 4611686018427387904) :
 C2 202 X B.p w fun e w' => e = .returned (.bool ((Aas (s, z)).2.ln == 0)) ∧ Adi w O B f k X (Aas (s, z)) w' := by
 have hkk := hz.k (by omega)
 have hlen := hz.len
 have hsk := hz.sok (by omega)
 have htk := hz.tok (by omega)
 have ht0 := hz.t0
 rw [Akv s z hl]
 obtain ⟨wv, dv, ld, hx, hw, hl1, hl2, hd0, -⟩ := hM.ex
 replace hw := hw (by omega)
 obtain ⟨n9, hd1, rfl⟩ := hd0 (by omega)
 obtain ⟨dao, dc, rfl, -⟩ := hd1.shape
 rw [show max (z.k + 1) 0 = z.k + 1 from by omega] at hx
 obtain ⟨p, hpe⟩ := exq z.s
 rw [← hpe] at hsk ⊢
 obtain ⟨ln, kk, way, tag, ref, l1, o, u, l2⟩ := z
 dsimp only at hkk hlen ht0 hx hw hl1 hl2 hl ⊢
 subst hl
 obtain ⟨i, rfl⟩ : ∃ i : Nat, kk = i := ⟨kk.toNat, by omega⟩
 have hil : i < way.length := by omega
 have hpi : way[i]? = some p := by
  rw [hpe]
  show way[i]? = some (Ag1 way i)
  unfold Ag1
  rw [if_neg (by omega), Int.toNat_natCast, List.getD, List.getElem?_eq_getElem hil]
  rfl
 obtain rfl := hl1 rfl
 have HT := hQd (fun W => Aiu p.b p.q W (by have := hsk.b0; omega) (by have := hsk.b1; omega) (by have := hsk.q0; omega) (by have := hsk.q2; omega))
 have hta2 : Aai p.b p.q = p.tags := rfl
 rw [hta2] at HT
 have hbt := hP.bd p.tags
 have HTG := hQd (fun W => An3 (s.M p.tags) p.s W hbt.1 hbt.2 hsk.s0 hsk.s1)
 obtain ⟨A2, o2, c2, rfl, -⟩ := hw.open (by omega)
 obtain ⟨b1, b2, b3⟩ := Abu way i p hpi
 have u1 := hw.c _ _ b1
 have u2 := hw.c _ _ b2
 have u3 := hw.c _ _ b3
 rw [← Nat.add_assoc] at u2 u3
 have hXl : X < w.heap.size := hx.lt
 have hAl : A2 < w.heap.size := hw.lt.1
 obtain ⟨x0, x1, -, -, x4⟩ := hx.c5
 have x3 := hx.c 3 _ rfl
 have hj1 : (i : Int) < way.length := by omega
 have hwi : IntKind.i64.wrap (i : Int) = (i : Int) := by simp [IntKind.wrap, IntKind.bits, IntKind.signed]; omega
 have hi0 : (0 : Int) ≤ (i : Int) := by omega
 have hi1 : (i : Int) + 1 - 1 = (i : Int) := by omega
 have hne : ((i : Int) + 1 == 0) = false := by simp; omega
 have HV0 := hQd (Afb x1)
 rw [hne] at HV0
 have htg := hsk.tags
 have hit := hsk.item
 have hq2 := hsk.q2
 have hs0 := hsk.s0
 have hs1 := hsk.s1
 obtain ⟨pb, hpb⟩ := exq p.b
 obtain ⟨pq, hpq⟩ := exq p.q
 obtain ⟨ps, hps⟩ := exq p.s
 rw [← hpb] at u1
 rw [← hpq] at u2
 rw [← hps] at u3
 have hb1 := bal w (.cells #[.int .i64 pb, .int .i64 pq, .int .i64 ps] 95)
 have hb2 := Aaa (w.alloc (.cells #[.int .i64 pb, .int .i64 pq, .int .i64 ps] 95))
 have hb := hb1.trans (hb2.mono (by simp <;> omega))
 obtain ⟨-, t1⟩ := Aau (S := fun _ => False) hhi #[.int .i64 pb, .int .i64 pq, .int .i64 ps] 95 w.heap.size rfl
 have t2 := t1.below hb2
 have hti : Ob (w.alloc (.cells #[.int .i64 pb, .int .i64 pq, .int .i64 ps] 95)).drew O 0 w.heap.size (spl p) := by rw [hpb, hpq, hps] at t2 ⊢; exact t2
 have HM : Hid (Me k (k + 8) w O (w.alloc (.cells #[.int .i64 pb, .int .i64 pq, .int .i64 ps] 95)).drew O B f s k X (Afp (.slice (some ⟨A2, o2, none⟩) way.length c2) ((i : Int) + 1) tag false (.slice dao 0 dc))) := hQd ⟨Ext.of_below hhi hb, hP.below hhi hb, hx.below hb⟩
 have HS : Hid (Sls (w.alloc (.cells #[.int .i64 pb, .int .i64 pq, .int .i64 ps] 95)).drew O (k + 1) 3 (.slice (some ⟨A2, o2, none⟩) way.length c2) way.length (way.flatMap spl) ∧ Sls (w.alloc (.cells #[.int .i64 pb, .int .i64 pq, .int .i64 ps] 95)).drew O (k + 2) 1 (.slice dao 0 dc) 0 [] ∧ Ob (w.alloc (.cells #[.int .i64 pb, .int .i64 pq, .int .i64 ps] 95)).drew O 0 w.heap.size (spl p)) := hQd ⟨hw.below hb, hd1.below hb, hti⟩
 have hta : 0 ≤ p.tags ∧ p.tags < 18446744073709551616 := by omega
 obtain ⟨ta, hta3⟩ := exq p.tags
 rw [← hta3] at HT HTG hta ⊢
 obtain ⟨tg, htg2⟩ := exq (Aay (s.M ta) p.s)
 rw [← htg2] at HTG ⊢
 rw [← hpb, ← hpq] at HT
 rw [← hps] at HTG
 have HTA := hQd hta
 have HPP := hQd (aN hpb (aN hpq hps))
 obtain ⟨W, hW⟩ := exq ((w.alloc (.cells #[.int .i64 pb, .int .i64 pq, .int .i64 ps] 95)).drew)
 rw [← hW] at HM HS
 obtain ⟨T, hTe⟩ := exq w.heap.size
 clear hP hM hx hw hd0 hd1 hhi hsk htk ht0 hil hpi hpe b1 b2 b3 htg hit hq2 hs0 hs1 hb1 hb2 hb t1 t2 hti hta hta2 hta3 htg2 hbt hpb hpq hps hl1 hl2
 go_enter Tryz.func202, Tryz.ntmps202
 go_wp2_with fail
 refine HV0.out.mono ?_
 rintro e w' ⟨rfl, rfl⟩
 go_wp2_with fail
 go_region
 rw [← hW]
 rw [← hTe] at HS ⊢
 clear hW hTe x0 x1 x3 x4 u1 u2 u3 hXl hAl hj1 hwi hi0 hi1 hne HV0
 obtain ⟨-, -, -, y3, y4⟩ := HM.out.t.c5
 obtain ⟨t0, t1, t2⟩ := HS.out.2.2.c3
 have p0 := HM.out.p.wo.c0
 rw [← HPP.out.1] at t0
 rw [← HPP.out.2.1] at t1
 rw [← HPP.out.2.2] at t2
 have hXB : ¬ B.p = X := HM.out.p.ne_obj HM.out.t hk
 have hXB2 : ¬ X = B.p := fun e => hXB e.symm
 have hXT : ¬ T = X := HS.out.2.2.ne HM.out.t (by omega)
 have hXT2 : ¬ X = T := fun e => hXT e.symm
 go_upto_region 8 with fail
 go_region_held3 (fun w' => w'.cell? ⟨B.p, 0, none⟩ = some (.pointer (some ⟨B.c, 0, none⟩)) ∧ w'.cell? ⟨T, 0, none⟩ = some (.int .i64 pb) ∧ w'.cell? ⟨T, 1, none⟩ = some (.int .i64 pq) ∧ w'.cell? ⟨T, 2, none⟩ = some (.int .i64 ps)) (go_keep)
  ((first
    | (go_at_call 124
       refine (HT.out _).mono ?_
       rintro e w1 ⟨rfl, hb1⟩
       have M1 := hQd (HM.out.drew.below hb1)
       have S1 := hQd (aN ((HS.out.1.below (Aaa _)).below hb1) (aN ((HS.out.2.1.below (Aaa _)).below hb1) ((HS.out.2.2.below (Aaa _)).below hb1)))
       have p01 := M1.out.p.wo.c0
       obtain ⟨t01, t11, t21⟩ := S1.out.2.2.c3
       rw [← HPP.out.1] at t01
       rw [← HPP.out.2.1] at t11
       rw [← HPP.out.2.2] at t21
       clear hb1)
    | (go_at_call 37
       refine (Ac9 ta M1.out.p M1.out.e.hi HTA.out.1 HTA.out.2 n0 n1).mono ?_
       rintro e w2 ⟨rfl, G2, e2, P2⟩
       have M2 := hQd (M1.out.world hk e2 P2)
       have S2 := hQd (aN (S1.out.1.ext e2 (by unfold SW; omega)) (aN (S1.out.2.1.ext e2 (by unfold SW; omega)) (S1.out.2.2.ext e2 (by unfold SW; omega))))
       have p02 := M2.out.p.wo.c0
       obtain ⟨t02, t12, t22⟩ := S2.out.2.2.c3
       rw [← HPP.out.1] at t02
       rw [← HPP.out.2.1] at t12
       rw [← HPP.out.2.2] at t22
       clear e2 P2)
    | (go_at_call 123
       refine (HTG.out _).mono ?_
       rintro e w3 ⟨rfl, hb3⟩
       have M3 := hQd (M2.out.below hb3)
       have S3 := hQd (aN (S2.out.1.below hb3) (aN (S2.out.2.1.below hb3) (S2.out.2.2.below hb3)))
       have p03 := M3.out.p.wo.c0
       obtain ⟨t03, t13, t23⟩ := S3.out.2.2.c3
       rw [← HPP.out.1] at t03
       rw [← HPP.out.2.1] at t13
       rw [← HPP.out.2.2] at t23
       have x23 := M3.out.t.c 2 _ rfl
       have f23 := M3.out.t.f 2
       clear hb3)))
 all_goals
  clear p0 y3 y4 t0 t1 t2 p01 t01 t11 t21 p02 t02 t12 t22 p03 t03 t13 t23 x23 f23 M1 S1 M2 S2 HM HS HT HTG
  have x2 := M3.out.t.c 2 _ rfl
  have f2 := M3.out.t.f 2
  have x3 := M3.out.t.c 3 _ rfl
  have f3 := M3.out.t.f 3
  go_wp2_with fail
  go_ret
  obtain ⟨e1, y1⟩ := Ar2 M3.out.t hk M3.out.e.hi 2 (.int .i64 tg) (by simp [Afp])
  obtain ⟨e2, y2⟩ := Ar2 y1 hk e1.hi 3 (.bool true) (by simp [Afp])
  have e12 := e1.trans e2
  refine ⟨rfl, G2, M3.out.e.trans (e12.mono fun t _ h => .inr (by omega)), M3.out.p.ext e12, _, _, true, ?_, fun _ => S3.out.1.ext e12, fun h => absurd h (by show ¬ (2 : Int) = 1; decide), fun _ => rfl, fun _ => ⟨0, S3.out.2.1.ext e12, rfl⟩, fun h => absurd h (by show ¬ (3 : Int) ≤ 2; decide)⟩
  dsimp only
  rw [show max ((i : Int) + 1) 0 = (i : Int) + 1 from by omega]
  exact y2
theorem Bdc {z : Hom} (hz : Ahh z) (hP : PW w O B f s) (hM : Amx w O k X z) (hl : z.ln = 2) (hk : 10 ≤ k) (hhi : Hh O w) (n0 : 0 ≤ s.n) (n1 : s.n ≤ 4611686018427387904) :
 C2 202 X B.p w fun e w' => e = .returned (.bool ((Aas (s, z)).2.ln == 0)) ∧ Adi w O B f k X (Aas (s, z)) w' := by
 have hkk := hz.k (by omega)
 have hlen := hz.len
 have hsk := hz.sok (by omega)
 have htk := hz.tok (by omega)
 have ht0 := hz.t0
 rw [Aku s z hl]
 obtain ⟨wv, dv, ld, hx, hw, hl1, hl2, hd0, -⟩ := hM.ex
 replace hw := hw (by omega)
 obtain ⟨n9, hd1, rfl⟩ := hd0 (by omega)
 obtain ⟨dao, dc, rfl, -⟩ := hd1.shape
 rw [show max (z.k + 1) 0 = z.k + 1 from by omega] at hx
 obtain ⟨p, hpe⟩ := exq z.s
 rw [← hpe] at hsk ⊢
 obtain ⟨ln, kk, way, tag, ref, l1, o, u, l2⟩ := z
 dsimp only at hkk hlen ht0 hx hw hl1 hl2 hl ⊢
 subst hl
 obtain ⟨i, rfl⟩ : ∃ i : Nat, kk = i := ⟨kk.toNat, by omega⟩
 have hil : i < way.length := by omega
 have hpi : way[i]? = some p := by
  rw [hpe]
  show way[i]? = some (Ag1 way i)
  unfold Ag1
  rw [if_neg (by omega), Int.toNat_natCast, List.getD, List.getElem?_eq_getElem hil]
  rfl
 obtain rfl := hl2 (by decide)
 have hpi1 : way[i + 1]? = some (Ag1 way (i + 1)) := by
  unfold Ag1
  have hi2 : i + 1 < way.length := by omega
  rw [if_neg (by omega), show ((i : Int) + 1).toNat = i + 1 from by omega, List.getD, List.getElem?_eq_getElem hi2]
  rfl
 obtain ⟨dd, hdd⟩ := exq (Ag1 way (i + 1))
 have htd : Hom.t ⟨2, i, way, tag, ref, l1, o, u, l2⟩ = dd := hdd.symm
 rw [htd] at htk ⊢
 rw [← hdd] at hpi1
 have HI := hQd (fun W => At2 p.b p.q p.s W (by have := hsk.b0; omega) (by have := hsk.b1; omega) (by have := hsk.q0; omega) (by have := hsk.q2; omega) (by have := hsk.s0; omega) (by have := hsk.s1; omega))
 have hia2 : Aca p.b p.q p.s = p.item := rfl
 rw [hia2] at HI
 have hbt := hP.bd p.item
 obtain ⟨A2, o2, c2, rfl, -⟩ := hw.open (by omega)
 obtain ⟨b1, b2, b3⟩ := Abu way i p hpi
 have u1 := hw.c _ _ b1
 have u2 := hw.c _ _ b2
 have u3 := hw.c _ _ b3
 rw [← Nat.add_assoc] at u2 u3
 have hXl : X < w.heap.size := hx.lt
 have hAl : A2 < w.heap.size := hw.lt.1
 obtain ⟨x0, x1, -, -, x4⟩ := hx.c5
 have x3 := hx.c 3 _ rfl
 have hj1 : (i : Int) < way.length := by omega
 have hwi : IntKind.i64.wrap (i : Int) = (i : Int) := by simp [IntKind.wrap, IntKind.bits, IntKind.signed]; omega
 have hi0 : (0 : Int) ≤ (i : Int) := by omega
 have hi1 : (i : Int) + 1 - 1 = (i : Int) := by omega
 have hne : ((i : Int) + 1 == 0) = false := by simp; omega
 have HV0 := hQd (Afb x1)
 rw [hne] at HV0
 have htg := hsk.tags
 have hit := hsk.item
 have hq2 := hsk.q2
 have hs0 := hsk.s0
 have hs1 := hsk.s1
 obtain ⟨pb, hpb⟩ := exq p.b
 obtain ⟨pq, hpq⟩ := exq p.q
 obtain ⟨ps, hps⟩ := exq p.s
 rw [← hpb] at u1
 rw [← hpq] at u2
 rw [← hps] at u3
 have hb1 := bal w (.cells #[.int .i64 pb, .int .i64 pq, .int .i64 ps] 95)
 have hb2 := Aaa (w.alloc (.cells #[.int .i64 pb, .int .i64 pq, .int .i64 ps] 95))
 have hb := hb1.trans (hb2.mono (by simp <;> omega))
 obtain ⟨-, t1⟩ := Aau (S := fun _ => False) hhi #[.int .i64 pb, .int .i64 pq, .int .i64 ps] 95 w.heap.size rfl
 have t2 := t1.below hb2
 have hti : Ob (w.alloc (.cells #[.int .i64 pb, .int .i64 pq, .int .i64 ps] 95)).drew O 0 w.heap.size (spl p) := by rw [hpb, hpq, hps] at t2 ⊢; exact t2
 have HM : Hid (Me k (k + 8) w O (w.alloc (.cells #[.int .i64 pb, .int .i64 pq, .int .i64 ps] 95)).drew O B f s k X (Afp (.slice (some ⟨A2, o2, none⟩) way.length c2) ((i : Int) + 1) tag true (.slice dao 0 dc))) := hQd ⟨Ext.of_below hhi hb, hP.below hhi hb, hx.below hb⟩
 have HS : Hid (Sls (w.alloc (.cells #[.int .i64 pb, .int .i64 pq, .int .i64 ps] 95)).drew O (k + 1) 3 (.slice (some ⟨A2, o2, none⟩) way.length c2) way.length (way.flatMap spl) ∧ Sls (w.alloc (.cells #[.int .i64 pb, .int .i64 pq, .int .i64 ps] 95)).drew O (k + 2) 1 (.slice dao 0 dc) 0 [] ∧ Ob (w.alloc (.cells #[.int .i64 pb, .int .i64 pq, .int .i64 ps] 95)).drew O 0 w.heap.size (spl p)) := hQd ⟨hw.below hb, hd1.below hb, hti⟩
 have hia : 0 ≤ p.item ∧ p.item < 18446744073709551616 := by omega
 have HPK := hQd (aN hsk (aN htk (aN hpi (aN hpi1 hdd))))
 obtain ⟨ia, hia3⟩ := exq p.item
 rw [← hia3] at HI hia hbt ⊢
 obtain ⟨rf, hrf⟩ := exq (wrap64 (s.M ia))
 have hrf2 : IntKind.i64.wrap (s.M ia) = rf := by rw [hrf]; unfold wrap64; simp [IntKind.wrap, IntKind.bits, IntKind.signed]; omega
 have HRF : Hid (-9223372036854775808 ≤ rf ∧ rf ≤ 9223372036854775807) := hQd (by rw [hrf]; exact Ahw _)
 rw [← hrf]
 rw [← hpb, ← hpq, ← hps] at HI
 have HIA := hQd hia
 have HPP := hQd (aN hpb (aN hpq hps))
 have HT0 := hQd (aN ht0 hlen)
 obtain ⟨W, hW⟩ := exq ((w.alloc (.cells #[.int .i64 pb, .int .i64 pq, .int .i64 ps] 95)).drew)
 rw [← hW] at HM HS
 obtain ⟨T, hTe⟩ := exq w.heap.size
 clear hP hM hx hw hd0 hd1 hhi hsk htk ht0 hil hpi hpi1 hpe htd hdd b1 b2 b3 htg hit hq2 hs0 hs1 hb1 hb2 hb t1 t2 hti hia hia2 hia3 hbt hpb hpq hps hl1 hl2 hrf
 go_enter Tryz.func202, Tryz.ntmps202
 go_wp2_with fail
 refine HV0.out.mono ?_
 rintro e w' ⟨rfl, rfl⟩
 go_wp2_with fail
 go_region
 rw [← hW]
 rw [← hTe] at HS ⊢
 clear hW hTe x0 x1 x3 x4 u1 u2 u3 hXl hAl hj1 hwi hi0 hi1 hne HV0
 obtain ⟨-, -, -, y3, y4⟩ := HM.out.t.c5
 obtain ⟨t0, t1, t2⟩ := HS.out.2.2.c3
 have p0 := HM.out.p.wo.c0
 rw [← HPP.out.1] at t0
 rw [← HPP.out.2.1] at t1
 rw [← HPP.out.2.2] at t2
 go_upto_region 4 with fail
 go_region_held3 (fun w' => w'.cell? ⟨B.p, 0, none⟩ = some (.pointer (some ⟨B.c, 0, none⟩)) ∧ w'.cell? ⟨T, 0, none⟩ = some (.int .i64 pb) ∧ w'.cell? ⟨T, 1, none⟩ = some (.int .i64 pq) ∧ w'.cell? ⟨T, 2, none⟩ = some (.int .i64 ps)) (go_keep)
  ((first
    | (go_at_call 155
       refine (HI.out _).mono ?_
       rintro e w1 ⟨rfl, hb1⟩
       have M1 := hQd (HM.out.drew.below hb1)
       have S1 := hQd (aN ((HS.out.1.below (Aaa _)).below hb1) (aN ((HS.out.2.1.below (Aaa _)).below hb1) ((HS.out.2.2.below (Aaa _)).below hb1)))
       have p01 := M1.out.p.wo.c0
       obtain ⟨t01, t11, t21⟩ := S1.out.2.2.c3
       rw [← HPP.out.1] at t01
       rw [← HPP.out.2.1] at t11
       rw [← HPP.out.2.2] at t21
       clear hb1)
    | (go_at_call 37
       refine (Ac9 ia M1.out.p M1.out.e.hi HIA.out.1 HIA.out.2 n0 n1).mono ?_
       rintro e w2 ⟨rfl, G2, e2, P2⟩
       have M2 := hQd (M1.out.world hk e2 P2)
       have S2 := hQd (aN (S1.out.1.ext e2 (by unfold SW; omega)) (aN (S1.out.2.1.ext e2 (by unfold SW; omega)) (S1.out.2.2.ext e2 (by unfold SW; omega))))
       have p02 := M2.out.p.wo.c0
       obtain ⟨t02, t12, t22⟩ := S2.out.2.2.c3
       rw [← HPP.out.1] at t02
       rw [← HPP.out.2.1] at t12
       rw [← HPP.out.2.2] at t22
       clear e2 P2)
    | (go_at_call 204
       refine (Bck i M2.out.t S2.out.1 HT0.out.2 HPK.out.2.2.1 HPK.out.2.2.2.1 HPK.out.1 HPK.out.2.1 HT0.out.1.1 HT0.out.1.2 HRF.out.1 HRF.out.2 hk M2.out.e.hi).mono ?_
       rintro e w3 ⟨rfl, G3, e3, lv, m1, u', q, m2, x3, l3, k1, k2, k3, k4⟩
       have M3 := hQd (aN (M2.out.e.trans (e3.mono (T := SX k (k + 8)) fun t _ h => .inr (by omega))) (aN (M2.out.p.ext e3) (aN x3 (aN l3 (aN k1 (aN k2 (aN k3 (aN k4 (S2.out.1.ext e3)))))))))
       have p03 := M3.out.2.1.wo.c0
       obtain ⟨t03, t13, t23⟩ := (S2.out.2.2.ext e3).c3
       rw [← HPP.out.1] at t03
       rw [← HPP.out.2.1] at t13
       rw [← HPP.out.2.2] at t23
       clear e3 x3 l3 k1 k2 k3 k4)))
 all_goals
  clear p0 y3 y4 t0 t1 t2 p01 t01 t11 t21 p02 t02 t12 t22 p03 t03 t13 t23 M1 S1 M2 S2 HM HS HI
  have hmk := Aa4.mark (k := k) M3.out.2.2.2.2.1 ⟨by omega, by omega⟩
  rw [Aow] at hmk
  have HON := hQd (Ami (l := [Ak9 u', Aht q, Abb m2]) M3.out.2.2.1 M3.out.2.2.2.1 hmk hk M3.out.1.hi)
  clear hmk
  go_wp2_with fail
  refine HON.out.mono ?_
  rintro e w4 ⟨rfl, hb⟩
  have x14 := (M3.out.2.2.1.below hb).c 1 _ rfl
  have HV4 := hQd (Afb x14)
  rw [show ((i : Int) + 1 == 0) = false from by simp; omega] at HV4
  have HF : Hid (Adi w O B f k X (Aan ia s, ⟨3, i, way, tag, rf, mk2 p dd, ⟨0, 0⟩, Abe tag rf, mk2 p dd⟩) w4) := hQd (by
   have hp3 : Hom.s ⟨3, i, way, tag, rf, mk2 p dd, ⟨0, 0⟩, Abe tag rf, mk2 p dd⟩ = p := by
    have := HPK.out.2.2.1
    show Ag1 way i = p
    have hil := (List.getElem?_eq_some_iff.1 this).1
    unfold Ag1
    rw [if_neg (by omega), Int.toNat_natCast, List.getD, this]
    rfl
   have ht3 : Hom.t ⟨3, i, way, tag, rf, mk2 p dd, ⟨0, 0⟩, Abe tag rf, mk2 p dd⟩ = dd := HPK.out.2.2.2.2.symm
   exact Avf (m1 := m1) (u := u') (q := q) (m2 := m2) (by dsimp only; omega) (by dsimp only; omega) (by dsimp only; omega) (M3.out.1.below hb) (M3.out.2.1.below M3.out.1.hi hb) (M3.out.2.2.1.below hb) (M3.out.2.2.2.2.2.2.2.2.below hb) (M3.out.2.2.2.1.below hb) (fun _ => M3.out.2.2.2.2.1.below hb) (fun _ => by rw [hp3]; exact M3.out.2.2.2.2.2.1.below hb) (fun _ => by rw [ht3]; exact M3.out.2.2.2.2.2.2.1.below hb) (M3.out.2.2.2.2.2.2.2.1.below hb))
  clear hb x14 HON M3
  go_wp2_with fail
  refine HV4.out.mono ?_
  rintro e w' ⟨rfl, rfl⟩
  go_wp2_with fail
  go_ret
  exact ⟨rfl, HF.out⟩
theorem Awe {z : Hom} (hz : Ahh z) (hP : PW w O B f s) (hM : Amx w O k X z) (hl : z.ln ≠ 0) (hk : 10 ≤ k) (hhi : Hh O w) (n0 : 0 ≤ s.n) (n1 : s.n ≤ 4611686018427387904) :
 C2 202 X B.p w fun e w' => e = .returned (.bool ((Aas (s, z)).2.ln == 0)) ∧ Adi w O B f k X (Aas (s, z)) w' := by
 have h0 := hz.l0
 have h6 := hz.l6
 have hc : z.ln = 1 ∨ z.ln = 2 ∨ z.ln = 3 ∨ z.ln = 4 ∨ z.ln = 5 ∨ z.ln = 6 := by omega
 rcases hc with e | e | e | e | e | e
 · exact Bdd hz hP hM e hk hhi n0 n1
 · exact Bdc hz hP hM e hk hhi n0 n1
 · exact Bdb hz hP hM e hk hhi n0 n1
 · exact Bda hz hP hM e hk hhi n0 n1
 · exact Bc9 hz hP hM e hk hhi n0 n1
 exact Bc8 hz hP hM e hk hhi n0 n1
theorem Aza {z : Rmm} (mo : Int) (hR : Aa1 w O k X z) (hl : z.ln = 4) (hz : Ahh z.ho) (hz0 : z.ho.ln ≠ 0) (hP : PW w O B f s) (hk : 10 ≤ k) (hhi : Hh O w) (n0 : 0 ≤ s.n) (n1 : s.n ≤ 4611686018427387904) :
 C2 194 X B.p w (Apy mo k X B f s z w O) := by
 obtain ⟨bv, wv, hv, h1, -, -, h4⟩ := hR.ex
 obtain ⟨Y, rfl, hY⟩ := h4 hl
 have HST := hQd (Awe (k := k + 6) hz hP hY hz0 (by omega) hhi n0 n1)
 have HMS : Hid (Aaq mo (s, z) = ((Aas (s, z.ho)).1, ⟨if (Aas (s, z.ho)).2.ln = 0 then 0 else 4, z.b, z.a, z.c, z.wy, (Aas (s, z.ho)).2, z.p, if (Aas (s, z.ho)).2.ln = 0 then true else z.is⟩)) := hQd (by
  unfold Aaq; dsimp only; rw [if_neg (by omega), if_neg (by omega), if_neg (by omega), if_pos hl])
 unfold Apy
 obtain ⟨s1, zh, hsz⟩ : ∃ s1 zh, Aas (s, z.ho) = (s1, zh) := ⟨_, _, rfl⟩
 rw [hsz] at HST HMS
 dsimp only at HST HMS
 have hdo : Ani z.ln = Aw7 := by rw [hl]; rfl
 rw [hdo] at h1
 have x6 := h1.c 6 _ rfl
 have HX := hQd h1
 clear hR hz hz0 hP hhi hsz h4 hY h1 hdo
 go_enter Tryz.func194, Tryz.ntmps194
 go_wp2_with fail
 refine HST.out.mono ?_
 rintro e w1 ⟨rfl, G1, e1, P1, Y1⟩
 have x1 := HX.out.ext e1 (fun h => by rcases h with h | h <;> omega)
 have H1 := hQd (aN (e1.mono (T := SX k (k + 14)) fun t _ h => h.imp id fun h => by omega) (aN P1 (aN Y1 x1)))
 clear e1 P1 Y1 x1 HST HX x6
 by_cases hz0 : zh.ln = 0
 · have HMS2 := hQd HMS.out
   rw [if_pos hz0, if_pos hz0] at HMS2
   obtain ⟨-, -, -, -, -, -, -, x7, x8, x9⟩ := H1.out.2.2.2.c10
   have HEN := hQd (Ahs _ _ _ _ z.b z.a z.c z.p z.p z.is H1.out.2.2.2 hk H1.out.1.hi)
   have d0 : (zh.ln == 0) = true := by simp [hz0]
   rw [d0]
   clear hz0 HMS
   go_wp2_with fail
   refine HEN.out.mono ?_
   rintro e w6 ⟨rfl, G6, e6, r6⟩
   have H6 := hQd (aN (H1.out.1.trans (e6.mono (T := SX k (k + 14)) fun t _ h => .inr (by omega))) (aN (H1.out.2.1.ext e6) r6))
   clear e6 r6 HEN H1 x7 x8 x9
   go_wp2_with fail
   go_end0
   rw [HMS2.out]
   exact ⟨rfl, G6, H6.out.1, H6.out.2.1, bv, _, _, H6.out.2.2, fun h => absurd h (by show ¬ ((0 : Int) = 1 ∨ (0 : Int) = 2); decide), fun h => absurd h (by show ¬ (0 : Int) = 3; decide), fun h => absurd h (by show ¬ (0 : Int) = 4; decide)⟩
 have HMS2 := hQd HMS.out
 rw [if_neg hz0, if_neg hz0] at HMS2
 have d0 : (zh.ln == 0) = false := by simp [hz0]
 rw [d0]
 clear hz0 HMS
 go_wp2_with fail
 go_end0
 rw [HMS2.out]
 exact ⟨rfl, G1, H1.out.1, H1.out.2.1, bv, _, _, H1.out.2.2.2, fun h => absurd h (by show ¬ ((4 : Int) = 1 ∨ (4 : Int) = 2); decide), fun h => absurd h (by show ¬ (4 : Int) = 3; decide), fun _ => ⟨Y, rfl, H1.out.2.2.1⟩⟩
end
end
section
open Go.RowKit Go.Shelf
section
variable {X : Nat} {w : World} {O : Om} {B : Wb} {f : Cf} {s : AW} {k : Nat}
theorem Av3 {z : Rmm} (hz : Am5 z) (hP : PW w O B f s) (hR : Aa1 w O k X z) (hl : z.ln ≠ 0) (hk : 10 ≤ k) (hhi : Hh O w) (n0 : 0 ≤ s.n) (n1 : s.n ≤ 4611686018427387904) :
 C2 237 X B.p w (RP (SX k (k + 14)) w O (.bool ((Aaq f.y (s, z)).2.ln == 0)) fun W G => PW W G B f (Aaq f.y (s, z)).1 ∧ Aa1 W G k X (Aaq f.y (s, z)).2) := by
 have h0 := hz.l0
 have h4 := hz.l4
 have hg : Bb2 f z := hz.go hl
 have hc : z.ln = 1 ∨ z.ln = 2 ∨ z.ln = 3 ∨ z.ln = 4 := by omega
 rcases hc with e | e | e | e
 · by_cases hf : 0 ≤ Aa5 (s.M (Aai z.b z.a))
   · have hst := Aj9 f.y s z e
     rw [if_pos hf] at hst
     rw [hst]
     have hql : Add z = z.a :: (if z.c = z.a then [] else [z.c]) := by unfold Add; rw [if_pos e]; split <;> rfl
     exact Aex hP hR (.inl e) hql (hz.b hl) (hz.a hl) hf hk hhi n0 n1
   exact Ajz hR (.inl e) hg (by rw [if_pos e]; exact hf) hP hk hhi n0 n1
 · by_cases hf : 0 ≤ Aa5 (s.M (Aai z.b z.c))
   · have hst := Aj8 f.y s z e
     rw [if_pos hf] at hst
     rw [hst]
     have hql : Add z = z.c :: [] := by unfold Add; rw [if_neg (by omega), if_pos e]
     exact Aex hP hR (.inr e) hql (hz.b hl) (hz.c hl) hf hk hhi n0 n1
   exact Ajz hR (.inr e) hg (by rw [if_neg (by omega)]; exact hf) hP hk hhi n0 n1
 · refine Ats hR e hg hP hk hhi n0 n1 ?_
   rcases (hz.y e).step (s := s) with g | g
   · have := g.2.2; omega
   have := g.2.way; rw [this]; simp
 exact Ags 194 hR (by unfold Ani; rw [if_neg (by omega), if_neg (by omega), if_neg (by omega)]; rfl) (enters_of Tryz.func194 (by kernel_rfl) rfl) (Aza f.y hR e (hz.h e).1 (hz.h e).2 hP hk hhi n0 n1)
end
end
section
open Go.RowKit Go.Shelf
def Ak8 (w : World) (O : Om) (k X : Nat) (now tag ref lost : Int) (p : Spt) (v0 : Value) (W : World) (G : Om) : Prop :=
 Ext (fun t => t = k ∨ t = k + 1 ∨ t = k + 2 ∨ (k + 19 ≤ t ∧ t ≤ k + 24)) O w G W ∧ ∃ lv' m1 u m2 d, Ob W G k X (Ac6 now p lv' tag ref lost) ∧ Sls W G (k + 1) 1 lv' 5 [v0, Abb m1, Amw u ref p, Abb m2, Afo d] ∧ Ada W G (k + 19) m1 [p.ver] ∧ Abx W G (k + 21) u p ⟨0, 0⟩ ∧ Ada W G (k + 23) m2 [p.ver] ∧ Ob W G (k + 2) d [Aud X, .bool false]
theorem noS {W : World} {G : Om} {k X : Nat} {now tag ref lost : Int} {p : Spt} {lv : Value} (hx : Ob W G k X (Ac6 now p lv tag ref lost)) :
 W.cell? ⟨X, 4, none⟩ = some lv ∧ W.cell? ⟨X, 1, none⟩ = some (.int .i64 p.b) ∧ W.cell? ⟨X, 2, none⟩ = some (.int .i64 p.q) ∧ W.cell? ⟨X, 3, none⟩ = some (.int .i64 p.s) ∧ W.cell? ⟨X, 6, none⟩ = some (.int .i64 ref) :=
 ⟨hx.c 4 _ rfl, hx.c 1 _ rfl, hx.c 2 _ rfl, hx.c 3 _ rfl, hx.c 6 _ rfl⟩
structure NB (w0 : World) (O0 : Om) (k X : Nat) (now tag ref lost : Int) (p : Spt) (lv v0 : Value) (a c m u q d : Option Nat) (W : World) (G : Om) : Prop where
 e : Ext (fun t => t = k ∨ t = k + 1 ∨ t = k + 2 ∨ (k + 19 ≤ t ∧ t ≤ k + 24)) O0 w0 G W
 x : Ob W G k X (Ac6 now p lv tag ref lost)
 l : Sls W G (k + 1) 1 lv 1 [v0]
 a : ∀ N, a = some N → Ob W G 0 N [.int .i64 p.b, .int .i64 p.q]
 c : ∀ N, c = some N → Ob W G 0 N [.int .i64 p.b, .int .i64 p.q]
 m : ∀ N, m = some N → Ada W G (k + 19) N [p.ver]
 u : ∀ N, u = some N → Abx W G (k + 21) N p ⟨0, 0⟩
 q : ∀ N, q = some N → Ada W G (k + 23) N [p.ver]
 d : ∀ N, d = some N → Ob W G (k + 2) N [Aud X, .bool false]
section
variable {w0 : World} {O0 : Om} {k X : Nat} {now tag ref lost : Int} {p : Spt} {lv v0 : Value} {a c m u q d : Option Nat} {W W' : World} {G G' : Om}
theorem NB.below (h : NB w0 O0 k X now tag ref lost p lv v0 a c m u q d W G) (hb : Below W.heap.size W W') : NB w0 O0 k X now tag ref lost p lv v0 a c m u q d W' G :=
 ⟨h.e.below hb, h.x.below hb, h.l.below hb, fun N g => (h.a N g).below hb, fun N g => (h.c N g).below hb, fun N g => (h.m N g).below hb, fun N g => (h.u N g).below hb, fun N g => (h.q N g).below hb, fun N g => (h.d N g).below hb⟩
theorem NB.setA (h : NB w0 O0 k X now tag ref lost p lv v0 none c m u q d W G) : NB w0 O0 k X now tag ref lost p lv v0 (some W.heap.size) c m u q d (W.alloc (.cells #[.int .i64 p.b, .int .i64 p.q] 93)) G := by
 have hb := bal W (.cells #[.int .i64 p.b, .int .i64 p.q] 93)
 obtain ⟨-, t1⟩ := Aau (S := fun _ => False) h.e.hi #[.int .i64 p.b, .int .i64 p.q] 93 W.heap.size rfl
 have h' := h.below hb
 exact ⟨h'.e, h'.x, h'.l, (fun N g => by cases g; exact t1), h'.c, h'.m, h'.u, h'.q, h'.d⟩
theorem NB.setC (h : NB w0 O0 k X now tag ref lost p lv v0 a none m u q d W G) : NB w0 O0 k X now tag ref lost p lv v0 a (some W.heap.size) m u q d (W.alloc (.cells #[.int .i64 p.b, .int .i64 p.q] 93)) G := by
 have hb := bal W (.cells #[.int .i64 p.b, .int .i64 p.q] 93)
 obtain ⟨-, t1⟩ := Aau (S := fun _ => False) h.e.hi #[.int .i64 p.b, .int .i64 p.q] 93 W.heap.size rfl
 have h' := h.below hb
 exact ⟨h'.e, h'.x, h'.l, h'.a, (fun N g => by cases g; exact t1), h'.m, h'.u, h'.q, h'.d⟩
theorem NB.setD (h : NB w0 O0 k X now tag ref lost p lv v0 a c m u q none W G) (hk : 10 ≤ k) : ∃ G', NB w0 O0 k X now tag ref lost p lv v0 a c m u q (some W.heap.size) (W.alloc (.cells #[.func (.func 242) #[.pointer (some ⟨X, 0, none⟩)] #[], .bool false] 187)) G' := by
 obtain ⟨G', e, t1, kk⟩ := Aar h.e.hi (k + 2) #[.func (.func 242) #[.pointer (some ⟨X, 0, none⟩)] #[], .bool false] 187 W.heap.size rfl
 exact ⟨G', h.e.trans (e.mono fun t _ g => by omega), kk _ _ _ h.x, h.l.ext e, fun N g => kk _ _ _ (h.a N g), fun N g => kk _ _ _ (h.c N g), fun N g => (h.m N g).ext e, fun N g => (h.u N g).ext e, fun N g => (h.q N g).ext e, (fun N g => by cases g; exact t1)⟩
theorem NB.setM {N0 : Nat} (h : NB w0 O0 k X now tag ref lost p lv v0 a c none u q d W G) (e : Ext (fun t => t = k + 19 ∨ t = k + 19 + 1) G W G' W') (hm : Ada W' G' (k + 19) N0 [p.ver]) : NB w0 O0 k X now tag ref lost p lv v0 a c (some N0) u q d W' G' :=
 ⟨h.e.trans (e.mono fun t _ g => by omega), h.x.ext e, h.l.ext e, fun N g => (h.a N g).ext e, fun N g => (h.c N g).ext e, (fun N g => by cases g; exact hm), fun N g => (h.u N g).ext e, fun N g => (h.q N g).ext e, fun N g => (h.d N g).ext e⟩
theorem NB.setU {N0 : Nat} (h : NB w0 O0 k X now tag ref lost p lv v0 a c m none q d W G) (e : Ext (fun t => t = k + 21) G W G' W') (hm : Abx W' G' (k + 21) N0 p ⟨0, 0⟩) : NB w0 O0 k X now tag ref lost p lv v0 a c m (some N0) q d W' G' :=
 ⟨h.e.trans (e.mono fun t _ g => by omega), h.x.ext e, h.l.ext e, fun N g => (h.a N g).ext e, fun N g => (h.c N g).ext e, fun N g => (h.m N g).ext e, (fun N g => by cases g; exact hm), fun N g => (h.q N g).ext e, fun N g => (h.d N g).ext e⟩
theorem NB.setQ {N0 : Nat} (h : NB w0 O0 k X now tag ref lost p lv v0 a c m u none d W G) (e : Ext (fun t => t = k + 23 ∨ t = k + 23 + 1) G W G' W') (hm : Ada W' G' (k + 23) N0 [p.ver]) : NB w0 O0 k X now tag ref lost p lv v0 a c m u (some N0) d W' G' :=
 ⟨h.e.trans (e.mono fun t _ g => by omega), h.x.ext e, h.l.ext e, fun N g => (h.a N g).ext e, fun N g => (h.c N g).ext e, fun N g => (h.m N g).ext e, fun N g => (h.u N g).ext e, (fun N g => by cases g; exact hm), fun N g => (h.d N g).ext e⟩
structure NC (w0 : World) (O0 : Om) (k X : Nat) (now tag ref lost : Int) (p : Spt) (lv : Value) (m u q d : Nat) (W : World) (G : Om) : Prop where
 e : Ext (fun t => t = k ∨ t = k + 1 ∨ t = k + 2 ∨ (k + 19 ≤ t ∧ t ≤ k + 24)) O0 w0 G W
 x : Ob W G k X (Ac6 now p lv tag ref lost)
 m : Ada W G (k + 19) m [p.ver]
 u : Abx W G (k + 21) u p ⟨0, 0⟩
 q : Ada W G (k + 23) q [p.ver]
 d : Ob W G (k + 2) d [Aud X, .bool false]
theorem NB.app {m u q d : Nat} (h : NB w0 O0 k X now tag ref lost p lv v0 a c (some m) (some u) (some q) (some d) W G) (e : Ext (fun t => t = k + 1) G W G' W') : NC w0 O0 k X now tag ref lost p lv m u q d W' G' :=
 ⟨h.e.trans (e.mono fun t _ g => by omega), h.x.ext e, (h.m m rfl).ext e, (h.u u rfl).ext e, (h.q q rfl).ext e, (h.d d rfl).ext e⟩
theorem NC.fin {m u q d : Nat} (h : NC w0 O0 k X now tag ref lost p lv m u q d W G) (hk : 10 ≤ k) (v : Value) (hs : Sls W G (k + 1) 1 v (1 + 4) ([v0] ++ [Abb m, Amw u ref p, Abb q, Afo d])) : Ak8 w0 O0 k X now tag ref lost p v0 (W.setCell ⟨X, 4, none⟩ v) G := by
 have e := Aaf (j := 4) (v := v) h.e.hi h.x hk
 exact ⟨h.e.trans (e.mono fun t _ g => .inl g), _, m, u, q, d, h.x.set 4 v (by simp [Ac6]), hs.ext e, h.m.ext e, h.u.ext e, h.q.ext e, h.d.ext e⟩
end
section
variable {X : Nat} {w : World} {O : Om} {B : Wb} {f : Cf} {s : AW} {k : Nat}
theorem Aq6 {now tag ref lost : Int} {p : Spt} {lv v0 : Value} (hx : Ob w O k X (Ac6 now p lv tag ref lost)) (hS : Sls w O (k + 1) 1 lv 1 [v0]) (hp : p.ok) (hk : 10 ≤ k) (hhi : Hh O w) :
 Calls Tryz.prog 240 #[.pointer (some ⟨X, 0, none⟩), .agg #[.int .i64 0, .int .i64 0, .int .i64 0], .bool false] w fun e w' => e = .returned (.tuple #[]) ∧ ∃ G, Ak8 w O k X now tag ref lost p v0 w' G := by
 obtain ⟨A, o, cp, rfl, hc1, hc2⟩ := hS.open (by decide)
 have HP := hQd hp
 have hb := bal w (.cells #[.int .i64 0, .int .i64 0, .int .i64 0] 95)
 have HE := hQd (Ext.of_below (S := fun t => t = k ∨ t = k + 1 ∨ t = k + 2 ∨ (k + 19 ≤ t ∧ t ≤ k + 24)) hhi hb)
 have HX := hQd (hx.below hb)
 have HL := hQd (hS.below hb)
 obtain ⟨i0, hi, hz0, hz1, hz2⟩ := info_parts Ahm
 have HI := hQd (aN hi (aN hz0 (aN hz1 hz2)))
 clear hp hhi hb hi hz0 hz1 hz2 hx hS
 go_enter Tryz.func240, Tryz.ntmps240
 go_upto_region 3 with fail
 generalize w.alloc (.cells #[.int .i64 0, .int .i64 0, .int .i64 0] 95) = w1 at HE HX HL ⊢
 refine' Az9 (I := fun a c m u q d W G => NB w O k X now tag ref lost p (.slice (some ⟨A, o, none⟩) 1 cp) v0 (some a) (some c) (some m) (some u) (some q) (some d) W G) (fun sh10 => ?_) ?t10
 rotate_left
 refine' Awk (I := fun a c m u d W G => NB w O k X now tag ref lost p (.slice (some ⟨A, o, none⟩) 1 cp) v0 (some a) (some c) (some m) (some u) none (some d) W G) (fun sh9 => ?_) ?t9
 rotate_left
 refine' Aok (I := fun a c m d W G => NB w O k X now tag ref lost p (.slice (some ⟨A, o, none⟩) 1 cp) v0 (some a) (some c) (some m) none none (some d) W G) (fun sh8 => ?_) ?t8
 rotate_left
 refine' Aok (I := fun a m u d W G => NB w O k X now tag ref lost p (.slice (some ⟨A, o, none⟩) 1 cp) v0 (some a) none (some m) (some u) none (some d) W G) (fun sh7 => ?_) ?t7
 rotate_left
 refine' Aok (I := fun a c m u W G => NB w O k X now tag ref lost p (.slice (some ⟨A, o, none⟩) 1 cp) v0 (some a) (some c) (some m) (some u) none none W G) (fun sh6 => ?_) ?t6
 rotate_left
 refine' Aol (I := fun a c d W G => NB w O k X now tag ref lost p (.slice (some ⟨A, o, none⟩) 1 cp) v0 (some a) (some c) none none none (some d) W G) (fun sh5 => ?_) ?t5
 rotate_left
 refine' Aol (I := fun a m d W G => NB w O k X now tag ref lost p (.slice (some ⟨A, o, none⟩) 1 cp) v0 (some a) none (some m) none none (some d) W G) (fun sh4 => ?_) ?t4
 rotate_left
 refine' Aol (I := fun a c m W G => NB w O k X now tag ref lost p (.slice (some ⟨A, o, none⟩) 1 cp) v0 (some a) (some c) (some m) none none none W G) (fun sh3 => ?_) ?t3
 rotate_left
 refine' Aom (I := fun c d W G => NB w O k X now tag ref lost p (.slice (some ⟨A, o, none⟩) 1 cp) v0 none (some c) none none none (some d) W G) (fun sh2 => ?_) ?t2
 rotate_left
 refine' Aom (I := fun a d W G => NB w O k X now tag ref lost p (.slice (some ⟨A, o, none⟩) 1 cp) v0 (some a) none none none none (some d) W G) (fun sh1 => ?_) ?t1
 rotate_left
 refine' Aom (I := fun a c W G => NB w O k X now tag ref lost p (.slice (some ⟨A, o, none⟩) 1 cp) v0 (some a) (some c) none none none none W G) (fun sh0 => ?_) ?t0
 rotate_left
 refine Ad7 45 (S := fun w' => w'.cell? ⟨X, 4, none⟩ = some (.slice (some ⟨A, o, none⟩) 1 cp) ∧ w'.cell? ⟨X, 1, none⟩ = some (.int .i64 p.b) ∧ w'.cell? ⟨X, 2, none⟩ = some (.int .i64 p.q) ∧ w'.cell? ⟨X, 3, none⟩ = some (.int .i64 p.s) ∧ w'.cell? ⟨X, 6, none⟩ = some (.int .i64 ref)) (by kernel_rfl) ?sA (fun hH0 => ?rA)
 case sA => exact noS (HX.out.below (Aaa _))
 have B0 : Hid (NB w O k X now tag ref lost p (.slice (some ⟨A, o, none⟩) 1 cp) v0 none none none none none none w1.drew O) := hQd ⟨HE.out.below (Aaa w1), HX.out.below (Aaa w1), HL.out.below (Aaa w1), (fun _ h => by cases h), (fun _ h => by cases h), (fun _ h => by cases h), (fun _ h => by cases h), (fun _ h => by cases h), (fun _ h => by cases h)⟩
 generalize w1.drew = wd at hH0 B0 ⊢
 refine' Aem [0,1,2,3,4,5,6,7,8,9,13,14,15,16,18,19,20,21,22,23,24,25,28,29,30,31,32,36,37,38] (by kernel_rfl) (fun _ _ _ _ h => h) hH0 ?_
 iterate 30 ((try simp only [zz]); refine' tky (List.getElem?_toArray.trans rfl) (Or.inl ⟨by rfl, ?_⟩) ?_; rotate_left; · intro w hSw; (try dsimp only at hSw); go_simp; try with_reducible rfl)
 refine tk0 ?_
 try simp only [zz, Adk]
 refine Aad (rs := [10, 33, 39]) (by kernel_rfl) (by simp) ?_
 refine' Aab.cons (List.getElem?_toArray.trans rfl) (fun K hK => ?st31) ?more31
 case st31 =>
  go_simp
  refine hK.out _ _ ?s32 (fun hH32 => ?r32)
  case s32 => ((try dsimp only); exact noS (B0.out.x.below (bal _ _)))
  have b32 := B0.out.setA
  obtain ⟨v32, hv32⟩ := exq (wd.alloc (.cells #[.int .i64 p.b, .int .i64 p.q] 93))
  obtain ⟨N32, hn32⟩ := exq wd.heap.size
  rw [← hv32] at hH32 b32 ⊢
  rw [← hn32] at b32 ⊢
  have B32 := hQd b32
  clear hv32 hn32 b32 B0
  clear hK K hH0
  try simp only [zz]
  refine Aad (rs := [11, 33, 39]) (by kernel_rfl) (by simp) ?_
  refine' Aab.cons (List.getElem?_toArray.trans rfl) (fun K hK => ?st33) ?more33
  case st33 =>
   go_simp
   refine' Calls.mono (Adc p HP.out (k + 19) (by omega) ⟨Nat.le_refl _, by unfold maxLen; decide⟩ (B32.out.a _ rfl).lt ((B32.out.a _ rfl).c 0 _ rfl) ((B32.out.a _ rfl).c 1 _ rfl) B32.out.e.hi) ?c34
   rintro e w34 ⟨m34, rfl, G34, e34, a34⟩
   have B34 := hQd (B32.out.setM e34 a34)
   clear a34 e34 B32
   try go_wp2_with fail
   refine hK.out _ _ ?s34 (fun hH34 => ?r34)
   case s34 => ((try dsimp only); exact noS B34.out.x)
   clear hK K hH32
   refine' Aem [12] (by kernel_rfl) (fun _ _ _ _ h => h) hH34 ?_
   iterate 1 ((try simp only [zz]); refine' tky (List.getElem?_toArray.trans rfl) (Or.inl ⟨by rfl, ?_⟩) ?_; rotate_left; · intro w hSw; (try dsimp only at hSw); go_simp; try with_reducible rfl)
   refine tk0 ?_
   try simp only [zz, Adk]
   refine Aad (rs := [17, 33, 39]) (by kernel_rfl) (by simp) ?_
   refine' Aab.cons (List.getElem?_toArray.trans rfl) (fun K hK => ?st36) ?more36
   case st36 =>
    go_simp
    refine' Calls.mono (Aee (k := k + 21) HP.out B34.out.e.hi) ?c37
    rintro e w37 ⟨m37, rfl, G37, e37, a37⟩
    have B37 := hQd (B34.out.setU e37 a37)
    clear a37 e37 B34
    try go_wp2_with fail
    refine hK.out _ _ ?s37 (fun hH37 => ?r37)
    case s37 => ((try dsimp only); exact noS B37.out.x)
    clear hK K hH34
    refine' Aem [26,27] (by kernel_rfl) (fun _ _ _ _ h => h) hH37 ?_
    iterate 2 ((try simp only [zz]); refine' tky (List.getElem?_toArray.trans rfl) (Or.inl ⟨by rfl, ?_⟩) ?_; rotate_left; · intro w hSw; (try dsimp only at hSw); go_simp; try with_reducible rfl)
    refine tk0 ?_
    try simp only [zz, Adk]
    refine Aad (rs := [33, 39]) (by kernel_rfl) (by simp) ?_
    refine' Aab.cons (List.getElem?_toArray.trans rfl) (fun K hK => ?st40) ?more40
    case st40 =>
     go_simp
     refine hK.out _ _ ?s41 (fun hH41 => ?r41)
     case s41 => ((try dsimp only); exact noS (B37.out.x.below (bal _ _)))
     have b41 := B37.out.setC
     obtain ⟨v41, hv41⟩ := exq (w37.alloc (.cells #[.int .i64 p.b, .int .i64 p.q] 93))
     obtain ⟨N41, hn41⟩ := exq w37.heap.size
     rw [← hv41] at hH41 b41 ⊢
     rw [← hn41] at b41 ⊢
     have B41 := hQd b41
     clear hv41 hn41 b41 B37
     clear hK K hH37
     try simp only [zz]
     exact sh6 N32 N41 m34 m37 v41 G37 B41.out
    refine' Aab.cons (List.getElem?_toArray.trans rfl) (fun K hK => ?st42) ?more42
    case st42 =>
     go_simp
     refine hK.out _ _ ?s43 (fun hH43 => ?r43)
     case s43 => ((try dsimp only); exact noS (B37.out.x.below (bal _ _)))
     obtain ⟨H43, b43⟩ := B37.out.setD hk
     obtain ⟨v43, hv43⟩ := exq (w37.alloc (.cells #[.func (.func 242) #[.pointer (some ⟨X, 0, none⟩)] #[], .bool false] 187))
     obtain ⟨N43, hn43⟩ := exq w37.heap.size
     rw [← hv43] at hH43 b43 ⊢
     rw [← hn43] at b43 ⊢
     have B43 := hQd b43
     clear hv43 hn43 b43 B37
     clear hK K hH37
     refine' Aem [40] (by kernel_rfl) (fun _ _ _ _ h => h) hH43 ?_
     iterate 1 ((try simp only [zz]); refine' tky (List.getElem?_toArray.trans rfl) (Or.inl ⟨by rfl, ?_⟩) ?_; rotate_left; · intro w hSw; (try dsimp only at hSw); go_simp; try with_reducible rfl)
     refine tk0 ?_
     try simp only [zz, Adk]
     exact sh7 N32 m34 m37 N43 v43 H43 B43.out
    exact Aab.nil
   refine' Aab.cons (List.getElem?_toArray.trans rfl) (fun K hK => ?st45) ?more45
   case st45 =>
    go_simp
    refine hK.out _ _ ?s46 (fun hH46 => ?r46)
    case s46 => ((try dsimp only); exact noS (B34.out.x.below (bal _ _)))
    have b46 := B34.out.setC
    obtain ⟨v46, hv46⟩ := exq (w34.alloc (.cells #[.int .i64 p.b, .int .i64 p.q] 93))
    obtain ⟨N46, hn46⟩ := exq w34.heap.size
    rw [← hv46] at hH46 b46 ⊢
    rw [← hn46] at b46 ⊢
    have B46 := hQd b46
    clear hv46 hn46 b46 B34
    clear hK K hH34
    try simp only [zz]
    exact sh3 N32 N46 m34 v46 G34 B46.out
   refine' Aab.cons (List.getElem?_toArray.trans rfl) (fun K hK => ?st47) ?more47
   case st47 =>
    go_simp
    refine hK.out _ _ ?s48 (fun hH48 => ?r48)
    case s48 => ((try dsimp only); exact noS (B34.out.x.below (bal _ _)))
    obtain ⟨H48, b48⟩ := B34.out.setD hk
    obtain ⟨v48, hv48⟩ := exq (w34.alloc (.cells #[.func (.func 242) #[.pointer (some ⟨X, 0, none⟩)] #[], .bool false] 187))
    obtain ⟨N48, hn48⟩ := exq w34.heap.size
    rw [← hv48] at hH48 b48 ⊢
    rw [← hn48] at b48 ⊢
    have B48 := hQd b48
    clear hv48 hn48 b48 B34
    clear hK K hH34
    refine' Aem [40] (by kernel_rfl) (fun _ _ _ _ h => h) hH48 ?_
    iterate 1 ((try simp only [zz]); refine' tky (List.getElem?_toArray.trans rfl) (Or.inl ⟨by rfl, ?_⟩) ?_; rotate_left; · intro w hSw; (try dsimp only at hSw); go_simp; try with_reducible rfl)
    refine tk0 ?_
    try simp only [zz, Adk]
    exact sh4 N32 m34 N48 v48 H48 B48.out
   exact Aab.nil
  refine' Aab.cons (List.getElem?_toArray.trans rfl) (fun K hK => ?st50) ?more50
  case st50 =>
   go_simp
   refine hK.out _ _ ?s51 (fun hH51 => ?r51)
   case s51 => ((try dsimp only); exact noS (B32.out.x.below (bal _ _)))
   have b51 := B32.out.setC
   obtain ⟨v51, hv51⟩ := exq (v32.alloc (.cells #[.int .i64 p.b, .int .i64 p.q] 93))
   obtain ⟨N51, hn51⟩ := exq v32.heap.size
   rw [← hv51] at hH51 b51 ⊢
   rw [← hn51] at b51 ⊢
   have B51 := hQd b51
   clear hv51 hn51 b51 B32
   clear hK K hH32
   try simp only [zz]
   exact sh0 N32 N51 v51 O B51.out
  refine' Aab.cons (List.getElem?_toArray.trans rfl) (fun K hK => ?st52) ?more52
  case st52 =>
   go_simp
   refine hK.out _ _ ?s53 (fun hH53 => ?r53)
   case s53 => ((try dsimp only); exact noS (B32.out.x.below (bal _ _)))
   obtain ⟨H53, b53⟩ := B32.out.setD hk
   obtain ⟨v53, hv53⟩ := exq (v32.alloc (.cells #[.func (.func 242) #[.pointer (some ⟨X, 0, none⟩)] #[], .bool false] 187))
   obtain ⟨N53, hn53⟩ := exq v32.heap.size
   rw [← hv53] at hH53 b53 ⊢
   rw [← hn53] at b53 ⊢
   have B53 := hQd b53
   clear hv53 hn53 b53 B32
   clear hK K hH32
   refine' Aem [40] (by kernel_rfl) (fun _ _ _ _ h => h) hH53 ?_
   iterate 1 ((try simp only [zz]); refine' tky (List.getElem?_toArray.trans rfl) (Or.inl ⟨by rfl, ?_⟩) ?_; rotate_left; · intro w hSw; (try dsimp only at hSw); go_simp; try with_reducible rfl)
   refine tk0 ?_
   try simp only [zz, Adk]
   exact sh1 N32 N53 v53 H53 B53.out
  exact Aab.nil
 refine' Aab.cons (List.getElem?_toArray.trans rfl) (fun K hK => ?st55) ?more55
 case st55 =>
  go_simp
  refine hK.out _ _ ?s56 (fun hH56 => ?r56)
  case s56 => ((try dsimp only); exact noS (B0.out.x.below (bal _ _)))
  have b56 := B0.out.setC
  obtain ⟨v56, hv56⟩ := exq (wd.alloc (.cells #[.int .i64 p.b, .int .i64 p.q] 93))
  obtain ⟨N56, hn56⟩ := exq wd.heap.size
  rw [← hv56] at hH56 b56 ⊢
  rw [← hn56] at b56 ⊢
  have B56 := hQd b56
  clear hv56 hn56 b56 B0
  clear hK K hH0
  try simp only [zz]
  refine Aad (rs := [10, 39]) (by kernel_rfl) (by simp) ?_
  refine' Aab.cons (List.getElem?_toArray.trans rfl) (fun K hK => ?st57) ?more57
  case st57 =>
   go_simp
   refine hK.out _ _ ?s58 (fun hH58 => ?r58)
   case s58 => ((try dsimp only); exact noS (B56.out.x.below (bal _ _)))
   have b58 := B56.out.setA
   obtain ⟨v58, hv58⟩ := exq (v56.alloc (.cells #[.int .i64 p.b, .int .i64 p.q] 93))
   obtain ⟨N58, hn58⟩ := exq v56.heap.size
   rw [← hv58] at hH58 b58 ⊢
   rw [← hn58] at b58 ⊢
   have B58 := hQd b58
   clear hv58 hn58 b58 B56
   clear hK K hH56
   try simp only [zz]
   exact sh0 N58 N56 v58 O B58.out
  refine' Aab.cons (List.getElem?_toArray.trans rfl) (fun K hK => ?st59) ?more59
  case st59 =>
   go_simp
   refine hK.out _ _ ?s60 (fun hH60 => ?r60)
   case s60 => ((try dsimp only); exact noS (B56.out.x.below (bal _ _)))
   obtain ⟨H60, b60⟩ := B56.out.setD hk
   obtain ⟨v60, hv60⟩ := exq (v56.alloc (.cells #[.func (.func 242) #[.pointer (some ⟨X, 0, none⟩)] #[], .bool false] 187))
   obtain ⟨N60, hn60⟩ := exq v56.heap.size
   rw [← hv60] at hH60 b60 ⊢
   rw [← hn60] at b60 ⊢
   have B60 := hQd b60
   clear hv60 hn60 b60 B56
   clear hK K hH56
   refine' Aem [40] (by kernel_rfl) (fun _ _ _ _ h => h) hH60 ?_
   iterate 1 ((try simp only [zz]); refine' tky (List.getElem?_toArray.trans rfl) (Or.inl ⟨by rfl, ?_⟩) ?_; rotate_left; · intro w hSw; (try dsimp only at hSw); go_simp; try with_reducible rfl)
   refine tk0 ?_
   try simp only [zz, Adk]
   exact sh2 N56 N60 v60 H60 B60.out
  exact Aab.nil
 refine' Aab.cons (List.getElem?_toArray.trans rfl) (fun K hK => ?st62) ?more62
 case st62 =>
  go_simp
  refine hK.out _ _ ?s63 (fun hH63 => ?r63)
  case s63 => ((try dsimp only); exact noS (B0.out.x.below (bal _ _)))
  obtain ⟨H63, b63⟩ := B0.out.setD hk
  obtain ⟨v63, hv63⟩ := exq (wd.alloc (.cells #[.func (.func 242) #[.pointer (some ⟨X, 0, none⟩)] #[], .bool false] 187))
  obtain ⟨N63, hn63⟩ := exq wd.heap.size
  rw [← hv63] at hH63 b63 ⊢
  rw [← hn63] at b63 ⊢
  have B63 := hQd b63
  clear hv63 hn63 b63 B0
  clear hK K hH0
  refine' Aem [40] (by kernel_rfl) (fun _ _ _ _ h => h) hH63 ?_
  iterate 1 ((try simp only [zz]); refine' tky (List.getElem?_toArray.trans rfl) (Or.inl ⟨by rfl, ?_⟩) ?_; rotate_left; · intro w hSw; (try dsimp only at hSw); go_simp; try with_reducible rfl)
  refine tk0 ?_
  try simp only [zz, Adk]
  refine Aad (rs := [10, 33]) (by kernel_rfl) (by simp) ?_
  refine' Aab.cons (List.getElem?_toArray.trans rfl) (fun K hK => ?st65) ?more65
  case st65 =>
   go_simp
   refine hK.out _ _ ?s66 (fun hH66 => ?r66)
   case s66 => ((try dsimp only); exact noS (B63.out.x.below (bal _ _)))
   have b66 := B63.out.setA
   obtain ⟨v66, hv66⟩ := exq (v63.alloc (.cells #[.int .i64 p.b, .int .i64 p.q] 93))
   obtain ⟨N66, hn66⟩ := exq v63.heap.size
   rw [← hv66] at hH66 b66 ⊢
   rw [← hn66] at b66 ⊢
   have B66 := hQd b66
   clear hv66 hn66 b66 B63
   clear hK K hH63
   try simp only [zz]
   exact sh1 N66 N63 v66 H63 B66.out
  refine' Aab.cons (List.getElem?_toArray.trans rfl) (fun K hK => ?st67) ?more67
  case st67 =>
   go_simp
   refine hK.out _ _ ?s68 (fun hH68 => ?r68)
   case s68 => ((try dsimp only); exact noS (B63.out.x.below (bal _ _)))
   have b68 := B63.out.setC
   obtain ⟨v68, hv68⟩ := exq (v63.alloc (.cells #[.int .i64 p.b, .int .i64 p.q] 93))
   obtain ⟨N68, hn68⟩ := exq v63.heap.size
   rw [← hv68] at hH68 b68 ⊢
   rw [← hn68] at b68 ⊢
   have B68 := hQd b68
   clear hv68 hn68 b68 B63
   clear hK K hH63
   try simp only [zz]
   exact sh2 N68 N63 v68 H63 B68.out
  exact Aab.nil
 exact Aab.nil
 case t0 =>
  intro a_0 c_0 W_0 G_0 hB_0
  have B_0 := hQd hB_0
  have hH_0 := noS hB_0.x
  clear hB_0
  refine Aad (rs := [11, 39]) (by kernel_rfl) (by simp) ?_
  refine' Aab.cons (List.getElem?_toArray.trans rfl) (fun K hK => ?st69) ?more69
  case st69 =>
   go_simp
   refine' Calls.mono (Adc p HP.out (k + 19) (by omega) ⟨Nat.le_refl _, by unfold maxLen; decide⟩ (B_0.out.a _ rfl).lt ((B_0.out.a _ rfl).c 0 _ rfl) ((B_0.out.a _ rfl).c 1 _ rfl) B_0.out.e.hi) ?c70
   rintro e w70 ⟨m70, rfl, G70, e70, a70⟩
   have B70 := hQd (B_0.out.setM e70 a70)
   clear a70 e70 B_0
   try go_wp2_with fail
   refine hK.out _ _ ?s70 (fun hH70 => ?r70)
   case s70 => ((try dsimp only); exact noS B70.out.x)
   clear hK K hH_0
   refine' Aem [12] (by kernel_rfl) (fun _ _ _ _ h => h) hH70 ?_
   iterate 1 ((try simp only [zz]); refine' tky (List.getElem?_toArray.trans rfl) (Or.inl ⟨by rfl, ?_⟩) ?_; rotate_left; · intro w hSw; (try dsimp only at hSw); go_simp; try with_reducible rfl)
   refine tk0 ?_
   try simp only [zz, Adk]
   exact sh3 a_0 c_0 m70 w70 G70 B70.out
  refine' Aab.cons (List.getElem?_toArray.trans rfl) (fun K hK => ?st72) ?more72
  case st72 =>
   go_simp
   refine hK.out _ _ ?s73 (fun hH73 => ?r73)
   case s73 => ((try dsimp only); exact noS (B_0.out.x.below (bal _ _)))
   obtain ⟨H73, b73⟩ := B_0.out.setD hk
   obtain ⟨v73, hv73⟩ := exq (W_0.alloc (.cells #[.func (.func 242) #[.pointer (some ⟨X, 0, none⟩)] #[], .bool false] 187))
   obtain ⟨N73, hn73⟩ := exq W_0.heap.size
   rw [← hv73] at hH73 b73 ⊢
   rw [← hn73] at b73 ⊢
   have B73 := hQd b73
   clear hv73 hn73 b73 B_0
   clear hK K hH_0
   refine' Aem [40] (by kernel_rfl) (fun _ _ _ _ h => h) hH73 ?_
   iterate 1 ((try simp only [zz]); refine' tky (List.getElem?_toArray.trans rfl) (Or.inl ⟨by rfl, ?_⟩) ?_; rotate_left; · intro w hSw; (try dsimp only at hSw); go_simp; try with_reducible rfl)
   refine tk0 ?_
   try simp only [zz, Adk]
   exact sh5 a_0 c_0 N73 v73 H73 B73.out
  exact Aab.nil
 case t1 =>
  intro a_1 d_1 W_1 G_1 hB_1
  have B_1 := hQd hB_1
  have hH_1 := noS hB_1.x
  clear hB_1
  refine Aad (rs := [11, 33]) (by kernel_rfl) (by simp) ?_
  refine' Aab.cons (List.getElem?_toArray.trans rfl) (fun K hK => ?st75) ?more75
  case st75 =>
   go_simp
   refine' Calls.mono (Adc p HP.out (k + 19) (by omega) ⟨Nat.le_refl _, by unfold maxLen; decide⟩ (B_1.out.a _ rfl).lt ((B_1.out.a _ rfl).c 0 _ rfl) ((B_1.out.a _ rfl).c 1 _ rfl) B_1.out.e.hi) ?c76
   rintro e w76 ⟨m76, rfl, G76, e76, a76⟩
   have B76 := hQd (B_1.out.setM e76 a76)
   clear a76 e76 B_1
   try go_wp2_with fail
   refine hK.out _ _ ?s76 (fun hH76 => ?r76)
   case s76 => ((try dsimp only); exact noS B76.out.x)
   clear hK K hH_1
   refine' Aem [12] (by kernel_rfl) (fun _ _ _ _ h => h) hH76 ?_
   iterate 1 ((try simp only [zz]); refine' tky (List.getElem?_toArray.trans rfl) (Or.inl ⟨by rfl, ?_⟩) ?_; rotate_left; · intro w hSw; (try dsimp only at hSw); go_simp; try with_reducible rfl)
   refine tk0 ?_
   try simp only [zz, Adk]
   exact sh4 a_1 m76 d_1 w76 G76 B76.out
  refine' Aab.cons (List.getElem?_toArray.trans rfl) (fun K hK => ?st78) ?more78
  case st78 =>
   go_simp
   refine hK.out _ _ ?s79 (fun hH79 => ?r79)
   case s79 => ((try dsimp only); exact noS (B_1.out.x.below (bal _ _)))
   have b79 := B_1.out.setC
   obtain ⟨v79, hv79⟩ := exq (W_1.alloc (.cells #[.int .i64 p.b, .int .i64 p.q] 93))
   obtain ⟨N79, hn79⟩ := exq W_1.heap.size
   rw [← hv79] at hH79 b79 ⊢
   rw [← hn79] at b79 ⊢
   have B79 := hQd b79
   clear hv79 hn79 b79 B_1
   clear hK K hH_1
   try simp only [zz]
   exact sh5 a_1 N79 d_1 v79 G_1 B79.out
  exact Aab.nil
 case t2 =>
  intro c_2 d_2 W_2 G_2 hB_2
  have B_2 := hQd hB_2
  have hH_2 := noS hB_2.x
  clear hB_2
  refine Aad (rs := [10]) (by kernel_rfl) (by simp) ?_
  refine' Aab.cons (List.getElem?_toArray.trans rfl) (fun K hK => ?st80) ?more80
  case st80 =>
   go_simp
   refine hK.out _ _ ?s81 (fun hH81 => ?r81)
   case s81 => ((try dsimp only); exact noS (B_2.out.x.below (bal _ _)))
   have b81 := B_2.out.setA
   obtain ⟨v81, hv81⟩ := exq (W_2.alloc (.cells #[.int .i64 p.b, .int .i64 p.q] 93))
   obtain ⟨N81, hn81⟩ := exq W_2.heap.size
   rw [← hv81] at hH81 b81 ⊢
   rw [← hn81] at b81 ⊢
   have B81 := hQd b81
   clear hv81 hn81 b81 B_2
   clear hK K hH_2
   try simp only [zz]
   exact sh5 N81 c_2 d_2 v81 G_2 B81.out
  exact Aab.nil
 case t3 =>
  intro a_3 c_3 m_3 W_3 G_3 hB_3
  have B_3 := hQd hB_3
  have hH_3 := noS hB_3.x
  clear hB_3
  refine Aad (rs := [17, 39]) (by kernel_rfl) (by simp) ?_
  refine' Aab.cons (List.getElem?_toArray.trans rfl) (fun K hK => ?st82) ?more82
  case st82 =>
   go_simp
   refine' Calls.mono (Aee (k := k + 21) HP.out B_3.out.e.hi) ?c83
   rintro e w83 ⟨m83, rfl, G83, e83, a83⟩
   have B83 := hQd (B_3.out.setU e83 a83)
   clear a83 e83 B_3
   try go_wp2_with fail
   refine hK.out _ _ ?s83 (fun hH83 => ?r83)
   case s83 => ((try dsimp only); exact noS B83.out.x)
   clear hK K hH_3
   refine' Aem [26,27] (by kernel_rfl) (fun _ _ _ _ h => h) hH83 ?_
   iterate 2 ((try simp only [zz]); refine' tky (List.getElem?_toArray.trans rfl) (Or.inl ⟨by rfl, ?_⟩) ?_; rotate_left; · intro w hSw; (try dsimp only at hSw); go_simp; try with_reducible rfl)
   refine tk0 ?_
   try simp only [zz, Adk]
   exact sh6 a_3 c_3 m_3 m83 w83 G83 B83.out
  refine' Aab.cons (List.getElem?_toArray.trans rfl) (fun K hK => ?st86) ?more86
  case st86 =>
   go_simp
   refine hK.out _ _ ?s87 (fun hH87 => ?r87)
   case s87 => ((try dsimp only); exact noS (B_3.out.x.below (bal _ _)))
   obtain ⟨H87, b87⟩ := B_3.out.setD hk
   obtain ⟨v87, hv87⟩ := exq (W_3.alloc (.cells #[.func (.func 242) #[.pointer (some ⟨X, 0, none⟩)] #[], .bool false] 187))
   obtain ⟨N87, hn87⟩ := exq W_3.heap.size
   rw [← hv87] at hH87 b87 ⊢
   rw [← hn87] at b87 ⊢
   have B87 := hQd b87
   clear hv87 hn87 b87 B_3
   clear hK K hH_3
   refine' Aem [40] (by kernel_rfl) (fun _ _ _ _ h => h) hH87 ?_
   iterate 1 ((try simp only [zz]); refine' tky (List.getElem?_toArray.trans rfl) (Or.inl ⟨by rfl, ?_⟩) ?_; rotate_left; · intro w hSw; (try dsimp only at hSw); go_simp; try with_reducible rfl)
   refine tk0 ?_
   try simp only [zz, Adk]
   exact sh8 a_3 c_3 m_3 N87 v87 H87 B87.out
  exact Aab.nil
 case t4 =>
  intro a_4 m_4 d_4 W_4 G_4 hB_4
  have B_4 := hQd hB_4
  have hH_4 := noS hB_4.x
  clear hB_4
  refine Aad (rs := [17, 33]) (by kernel_rfl) (by simp) ?_
  refine' Aab.cons (List.getElem?_toArray.trans rfl) (fun K hK => ?st89) ?more89
  case st89 =>
   go_simp
   refine' Calls.mono (Aee (k := k + 21) HP.out B_4.out.e.hi) ?c90
   rintro e w90 ⟨m90, rfl, G90, e90, a90⟩
   have B90 := hQd (B_4.out.setU e90 a90)
   clear a90 e90 B_4
   try go_wp2_with fail
   refine hK.out _ _ ?s90 (fun hH90 => ?r90)
   case s90 => ((try dsimp only); exact noS B90.out.x)
   clear hK K hH_4
   refine' Aem [26,27] (by kernel_rfl) (fun _ _ _ _ h => h) hH90 ?_
   iterate 2 ((try simp only [zz]); refine' tky (List.getElem?_toArray.trans rfl) (Or.inl ⟨by rfl, ?_⟩) ?_; rotate_left; · intro w hSw; (try dsimp only at hSw); go_simp; try with_reducible rfl)
   refine tk0 ?_
   try simp only [zz, Adk]
   exact sh7 a_4 m_4 m90 d_4 w90 G90 B90.out
  refine' Aab.cons (List.getElem?_toArray.trans rfl) (fun K hK => ?st93) ?more93
  case st93 =>
   go_simp
   refine hK.out _ _ ?s94 (fun hH94 => ?r94)
   case s94 => ((try dsimp only); exact noS (B_4.out.x.below (bal _ _)))
   have b94 := B_4.out.setC
   obtain ⟨v94, hv94⟩ := exq (W_4.alloc (.cells #[.int .i64 p.b, .int .i64 p.q] 93))
   obtain ⟨N94, hn94⟩ := exq W_4.heap.size
   rw [← hv94] at hH94 b94 ⊢
   rw [← hn94] at b94 ⊢
   have B94 := hQd b94
   clear hv94 hn94 b94 B_4
   clear hK K hH_4
   try simp only [zz]
   exact sh8 a_4 N94 m_4 d_4 v94 G_4 B94.out
  exact Aab.nil
 case t5 =>
  intro a_5 c_5 d_5 W_5 G_5 hB_5
  have B_5 := hQd hB_5
  have hH_5 := noS hB_5.x
  clear hB_5
  refine Aad (rs := [11]) (by kernel_rfl) (by simp) ?_
  refine' Aab.cons (List.getElem?_toArray.trans rfl) (fun K hK => ?st95) ?more95
  case st95 =>
   go_simp
   refine' Calls.mono (Adc p HP.out (k + 19) (by omega) ⟨Nat.le_refl _, by unfold maxLen; decide⟩ (B_5.out.a _ rfl).lt ((B_5.out.a _ rfl).c 0 _ rfl) ((B_5.out.a _ rfl).c 1 _ rfl) B_5.out.e.hi) ?c96
   rintro e w96 ⟨m96, rfl, G96, e96, a96⟩
   have B96 := hQd (B_5.out.setM e96 a96)
   clear a96 e96 B_5
   try go_wp2_with fail
   refine hK.out _ _ ?s96 (fun hH96 => ?r96)
   case s96 => ((try dsimp only); exact noS B96.out.x)
   clear hK K hH_5
   refine' Aem [12] (by kernel_rfl) (fun _ _ _ _ h => h) hH96 ?_
   iterate 1 ((try simp only [zz]); refine' tky (List.getElem?_toArray.trans rfl) (Or.inl ⟨by rfl, ?_⟩) ?_; rotate_left; · intro w hSw; (try dsimp only at hSw); go_simp; try with_reducible rfl)
   refine tk0 ?_
   try simp only [zz, Adk]
   exact sh8 a_5 c_5 m96 d_5 w96 G96 B96.out
  exact Aab.nil
 case t6 =>
  intro a_6 c_6 m_6 u_6 W_6 G_6 hB_6
  have B_6 := hQd hB_6
  have hH_6 := noS hB_6.x
  clear hB_6
  refine Aad (rs := [34, 39]) (by kernel_rfl) (by simp) ?_
  refine' Aab.cons (List.getElem?_toArray.trans rfl) (fun K hK => ?st98) ?more98
  case st98 =>
   go_simp
   refine' Calls.mono (Adc p HP.out (k + 23) (by omega) ⟨Nat.le_refl _, by unfold maxLen; decide⟩ (B_6.out.c _ rfl).lt ((B_6.out.c _ rfl).c 0 _ rfl) ((B_6.out.c _ rfl).c 1 _ rfl) B_6.out.e.hi) ?c99
   rintro e w99 ⟨m99, rfl, G99, e99, a99⟩
   have B99 := hQd (B_6.out.setQ e99 a99)
   clear a99 e99 B_6
   try go_wp2_with fail
   refine hK.out _ _ ?s99 (fun hH99 => ?r99)
   case s99 => ((try dsimp only); exact noS B99.out.x)
   clear hK K hH_6
   refine' Aem [35] (by kernel_rfl) (fun _ _ _ _ h => h) hH99 ?_
   iterate 1 ((try simp only [zz]); refine' tky (List.getElem?_toArray.trans rfl) (Or.inl ⟨by rfl, ?_⟩) ?_; rotate_left; · intro w hSw; (try dsimp only at hSw); go_simp; try with_reducible rfl)
   refine tk0 ?_
   try simp only [zz, Adk]
   refine Aad (rs := [39]) (by kernel_rfl) (by simp) ?_
   refine' Aab.cons (List.getElem?_toArray.trans rfl) (fun K hK => ?st101) ?more101
   case st101 =>
    go_simp
    refine hK.out _ _ ?s102 (fun hH102 => ?r102)
    case s102 => ((try dsimp only); exact noS (B99.out.x.below (bal _ _)))
    obtain ⟨H102, b102⟩ := B99.out.setD hk
    obtain ⟨v102, hv102⟩ := exq (w99.alloc (.cells #[.func (.func 242) #[.pointer (some ⟨X, 0, none⟩)] #[], .bool false] 187))
    obtain ⟨N102, hn102⟩ := exq w99.heap.size
    rw [← hv102] at hH102 b102 ⊢
    rw [← hn102] at b102 ⊢
    have B102 := hQd b102
    clear hv102 hn102 b102 B99
    clear hK K hH99
    refine' Aem [40] (by kernel_rfl) (fun _ _ _ _ h => h) hH102 ?_
    iterate 1 ((try simp only [zz]); refine' tky (List.getElem?_toArray.trans rfl) (Or.inl ⟨by rfl, ?_⟩) ?_; rotate_left; · intro w hSw; (try dsimp only at hSw); go_simp; try with_reducible rfl)
    refine tk0 ?_
    try simp only [zz, Adk]
    exact sh10 a_6 c_6 m_6 u_6 m99 N102 v102 H102 B102.out
   exact Aab.nil
  refine' Aab.cons (List.getElem?_toArray.trans rfl) (fun K hK => ?st104) ?more104
  case st104 =>
   go_simp
   refine hK.out _ _ ?s105 (fun hH105 => ?r105)
   case s105 => ((try dsimp only); exact noS (B_6.out.x.below (bal _ _)))
   obtain ⟨H105, b105⟩ := B_6.out.setD hk
   obtain ⟨v105, hv105⟩ := exq (W_6.alloc (.cells #[.func (.func 242) #[.pointer (some ⟨X, 0, none⟩)] #[], .bool false] 187))
   obtain ⟨N105, hn105⟩ := exq W_6.heap.size
   rw [← hv105] at hH105 b105 ⊢
   rw [← hn105] at b105 ⊢
   have B105 := hQd b105
   clear hv105 hn105 b105 B_6
   clear hK K hH_6
   refine' Aem [40] (by kernel_rfl) (fun _ _ _ _ h => h) hH105 ?_
   iterate 1 ((try simp only [zz]); refine' tky (List.getElem?_toArray.trans rfl) (Or.inl ⟨by rfl, ?_⟩) ?_; rotate_left; · intro w hSw; (try dsimp only at hSw); go_simp; try with_reducible rfl)
   refine tk0 ?_
   try simp only [zz, Adk]
   exact sh9 a_6 c_6 m_6 u_6 N105 v105 H105 B105.out
  exact Aab.nil
 case t7 =>
  intro a_7 m_7 u_7 d_7 W_7 G_7 hB_7
  have B_7 := hQd hB_7
  have hH_7 := noS hB_7.x
  clear hB_7
  refine Aad (rs := [33]) (by kernel_rfl) (by simp) ?_
  refine' Aab.cons (List.getElem?_toArray.trans rfl) (fun K hK => ?st107) ?more107
  case st107 =>
   go_simp
   refine hK.out _ _ ?s108 (fun hH108 => ?r108)
   case s108 => ((try dsimp only); exact noS (B_7.out.x.below (bal _ _)))
   have b108 := B_7.out.setC
   obtain ⟨v108, hv108⟩ := exq (W_7.alloc (.cells #[.int .i64 p.b, .int .i64 p.q] 93))
   obtain ⟨N108, hn108⟩ := exq W_7.heap.size
   rw [← hv108] at hH108 b108 ⊢
   rw [← hn108] at b108 ⊢
   have B108 := hQd b108
   clear hv108 hn108 b108 B_7
   clear hK K hH_7
   try simp only [zz]
   exact sh9 a_7 N108 m_7 u_7 d_7 v108 G_7 B108.out
  exact Aab.nil
 case t8 =>
  intro a_8 c_8 m_8 d_8 W_8 G_8 hB_8
  have B_8 := hQd hB_8
  have hH_8 := noS hB_8.x
  clear hB_8
  refine Aad (rs := [17]) (by kernel_rfl) (by simp) ?_
  refine' Aab.cons (List.getElem?_toArray.trans rfl) (fun K hK => ?st109) ?more109
  case st109 =>
   go_simp
   refine' Calls.mono (Aee (k := k + 21) HP.out B_8.out.e.hi) ?c110
   rintro e w110 ⟨m110, rfl, G110, e110, a110⟩
   have B110 := hQd (B_8.out.setU e110 a110)
   clear a110 e110 B_8
   try go_wp2_with fail
   refine hK.out _ _ ?s110 (fun hH110 => ?r110)
   case s110 => ((try dsimp only); exact noS B110.out.x)
   clear hK K hH_8
   refine' Aem [26,27] (by kernel_rfl) (fun _ _ _ _ h => h) hH110 ?_
   iterate 2 ((try simp only [zz]); refine' tky (List.getElem?_toArray.trans rfl) (Or.inl ⟨by rfl, ?_⟩) ?_; rotate_left; · intro w hSw; (try dsimp only at hSw); go_simp; try with_reducible rfl)
   refine tk0 ?_
   try simp only [zz, Adk]
   exact sh9 a_8 c_8 m_8 m110 d_8 w110 G110 B110.out
  exact Aab.nil
 case t9 =>
  intro a_9 c_9 m_9 u_9 d_9 W_9 G_9 hB_9
  have B_9 := hQd hB_9
  have hH_9 := noS hB_9.x
  clear hB_9
  refine Aad (rs := [34]) (by kernel_rfl) (by simp) ?_
  refine' Aab.cons (List.getElem?_toArray.trans rfl) (fun K hK => ?st113) ?more113
  case st113 =>
   go_simp
   refine' Calls.mono (Adc p HP.out (k + 23) (by omega) ⟨Nat.le_refl _, by unfold maxLen; decide⟩ (B_9.out.c _ rfl).lt ((B_9.out.c _ rfl).c 0 _ rfl) ((B_9.out.c _ rfl).c 1 _ rfl) B_9.out.e.hi) ?c114
   rintro e w114 ⟨m114, rfl, G114, e114, a114⟩
   have B114 := hQd (B_9.out.setQ e114 a114)
   clear a114 e114 B_9
   try go_wp2_with fail
   refine hK.out _ _ ?s114 (fun hH114 => ?r114)
   case s114 => ((try dsimp only); exact noS B114.out.x)
   clear hK K hH_9
   refine' Aem [35] (by kernel_rfl) (fun _ _ _ _ h => h) hH114 ?_
   iterate 1 ((try simp only [zz]); refine' tky (List.getElem?_toArray.trans rfl) (Or.inl ⟨by rfl, ?_⟩) ?_; rotate_left; · intro w hSw; (try dsimp only at hSw); go_simp; try with_reducible rfl)
   refine tk0 ?_
   try simp only [zz, Adk]
   exact sh10 a_9 c_9 m_9 u_9 m114 d_9 w114 G114 B114.out
  exact Aab.nil
 case t10 =>
  intro a_10 c_10 m_10 u_10 q_10 d_10 W_10 G_10 hB_10
  have B_10 := hQd hB_10
  have hH_10 := noS hB_10.x
  clear hB_10
  refine Aad (rs := [41]) (by kernel_rfl) (by simp) ?_
  refine' Aab.cons (List.getElem?_toArray.trans rfl) (fun K hK => ?st116) ?more116
  case st116 =>
   go_simp
   refine hK.out _ _ ?s117 (fun hH117 => ?r117)
   case s117 => ((try dsimp only); exact noS (B_10.out.x.below (bal _ _)))
   clear hK K hH_10
   try simp only [zz]
   refine Aad (rs := [42]) (by kernel_rfl) (by simp) ?_
   refine' Aab.cons (List.getElem?_toArray.trans rfl) (fun K hK => ?st118) ?more118
   case st118 =>
    refine Acu W_10 (by rfl) _ _ 181 (by rfl) 188 i0 .nilIface 1 16 Tryz.underlying181 HI.out.1 HI.out.2.1 HI.out.2.2.1 HI.out.2.2.2 rfl (by decide) G_10 (k + 1) (by omega) B_10.out.e.hi (.slice (some ⟨A, o, none⟩) 1 cp) 1 [v0] (by rfl) B_10.out.l 4 (by decide) [Abb m_10, Amw u_10 ref p, Abb q_10, Afo d_10] _ (by rfl) rfl (by simp [Abb, Amw, Afo, Value.oneCell']) (by unfold maxLen; decide) (by decide) ?_
    intro b119 o119 c119 w119 G119 e119 s119
    have B119 := hQd (aN (B_10.out.app e119) s119)
    clear s119 e119 B_10
    refine hK.out _ _ ?s119 (fun hH119 => ?r119)
    case s119 => ((try dsimp only); exact noS B119.out.1.x)
    have z4 := B119.out.1.x.c 4 _ rfl
    have zf := B119.out.1.x.f 4
    clear hK K hH117
    try simp only [zz]
    refine Aad (rs := [43]) (by kernel_rfl) (by simp) ?_
    refine' Aab.cons (List.getElem?_toArray.trans rfl) (fun K hK => ?st120) ?more120
    case st120 =>
     go_simp
     refine hK.out _ _ ?s121 (fun hH121 => ?r121)
     case s121 => ((try dsimp only); exact noS B119.out.1.x)
     clear hK K hH119
     refine' Aem [44] (by kernel_rfl) (fun _ _ _ _ h => h) hH121 ?_
     iterate 1 ((try simp only [zz]); refine' tky (List.getElem?_toArray.trans rfl) (Or.inl ⟨by rfl, ?_⟩) ?_; rotate_left; · intro w hSw; (try dsimp only at hSw); go_simp; try with_reducible rfl)
     refine tk0 ?_
     try simp only [zz, Adk]
     refine Aad (rs := [45]) (by kernel_rfl) (by simp) ?_
     refine' Aab.last (List.getElem?_toArray.trans rfl) (fun K hK => ?st123) ?more123
     case st123 =>
      go_simp
      refine hK.out _ _ ?_
      clear hK K
      try simp only [zz]
      refine Ad8 (by kernel_rfl) ?_ _
      go_wp2_with fail
      go_end0
      exact ⟨rfl, G119, B119.out.1.fin hk (.slice (some ⟨b119, o119, none⟩) (1 + 4) c119) B119.out.2⟩
     exact Aab.nil
    exact Aab.nil
   exact Aab.nil
  exact Aab.nil
end
end
section
open Go.RowKit Go.Shelf
section
variable {X : Nat} {w : World} {O : Om} {B : Wb} {f : Cf} {s : AW} {k : Nat}
theorem Amm {now tag ref lost : Int} {p : Spt} {lv : Value} {d R : Nat} {z1 : Rmm} {s1 : AW} (hx : Ob w O k X (Ac6 now p lv tag ref lost)) (hS : Sls w O (k + 1) 1 lv 1 [Aeg d]) (hd : Ob w O (k + 3) d [.pointer (some ⟨X, 0, none⟩), .pointer (some ⟨R, 0, none⟩)])
 (HR : C2 237 R B.p w (RP (SX (k + 4) (k + 18)) w O (.bool true) fun W G => PW W G B f s1 ∧ Aa1 W G (k + 4) R z1)) (hi : z1.is = false) (hp : p.ok) (hk : 10 ≤ k) (hhi : Hh O w) :
 C2 239 d B.p w fun e w' => e = .returned (.bool true) ∧ ∃ G0 W0 G, Ext (SX (k + 4) (k + 18)) O w G0 W0 ∧ Ak8 W0 G0 k X now tag ref lost p (Aeg d) w' G ∧ PW w' G B f s1 ∧ Aa1 w' G (k + 4) R z1 ∧ Ob w' G (k + 3) d [.pointer (some ⟨X, 0, none⟩), .pointer (some ⟨R, 0, none⟩)] := by
 have HX := hQd (aN hx (aN hS hd))
 have HRR := hQd HR
 have HPP := hQd hp
 obtain ⟨d0, d1⟩ := hd.c2
 have HI := hQd hi
 clear hx hS hd HR hp hhi hi
 go_enter Tryz.func239, Tryz.ntmps239
 go_wp2_with fail
 refine HRR.out.mono ?_
 rintro e w1 ⟨rfl, G1, e1, P1, r1'⟩
 have E1 := hQd e1
 have H1 := hQd (aN P1 (aN r1' (aN (HX.out.1.ext e1 (SX.not (by omega) (by omega))) (aN (HX.out.2.1.ext e1 (SX.not (by omega) (by omega))) (HX.out.2.2.ext e1 (SX.not (by omega) (by omega)))))))
 obtain ⟨d01, d11⟩ := H1.out.2.2.2.2.c2
 have HG := Att (w := w1.drew) (H1.out.2.1.below (Aaa w1))
 rw [HI.out] at HG
 simp only [Bool.false_eq_true, if_false] at HG
 have HG := hQd HG
 have HGO := hQd (fun (W : World) (hb : Below w1.heap.size w1 W) => Aq6 (H1.out.2.2.1.below hb) (H1.out.2.2.2.1.below hb) HPP.out hk (fun j hj => Nat.lt_of_lt_of_le (E1.out.hi j hj) hb.size))
 clear e1 P1 r1' d0 d1 HX HRR
 go_wp2_with fail
 go_region_held3 (fun w' => w'.cell? ⟨d, 0, none⟩ = some (.pointer (some ⟨X, 0, none⟩)) ∧ w'.cell? ⟨d, 1, none⟩ = some (.pointer (some ⟨R, 0, none⟩))) (go_keep)
  ((first
    | (go_at_call 241
       refine HG.out.mono ?_
       rintro e w2 ⟨rfl, hb2⟩
       have HB2 := hQd ((Aaa w1).trans hb2)
       have D2 := hQd (H1.out.2.2.2.2.below HB2.out)
       obtain ⟨d02, d12⟩ := D2.out.c2
       clear hb2)
    | (go_at_call 240
       refine (HGO.out _ HB2.out).mono ?_
       rintro e w3 ⟨rfl, G3, g3⟩
       have HG3 := hQd g3
       have e3 := g3.1
       have F3 := hQd (aN ((H1.out.1.below E1.out.hi HB2.out).ext e3) (aN ((H1.out.2.1.below HB2.out).ext e3 (fun t q1 q2 => by omega)) (D2.out.ext e3)))
       obtain ⟨d03, d13⟩ := F3.out.2.2.c2
       clear e3 g3)))
 all_goals
  clear d01 d11 d02 d12 d03 d13
  go_wp2_with fail
  go_ret
  exact ⟨rfl, G1, _, G3, E1.out.below HB2.out, HG3.out, F3.out⟩
theorem Bbl {z : Mvm} {s1 : AW} {rm1 : Rmm} (mo : Int) (hM : Adl w O k X z) (hl : z.ln = 3) (hs : Aaq mo (s, z.rm) = (s1, rm1)) (h0 : rm1.ln = 0) (hi : rm1.is = false)
 (HR : ∀ R, Aa1 w O (k + 4) R z.rm → C2 237 R B.p w (RP (SX (k + 4) (k + 18)) w O (.bool true) fun W G => PW W G B f s1 ∧ Aa1 W G (k + 4) R rm1))
 (hp : z.p.ok) (hk : 10 ≤ k) (hhi : Hh O w) :
 C2 41 X B.p w (RP (SX k (k + 24)) w O (.bool (Abg (Aae mo (s, z)).2)) fun W G => PW W G B f (Aae mo (s, z)).1 ∧ Adl W G k X (Aae mo (s, z)).2) := by
 rw [Ahl mo s z hl, hs]
 dsimp only
 rw [if_pos h0, if_neg (by rw [hi]; decide)]
 obtain ⟨p, lv, hx, hpp, hparts⟩ := hM.ex
 obtain rfl := hpp (by omega)
 obtain ⟨d, R, hS, hd, hr⟩ := hparts.2.2.2.1 hl
 obtain ⟨A, o, c, rfl, hc1, hc2⟩ := hS.open (by decide)
 have a0 := hS.c 0 _ rfl
 rw [Nat.add_zero] at a0
 have HA := Amm hx hS hd (HR R hr) hi hp hk hhi
 have HA2 := HA.mono (fun e w' h => (⟨.bool true, h.1, h.2⟩ : ∃ v, e = .returned v ∧ _))
 refine (Abo (n := 0) (Q2 := Abd w O B f k X (s1, ⟨8, z.lost, z.now, z.p, z.tag, z.ref, rm1, Am0, [z.p.ver], ⟨0, 0⟩, z.u⟩)) (hx.c 4 _ rfl) a0 (Akp _) (Aao Tryz.func239 (by kernel_rfl) (by kernel_rfl)) HA2 ?_ (fun w2 h2 => h2.left (by dsimp only; omega) (by dsimp only; omega))).mono fun e w' h => Abd.step h
 rintro w1 ⟨G0, W0, G1, e0, ⟨e1, lv1, m1, u, m2, dd, x1, l1, b1, b2, b3, b4⟩, P1, r1', d1⟩
 have ho := Aa4.search (k := k) d1 r1' (by omega) (by omega)
 have h0b : (rm1.ln == 0) = true := by simp [h0]
 rw [h0b] at ho
 have hm := Aa4.mark (k := k) b1 ⟨by omega, by omega⟩
 have E1 : Ext (SX k (k + 24)) O w G1 w1 := (e0.mono fun t _ h => SX.mono (by omega) (by omega) h).trans (e1.mono fun t _ h => .inr (by omega))
 refine (Ajb (l := [Amw u z.ref z.p, Abb m2, Afo dd]) x1 l1 ho hm hk E1.hi).mono ?_
 rintro e w2 ⟨rfl, G2, e2, rfl, lv2, x2, s2⟩
 exact ⟨rfl, Baj (m1 := m1) (u := u) (m2 := m2) (d := dd) (by dsimp only; omega) (E1.trans (e2.mono fun t _ h => .inr (by omega))) (P1.ext e2) x2 s2 (fun _ => b1.ext e2) (fun _ => b2.ext e2) (fun _ => b3.ext e2) (b4.ext e2)⟩
theorem Av8 {z : Mvm} (hz : Afr z) (hP : PW w O B f s) (hM : Adl w O k X z) (hl : z.ln ≠ 0) (hlo0 : 0 ≤ z.lost) (hlo1 : z.lost ≤ 1000000) (hil : s.it.length ≤ 1000000) (hks : ∀ r, (Adz s.it r).key.size ≤ maxLen) (hk : 10 ≤ k) (hhi : Hh O w) (n0 : 0 ≤ s.n) (n1 : s.n ≤ 4611686018427387904) :
 C2 41 X B.p w (RP (SX k (k + 24)) w O (.bool (Abg (Aae f.y (s, z)).2)) fun W G => PW W G B f (Aae f.y (s, z)).1 ∧ Adl W G k X (Aae f.y (s, z)).2) := by
 have h0 := hz.l0
 have h11 := hz.l11
 have hp := hz.p hl
 have hnow := hz.now hl
 have ht := hz.t0
 have hr := hz.rf
 have hc : z.ln = 1 ∨ z.ln = 2 ∨ z.ln = 3 ∨ z.ln = 4 ∨ z.ln = 5 ∨ z.ln = 6 ∨ z.ln = 7 ∨ z.ln = 8 ∨ z.ln = 9 ∨ z.ln = 10 ∨ z.ln = 11 := by omega
 rcases hc with g | g | g | g | g | g | g | g | g | g | g
 · exact Bbp f.y hP hM g hp hk hhi n0 n1
 · exact Bbm f.y hP hM g hp ⟨by omega, hnow.2⟩ hnow.1 hil (hks _) hk hhi n0 n1
 · obtain ⟨hrm, hrl⟩ := hz.r g
   have hok := hrm.step (s := s) f.y hP.bd
   have HR : ∀ R, Aa1 w O (k + 4) R z.rm → C2 237 R B.p w (RP (SX (k + 4) (k + 18)) w O (.bool ((Aaq f.y (s, z.rm)).2.ln == 0)) fun W G => PW W G B f (Aaq f.y (s, z.rm)).1 ∧ Aa1 W G (k + 4) R (Aaq f.y (s, z.rm)).2) := fun R hR => Av3 hrm hP hR hrl (by omega) hhi n0 n1
   obtain ⟨y, hy⟩ := exq (Aaq f.y (s, z.rm))
   rw [← hy] at HR hok
   obtain ⟨s1, rm1⟩ := y
   dsimp only at HR hok
   by_cases h0 : rm1.ln = 0
   · have hb : (rm1.ln == 0) = true := by simp [h0]
     rw [hb] at HR
     cases hi : rm1.is with
     | true => exact Awv f.y hM g hy.symm h0 hi HR hp (hok.p (.inr hi)) ht.1 ht.2 hr.2 hk hhi
     | false => exact Bbl f.y hM g hy.symm h0 hi HR hp hk hhi
   have hb : (rm1.ln == 0) = false := by simp [h0]
   rw [hb] at HR
   exact Bbk f.y hM g hy.symm h0 HR hk hhi
 · obtain ⟨a, b, c⟩ := hz.m (.inl g)
   exact Bbj f.y hP hM g hp a b c (by rw [hz.o0 (.inl g)]; decide) hk hhi n0 n1
 · obtain ⟨a, b, c⟩ := hz.o (.inl g)
   exact Bbi f.y hP hM g hp (hz.d (by omega) (by omega)) a b c (hz.u0 (.inr g)) hk hhi n0 n1
 · obtain ⟨a, b, c, d, e⟩ := hz.u g
   exact Bbh f.y hP hM g hp (hz.d (by omega) (by omega)) a b c ⟨d, ht.2, e⟩ hr.2 hk hhi n0 n1
 · obtain ⟨a, b, c⟩ := hz.m (.inr g)
   exact Bbg f.y hP hM g hp a b c hk hhi n0 n1
 · exact Bc7 f.y hz hP hM g hk hhi n0 n1
 · exact Bc6 f.y hz hP hM g hk hhi n0 n1
 · exact Bbo f.y hz hP hM g hk hhi n0 n1
 exact Bbn f.y hz ⟨hlo0, hlo1⟩ hP hM g hk hhi n0 n1
end
end
section
open Go.RowKit Go.Shelf
def AwS (s r : AW) : Prop := Aw1 s r ∧ r.nt = s.nt
theorem AwS.refl (s : AW) : AwS s s := ⟨Aw1.refl s, rfl⟩
theorem AwS.load (a : Int) (s : AW) : AwS s (Aan a s) := ⟨Apu a s, rfl⟩
theorem AwS.store (a v : Int) (s : AW) : AwS s (Aax a v s) := ⟨Ai3 a v s, rfl⟩
theorem AwS.add (a v : Int) (s : AW) : AwS s (Ab0 a v s) := ⟨Azj a v s, rfl⟩
theorem AwS.put (p : Spt) (tg rf : Int) (s : AW) (o : Otm) : AwS s (Aap p tg rf s o).1 := by
 unfold Aap
 split
 · exact AwS.store _ _ _
 split
 · exact AwS.load _ _
 split
 · exact AwS.store _ _ _
 exact AwS.refl _
theorem AwS.wy (x : AW × Wym) : AwS x.1 (Aaw x).1 := by
 unfold Aaw
 split
 · exact AwS.refl _
 split
 · exact AwS.load _ _
 exact AwS.load _ _
theorem AwS.ho (x : AW × Hom) : AwS x.1 (Aas x).1 := by
 unfold Aas
 split
 · exact AwS.load _ _
 split
 · exact AwS.load _ _
 split
 · exact AwS.add _ _ _
 split
 · exact Ae4 _ _ _
 split
 · exact AwS.put _ _ _ _ _
 split
 · exact AwS.add _ _ _
 exact AwS.refl _
theorem AwS.n {s r : AW} (h : AwS s r) (k ref b q sl v : Int) (k0 : 0 ≤ k) (k1 : k ≤ 255) : Aw1 s (Abr k ref b q sl v r) := h.1.note h.2 k ref b q sl v k0 k1
theorem Bb6 (mo : Int) (x : AW × Rmm) : Aw1 x.1 (Aaq mo x).1 := by
 unfold Aaq
 split
 · exact (AwS.load _ _).1
 split
 · exact (AwS.load _ _).1
 split
 · split
   · dsimp only
     split
     · exact (AwS.wy (x.1, x.2.wy)).n _ _ _ _ _ _ (by decide) (by decide)
     exact (AwS.wy (x.1, x.2.wy)).1
   exact (AwS.wy (x.1, x.2.wy)).1
 split
 · exact (AwS.ho (x.1, x.2.ho)).1
 exact Aw1.refl _
theorem Bai (mo : Int) (x : AW × Mvm) : Aw1 x.1 (Aae mo x).1 := by
 obtain ⟨s, z⟩ := x
 unfold Aae
 dsimp only
 by_cases h1 : z.ln = 1
 · rw [if_pos h1]
   exact (AwS.load _ _).1
 rw [if_neg h1]
 by_cases h2 : z.ln = 2
 · rw [if_pos h2]
   exact (AwS.load _ _).1
 rw [if_neg h2]
 by_cases h3 : z.ln = 3
 · rw [if_pos h3]
   exact Bb6 mo (s, z.rm)
 rw [if_neg h3]
 by_cases h4 : z.ln = 4
 · rw [if_pos h4]
   exact (AwS.add _ _ _).1
 rw [if_neg h4]
 by_cases h5 : z.ln = 5
 · rw [if_pos h5]
   exact (Ae4 _ _ _).1
 rw [if_neg h5]
 by_cases h6 : z.ln = 6
 · rw [if_pos h6]
   exact (AwS.put _ _ _ _ _).1
 rw [if_neg h6]
 by_cases h7 : z.ln = 7
 · rw [if_pos h7]
   exact (AwS.add _ _ _).1
 rw [if_neg h7]
 by_cases h8 : z.ln = 8
 · rw [if_pos h8]
   exact (AwS.add _ _ _).1
 rw [if_neg h8]
 by_cases h9 : z.ln = 9
 · rw [if_pos h9]
   dsimp only; by_cases g : z.o.ln = 1
   · rw [if_pos g]; exact AwS.n (Ae4 _ _ _) _ _ _ _ _ _ (by decide) (by decide)
   rw [if_neg g]; exact (Ae4 _ _ _).1
 rw [if_neg h9]
 by_cases h10 : z.ln = 10
 · rw [if_pos h10]
   exact (AwS.add _ _ _).1
 rw [if_neg h10]
 by_cases h11 : z.ln = 11
 · rw [if_pos h11]
   exact (AwS.add 6 18446744073709551615 s).n _ _ _ _ _ _ (by decide) (by decide)
 rw [if_neg h11]
 exact Aw1.refl _
end
end Go.Proofs.YthbodknlhkapdaaGreat
