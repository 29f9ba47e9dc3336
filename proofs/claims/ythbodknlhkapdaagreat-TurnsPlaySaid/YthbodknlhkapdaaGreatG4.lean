/- Parts of the walk. -/
import Derived.Test.YthbodknlhkapdaaGreatMg
namespace Go.Proofs.YthbodknlhkapdaaGreat
set_option linter.unusedVariables false
set_option linter.unusedSimpArgs false
set_option maxHeartbeats 2000000
set_option maxRecDepth 100000
section
open Go.RowKit Go.Shelf
section
variable {X : Nat} {w : World} {O : Om} {B : Wb} {f : Cf} {s : AW} {k : Nat}
theorem An4 {now tag ref lost : Int} {p : Spt} {lv : Value} {d R : Nat} {z1 : Rmm} {s1 : AW} (hx : Ob w O k X (Ac6 now p lv tag ref lost)) (hS : Sls w O (k + 1) 1 lv 1 [Aeg d]) (hd : Ob w O (k + 3) d [.pointer (some ⟨X, 0, none⟩), .pointer (some ⟨R, 0, none⟩)])
 (HR : C2 237 R B.p w (RP (SX (k + 4) (k + 18)) w O (.bool true) fun W G => PW W G B f s1 ∧ Aa1 W G (k + 4) R z1)) (hz : z1.ln = 0) (hi : z1.is = true) (hp : p.ok) (hto : z1.p.ok) (t0 : 0 ≤ tag) (t1 : tag ≤ 255) (r1 : ref ≤ 9223372036854775807) (hk : 10 ≤ k) (hhi : Hh O w) :
 C2 239 d B.p w fun e w' => e = .returned (.bool true) ∧ ∃ G0 W0 G, Ext (SX (k + 4) (k + 18)) O w G0 W0 ∧ Ala W0 G0 k X now tag ref lost p z1.p (Aeg d) w' G ∧ PW w' G B f s1 ∧ Aa1 w' G (k + 4) R z1 ∧ Ob w' G (k + 3) d [.pointer (some ⟨X, 0, none⟩), .pointer (some ⟨R, 0, none⟩)] := by
 have HX := hQd (aN hx (aN hS hd))
 have HRR := hQd HR
 have HPP := hQd (aN hp hto)
 obtain ⟨d0, d1⟩ := hd.c2
 have HI := hQd hi
 clear hx hS hd HR hp hto hhi hi
 go_enter Tryz.func239, Tryz.ntmps239
 go_wp2_with fail
 refine HRR.out.mono ?_
 rintro e w1 ⟨rfl, G1, e1, P1, r1'⟩
 have E1 := hQd e1
 have H1 := hQd (aN P1 (aN r1' (aN (HX.out.1.ext e1 (SX.not (by omega) (by omega))) (aN (HX.out.2.1.ext e1 (SX.not (by omega) (by omega))) (HX.out.2.2.ext e1 (SX.not (by omega) (by omega)))))))
 obtain ⟨d01, d11⟩ := H1.out.2.2.2.2.c2
 have HG := Att (w := w1.drew) (H1.out.2.1.below (Aaa w1))
 rw [HI.out] at HG
 simp only [if_true] at HG
 have HG := hQd HG
 have HGO := hQd (fun (W : World) (hb : Below w1.heap.size w1 W) => Awb (dd := z1.p) (H1.out.2.2.1.below hb) (H1.out.2.2.2.1.below hb) HPP.out.1 HPP.out.2 t0 t1 r1 hk (fun j hj => Nat.lt_of_lt_of_le (E1.out.hi j hj) hb.size))
 clear e1 P1 r1' d0 d1 HX HRR
 go_wp2_with fail
 go_region_held3 (fun w' => w'.cell? ⟨d, 0, none⟩ = some (.pointer (some ⟨X, 0, none⟩)) ∧ w'.cell? ⟨d, 1, none⟩ = some (.pointer (some ⟨R, 0, none⟩))) (go_keep)
  ((first
    | (go_at_call 241
       refine HG.out.mono ?_
       rintro e w2 ⟨rfl, hb2⟩
       have HB2 := hQd ((Aaa w1).trans hb2)
       have D2 := hQd (H1.out.2.2.2.2.below HB2.out)
       obtain ⟨d02, d12⟩ := D2.out.c2
       clear hb2)
    | (go_at_call 240
       refine (HGO.out _ HB2.out).mono ?_
       rintro e w3 ⟨rfl, G3, g3⟩
       have HG3 := hQd g3
       have e3 := g3.1
       have F3 := hQd (aN ((H1.out.1.below E1.out.hi HB2.out).ext e3) (aN ((H1.out.2.1.below HB2.out).ext e3 (fun t q1 q2 => by omega)) (D2.out.ext e3)))
       obtain ⟨d03, d13⟩ := F3.out.2.2.c2
       clear e3 g3)))
 all_goals
  clear d01 d11 d02 d12 d03 d13
  go_wp2_with fail
  go_ret
  exact ⟨rfl, G1, _, G3, E1.out.below HB2.out, HG3.out, F3.out⟩
theorem Abo {A o n c pb : Nat} {ty : TypeId} {r r' : Value} {fS : FuncId} {ov : Bool} {Q1 Q2 : World → Prop} (x4 : w.cell? ⟨X, 4, none⟩ = some (.slice (some ⟨A, o, none⟩) (n + 1) c)) (a0 : w.cell? ⟨A, o, none⟩ = some (.iface ty r))
 (hm : ∀ W, (method 464 ty r "Step").run Tryz.prog W = .ok (fS, r') W) (hK : ∀ args W, (callFunc fS args).run Tryz.prog W = .ok (.enter fS args) W)
 (HC : Calls Tryz.prog fS #[r', .pointer (some ⟨pb, 0, none⟩)] w fun e w' => ∃ v, e = .returned v ∧ Q1 w') (HO : ∀ w1, Q1 w1 → C1 89 X w1 fun e w' => e = .returned (.tuple #[]) ∧ Q2 w')
 (HV : ∀ w2, Q2 w2 → ∃ ao m c, w2.cell? ⟨X, 4, none⟩ = some (.slice ao m c) ∧ (m == 0) = ov) :
 C2 41 X pb w fun e w' => e = .returned (.bool ov) ∧ Q2 w' := by
 have HCC := hQd HC
 have HOO := hQd HO
 have HVV := hQd HV
 have hn : (0 : Int) < (n : Int) + 1 := by omega
 have HV0 := hQd (Ai1 x4)
 have e0 : (n + 1 == 0) = false := by simp
 clear HC HO HV
 go_enter Tryz.func41, Tryz.ntmps41
 go_wp2_with fail
 refine HV0.out.mono ?_
 rintro e w' ⟨rfl, rfl⟩
 rw [e0]
 go_wp2_with fail
 refine HCC.out.mono ?_
 rintro e w1 ⟨v, rfl, q1⟩
 have HQ1 := hQd q1
 clear q1 x4 a0 hm hK
 go_wp2_with fail
 refine (HOO.out _ HQ1.out).mono ?_
 rintro e w2 ⟨rfl, q2⟩
 obtain ⟨ao, m, c2, y4, hov⟩ := HVV.out _ q2
 have HQ2 := hQd q2
 have HOV := hQd (Ai1 y4)
 rw [hov] at HOV
 clear q2 y4 hov
 go_wp2_with fail
 refine HOV.out.mono ?_
 rintro e w' ⟨rfl, rfl⟩
 go_wp2_with fail
 go_ret
 exact ⟨rfl, HQ2.out⟩
end
end
section
open Go.RowKit Go.Shelf
def Abd (w : World) (O : Om) (B : Wb) (f : Cf) (k X : Nat) (y : AW × Mvm) (W : World) : Prop := ∃ G, Ext (SX k (k + 24)) O w G W ∧ PW W G B f y.1 ∧ Adl W G k X y.2
theorem Ako (mo : Int) (s : AW) (z : Mvm) (h : z.ln = 1) : Aae mo (s, z) = (Aan z.p.tags s, if Aay (s.M z.p.tags) z.p.s = 0 then Abl ⟨1, z.lost, z.now, z.p, 0, z.ref, z.rm, z.d, z.m, z.o, z.u⟩ else ⟨2, z.lost, z.now, z.p, Aay (s.M z.p.tags) z.p.s, z.ref, z.rm, z.d, z.m, z.o, z.u⟩) := by
 unfold Aae; dsimp only; rw [if_pos h]
theorem Akn (mo : Int) (s : AW) (z : Mvm) (h : z.ln = 2) : Aae mo (s, z) = (Aan z.p.item s, ⟨3, z.lost, z.now, z.p, z.tag, wrap64 (s.M z.p.item), Afc z.now (Acn (Aqe s.it (wrap64 (s.M z.p.item)))), z.d, z.m, z.o, z.u⟩) := by
 unfold Aae; dsimp only; rw [if_neg (by omega), if_pos h]
section
variable {X : Nat} {w : World} {O : Om} {B : Wb} {f : Cf} {s : AW} {k : Nat}
theorem Abd.step {y : AW × Mvm} {e : Ending} {w' : World} (h : e = .returned (.bool (Abg y.2)) ∧ Abd w O B f k X y w') : RP (SX k (k + 24)) w O (.bool (Abg y.2)) (fun W G => PW W G B f y.1 ∧ Adl W G k X y.2) e w' := by
 obtain ⟨rfl, G, h1, h2⟩ := h
 exact ⟨rfl, G, h1, h2⟩
theorem Abd.left {y : AW × Mvm} {W : World} (h : Abd w O B f k X y W) (h0 : 0 ≤ y.2.ln) (h1 : y.2.ln ≤ 11) : ∃ ao m c, W.cell? ⟨X, 4, none⟩ = some (.slice ao m c) ∧ (m == 0) = Abg y.2 := by
 obtain ⟨G, -, -, hM⟩ := h
 obtain ⟨p, lv, q1, q2, q3⟩ := hM.ex
 obtain ⟨ao, n, c, rfl, hn⟩ := q3.shape h0 h1
 exact ⟨ao, n, c, q1.c 4 _ rfl, hn⟩
theorem Ade (z : Mvm) : (Abl z).ln = 0 ∨ (Abl z).ln = 1 := by
 unfold Abl; dsimp only; split
 · exact .inl rfl
 exact .inr rfl
theorem Ak1 {w1 : World} {G1 : Om} {z : Mvm} {lv : Value} {v0 : Value} {s1 : AW} (e1 : Ext (SX k (k + 24)) O w G1 w1) (hP : PW w1 G1 B f s1) (hx : Ob w1 G1 k X (Ac6 z.now z.p lv z.tag z.ref z.lost)) (hS : Sls w1 G1 (k + 1) 1 lv 1 [v0]) (h0 : Aa4 w1 G1 k v0 true) (hp : z.p.ok) (hk : 10 ≤ k) :
 C1 89 X w1 fun e w' => e = .returned (.tuple #[]) ∧ Abd w O B f k X (s1, Abl z) w' := by
 have hs0 := hp.s0
 have hs1 := hp.s1
 by_cases hs : z.p.s < 3
 · refine (Bcn hx hS h0 hs hs0 hs1 hk e1.hi).mono ?_
   rintro e w2 ⟨rfl, G2, e2, lv2, d2, x2, l2, a2⟩
   refine ⟨rfl, G2, e1.trans (e2.mono fun t _ h => .inr (by omega)), hP.ext e2, ⟨z.p.b, z.p.q, z.p.s + 1⟩, lv2, x2, fun _ => rfl, ?_⟩
   have hl : (Abl z).ln = 1 := by unfold Abl; dsimp only; rw [if_neg (by omega)]
   exact ⟨fun g => by (dsimp only at g; omega), fun _ => ⟨d2, l2, a2⟩, fun g => by (dsimp only at g; omega), fun g => by (dsimp only at g; omega), fun g => by (dsimp only at g; omega), fun g => by (dsimp only at g; omega)⟩
 refine (Bcm hx hS h0 (by omega) hs0 hs1 hk e1.hi).mono ?_
 rintro e w2 ⟨rfl, G2, e2, lv2, x2, l2⟩
 have hl : (Abl z).ln = 0 := by unfold Abl; dsimp only; rw [if_pos (by omega)]
 exact ⟨rfl, G2, e1.trans (e2.mono fun t _ h => .inr (by omega)), hP.ext e2, z.p, lv2, x2, fun g => absurd hl g, ⟨fun _ => l2, fun g => by (dsimp only at g; omega), fun g => by (dsimp only at g; omega), fun g => by (dsimp only at g; omega), fun g => by (dsimp only at g; omega), fun g => by (dsimp only at g; omega)⟩⟩
theorem Bbp {z : Mvm} (mo : Int) (hP : PW w O B f s) (hM : Adl w O k X z) (hl : z.ln = 1) (hp : z.p.ok) (hk : 10 ≤ k) (hhi : Hh O w) (n0 : 0 ≤ s.n) (n1 : s.n ≤ 4611686018427387904) :
 C2 41 X B.p w (RP (SX k (k + 24)) w O (.bool (Abg (Aae mo (s, z)).2)) fun W G => PW W G B f (Aae mo (s, z)).1 ∧ Adl W G k X (Aae mo (s, z)).2) := by
 rw [Ako mo s z hl]
 obtain ⟨p, lv, hx, hpp, hparts⟩ := hM.ex
 obtain rfl := hpp (by omega)
 obtain ⟨d, hS, hd⟩ := hparts.2.1 hl
 obtain ⟨A, o, c, rfl, hc1, hc2⟩ := hS.open (by decide)
 have a0 := hS.c 0 _ rfl
 rw [Nat.add_zero] at a0
 have e0 := Aaf (j := 1) (v := .bool true) hhi hd (show 10 ≤ k + 2 by omega)
 have hd1 := hd.set 1 (.bool true) (by simp)
 have HT := Av7 (hP.ext e0) (hx.ext e0) (hS.ext e0) hd1 hp hk e0.hi n0 n1
 have HA := Ai2 hd (Aao Tryz.func87 (by kernel_rfl) (by kernel_rfl)) HT
 have HA2 := HA.mono (fun e w' h => (⟨.bool true, h.1, h.2⟩ : ∃ v, e = .returned v ∧ _))
 by_cases ht : Aay (s.M z.p.tags) z.p.s = 0
 · rw [if_pos ht]
   refine (Abo (n := 0) (Q2 := Abd w O B f k X (Aan z.p.tags s, Abl ⟨1, z.lost, z.now, z.p, 0, z.ref, z.rm, z.d, z.m, z.o, z.u⟩)) (hx.c 4 _ rfl) a0 (Af3 _) (Aao Tryz.func234 (by kernel_rfl) (by kernel_rfl)) HA2 ?_ (fun w2 h2 => h2.left (by rcases Ade ⟨1, z.lost, z.now, z.p, 0, z.ref, z.rm, z.d, z.m, z.o, z.u⟩ with h | h <;> (dsimp only; omega)) (by rcases Ade ⟨1, z.lost, z.now, z.p, 0, z.ref, z.rm, z.d, z.m, z.o, z.u⟩ with h | h <;> (dsimp only; omega)))).mono fun e w' h => Abd.step h
   rintro w1 ⟨G1, e1, P1, q1, lv1, x1, l0, -⟩
   rw [ht] at x1
   exact Ak1 (z := ⟨1, z.lost, z.now, z.p, 0, z.ref, z.rm, z.d, z.m, z.o, z.u⟩) ((e0.mono (T := SX k (k + 24)) fun t _ h => .inr (by omega)).trans (e1.mono fun t _ h => SX.mono (by omega) (by omega) h)) P1 x1 (l0 ht) (Aa4.act q1 (by omega)) hp hk
 rw [if_neg ht]
 refine (Abo (n := 0) (Q2 := Abd w O B f k X (Aan z.p.tags s, ⟨2, z.lost, z.now, z.p, Aay (s.M z.p.tags) z.p.s, z.ref, z.rm, z.d, z.m, z.o, z.u⟩)) (hx.c 4 _ rfl) a0 (Af3 _) (Aao Tryz.func234 (by kernel_rfl) (by kernel_rfl)) HA2 ?_ (fun w2 h2 => h2.left (by dsimp only; omega) (by dsimp only; omega))).mono fun e w' h => Abd.step h
 rintro w1 ⟨G1, e1, P1, q1, lv1, x1, -, l1⟩
 obtain ⟨d', l2, a2⟩ := l1 ht
 refine (Ajb (l := []) x1 l2 (Aa4.act q1 (by omega)) (Aa4.act a2 (by omega)) hk e1.hi).mono ?_
 rintro e w2 ⟨rfl, G2, e2, rfl, lv2, x2, s2⟩
 exact ⟨rfl, G2, (e0.mono (T := SX k (k + 24)) fun t _ h => .inr (by omega)).trans ((e1.mono fun t _ h => SX.mono (by omega) (by omega) h).trans (e2.mono fun t _ h => .inr (by omega))), P1.ext e2, z.p, lv2, x2, fun _ => rfl, ⟨nnn, nnn, fun _ => ⟨d', s2, a2.ext e2⟩, nnn, nnn, nnn⟩⟩
theorem Bbm {z : Mvm} (mo : Int) (hP : PW w O B f s) (hM : Adl w O k X z) (hl : z.ln = 2) (hp : z.p.ok) (hnow : 0 ≤ z.now ∧ z.now ≤ 12) (hnw : 1 ≤ z.now) (hil : s.it.length ≤ 1000000) (hks : (Adz s.it (wrap64 (s.M z.p.item))).key.size ≤ maxLen) (hk : 10 ≤ k) (hhi : Hh O w) (n0 : 0 ≤ s.n) (n1 : s.n ≤ 4611686018427387904) :
 C2 41 X B.p w (RP (SX k (k + 24)) w O (.bool (Abg (Aae mo (s, z)).2)) fun W G => PW W G B f (Aae mo (s, z)).1 ∧ Adl W G k X (Aae mo (s, z)).2) := by
 rw [Akn mo s z hl, Ao2]
 obtain ⟨p, lv, hx, hpp, hparts⟩ := hM.ex
 obtain rfl := hpp (by omega)
 obtain ⟨d, hS, hd⟩ := hparts.2.2.1 hl
 obtain ⟨A, o, c, rfl, hc1, hc2⟩ := hS.open (by decide)
 have a0 := hS.c 0 _ rfl
 rw [Nat.add_zero] at a0
 have e0 := Aaf (j := 1) (v := .bool true) hhi hd (show 10 ≤ k + 2 by omega)
 have hd1 := hd.set 1 (.bool true) (by simp)
 have HT := Awa (hP.ext e0) (hx.ext e0) (hS.ext e0) hd1 hp hnow hil hks hk e0.hi n0 n1
 have HA := Ai2 hd (Aao Tryz.func125 (by kernel_rfl) (by kernel_rfl)) HT
 have HA2 := HA.mono (fun e w' h => (⟨.bool true, h.1, h.2⟩ : ∃ v, e = .returned v ∧ _))
 refine (Abo (n := 0) (Q2 := Abd w O B f k X (Aan z.p.item s, ⟨3, z.lost, z.now, z.p, z.tag, wrap64 (s.M z.p.item), Afc z.now (Acn (Adz s.it (wrap64 (s.M z.p.item))).key.data.toList), z.d, z.m, z.o, z.u⟩)) (hx.c 4 _ rfl) a0 (Af3 _) (Aao Tryz.func234 (by kernel_rfl) (by kernel_rfl)) HA2 ?_ (fun w2 h2 => h2.left (by dsimp only; omega) (by dsimp only; omega))).mono fun e w' h => Abd.step h
 rintro w1 ⟨G1, e1, P1, q1, lv1, x1, e, R, l1, a1, r1⟩
 have hz : (Afc z.now (Acn (Adz s.it (wrap64 (s.M z.p.item))).key.data.toList)).ln = 1 := by unfold Afc; rw [if_pos ⟨hnw, hnow.2⟩]
 have ho := Aa4.search (k := k) a1 r1 (by omega) (by omega)
 rw [hz] at ho
 refine (Ajb (l := []) x1 l1 (Aa4.act q1 (by omega)) ho hk e1.hi).mono ?_
 rintro e' w2 ⟨rfl, G2, e2, rfl, lv2, x2, s2⟩
 exact ⟨rfl, G2, (e0.mono (T := SX k (k + 24)) fun t _ h => .inr (by omega)).trans ((e1.mono fun t _ h => SX.mono (by omega) (by omega) h).trans (e2.mono fun t _ h => .inr (by omega))), P1.ext e2, z.p, lv2, x2, fun _ => rfl, ⟨nnn, nnn, nnn, fun _ => ⟨e, R, s2, a1.ext e2, r1.ext e2 (fun t q1 q2 => by omega)⟩, nnn, nnn⟩⟩
end
end
section
open Go.RowKit Go.Shelf
section
variable {X : Nat} {w : World} {O : Om} {B : Wb} {f : Cf} {s : AW} {k : Nat}
theorem Au2 {z : Mvm} {s1 : AW} {W : World} {G : Om} {lv : Value} {m1 u q m2 : Nat} (h4 : 4 ≤ z.ln) (h7 : z.ln ≤ 7) (e : Ext (SX k (k + 24)) O w G W) (hP : PW W G B f s1) (x : Ob W G k X (Ac6 z.now z.p lv z.tag z.ref z.lost)) (l : Sls W G (k + 1) 1 lv (8 - z.ln).toNat ([Abb m1, Ak9 u, Aht q, Abb m2].drop (z.ln - 4).toNat))
 (a1 : z.ln = 4 → Ada W G (k + 19) m1 z.m) (a2 : z.ln ≤ 5 → Abx W G (k + 21) u z.p z.o) (a3 : z.ln ≤ 6 → Ai6 W G (k + 22) q z.d z.tag z.ref z.u) (a4 : Ada W G (k + 23) m2 (if z.ln = 7 then z.m else mk2 z.p z.d)) : Abd w O B f k X (s1, z) W :=
 ⟨G, e, hP, z.p, lv, x, fun _ => rfl, ⟨fun g => by (dsimp only at g; omega), fun g => by (dsimp only at g; omega), fun g => by (dsimp only at g; omega), fun g => by (dsimp only at g; omega), fun _ => ⟨m1, u, q, m2, l, a1, a2, a3, a4⟩, fun g => by (dsimp only at g; omega)⟩⟩
theorem Au3 (p q : Spt) : ∃ a l, mk2 p q = a :: l ∧ l.length ≤ 1 := by
 unfold mk2; split
 · exact ⟨_, _, rfl, by simp⟩
 exact ⟨_, _, rfl, by simp⟩
theorem Aow (p q : Spt) : ((mk2 p q).length == 0) = false := by
 obtain ⟨a, l, h, -⟩ := Au3 p q
 rw [h]; rfl
theorem Bak {p q : Spt} (hp : p.ok) (hq : q.ok) : ∀ a ∈ mk2 p q, 0 ≤ a ∧ a < 18446744073709551616 := by
 have h1 := hp.ver
 have h2 := hq.ver
 intro a ha
 unfold mk2 at ha
 split at ha
 · rw [List.mem_singleton.1 ha]; omega
 rcases List.mem_cons.1 ha with h | h
 · rw [h]; omega
 rw [List.mem_singleton.1 h]; omega
theorem Asa (mo : Int) (s s1 : AW) (z : Mvm) (rm1 : Rmm) (h : z.ln = 3) (hs : Aaq mo (s, z.rm) = (s1, rm1)) (h0 : rm1.ln = 0) (hi : rm1.is = true) : Aae mo (s, z) = (s1, ⟨4, z.lost, z.now, z.p, z.tag, z.ref, rm1, rm1.p, mk2 z.p rm1.p, ⟨0, 0⟩, Abe z.tag z.ref⟩) := by
 unfold Aae; dsimp only; rw [if_neg (by omega), if_neg (by omega), if_pos h, hs]; dsimp only; rw [if_pos h0, if_pos hi]
theorem Akm (mo : Int) (s : AW) (z : Mvm) (h : z.ln = 4) : Aae mo (s, z) = (Ab0 (z.m.headD 0) 1 s, ⟨if z.m.tail = [] then 5 else 4, z.lost, z.now, z.p, z.tag, z.ref, z.rm, z.d, z.m.tail, z.o, z.u⟩) := by
 unfold Aae; dsimp only; rw [if_neg (by omega), if_neg (by omega), if_neg (by omega), if_pos h]
theorem Akl (mo : Int) (s : AW) (z : Mvm) (h : z.ln = 5) : Aae mo (s, z) = ((Aaj z.p s z.o).1, if Aa7 (Aaj z.p s z.o).2 = true then if Aa7 z.u = true then mv7 ⟨5, z.lost, z.now, z.p, z.tag, z.ref, z.rm, z.d, z.m, (Aaj z.p s z.o).2, z.u⟩ else ⟨6, z.lost, z.now, z.p, z.tag, z.ref, z.rm, z.d, z.m, (Aaj z.p s z.o).2, z.u⟩ else ⟨5, z.lost, z.now, z.p, z.tag, z.ref, z.rm, z.d, z.m, (Aaj z.p s z.o).2, z.u⟩) := by
 unfold Aae; dsimp only; rw [if_neg (by omega), if_neg (by omega), if_neg (by omega), if_neg (by omega), if_pos h]
theorem Akk (mo : Int) (s : AW) (z : Mvm) (h : z.ln = 6) : Aae mo (s, z) = ((Aap z.d z.tag z.ref s z.u).1, if Aa7 (Aap z.d z.tag z.ref s z.u).2 = true then mv7 ⟨6, z.lost, z.now, z.p, z.tag, z.ref, z.rm, z.d, z.m, z.o, (Aap z.d z.tag z.ref s z.u).2⟩ else ⟨6, z.lost, z.now, z.p, z.tag, z.ref, z.rm, z.d, z.m, z.o, (Aap z.d z.tag z.ref s z.u).2⟩) := by
 unfold Aae; dsimp only; rw [if_neg (by omega), if_neg (by omega), if_neg (by omega), if_neg (by omega), if_neg (by omega), if_pos h]
theorem Akj (mo : Int) (s : AW) (z : Mvm) (h : z.ln = 7) : Aae mo (s, z) = (Ab0 (z.m.headD 0) 1 s, if z.m.tail = [] then Abl z else ⟨7, z.lost, z.now, z.p, z.tag, z.ref, z.rm, z.d, z.m.tail, z.o, z.u⟩) := by
 unfold Aae; dsimp only; rw [if_neg (by omega), if_neg (by omega), if_neg (by omega), if_neg (by omega), if_neg (by omega), if_neg (by omega), if_pos h]
theorem Awv {z : Mvm} {s1 : AW} {rm1 : Rmm} (mo : Int) (hM : Adl w O k X z) (hl : z.ln = 3) (hs : Aaq mo (s, z.rm) = (s1, rm1)) (h0 : rm1.ln = 0) (hi : rm1.is = true)
 (HR : ∀ R, Aa1 w O (k + 4) R z.rm → C2 237 R B.p w (RP (SX (k + 4) (k + 18)) w O (.bool true) fun W G => PW W G B f s1 ∧ Aa1 W G (k + 4) R rm1))
 (hp : z.p.ok) (hto : rm1.p.ok) (t0 : 0 ≤ z.tag) (t1 : z.tag ≤ 255) (r1 : z.ref ≤ 9223372036854775807) (hk : 10 ≤ k) (hhi : Hh O w) :
 C2 41 X B.p w (RP (SX k (k + 24)) w O (.bool (Abg (Aae mo (s, z)).2)) fun W G => PW W G B f (Aae mo (s, z)).1 ∧ Adl W G k X (Aae mo (s, z)).2) := by
 rw [Asa mo s s1 z rm1 hl hs h0 hi]
 obtain ⟨p, lv, hx, hpp, hparts⟩ := hM.ex
 obtain rfl := hpp (by omega)
 obtain ⟨d, R, hS, hd, hr⟩ := hparts.2.2.2.1 hl
 obtain ⟨A, o, c, rfl, hc1, hc2⟩ := hS.open (by decide)
 have a0 := hS.c 0 _ rfl
 rw [Nat.add_zero] at a0
 have HA := An4 hx hS hd (HR R hr) h0 hi hp hto t0 t1 r1 hk hhi
 have HA2 := HA.mono (fun e w' h => (⟨.bool true, h.1, h.2⟩ : ∃ v, e = .returned v ∧ _))
 refine (Abo (n := 0) (Q2 := Abd w O B f k X (s1, ⟨4, z.lost, z.now, z.p, z.tag, z.ref, rm1, rm1.p, mk2 z.p rm1.p, ⟨0, 0⟩, Abe z.tag z.ref⟩)) (hx.c 4 _ rfl) a0 (Akp _) (Aao Tryz.func239 (by kernel_rfl) (by kernel_rfl)) HA2 ?_ (fun w2 h2 => h2.left (by dsimp only; omega) (by dsimp only; omega))).mono fun e w' h => Abd.step h
 rintro w1 ⟨G0, W0, G1, e0, ⟨e1, lv1, m1, u, q, m2, x1, l1, b1, b2, b3, b4⟩, P1, r1', d1⟩
 have ho := Aa4.search (k := k) d1 r1' (by omega) (by omega)
 have h0b : (rm1.ln == 0) = true := by simp [h0]
 rw [h0b] at ho
 have hm := Aa4.mark (k := k) b1 ⟨by omega, by omega⟩
 rw [Aow] at hm
 have E1 : Ext (SX k (k + 24)) O w G1 w1 := (e0.mono fun t _ h => SX.mono (by omega) (by omega) h).trans (e1.mono fun t _ h => .inr (by omega))
 refine (Ajb (l := [Ak9 u, Aht q, Abb m2]) x1 l1 ho hm hk E1.hi).mono ?_
 rintro e w2 ⟨rfl, G2, e2, rfl, lv2, x2, s2⟩
 exact ⟨rfl, Au2 (by dsimp only; omega) (by dsimp only; omega) (E1.trans (e2.mono fun t _ h => .inr (by omega))) (P1.ext e2) x2 s2 (fun _ => b1.ext e2) (fun _ => b2.ext e2) (fun _ => b3.ext e2) (by dsimp only; rw [if_neg (by omega)]; exact b4.ext e2)⟩
theorem Bbj {z : Mvm} (mo : Int) (hP : PW w O B f s) (hM : Adl w O k X z) (hl : z.ln = 4) (hp : z.p.ok) (hm0 : z.m ≠ []) (hml : z.m.length ≤ 5) (hmb : ∀ a ∈ z.m, 0 ≤ a ∧ a < 18446744073709551616) (ho : z.o.ln < 3) (hk : 10 ≤ k) (hhi : Hh O w) (n0 : 0 ≤ s.n) (n1 : s.n ≤ 4611686018427387904) :
 C2 41 X B.p w (RP (SX k (k + 24)) w O (.bool (Abg (Aae mo (s, z)).2)) fun W G => PW W G B f (Aae mo (s, z)).1 ∧ Adl W G k X (Aae mo (s, z)).2) := by
 rw [Akm mo s z hl]
 obtain ⟨p, lv, hx, hpp, hparts⟩ := hM.ex
 obtain rfl := hpp (by omega)
 obtain ⟨ln, lost, now, p, tag, ref, rm, dd, m, o, u⟩ := z
 dsimp only at *
 subst hl
 obtain ⟨m1, u', q, m2, hS, b1, b2, b3, b4⟩ := hparts.2.2.2.2.1 ⟨by (dsimp only; omega), by (dsimp only; omega)⟩
 dsimp only at hS b1 b2 b3 b4
 rw [if_neg (by decide)] at b4
 have b1 := b1 rfl
 have b2 := b2 (by decide)
 have b3 := b3 (by decide)
 obtain ⟨a, l, rfl⟩ : ∃ a l, m = a :: l := by cases m with
  | nil => exact absurd rfl hm0
  | cons a l => exact ⟨a, l, rfl⟩
 have hab := hmb a (by simp)
 obtain ⟨A, off, c, rfl, hc1, hc2⟩ := hS.open (by decide)
 have a0 := hS.c 0 _ rfl
 rw [Nat.add_zero] at a0
 have HA := Afa a l (k + 19) hP b1 (by simp at hml; omega) (by omega) hhi hab.1 hab.2 n0 n1
 have HA2 := HA.mono (fun e w' h => (⟨_, h.1, h.2⟩ : ∃ v, e = .returned v ∧ _))
 have hf3 : (o.ln == 3) = false := by simp; omega
 simp only [List.headD_cons, List.tail_cons]
 refine (Abo (n := 3) (Q2 := Abd w O B f k X (Ab0 a 1 s, ⟨if l = [] then 5 else 4, lost, now, p, tag, ref, rm, dd, l, o, u⟩)) (hx.c 4 _ rfl) a0 (Ae6 _) (Aao Tryz.func249 (by kernel_rfl) (by kernel_rfl)) HA2 ?_ (fun w2 h2 => h2.left (by dsimp only; split <;> omega) (by dsimp only; split <;> omega))).mono fun e w' h => Abd.step h
 rintro w1 ⟨G1, e1, P1, k1⟩
 have E1 : Ext (SX k (k + 24)) O w G1 w1 := e1.mono fun t _ h => SX.mono (by omega) (by omega) h
 have x1 := hx.ext e1 (SX.not (by omega) (by omega))
 have s1 := hS.ext e1 (SX.not (by omega) (by omega))
 have c2 := b2.ext e1 (SX.not (by omega) (by omega))
 have c3 := b3.ext e1 (SX.not (by omega) (by omega))
 have c4 := b4.ext e1 (SX.not (by omega) (by omega)) (SX.not (by omega) (by omega))
 have hm := Aa4.mark (k := k) k1 ⟨by omega, by omega⟩
 by_cases hl0 : l = []
 · subst hl0
   rw [if_pos rfl]
   have hou := Aa4.out (k := k) c2 hp (by omega) (by omega)
   rw [hf3] at hou
   refine (Ajb (l := [Aht q, Abb m2]) x1 s1 hm hou hk E1.hi).mono ?_
   rintro e w2 ⟨rfl, G2, e2, rfl, lv2, x2, s2⟩
   exact ⟨rfl, Au2 (by dsimp only; omega) (by dsimp only; omega) (E1.trans (e2.mono fun t _ h => .inr (by omega))) (P1.ext e2) x2 s2 (m1 := m1) (u := u') (fun h => absurd h (by dsimp only; omega)) (fun _ => c2.ext e2) (fun _ => c3.ext e2) (by dsimp only; rw [if_neg (by omega)]; exact c4.ext e2)⟩
 rw [if_neg hl0]
 have hle : (l.length == 0) = false := by
  cases l with
  | nil => exact absurd rfl hl0
  | cons a l => rfl
 rw [hle] at hm
 refine (Aqq (l := [Ak9 u', Aht q, Abb m2]) x1 s1 hm hk E1.hi).mono ?_
 rintro e w2 ⟨rfl, hb⟩
 exact ⟨rfl, Au2 (by dsimp only; omega) (by dsimp only; omega) (E1.below hb) (P1.below E1.hi hb) (x1.below hb) (s1.below hb) (fun _ => k1.below hb) (fun _ => c2.below hb) (fun _ => c3.below hb) (by dsimp only; rw [if_neg (by omega)]; exact c4.below hb)⟩
end
end
section
open Go.RowKit Go.Shelf
theorem Aly (a : Addr) (w : World) : (method 464 323 (.pointer (some a)) "Step").run Tryz.prog w = .ok (261, .pointer (some a)) w := Aoy a w
section
variable {X : Nat} {w : World} {O : Om} {B : Wb} {f : Cf} {s : AW} {k : Nat}
theorem Abt {o : Otm} (h : o.ln ≤ 3) : Aa7 o = (o.ln == 3) := by
 unfold Aa7; rw [Bool.eq_iff_iff]; simp; omega
theorem Bbi {z : Mvm} (mo : Int) (hP : PW w O B f s) (hM : Adl w O k X z) (hl : z.ln = 5) (hp : z.p.ok) (hd : z.d.ok) (ho : z.o.ln < 3) (w0 : 0 ≤ z.o.w) (w1 : z.o.w < 18446744073709551616) (hu : z.u = Abe z.tag z.ref) (hk : 10 ≤ k) (hhi : Hh O w) (n0 : 0 ≤ s.n) (n1 : s.n ≤ 4611686018427387904) :
 C2 41 X B.p w (RP (SX k (k + 24)) w O (.bool (Abg (Aae mo (s, z)).2)) fun W G => PW W G B f (Aae mo (s, z)).1 ∧ Adl W G k X (Aae mo (s, z)).2) := by
 rw [Akl mo s z hl]
 obtain ⟨p, lv, hx, hpp, hparts⟩ := hM.ex
 obtain rfl := hpp (by omega)
 obtain ⟨ln, lost, now, p, tag, ref, rm, dd, m, o, u⟩ := z
 dsimp only at *
 subst hl
 obtain ⟨m1, u', q, m2, hS, -, b2, b3, b4⟩ := hparts.2.2.2.2.1 ⟨by (dsimp only; omega), by (dsimp only; omega)⟩
 dsimp only at hS b2 b3 b4
 rw [if_neg (by decide)] at b4
 have b2 := b2 (by decide)
 have b3 := b3 (by decide)
 obtain ⟨A, off, c, rfl, hc1, hc2⟩ := hS.open (by decide)
 have a0 := hS.c 0 _ rfl
 rw [Nat.add_zero] at a0
 have HA := Aiy o hP b2 hp ho w0 w1 (show 10 ≤ k + 21 by omega) hhi n0 n1
 have HA2 := HA.mono (fun e w' h => (⟨_, h.1, h.2⟩ : ∃ v, e = .returned v ∧ _))
 have hln := Ab5 p s o ho
 obtain ⟨y, hy⟩ := exq (Aaj p s o)
 rw [← hy] at HA2 hln ⊢
 obtain ⟨s1, o1⟩ := y
 dsimp only at HA2 hln ⊢
 have hov := Abt (o := o1) (by omega)
 have huo : u.ln = 0 ∨ u.ln = 3 := by rw [hu]; unfold Abe; split; exact .inl rfl; exact .inr rfl
 have huv : ¬ (1 ≤ tag ∧ tag ≤ 255 ∧ 1 ≤ ref) → u.ln = 3 := fun h => by rw [hu]; unfold Abe; rw [if_neg h]
 have hovu := Abt (o := u) (by omega)
 obtain ⟨z2, hz2⟩ := exq (if Aa7 o1 = true then if Aa7 u = true then mv7 ⟨5, lost, now, p, tag, ref, rm, dd, m, o1, u⟩ else ⟨6, lost, now, p, tag, ref, rm, dd, m, o1, u⟩ else ⟨5, lost, now, p, tag, ref, rm, dd, m, o1, u⟩ : Mvm)
 rw [← hz2]
 have hzl : 5 ≤ z2.ln ∧ z2.ln ≤ 7 := by
  rw [hz2]; split
  · split
    · unfold mv7; dsimp only; omega
    dsimp only; omega
  dsimp only; omega
 refine (Abo (n := 2) (Q2 := Abd w O B f k X (s1, z2)) (hx.c 4 _ rfl) a0 (Ao0 _) (Aao Tryz.func252 (by kernel_rfl) (by kernel_rfl)) HA2 ?_ (fun w2 h2 => h2.left (by dsimp only; omega) (by dsimp only; omega))).mono fun e w' h => Abd.step h
 rintro w1 ⟨G1, e1, P1, k1⟩
 have E1 : Ext (SX k (k + 24)) O w G1 w1 := e1.mono fun t _ h => SX.mono (by omega) (by omega) h
 have x1 := hx.ext e1 (SX.not (by omega) (by omega))
 have l1 := hS.ext e1 (SX.not (by omega) (by omega))
 have c3 := b3.ext e1 (SX.not (by omega) (by omega))
 have c4 := b4.ext e1 (SX.not (by omega) (by omega)) (SX.not (by omega) (by omega))
 have hou := Aa4.out (k := k) k1 hp (by omega) (by omega)
 have hpu := Aa4.put (k := k) c3 hd (by omega) (by omega) huv
 have hm2 := Aa4.mark (k := k) c4 ⟨by omega, by omega⟩
 rw [Aow] at hm2
 by_cases h1 : o1.ln = 3
 · have b1 : (o1.ln == 3) = true := by simp [h1]
   rw [b1] at hou hov
   rw [hov, if_pos rfl] at hz2
   rcases huo with h2 | h2
   · have b5 : (u.ln == 3) = false := by simp [h2]
     rw [b5] at hpu hovu
     rw [hovu, if_neg (by decide)] at hz2
     subst hz2
     refine (Ajb (l := [Abb m2]) x1 l1 hou hpu hk E1.hi).mono ?_
     rintro e w2 ⟨rfl, G2, e2, rfl, lv2, x2, s2⟩
     exact ⟨rfl, Au2 (m1 := m1) (u := u') (by dsimp only; omega) (by dsimp only; omega) (E1.trans (e2.mono fun t _ h => .inr (by omega))) (P1.ext e2) x2 s2 (fun h => absurd h (by dsimp only; omega)) (fun h => absurd h (by dsimp only; omega)) (fun _ => c3.ext e2) (by dsimp only; rw [if_neg (by omega)]; exact c4.ext e2)⟩
   have b5 : (u.ln == 3) = true := by simp [h2]
   rw [b5] at hpu hovu
   rw [hovu, if_pos rfl] at hz2
   subst hz2
   refine (Bco (l := []) x1 l1 hou hpu hm2 hk E1.hi).mono ?_
   rintro e w2 ⟨rfl, G2, e2, rfl, lv2, x2, s2⟩
   exact ⟨rfl, Au2 (m1 := m1) (u := u') (q := q) (by unfold mv7; dsimp only; omega) (by unfold mv7; dsimp only; omega) (E1.trans (e2.mono fun t _ h => .inr (by omega))) (P1.ext e2) x2 s2 (fun h => absurd h (by unfold mv7; dsimp only; omega)) (fun h => absurd h (by unfold mv7; dsimp only; omega)) (fun h => absurd h (by unfold mv7; dsimp only; omega)) (by unfold mv7; dsimp only; rw [if_pos rfl]; exact c4.ext e2)⟩
 have b1 : (o1.ln == 3) = false := by simp [h1]
 rw [b1] at hou hov
 rw [hov, if_neg (by decide)] at hz2
 subst hz2
 refine (Aqq (l := [Aht q, Abb m2]) x1 l1 hou hk E1.hi).mono ?_
 rintro e w2 ⟨rfl, hb⟩
 exact ⟨rfl, Au2 (m1 := m1) (u := u') (by dsimp only; omega) (by dsimp only; omega) (E1.below hb) (P1.below E1.hi hb) (x1.below hb) (l1.below hb) (fun h => absurd h (by dsimp only; omega)) (fun _ => k1.below hb) (fun _ => c3.below hb) (by dsimp only; rw [if_neg (by omega)]; exact c4.below hb)⟩
theorem Bbh {z : Mvm} (mo : Int) (hP : PW w O B f s) (hM : Adl w O k X z) (hl : z.ln = 6) (hp : z.p.ok) (hd : z.d.ok) (hu : z.u.ln < 3) (w0 : 0 ≤ z.u.w) (w1 : z.u.w < 18446744073709551616) (hv : 1 ≤ z.tag ∧ z.tag ≤ 255 ∧ 1 ≤ z.ref) (r1 : z.ref ≤ 9223372036854775807) (hk : 10 ≤ k) (hhi : Hh O w) (n0 : 0 ≤ s.n) (n1 : s.n ≤ 4611686018427387904) :
 C2 41 X B.p w (RP (SX k (k + 24)) w O (.bool (Abg (Aae mo (s, z)).2)) fun W G => PW W G B f (Aae mo (s, z)).1 ∧ Adl W G k X (Aae mo (s, z)).2) := by
 rw [Akk mo s z hl]
 obtain ⟨p, lv, hx, hpp, hparts⟩ := hM.ex
 obtain rfl := hpp (by omega)
 obtain ⟨ln, lost, now, p, tag, ref, rm, dd, m, o, u⟩ := z
 dsimp only at *
 subst hl
 obtain ⟨m1, u', q, m2, hS, -, -, b3, b4⟩ := hparts.2.2.2.2.1 ⟨by (dsimp only; omega), by (dsimp only; omega)⟩
 dsimp only at hS b3 b4
 rw [if_neg (by decide)] at b4
 have b3 := b3 (by decide)
 obtain ⟨A, off, c, rfl, hc1, hc2⟩ := hS.open (by decide)
 have a0 := hS.c 0 _ rfl
 rw [Nat.add_zero] at a0
 have HA := Aiw u hP (b3.1 hv) hd hu w0 w1 (show 10 ≤ k + 22 by omega) hhi n0 n1 (by omega) hv.2.1 (by omega) r1
 have HA2 := HA.mono (fun e w' h => (⟨_, h.1, h.2⟩ : ∃ v, e = .returned v ∧ _))
 have hln := Acw dd tag ref s u hu
 obtain ⟨y, hy⟩ := exq (Aap dd tag ref s u)
 rw [← hy] at HA2 hln ⊢
 obtain ⟨s1, u1⟩ := y
 dsimp only at HA2 hln ⊢
 have hov := Abt (o := u1) (by omega)
 obtain ⟨z2, hz2⟩ := exq (if Aa7 u1 = true then mv7 ⟨6, lost, now, p, tag, ref, rm, dd, m, o, u1⟩ else ⟨6, lost, now, p, tag, ref, rm, dd, m, o, u1⟩ : Mvm)
 rw [← hz2]
 have hzl : 6 ≤ z2.ln ∧ z2.ln ≤ 7 := by
  rw [hz2]; split
  · unfold mv7; dsimp only; omega
  dsimp only; omega
 refine (Abo (n := 1) (Q2 := Abd w O B f k X (s1, z2)) (hx.c 4 _ rfl) a0 (Aly _) (Aao Tryz.func261 (by kernel_rfl) (by kernel_rfl)) HA2 ?_ (fun w2 h2 => h2.left (by dsimp only; omega) (by dsimp only; omega))).mono fun e w' h => Abd.step h
 rintro w1 ⟨G1, e1, P1, k1⟩
 have E1 : Ext (SX k (k + 24)) O w G1 w1 := e1.mono fun t _ h => SX.mono (by omega) (by omega) h
 have x1 := hx.ext e1 (SX.not (by omega) (by omega))
 have l1 := hS.ext e1 (SX.not (by omega) (by omega))
 have c4 := b4.ext e1 (SX.not (by omega) (by omega)) (SX.not (by omega) (by omega))
 have c3 : Ai6 w1 G1 (k + 22) q dd tag ref u1 := ⟨fun _ => k1, fun h => absurd hv h⟩
 have hpu := Aa4.put (k := k) c3 hd (by omega) (by omega) (fun h => absurd hv h)
 have hm2 := Aa4.mark (k := k) c4 ⟨by omega, by omega⟩
 rw [Aow] at hm2
 by_cases h1 : u1.ln = 3
 · have b1 : (u1.ln == 3) = true := by simp [h1]
   rw [b1] at hpu hov
   rw [hov, if_pos rfl] at hz2
   subst hz2
   refine (Ajb (l := []) x1 l1 hpu hm2 hk E1.hi).mono ?_
   rintro e w2 ⟨rfl, G2, e2, rfl, lv2, x2, s2⟩
   exact ⟨rfl, Au2 (m1 := m1) (u := u') (q := q) (by unfold mv7; dsimp only; omega) (by unfold mv7; dsimp only; omega) (E1.trans (e2.mono fun t _ h => .inr (by omega))) (P1.ext e2) x2 s2 (fun h => absurd h (by unfold mv7; dsimp only; omega)) (fun h => absurd h (by unfold mv7; dsimp only; omega)) (fun h => absurd h (by unfold mv7; dsimp only; omega)) (by unfold mv7; dsimp only; rw [if_pos rfl]; exact c4.ext e2)⟩
 have b1 : (u1.ln == 3) = false := by simp [h1]
 rw [b1] at hpu hov
 rw [hov, if_neg (by decide)] at hz2
 subst hz2
 refine (Aqq (l := [Abb m2]) x1 l1 hpu hk E1.hi).mono ?_
 rintro e w2 ⟨rfl, hb⟩
 exact ⟨rfl, Au2 (m1 := m1) (u := u') (by dsimp only; omega) (by dsimp only; omega) (E1.below hb) (P1.below E1.hi hb) (x1.below hb) (l1.below hb) (fun h => absurd h (by dsimp only; omega)) (fun h => absurd h (by dsimp only; omega)) (fun _ => c3.below hb) (by dsimp only; rw [if_neg (by omega)]; exact c4.below hb)⟩
theorem Bbg {z : Mvm} (mo : Int) (hP : PW w O B f s) (hM : Adl w O k X z) (hl : z.ln = 7) (hp : z.p.ok) (hm0 : z.m ≠ []) (hml : z.m.length ≤ 5) (hmb : ∀ a ∈ z.m, 0 ≤ a ∧ a < 18446744073709551616) (hk : 10 ≤ k) (hhi : Hh O w) (n0 : 0 ≤ s.n) (n1 : s.n ≤ 4611686018427387904) :
 C2 41 X B.p w (RP (SX k (k + 24)) w O (.bool (Abg (Aae mo (s, z)).2)) fun W G => PW W G B f (Aae mo (s, z)).1 ∧ Adl W G k X (Aae mo (s, z)).2) := by
 obtain ⟨p, lv, hx, hpp, hparts⟩ := hM.ex
 obtain rfl := hpp (by omega)
 obtain ⟨ln, lost, now, p, tag, ref, rm, dd, m, o, u⟩ := z
 dsimp only at *
 subst hl
 obtain ⟨m1, u', q, m2, hS, -, -, -, b4⟩ := hparts.2.2.2.2.1 ⟨by (dsimp only; omega), by (dsimp only; omega)⟩
 dsimp only at hS b4
 rw [if_pos rfl] at b4
 obtain ⟨a, l, rfl⟩ : ∃ a l, m = a :: l := by cases m with
  | nil => exact absurd rfl hm0
  | cons a l => exact ⟨a, l, rfl⟩
 have hab := hmb a (by simp)
 obtain ⟨A, off, c, rfl, hc1, hc2⟩ := hS.open (by decide)
 have a0 := hS.c 0 _ rfl
 rw [Nat.add_zero] at a0
 have HA := Afa a l (k + 23) hP b4 (by simp at hml; omega) (by omega) hhi hab.1 hab.2 n0 n1
 have HA2 := HA.mono (fun e w' h => (⟨_, h.1, h.2⟩ : ∃ v, e = .returned v ∧ _))
 obtain ⟨z2, he, hz2⟩ : ∃ z2, Aae mo (s, ⟨7, lost, now, p, tag, ref, rm, dd, a :: l, o, u⟩) = (Ab0 a 1 s, z2) ∧ ((l = [] ∧ z2 = Abl ⟨7, lost, now, p, tag, ref, rm, dd, a :: l, o, u⟩) ∨ (l ≠ [] ∧ z2 = ⟨7, lost, now, p, tag, ref, rm, dd, l, o, u⟩)) := by
  rw [Akj mo s _ rfl]
  by_cases h : l = []
  · exact ⟨_, by rw [if_pos (show (⟨7, lost, now, p, tag, ref, rm, dd, a :: l, o, u⟩ : Mvm).m.tail = [] from h)]; rfl, .inl ⟨h, rfl⟩⟩
  exact ⟨_, by rw [if_neg (show ¬ (⟨7, lost, now, p, tag, ref, rm, dd, a :: l, o, u⟩ : Mvm).m.tail = [] from h)]; rfl, .inr ⟨h, rfl⟩⟩
 rw [he]
 have hzl : 0 ≤ z2.ln ∧ z2.ln ≤ 7 := by
  rcases hz2 with ⟨-, hz2⟩ | ⟨-, hz2⟩ <;> rw [hz2]
  · rcases Ade ⟨7, lost, now, p, tag, ref, rm, dd, a :: l, o, u⟩ with h | h <;> omega
  dsimp only; omega
 refine (Abo (n := 0) (Q2 := Abd w O B f k X (Ab0 a 1 s, z2)) (hx.c 4 _ rfl) a0 (Ae6 _) (Aao Tryz.func249 (by kernel_rfl) (by kernel_rfl)) HA2 ?_ (fun w2 h2 => h2.left (by dsimp only; omega) (by dsimp only; omega))).mono fun e w' h => Abd.step h
 rintro w1 ⟨G1, e1, P1, k1⟩
 have E1 : Ext (SX k (k + 24)) O w G1 w1 := e1.mono fun t _ h => SX.mono (by omega) (by omega) h
 have x1 := hx.ext e1 (SX.not (by omega) (by omega))
 have l1 := hS.ext e1 (SX.not (by omega) (by omega))
 have hm := Aa4.mark (k := k) k1 ⟨by omega, by omega⟩
 rcases hz2 with ⟨hl0, hz2⟩ | ⟨hl0, hz2⟩
 · subst hl0
   subst hz2
   exact Ak1 (z := ⟨7, lost, now, p, tag, ref, rm, dd, [a], o, u⟩) E1 P1 x1 l1 hm hp hk
 subst hz2
 have hle : (l.length == 0) = false := by
  cases l with
  | nil => exact absurd rfl hl0
  | cons a l => rfl
 rw [hle] at hm
 refine (Aqq (l := []) x1 l1 hm hk E1.hi).mono ?_
 rintro e w2 ⟨rfl, hb⟩
 exact ⟨rfl, Au2 (m1 := m1) (u := u') (q := q) (by dsimp only; omega) (by dsimp only; omega) (E1.below hb) (P1.below E1.hi hb) (x1.below hb) (l1.below hb) (fun h => absurd h (by dsimp only; omega)) (fun h => absurd h (by dsimp only; omega)) (fun h => absurd h (by dsimp only; omega)) (by dsimp only; rw [if_pos rfl]; exact k1.below hb)⟩
end
end
section
open Go.RowKit Go.Shelf
def Azu (p : Spt) : Prop := 1 ≤ p.b ∧ p.b ≤ 12 ∧ 0 ≤ p.q ∧ p.q < Aac p.b ∧ 0 ≤ p.s ∧ p.s ≤ 3
theorem And {p : Spt} (h : Azu p) : p.ok := ⟨h.1, h.2.1, h.2.2.1, h.2.2.2.1, h.2.2.2.2.1, h.2.2.2.2.2⟩
instance (p : Spt) : Decidable (Azu p) := by unfold Azu; exact inferInstance
theorem Baf : ∀ {u v : Otm}, u.ln = v.ln → u.w = v.w → u = v
 | ⟨_, _⟩, ⟨_, _⟩, h1, h2 => by dsimp only at h1 h2; rw [h1, h2]
def Aub (y : AW × Mvm) : Prop := 1 ≤ y.2.now ∧ y.2.now ≤ 12 ∧ y.1.it.length ≤ 1000 ∧ (Adz y.1.it (wrap64 (y.1.M y.2.p.item))).key.size ≤ 1000
instance (y : AW × Mvm) : Decidable (Aub y) := by unfold Aub; exact inferInstance
def Aua (y : AW × Mvm) : Prop := y.2.rm.ln = 1 ∧ (1 ≤ y.2.rm.b ∧ y.2.rm.b ≤ 12) ∧ (0 ≤ y.2.rm.a ∧ y.2.rm.a < Aac y.2.rm.b) ∧ 0 ≤ Aa5 (y.1.M (Aai y.2.rm.b y.2.rm.a)) ∧ 0 ≤ y.2.tag ∧ y.2.tag ≤ 255 ∧ y.2.ref ≤ 9223372036854775807
instance (y : AW × Mvm) : Decidable (Aua y) := by unfold Aua; exact inferInstance
def At9 (y : AW × Mvm) : Prop := y.2.m ≠ [] ∧ y.2.m.length ≤ 5 ∧ ∀ a ∈ y.2.m, 0 ≤ a ∧ a < 18446744073709551616
instance (y : AW × Mvm) : Decidable (At9 y) := by unfold At9; exact inferInstance
def At8 (y : AW × Mvm) : Prop := Azu y.2.d ∧ y.2.o.ln < 3 ∧ 0 ≤ y.2.o.w ∧ y.2.o.w < 18446744073709551616 ∧ y.2.u.ln = (Abe y.2.tag y.2.ref).ln ∧ y.2.u.w = (Abe y.2.tag y.2.ref).w
instance (y : AW × Mvm) : Decidable (At8 y) := by unfold At8; exact inferInstance
def At7 (y : AW × Mvm) : Prop := Azu y.2.d ∧ y.2.u.ln < 3 ∧ 0 ≤ y.2.u.w ∧ y.2.u.w < 18446744073709551616 ∧ (1 ≤ y.2.tag ∧ y.2.tag ≤ 255 ∧ 1 ≤ y.2.ref) ∧ y.2.ref ≤ 9223372036854775807
instance (y : AW × Mvm) : Decidable (At7 y) := by unfold At7; exact inferInstance
def Awg (y : AW × Mvm) : Prop :=
 (1 ≤ y.2.ln ∧ y.2.ln ≤ 7) ∧ Azu y.2.p ∧ (0 ≤ y.1.n ∧ y.1.n ≤ 1000) ∧ (y.2.ln = 2 → Aub y) ∧ (y.2.ln = 3 → Aua y) ∧ (y.2.ln = 4 ∨ y.2.ln = 7 → At9 y) ∧ (y.2.ln = 4 → y.2.o.ln < 3) ∧ (y.2.ln = 5 → At8 y) ∧ (y.2.ln = 6 → At7 y)
instance (y : AW × Mvm) : Decidable (Awg y) := by unfold Awg; exact inferInstance
theorem Aro (mo : Int) (s : AW) (z : Rmm) (h : z.ln = 1) (hf : 0 ≤ Aa5 (s.M (Aai z.b z.a))) : Aaq mo (s, z) = (Aan (Aai z.b z.a) s, Am2 z ⟨z.b, z.a, Aa5 (s.M (Aai z.b z.a))⟩) := by
 unfold Aaq Awn; dsimp only; rw [if_pos h, if_pos hf]
section
variable {X : Nat} {w : World} {O : Om} {B : Wb} {f : Cf} {s : AW} {k : Nat}
theorem At1 {z : Mvm} (mo : Int) (hpre : Awg (s, z)) (hP : PW w O B f s) (hM : Adl w O k X z) (hk : 10 ≤ k) (hhi : Hh O w) :
 C2 41 X B.p w (RP (SX k (k + 24)) w O (.bool (Abg (Aae mo (s, z)).2)) fun W G => PW W G B f (Aae mo (s, z)).1 ∧ Adl W G k X (Aae mo (s, z)).2) := by
 obtain ⟨hl, hp, hn, h2, h3, h47, h4, h5, h6⟩ := hpre
 dsimp only at hl hp hn h2 h3 h47 h4 h5 h6
 have hp := And hp
 have n0 := hn.1
 have n1 : s.n ≤ 4611686018427387904 := by omega
 have hc : z.ln = 1 ∨ z.ln = 2 ∨ z.ln = 3 ∨ z.ln = 4 ∨ z.ln = 5 ∨ z.ln = 6 ∨ z.ln = 7 := by omega
 rcases hc with g | g | g | g | g | g | g
 · exact Bbp mo hP hM g hp hk hhi n0 n1
 · obtain ⟨a, b, c, d⟩ := h2 g
   dsimp only at a b c d
   exact Bbm mo hP hM g hp ⟨by omega, b⟩ a (by omega) (by unfold maxLen; omega) hk hhi n0 n1
 · obtain ⟨a, b, c, d, t0, t1, r1⟩ := h3 g
   dsimp only at a b c d t0 t1 r1
   have hfb := Adw (s.M (Aai z.rm.b z.rm.a))
   refine Awv mo hM g (Aro mo s z.rm a d) rfl rfl (fun R hR => ?_) hp ⟨b.1, b.2, c.1, c.2, d, hfb.2⟩ t0 t1 r1 hk hhi
   have hql : ∃ l, Add z.rm = z.rm.a :: l := by
    unfold Add; rw [if_pos a]; split
    · exact ⟨_, rfl⟩
    exact ⟨_, rfl⟩
   obtain ⟨l, hql⟩ := hql
   exact (Aex hP hR (.inl a) hql b c d (by omega) hhi n0 n1).mono fun e w' hh => hh.mono (fun t _ ht => SX.mono (by omega) (by omega) ht) (fun _ _ q => q)
 · obtain ⟨a, b, c⟩ := h47 (.inl g)
   exact Bbj mo hP hM g hp a b c (h4 g) hk hhi n0 n1
 · obtain ⟨a, b, c, d, e1, e2⟩ := h5 g
   have hu : z.u = Abe z.tag z.ref := Baf e1 e2
   exact Bbi mo hP hM g hp (And a) b c d hu hk hhi n0 n1
 · obtain ⟨a, b, c, d, e1, e2⟩ := h6 g
   exact Bbh mo hP hM g hp (And a) b c d e1 e2 hk hhi n0 n1
 obtain ⟨a, b, c⟩ := h47 (.inr g)
 exact Bbg mo hP hM g hp a b c hk hhi n0 n1
end
def One (s t : AW) : Prop := t.n ≤ s.n + 1 ∧ s.n ≤ t.n
theorem One.load (a : Int) (s : AW) : One s (Aan a s) := ⟨Int.le_refl _, by show s.n ≤ s.n + 1; omega⟩
theorem One.store (a v : Int) (s : AW) : One s (Aax a v s) := ⟨Int.le_refl _, by show s.n ≤ s.n + 1; omega⟩
theorem One.add (a v : Int) (s : AW) : One s (Ab0 a v s) := ⟨Int.le_refl _, by show s.n ≤ s.n + 1; omega⟩
theorem One.refl (s : AW) : One s s := ⟨by omega, by omega⟩
theorem One.note {s t : AW} (a b c d e g : Int) (h : One s t) : One s (Abr a b c d e g t) := h
theorem One.out (p : Spt) (s : AW) (o : Otm) : One s (Aaj p s o).1 := by
 unfold Aaj
 split
 · exact One.load _ _
 split
 · exact One.store _ _ _
 split
 · exact One.store _ _ _
 exact One.refl _
theorem One.put (p : Spt) (tg rf : Int) (s : AW) (o : Otm) : One s (Aap p tg rf s o).1 := by
 unfold Aap
 split
 · exact One.store _ _ _
 split
 · exact One.load _ _
 split
 · exact One.store _ _ _
 exact One.refl _
theorem One.wy (x : AW × Wym) : One x.1 (Aaw x).1 := by
 unfold Aaw
 split
 · exact One.refl _
 split
 · exact One.load _ _
 exact One.load _ _
theorem One.ho (x : AW × Hom) : One x.1 (Aas x).1 := by
 unfold Aas
 split
 · exact One.load _ _
 split
 · exact One.load _ _
 split
 · exact One.add _ _ _
 split
 · exact One.out _ _ _
 split
 · exact One.put _ _ _ _ _
 split
 · exact One.add _ _ _
 exact One.refl _
theorem One.rm (mo : Int) (x : AW × Rmm) : One x.1 (Aaq mo x).1 := by
 unfold Aaq
 split
 · exact One.load _ _
 split
 · exact One.load _ _
 split
 · split
   · dsimp only
     split
     · exact (One.wy (x.1, x.2.wy)).note _ _ _ _ _ _
     exact One.wy (x.1, x.2.wy)
   exact One.wy (x.1, x.2.wy)
 split
 · exact One.ho (x.1, x.2.ho)
 exact One.refl _
theorem One.mv (mo : Int) (x : AW × Mvm) : One x.1 (Aae mo x).1 := by
 obtain ⟨s, z⟩ := x
 unfold Aae
 dsimp only
 by_cases h1 : z.ln = 1
 · rw [if_pos h1]
   exact One.load _ _
 rw [if_neg h1]
 by_cases h2 : z.ln = 2
 · rw [if_pos h2]
   exact One.load _ _
 rw [if_neg h2]
 by_cases h3 : z.ln = 3
 · rw [if_pos h3]
   exact One.rm mo (s, z.rm)
 rw [if_neg h3]
 by_cases h4 : z.ln = 4
 · rw [if_pos h4]
   exact One.add _ _ _
 rw [if_neg h4]
 by_cases h5 : z.ln = 5
 · rw [if_pos h5]
   exact One.out _ _ _
 rw [if_neg h5]
 by_cases h6 : z.ln = 6
 · rw [if_pos h6]
   exact One.put _ _ _ _ _
 rw [if_neg h6]
 by_cases h7 : z.ln = 7
 · rw [if_pos h7]
   exact One.add _ _ _
 rw [if_neg h7]
 by_cases h8 : z.ln = 8
 · rw [if_pos h8]
   exact One.add _ _ _
 rw [if_neg h8]
 by_cases h9 : z.ln = 9
 · rw [if_pos h9]
   dsimp only; by_cases g : z.o.ln = 1
   · rw [if_pos g]; exact (One.out _ _ _).note _ _ _ _ _ _
   rw [if_neg g]; exact One.out _ _ _
 rw [if_neg h9]
 by_cases h10 : z.ln = 10
 · rw [if_pos h10]
   exact One.add _ _ _
 rw [if_neg h10]
 by_cases h11 : z.ln = 11
 · rw [if_pos h11]
   exact (One.add 6 18446744073709551615 s).note _ _ _ _ _ _
 rw [if_neg h11]
 exact One.refl _
theorem Au7 (a : Addr) (w : World) : (method 464 83 (.pointer (some a)) "Over").run Tryz.prog w = .ok (88, .pointer (some a)) w := by kernel_rfl
theorem Au6 (a : Addr) (w : World) : (method 464 83 (.pointer (some a)) "Step").run Tryz.prog w = .ok (41, .pointer (some a)) w := by kernel_rfl
def Azx (mo : Int) : Nat → AW × Mvm → AW × Mvm
 | 0, y => y
 | i + 1, y => Aae mo (Azx mo i y)
theorem Bc5 {w : World} {O : Om} {B : Wb} {f : Cf} {s : AW} {k : Nat} (X : Nat) (z : Mvm) (m N : Nat) (mo : Int) (hpre : ∀ i, i < N → Awg (Azx mo i (s, z))) (hov : Abg (Azx mo N (s, z)).2 = true) (hln : ∀ i, i ≤ N → 0 ≤ (Azx mo i (s, z)).2.ln ∧ (Azx mo i (s, z)).2.ln ≤ 11)
 (hP : PW w O B f s) (hX : Adl w O k X z) (hk : 10 ≤ k) (hhi : Hh O w) (n0 : 0 ≤ s.n) (n1 : s.n + m ≤ 4611686018427387904) :
 Calls Tryz.prog 16 #[.pointer (some ⟨B.p, 0, none⟩), .iface 83 (.pointer (some ⟨X, 0, none⟩)), .int .i64 m] w (RP (SX k (k + 24)) w O (.int .i64 (Ad5 Abg (Aae mo) m (s, z)).1) fun W G => PW W G B f (Ad5 Abg (Aae mo) m (s, z)).2.1 ∧ Adl W G k X (Ad5 Abg (Aae mo) m (s, z)).2.2) := by
 refine (Awu Abg (Aae mo) (SX k (k + 24)) (fun W G y => PW W G B f y.1 ∧ Adl W G k X y.2 ∧ ∃ i, i ≤ N ∧ y = Azx mo i (s, z)) B.p X 83 88 41 (Au7 _) (Au6 _)
  (Aao Tryz.func88 (by kernel_rfl) (by kernel_rfl)) (Aao Tryz.func41 (by kernel_rfl) (by kernel_rfl)) ?_ ?_ (fun y => One.mv mo y) w O m (s, z) ⟨hP, hX, 0, Nat.zero_le _, rfl⟩ hhi n0 n1).mono ?_
 · rintro W G y ⟨h1, h2, i, hi, rfl⟩
   exact Av9 h2 (hln i hi).1 (hln i hi).2
 · rintro W G y ⟨h1, h2, i, hi, hy⟩ ho hh q0 q1
   have hiN : i < N := by
    by_cases e : i = N
    · rw [hy, e, hov] at ho; cases ho
    omega
   have hq := hpre i hiN
   rw [← hy] at hq
   obtain ⟨s1, z1⟩ := y
   refine (At1 mo hq h1 h2 hk hh).mono ?_
   intro e w' hp2
   exact ⟨_, RP.mono hp2 (fun _ _ h => h) fun W1 G1 h => ⟨h.1, h.2, i + 1, hiN, by rw [hy]; rfl⟩⟩
 intro e w' hp2
 exact RP.mono hp2 (fun _ _ h => h) fun W1 G1 h => ⟨h.1, h.2.1⟩
end
end Go.Proofs.YthbodknlhkapdaaGreat
