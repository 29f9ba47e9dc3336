/- Layer 20: a step of the program's Move, line by line: lines 1, 2. -/
import Derived.Test.YtlcibfpibklbdaaGreatMu
namespace Go.Proofs.YtlcibfpibklbdaaGreat
set_option linter.unusedSimpArgs false
open Go.RowKit Go.Shelf
set_option linter.unusedVariables false

/-- What a step of a Move comes to. -/
def MvPost (w : World) (O : Om) (B : Wb) (f : Cf) (k X : Nat) (y : AW × Mvm) (W : World) : Prop := ∃ G, Ext (SX k (k + 24)) O w G W ∧ PW W G B f y.1 ∧ MvAt W G k X y.2
theorem mvStep_1 (mo : Int) (s : AW) (z : Mvm) (h : z.ln = 1) : mvStep mo (s, z) = (awLoad z.p.tags s, if twTag (s.M z.p.tags) z.p.s = 0 then mvNext ⟨1, z.lost, z.now, z.p, 0, z.ref, z.rm, z.d, z.m, z.o, z.u⟩ else ⟨2, z.lost, z.now, z.p, twTag (s.M z.p.tags) z.p.s, z.ref, z.rm, z.d, z.m, z.o, z.u⟩) := by
  unfold mvStep; dsimp only; rw [if_pos h]
theorem mvStep_2 (mo : Int) (s : AW) (z : Mvm) (h : z.ln = 2) : mvStep mo (s, z) = (awLoad z.p.item s, ⟨3, z.lost, z.now, z.p, z.tag, wrap64 (s.M z.p.item), rmNew z.now (fnvHash (itKey s.it (wrap64 (s.M z.p.item)))), z.d, z.m, z.o, z.u⟩) := by
  unfold mvStep; dsimp only; rw [if_neg (by omega), if_pos h]
section
variable {X : Nat} {w : World} {O : Om} {B : Wb} {f : Cf} {s : AW} {k : Nat}
theorem MvPost.step {y : AW × Mvm} {e : Ending} {w' : World} (h : e = .returned (.bool (mvOver y.2)) ∧ MvPost w O B f k X y w') : RP (SX k (k + 24)) w O (.bool (mvOver y.2)) (fun W G => PW W G B f y.1 ∧ MvAt W G k X y.2) e w' := by
  obtain ⟨rfl, G, h1, h2⟩ := h
  exact ⟨rfl, G, h1, h2⟩
/-- How many parts are left, behind a step. -/
theorem MvPost.left {y : AW × Mvm} {W : World} (h : MvPost w O B f k X y W) (h0 : 0 ≤ y.2.ln) (h1 : y.2.ln ≤ 11) : ∃ ao m c, W.cell? ⟨X, 4, none⟩ = some (.slice ao m c) ∧ (m == 0) = mvOver y.2 := by
  obtain ⟨G, -, -, hM⟩ := h
  obtain ⟨p, lv, q1, q2, q3⟩ := hM.ex
  obtain ⟨ao, n, c, rfl, hn⟩ := q3.shape h0 h1
  exact ⟨ao, n, c, q1.c 4 _ rfl, hn⟩
theorem mvNext_ln (z : Mvm) : (mvNext z).ln = 0 ∨ (mvNext z).ln = 1 := by
  unfold mvNext; dsimp only; split
  · exact .inl rfl
  · exact .inr rfl
/-- The last part is over: the next slot begins, or the Move is over. -/
theorem c_onNext {w1 : World} {G1 : Om} {z : Mvm} {lv : Value} {v0 : Value} {s1 : AW} (e1 : Ext (SX k (k + 24)) O w G1 w1) (hP : PW w1 G1 B f s1) (hx : Ob w1 G1 k X (mvCs z.now z.p lv z.tag z.ref z.lost)) (hS : Sls w1 G1 (k + 1) 1 lv 1 [v0]) (h0 : POver w1 G1 k v0 true) (hp : z.p.ok) (hk : 10 ≤ k) :
    Calls Tryz.prog 110 #[.pointer (some ⟨X, 0, none⟩)] w1 fun e w' => e = .returned (.tuple #[]) ∧ MvPost w O B f k X (s1, mvNext z) w' := by
  have hs0 := hp.s0
  have hs1 := hp.s1
  by_cases hs : z.p.s < 3
  · refine (c_onE hx hS h0 hs hs0 hs1 hk e1.hi).mono ?_
    rintro e w2 ⟨rfl, G2, e2, lv2, d2, x2, l2, a2⟩
    refine ⟨rfl, G2, e1.trans (e2.mono fun t _ h => .inr (by omega)), hP.ext e2 (by omega) (by omega) (by omega) (by omega), ⟨z.p.b, z.p.q, z.p.s + 1⟩, lv2, x2, fun _ => rfl, ?_⟩
    have hl : (mvNext z).ln = 1 := by unfold mvNext; dsimp only; rw [if_neg (by omega)]
    exact ⟨fun g => by (dsimp only at g; omega), fun _ => ⟨d2, l2, a2⟩, fun g => by (dsimp only at g; omega), fun g => by (dsimp only at g; omega), fun g => by (dsimp only at g; omega), fun g => by (dsimp only at g; omega)⟩
  · refine (c_onZ hx hS h0 (by omega) hs0 hs1 hk e1.hi).mono ?_
    rintro e w2 ⟨rfl, G2, e2, lv2, x2, l2⟩
    have hl : (mvNext z).ln = 0 := by unfold mvNext; dsimp only; rw [if_pos (by omega)]
    exact ⟨rfl, G2, e1.trans (e2.mono fun t _ h => .inr (by omega)), hP.ext e2 (by omega) (by omega) (by omega) (by omega), z.p, lv2, x2, fun g => absurd hl g, ⟨fun _ => l2, fun g => by (dsimp only at g; omega), fun g => by (dsimp only at g; omega), fun g => by (dsimp only at g; omega), fun g => by (dsimp only at g; omega), fun g => by (dsimp only at g; omega)⟩⟩
set_option maxHeartbeats 1000000 in
theorem c_Mv1 {z : Mvm} (mo : Int) (hP : PW w O B f s) (hM : MvAt w O k X z) (hl : z.ln = 1) (hp : z.p.ok) (hk : 10 ≤ k) (hhi : ∀ j, O j ≠ 0 → j < w.heap.size) (n0 : 0 ≤ s.n) (n1 : s.n ≤ 4611686018427387904) :
    Calls Tryz.prog 53 #[.pointer (some ⟨X, 0, none⟩), .pointer (some ⟨B.p, 0, none⟩)] w (RP (SX k (k + 24)) w O (.bool (mvOver (mvStep mo (s, z)).2)) fun W G => PW W G B f (mvStep mo (s, z)).1 ∧ MvAt W G k X (mvStep mo (s, z)).2) := by
  rw [mvStep_1 mo s z hl]
  obtain ⟨p, lv, hx, hpp, hparts⟩ := hM.ex
  obtain rfl := hpp (by omega)
  obtain ⟨d, hS, hd⟩ := hparts.2.1 hl
  obtain ⟨A, o, c, rfl, hc1, hc2⟩ := hS.open (by decide)
  have a0 := hS.c 0 _ rfl
  rw [Nat.add_zero] at a0
  have e0 := ext_set (j := 1) (v := .bool true) hhi hd (show 10 ≤ k + 2 by omega)
  have hd1 := hd.set 1 (.bool true) (by simp)
  have HT := c_MvTags (hP.ext e0 (by omega) (by omega) (by omega) (by omega)) (hx.ext e0 (by omega)) (hS.ext e0 (by omega)) hd1 hp hk e0.hi n0 n1
  have HA := c_ActStep hd (run_enter Tryz.func107 (by kernel_rfl) (by kernel_rfl)) HT
  have HA2 := HA.mono (fun e w' h => (⟨.bool true, h.1, h.2⟩ : ∃ v, e = .returned v ∧ _))
  by_cases ht : twTag (s.M z.p.tags) z.p.s = 0
  · rw [if_pos ht]
    refine (c_MvStepG (n := 0) (Q2 := MvPost w O B f k X (awLoad z.p.tags s, mvNext ⟨1, z.lost, z.now, z.p, 0, z.ref, z.rm, z.d, z.m, z.o, z.u⟩)) (hx.c 4 _ rfl) a0 (m_ActStep _) (run_enter Tryz.func325 (by kernel_rfl) (by kernel_rfl)) HA2 ?_ (fun w2 h2 => h2.left (by rcases mvNext_ln ⟨1, z.lost, z.now, z.p, 0, z.ref, z.rm, z.d, z.m, z.o, z.u⟩ with h | h <;> (dsimp only; omega)) (by rcases mvNext_ln ⟨1, z.lost, z.now, z.p, 0, z.ref, z.rm, z.d, z.m, z.o, z.u⟩ with h | h <;> (dsimp only; omega)))).mono fun e w' h => MvPost.step h
    rintro w1 ⟨G1, e1, P1, q1, lv1, x1, l0, -⟩
    rw [ht] at x1
    exact c_onNext (z := ⟨1, z.lost, z.now, z.p, 0, z.ref, z.rm, z.d, z.m, z.o, z.u⟩) ((e0.mono (T := SX k (k + 24)) fun t _ h => .inr (by omega)).trans (e1.mono fun t _ h => SX.mono (by omega) (by omega) h)) P1 x1 (l0 ht) (POver.act q1 (by omega)) hp hk
  · rw [if_neg ht]
    refine (c_MvStepG (n := 0) (Q2 := MvPost w O B f k X (awLoad z.p.tags s, ⟨2, z.lost, z.now, z.p, twTag (s.M z.p.tags) z.p.s, z.ref, z.rm, z.d, z.m, z.o, z.u⟩)) (hx.c 4 _ rfl) a0 (m_ActStep _) (run_enter Tryz.func325 (by kernel_rfl) (by kernel_rfl)) HA2 ?_ (fun w2 h2 => h2.left (by dsimp only; omega) (by dsimp only; omega))).mono fun e w' h => MvPost.step h
    rintro w1 ⟨G1, e1, P1, q1, lv1, x1, -, l1⟩
    obtain ⟨d', l2, a2⟩ := l1 ht
    refine (c_on1 (l := []) x1 l2 (POver.act q1 (by omega)) (POver.act a2 (by omega)) hk e1.hi).mono ?_
    rintro e w2 ⟨rfl, G2, e2, rfl, lv2, x2, s2⟩
    exact ⟨rfl, G2, (e0.mono (T := SX k (k + 24)) fun t _ h => .inr (by omega)).trans ((e1.mono fun t _ h => SX.mono (by omega) (by omega) h).trans (e2.mono fun t _ h => .inr (by omega))), P1.ext e2 (by omega) (by omega) (by omega) (by omega), z.p, lv2, x2, fun _ => rfl, ⟨fun g => absurd g (by dsimp only; omega), fun g => absurd g (by dsimp only; omega), fun _ => ⟨d', s2, a2.ext e2 (by omega)⟩, fun g => absurd g (by dsimp only; omega), fun g => absurd g (by dsimp only; omega), fun g => absurd g (by dsimp only; omega)⟩⟩
set_option maxHeartbeats 1000000 in
theorem c_Mv2 {z : Mvm} (mo : Int) (hP : PW w O B f s) (hM : MvAt w O k X z) (hl : z.ln = 2) (hp : z.p.ok) (hnow : 0 ≤ z.now ∧ z.now ≤ 12) (hnw : 1 ≤ z.now) (hil : s.it.length ≤ 1000000) (hks : (itOf s.it (wrap64 (s.M z.p.item))).key.size ≤ maxLen) (hk : 10 ≤ k) (hhi : ∀ j, O j ≠ 0 → j < w.heap.size) (n0 : 0 ≤ s.n) (n1 : s.n ≤ 4611686018427387904) :
    Calls Tryz.prog 53 #[.pointer (some ⟨X, 0, none⟩), .pointer (some ⟨B.p, 0, none⟩)] w (RP (SX k (k + 24)) w O (.bool (mvOver (mvStep mo (s, z)).2)) fun W G => PW W G B f (mvStep mo (s, z)).1 ∧ MvAt W G k X (mvStep mo (s, z)).2) := by
  rw [mvStep_2 mo s z hl, itKey_of]
  obtain ⟨p, lv, hx, hpp, hparts⟩ := hM.ex
  obtain rfl := hpp (by omega)
  obtain ⟨d, hS, hd⟩ := hparts.2.2.1 hl
  obtain ⟨A, o, c, rfl, hc1, hc2⟩ := hS.open (by decide)
  have a0 := hS.c 0 _ rfl
  rw [Nat.add_zero] at a0
  have e0 := ext_set (j := 1) (v := .bool true) hhi hd (show 10 ≤ k + 2 by omega)
  have hd1 := hd.set 1 (.bool true) (by simp)
  have HT := c_MvItem (hP.ext e0 (by omega) (by omega) (by omega) (by omega)) (hx.ext e0 (by omega)) (hS.ext e0 (by omega)) hd1 hp hnow hil hks hk e0.hi n0 n1
  have HA := c_ActStep hd (run_enter Tryz.func181 (by kernel_rfl) (by kernel_rfl)) HT
  have HA2 := HA.mono (fun e w' h => (⟨.bool true, h.1, h.2⟩ : ∃ v, e = .returned v ∧ _))
  refine (c_MvStepG (n := 0) (Q2 := MvPost w O B f k X (awLoad z.p.item s, ⟨3, z.lost, z.now, z.p, z.tag, wrap64 (s.M z.p.item), rmNew z.now (fnvHash (itOf s.it (wrap64 (s.M z.p.item))).key.data.toList), z.d, z.m, z.o, z.u⟩)) (hx.c 4 _ rfl) a0 (m_ActStep _) (run_enter Tryz.func325 (by kernel_rfl) (by kernel_rfl)) HA2 ?_ (fun w2 h2 => h2.left (by dsimp only; omega) (by dsimp only; omega))).mono fun e w' h => MvPost.step h
  rintro w1 ⟨G1, e1, P1, q1, lv1, x1, e, R, l1, a1, r1⟩
  have hz : (rmNew z.now (fnvHash (itOf s.it (wrap64 (s.M z.p.item))).key.data.toList)).ln = 1 := by unfold rmNew; rw [if_pos ⟨hnw, hnow.2⟩]
  have ho := POver.search (k := k) a1 r1 (by omega) (by omega)
  rw [hz] at ho
  refine (c_on1 (l := []) x1 l1 (POver.act q1 (by omega)) ho hk e1.hi).mono ?_
  rintro e' w2 ⟨rfl, G2, e2, rfl, lv2, x2, s2⟩
  exact ⟨rfl, G2, (e0.mono (T := SX k (k + 24)) fun t _ h => .inr (by omega)).trans ((e1.mono fun t _ h => SX.mono (by omega) (by omega) h).trans (e2.mono fun t _ h => .inr (by omega))), P1.ext e2 (by omega) (by omega) (by omega) (by omega), z.p, lv2, x2, fun _ => rfl, ⟨fun g => absurd g (by dsimp only; omega), fun g => absurd g (by dsimp only; omega), fun g => absurd g (by dsimp only; omega), fun _ => ⟨e, R, s2, a1.ext e2 (by omega), r1.ext e2 (fun t q1 q2 => by omega)⟩, fun g => absurd g (by dsimp only; omega), fun g => absurd g (by dsimp only; omega)⟩⟩
end
end Go.Proofs.YtlcibfpibklbdaaGreat
