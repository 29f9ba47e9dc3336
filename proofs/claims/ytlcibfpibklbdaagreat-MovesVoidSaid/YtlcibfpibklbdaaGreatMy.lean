/- Layer 20: a step of the program's Move, line by line: lines 5 to 7. -/
import Derived.Test.YtlcibfpibklbdaaGreatMx
namespace Go.Proofs.YtlcibfpibklbdaaGreat
set_option linter.unusedSimpArgs false
open Go.RowKit Go.Shelf
set_option linter.unusedVariables false

theorem m_PuStep' (a : Addr) (w : World) : (method 519 153 (.pointer (some a)) "Step").run Tryz.prog w = .ok (319, .pointer (some a)) w := m_PuStep a w
section
variable {X : Nat} {w : World} {O : Om} {B : Wb} {f : Cf} {s : AW} {k : Nat}
theorem otOver_3 {o : Otm} (h : o.ln ≤ 3) : otOver o = (o.ln == 3) := by
  unfold otOver; rw [Bool.eq_iff_iff]; simp; omega
set_option maxHeartbeats 2000000 in
theorem c_Mv5 {z : Mvm} (mo : Int) (hP : PW w O B f s) (hM : MvAt w O k X z) (hl : z.ln = 5) (hp : z.p.ok) (hd : z.d.ok) (ho : z.o.ln < 3) (w0 : 0 ≤ z.o.w) (w1 : z.o.w < 18446744073709551616) (hu : z.u = ptNew z.tag z.ref) (hk : 10 ≤ k) (hhi : ∀ j, O j ≠ 0 → j < w.heap.size) (n0 : 0 ≤ s.n) (n1 : s.n ≤ 4611686018427387904) :
    Calls Tryz.prog 53 #[.pointer (some ⟨X, 0, none⟩), .pointer (some ⟨B.p, 0, none⟩)] w (RP (SX k (k + 24)) w O (.bool (mvOver (mvStep mo (s, z)).2)) fun W G => PW W G B f (mvStep mo (s, z)).1 ∧ MvAt W G k X (mvStep mo (s, z)).2) := by
  rw [mvStep_5 mo s z hl]
  obtain ⟨p, lv, hx, hpp, hparts⟩ := hM.ex
  obtain rfl := hpp (by omega)
  obtain ⟨ln, lost, now, p, tag, ref, rm, dd, m, o, u⟩ := z
  dsimp only at *
  subst hl
  obtain ⟨m1, u', q, m2, hS, -, b2, b3, b4⟩ := hparts.2.2.2.2.1 ⟨by (dsimp only; omega), by (dsimp only; omega)⟩
  dsimp only at hS b2 b3 b4
  rw [if_neg (by decide)] at b4
  have b2 := b2 (by decide)
  have b3 := b3 (by decide)
  obtain ⟨A, off, c, rfl, hc1, hc2⟩ := hS.open (by decide)
  have a0 := hS.c 0 _ rfl
  rw [Nat.add_zero] at a0
  have HA := c_OutStep o hP b2 hp ho w0 w1 (show 10 ≤ k + 21 by omega) hhi n0 n1
  have HA2 := HA.mono (fun e w' h => (⟨_, h.1, h.2⟩ : ∃ v, e = .returned v ∧ _))
  have hln := outStep_ln p s o ho
  obtain ⟨y, hy⟩ : ∃ y, y = outStep p s o := ⟨_, rfl⟩
  rw [← hy] at HA2 hln ⊢
  obtain ⟨s1, o1⟩ := y
  dsimp only at HA2 hln ⊢
  have hov := otOver_3 (o := o1) (by omega)
  have huo : u.ln = 0 ∨ u.ln = 3 := by rw [hu]; unfold ptNew; split; exact .inl rfl; exact .inr rfl
  have huv : ¬ (1 ≤ tag ∧ tag ≤ 255 ∧ 1 ≤ ref) → u.ln = 3 := fun h => by rw [hu]; unfold ptNew; rw [if_neg h]
  have hovu := otOver_3 (o := u) (by omega)
  obtain ⟨z2, hz2⟩ : ∃ z2, z2 = (if otOver o1 = true then if otOver u = true then mv7 ⟨5, lost, now, p, tag, ref, rm, dd, m, o1, u⟩ else ⟨6, lost, now, p, tag, ref, rm, dd, m, o1, u⟩ else ⟨5, lost, now, p, tag, ref, rm, dd, m, o1, u⟩ : Mvm) := ⟨_, rfl⟩
  rw [← hz2]
  have hzl : 5 ≤ z2.ln ∧ z2.ln ≤ 7 := by
    rw [hz2]; split
    · split
      · unfold mv7; dsimp only; omega
      · dsimp only; omega
    · dsimp only; omega
  refine (c_MvStepG (n := 2) (Q2 := MvPost w O B f k X (s1, z2)) (hx.c 4 _ rfl) a0 (m_OuStep _) (run_enter Tryz.func147 (by kernel_rfl) (by kernel_rfl)) HA2 ?_ (fun w2 h2 => h2.left (by dsimp only; omega) (by dsimp only; omega))).mono fun e w' h => MvPost.step h
  rintro w1 ⟨G1, e1, P1, k1⟩
  have E1 : Ext (SX k (k + 24)) O w G1 w1 := e1.mono fun t _ h => SX.mono (by omega) (by omega) h
  have x1 := hx.ext e1 (SX.not (by omega) (by omega))
  have l1 := hS.ext e1 (SX.not (by omega) (by omega))
  have c3 := b3.ext e1 (SX.not (by omega) (by omega))
  have c4 := b4.ext e1 (SX.not (by omega) (by omega)) (SX.not (by omega) (by omega))
  have hou := POver.out (k := k) k1 hp (by omega) (by omega)
  have hpu := POver.put (k := k) c3 hd (by omega) (by omega) huv
  have hm2 := POver.mark (k := k) c4 ⟨by omega, by omega⟩
  rw [mk2_ne] at hm2
  by_cases h1 : o1.ln = 3
  · have b1 : (o1.ln == 3) = true := by simp [h1]
    rw [b1] at hou hov
    rw [hov, if_pos rfl] at hz2
    rcases huo with h2 | h2
    · have b5 : (u.ln == 3) = false := by simp [h2]
      rw [b5] at hpu hovu
      rw [hovu, if_neg (by decide)] at hz2
      subst hz2
      refine (c_on1 (l := [IMark m2]) x1 l1 hou hpu hk E1.hi).mono ?_
      rintro e w2 ⟨rfl, G2, e2, rfl, lv2, x2, s2⟩
      exact ⟨rfl, mk47 (m1 := m1) (u := u') (by dsimp only; omega) (by dsimp only; omega) (E1.trans (e2.mono fun t _ h => .inr (by omega))) (P1.ext e2 (by omega) (by omega) (by omega) (by omega)) x2 s2 (fun h => absurd h (by dsimp only; omega)) (fun h => absurd h (by dsimp only; omega)) (fun _ => c3.ext e2 (by omega)) (by dsimp only; rw [if_neg (by omega)]; exact c4.ext e2 (by omega) (by omega))⟩
    · have b5 : (u.ln == 3) = true := by simp [h2]
      rw [b5] at hpu hovu
      rw [hovu, if_pos rfl] at hz2
      subst hz2
      refine (c_on2 (l := []) x1 l1 hou hpu hm2 hk E1.hi).mono ?_
      rintro e w2 ⟨rfl, G2, e2, rfl, lv2, x2, s2⟩
      exact ⟨rfl, mk47 (m1 := m1) (u := u') (q := q) (by unfold mv7; dsimp only; omega) (by unfold mv7; dsimp only; omega) (E1.trans (e2.mono fun t _ h => .inr (by omega))) (P1.ext e2 (by omega) (by omega) (by omega) (by omega)) x2 s2 (fun h => absurd h (by unfold mv7; dsimp only; omega)) (fun h => absurd h (by unfold mv7; dsimp only; omega)) (fun h => absurd h (by unfold mv7; dsimp only; omega)) (by unfold mv7; dsimp only; rw [if_pos rfl]; exact c4.ext e2 (by omega) (by omega))⟩
  · have b1 : (o1.ln == 3) = false := by simp [h1]
    rw [b1] at hou hov
    rw [hov, if_neg (by decide)] at hz2
    subst hz2
    refine (c_on0 (l := [IPut q, IMark m2]) x1 l1 hou hk E1.hi).mono ?_
    rintro e w2 ⟨rfl, hb⟩
    exact ⟨rfl, mk47 (m1 := m1) (u := u') (by dsimp only; omega) (by dsimp only; omega) (E1.below hb) (P1.below E1.hi hb) (x1.below hb) (l1.below hb) (fun h => absurd h (by dsimp only; omega)) (fun _ => k1.below hb) (fun _ => c3.below hb) (by dsimp only; rw [if_neg (by omega)]; exact c4.below hb)⟩
set_option maxHeartbeats 2000000 in
theorem c_Mv6 {z : Mvm} (mo : Int) (hP : PW w O B f s) (hM : MvAt w O k X z) (hl : z.ln = 6) (hp : z.p.ok) (hd : z.d.ok) (hu : z.u.ln < 3) (w0 : 0 ≤ z.u.w) (w1 : z.u.w < 18446744073709551616) (hv : 1 ≤ z.tag ∧ z.tag ≤ 255 ∧ 1 ≤ z.ref) (r1 : z.ref ≤ 9223372036854775807) (hk : 10 ≤ k) (hhi : ∀ j, O j ≠ 0 → j < w.heap.size) (n0 : 0 ≤ s.n) (n1 : s.n ≤ 4611686018427387904) :
    Calls Tryz.prog 53 #[.pointer (some ⟨X, 0, none⟩), .pointer (some ⟨B.p, 0, none⟩)] w (RP (SX k (k + 24)) w O (.bool (mvOver (mvStep mo (s, z)).2)) fun W G => PW W G B f (mvStep mo (s, z)).1 ∧ MvAt W G k X (mvStep mo (s, z)).2) := by
  rw [mvStep_6 mo s z hl]
  obtain ⟨p, lv, hx, hpp, hparts⟩ := hM.ex
  obtain rfl := hpp (by omega)
  obtain ⟨ln, lost, now, p, tag, ref, rm, dd, m, o, u⟩ := z
  dsimp only at *
  subst hl
  obtain ⟨m1, u', q, m2, hS, -, -, b3, b4⟩ := hparts.2.2.2.2.1 ⟨by (dsimp only; omega), by (dsimp only; omega)⟩
  dsimp only at hS b3 b4
  rw [if_neg (by decide)] at b4
  have b3 := b3 (by decide)
  obtain ⟨A, off, c, rfl, hc1, hc2⟩ := hS.open (by decide)
  have a0 := hS.c 0 _ rfl
  rw [Nat.add_zero] at a0
  have HA := c_PutStep u hP (b3.1 hv) hd hu w0 w1 (show 10 ≤ k + 22 by omega) hhi n0 n1 (by omega) hv.2.1 (by omega) r1
  have HA2 := HA.mono (fun e w' h => (⟨_, h.1, h.2⟩ : ∃ v, e = .returned v ∧ _))
  have hln := putStep_ln dd tag ref s u hu
  obtain ⟨y, hy⟩ : ∃ y, y = putStep dd tag ref s u := ⟨_, rfl⟩
  rw [← hy] at HA2 hln ⊢
  obtain ⟨s1, u1⟩ := y
  dsimp only at HA2 hln ⊢
  have hov := otOver_3 (o := u1) (by omega)
  obtain ⟨z2, hz2⟩ : ∃ z2, z2 = (if otOver u1 = true then mv7 ⟨6, lost, now, p, tag, ref, rm, dd, m, o, u1⟩ else ⟨6, lost, now, p, tag, ref, rm, dd, m, o, u1⟩ : Mvm) := ⟨_, rfl⟩
  rw [← hz2]
  have hzl : 6 ≤ z2.ln ∧ z2.ln ≤ 7 := by
    rw [hz2]; split
    · unfold mv7; dsimp only; omega
    · dsimp only; omega
  refine (c_MvStepG (n := 1) (Q2 := MvPost w O B f k X (s1, z2)) (hx.c 4 _ rfl) a0 (m_PuStep' _) (run_enter Tryz.func319 (by kernel_rfl) (by kernel_rfl)) HA2 ?_ (fun w2 h2 => h2.left (by dsimp only; omega) (by dsimp only; omega))).mono fun e w' h => MvPost.step h
  rintro w1 ⟨G1, e1, P1, k1⟩
  have E1 : Ext (SX k (k + 24)) O w G1 w1 := e1.mono fun t _ h => SX.mono (by omega) (by omega) h
  have x1 := hx.ext e1 (SX.not (by omega) (by omega))
  have l1 := hS.ext e1 (SX.not (by omega) (by omega))
  have c4 := b4.ext e1 (SX.not (by omega) (by omega)) (SX.not (by omega) (by omega))
  have c3 : PvAt w1 G1 (k + 22) q dd tag ref u1 := ⟨fun _ => k1, fun h => absurd hv h⟩
  have hpu := POver.put (k := k) c3 hd (by omega) (by omega) (fun h => absurd hv h)
  have hm2 := POver.mark (k := k) c4 ⟨by omega, by omega⟩
  rw [mk2_ne] at hm2
  by_cases h1 : u1.ln = 3
  · have b1 : (u1.ln == 3) = true := by simp [h1]
    rw [b1] at hpu hov
    rw [hov, if_pos rfl] at hz2
    subst hz2
    refine (c_on1 (l := []) x1 l1 hpu hm2 hk E1.hi).mono ?_
    rintro e w2 ⟨rfl, G2, e2, rfl, lv2, x2, s2⟩
    exact ⟨rfl, mk47 (m1 := m1) (u := u') (q := q) (by unfold mv7; dsimp only; omega) (by unfold mv7; dsimp only; omega) (E1.trans (e2.mono fun t _ h => .inr (by omega))) (P1.ext e2 (by omega) (by omega) (by omega) (by omega)) x2 s2 (fun h => absurd h (by unfold mv7; dsimp only; omega)) (fun h => absurd h (by unfold mv7; dsimp only; omega)) (fun h => absurd h (by unfold mv7; dsimp only; omega)) (by unfold mv7; dsimp only; rw [if_pos rfl]; exact c4.ext e2 (by omega) (by omega))⟩
  · have b1 : (u1.ln == 3) = false := by simp [h1]
    rw [b1] at hpu hov
    rw [hov, if_neg (by decide)] at hz2
    subst hz2
    refine (c_on0 (l := [IMark m2]) x1 l1 hpu hk E1.hi).mono ?_
    rintro e w2 ⟨rfl, hb⟩
    exact ⟨rfl, mk47 (m1 := m1) (u := u') (by dsimp only; omega) (by dsimp only; omega) (E1.below hb) (P1.below E1.hi hb) (x1.below hb) (l1.below hb) (fun h => absurd h (by dsimp only; omega)) (fun h => absurd h (by dsimp only; omega)) (fun _ => c3.below hb) (by dsimp only; rw [if_neg (by omega)]; exact c4.below hb)⟩
set_option maxHeartbeats 2000000 in
theorem c_Mv7 {z : Mvm} (mo : Int) (hP : PW w O B f s) (hM : MvAt w O k X z) (hl : z.ln = 7) (hp : z.p.ok) (hm0 : z.m ≠ []) (hml : z.m.length ≤ 5) (hmb : ∀ a ∈ z.m, 0 ≤ a ∧ a < 18446744073709551616) (hk : 10 ≤ k) (hhi : ∀ j, O j ≠ 0 → j < w.heap.size) (n0 : 0 ≤ s.n) (n1 : s.n ≤ 4611686018427387904) :
    Calls Tryz.prog 53 #[.pointer (some ⟨X, 0, none⟩), .pointer (some ⟨B.p, 0, none⟩)] w (RP (SX k (k + 24)) w O (.bool (mvOver (mvStep mo (s, z)).2)) fun W G => PW W G B f (mvStep mo (s, z)).1 ∧ MvAt W G k X (mvStep mo (s, z)).2) := by
  obtain ⟨p, lv, hx, hpp, hparts⟩ := hM.ex
  obtain rfl := hpp (by omega)
  obtain ⟨ln, lost, now, p, tag, ref, rm, dd, m, o, u⟩ := z
  dsimp only at *
  subst hl
  obtain ⟨m1, u', q, m2, hS, -, -, -, b4⟩ := hparts.2.2.2.2.1 ⟨by (dsimp only; omega), by (dsimp only; omega)⟩
  dsimp only at hS b4
  rw [if_pos rfl] at b4
  obtain ⟨a, l, rfl⟩ : ∃ a l, m = a :: l := by cases m with
    | nil => exact absurd rfl hm0
    | cons a l => exact ⟨a, l, rfl⟩
  have hab := hmb a (by simp)
  obtain ⟨A, off, c, rfl, hc1, hc2⟩ := hS.open (by decide)
  have a0 := hS.c 0 _ rfl
  rw [Nat.add_zero] at a0
  have HA := c_MkStep a l (k + 23) hP b4 (by simp at hml; omega) (by omega) hhi hab.1 hab.2 n0 n1
  have HA2 := HA.mono (fun e w' h => (⟨_, h.1, h.2⟩ : ∃ v, e = .returned v ∧ _))
  obtain ⟨z2, he, hz2⟩ : ∃ z2, mvStep mo (s, ⟨7, lost, now, p, tag, ref, rm, dd, a :: l, o, u⟩) = (awAdd a 1 s, z2) ∧ ((l = [] ∧ z2 = mvNext ⟨7, lost, now, p, tag, ref, rm, dd, a :: l, o, u⟩) ∨ (l ≠ [] ∧ z2 = ⟨7, lost, now, p, tag, ref, rm, dd, l, o, u⟩)) := by
    rw [mvStep_7 mo s _ rfl]
    by_cases h : l = []
    · exact ⟨_, by rw [if_pos (show (⟨7, lost, now, p, tag, ref, rm, dd, a :: l, o, u⟩ : Mvm).m.tail = [] from h)]; rfl, .inl ⟨h, rfl⟩⟩
    · exact ⟨_, by rw [if_neg (show ¬ (⟨7, lost, now, p, tag, ref, rm, dd, a :: l, o, u⟩ : Mvm).m.tail = [] from h)]; rfl, .inr ⟨h, rfl⟩⟩
  rw [he]
  have hzl : 0 ≤ z2.ln ∧ z2.ln ≤ 7 := by
    rcases hz2 with ⟨-, hz2⟩ | ⟨-, hz2⟩ <;> rw [hz2]
    · rcases mvNext_ln ⟨7, lost, now, p, tag, ref, rm, dd, a :: l, o, u⟩ with h | h <;> omega
    · dsimp only; omega
  refine (c_MvStepG (n := 0) (Q2 := MvPost w O B f k X (awAdd a 1 s, z2)) (hx.c 4 _ rfl) a0 (m_MkStep _) (run_enter Tryz.func145 (by kernel_rfl) (by kernel_rfl)) HA2 ?_ (fun w2 h2 => h2.left (by dsimp only; omega) (by dsimp only; omega))).mono fun e w' h => MvPost.step h
  rintro w1 ⟨G1, e1, P1, k1⟩
  have E1 : Ext (SX k (k + 24)) O w G1 w1 := e1.mono fun t _ h => SX.mono (by omega) (by omega) h
  have x1 := hx.ext e1 (SX.not (by omega) (by omega))
  have l1 := hS.ext e1 (SX.not (by omega) (by omega))
  have hm := POver.mark (k := k) k1 ⟨by omega, by omega⟩
  rcases hz2 with ⟨hl0, hz2⟩ | ⟨hl0, hz2⟩
  · subst hl0
    subst hz2
    exact c_onNext (z := ⟨7, lost, now, p, tag, ref, rm, dd, [a], o, u⟩) E1 P1 x1 l1 hm hp hk
  · subst hz2
    have hle : (l.length == 0) = false := by
      cases l with
      | nil => exact absurd rfl hl0
      | cons a l => rfl
    rw [hle] at hm
    refine (c_on0 (l := []) x1 l1 hm hk E1.hi).mono ?_
    rintro e w2 ⟨rfl, hb⟩
    exact ⟨rfl, mk47 (m1 := m1) (u := u') (q := q) (by dsimp only; omega) (by dsimp only; omega) (E1.below hb) (P1.below E1.hi hb) (x1.below hb) (l1.below hb) (fun h => absurd h (by dsimp only; omega)) (fun h => absurd h (by dsimp only; omega)) (fun h => absurd h (by dsimp only; omega)) (by dsimp only; rw [if_pos rfl]; exact k1.below hb)⟩
end
end Go.Proofs.YtlcibfpibklbdaaGreat
