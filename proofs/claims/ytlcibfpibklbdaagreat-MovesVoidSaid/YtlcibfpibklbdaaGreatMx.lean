/- Layer 20: a step of the program's Move, line by line: lines 3 (with a slot) to 7. -/
import Derived.Test.YtlcibfpibklbdaaGreatMw
namespace Go.Proofs.YtlcibfpibklbdaaGreat
set_option linter.unusedSimpArgs false
open Go.RowKit Go.Shelf
set_option linter.unusedVariables false

section
variable {X : Nat} {w : World} {O : Om} {B : Wb} {f : Cf} {s : AW} {k : Nat}
theorem mk47 {z : Mvm} {s1 : AW} {W : World} {G : Om} {lv : Value} {m1 u q m2 : Nat} (h4 : 4 ≤ z.ln) (h7 : z.ln ≤ 7) (e : Ext (SX k (k + 24)) O w G W) (hP : PW W G B f s1) (x : Ob W G k X (mvCs z.now z.p lv z.tag z.ref z.lost)) (l : Sls W G (k + 1) 1 lv (8 - z.ln).toNat ([IMark m1, IOut u, IPut q, IMark m2].drop (z.ln - 4).toNat))
    (a1 : z.ln = 4 → MkAt W G (k + 19) m1 z.m) (a2 : z.ln ≤ 5 → OutAt W G (k + 21) u z.p z.o) (a3 : z.ln ≤ 6 → PvAt W G (k + 22) q z.d z.tag z.ref z.u) (a4 : MkAt W G (k + 23) m2 (if z.ln = 7 then z.m else mk2 z.p z.d)) : MvPost w O B f k X (s1, z) W :=
  ⟨G, e, hP, z.p, lv, x, fun _ => rfl, ⟨fun g => by (dsimp only at g; omega), fun g => by (dsimp only at g; omega), fun g => by (dsimp only at g; omega), fun g => by (dsimp only at g; omega), fun _ => ⟨m1, u, q, m2, l, a1, a2, a3, a4⟩, fun g => by (dsimp only at g; omega)⟩⟩
theorem mk2_cons (p q : Spt) : ∃ a l, mk2 p q = a :: l ∧ l.length ≤ 1 := by
  unfold mk2; split
  · exact ⟨_, _, rfl, by simp⟩
  · exact ⟨_, _, rfl, by simp⟩
theorem mk2_ne (p q : Spt) : ((mk2 p q).length == 0) = false := by
  obtain ⟨a, l, h, -⟩ := mk2_cons p q
  rw [h]; rfl
theorem mk2_bd {p q : Spt} (hp : p.ok) (hq : q.ok) : ∀ a ∈ mk2 p q, 0 ≤ a ∧ a < 18446744073709551616 := by
  have h1 := hp.ver
  have h2 := hq.ver
  intro a ha
  unfold mk2 at ha
  split at ha
  · rw [List.mem_singleton.1 ha]; omega
  · rcases List.mem_cons.1 ha with h | h
    · rw [h]; omega
    · rw [List.mem_singleton.1 h]; omega
theorem mvStep_3y (mo : Int) (s s1 : AW) (z : Mvm) (rm1 : Rmm) (h : z.ln = 3) (hs : rmStep mo (s, z.rm) = (s1, rm1)) (h0 : rm1.ln = 0) (hi : rm1.is = true) : mvStep mo (s, z) = (s1, ⟨4, z.lost, z.now, z.p, z.tag, z.ref, rm1, rm1.p, mk2 z.p rm1.p, ⟨0, 0⟩, ptNew z.tag z.ref⟩) := by
  unfold mvStep; dsimp only; rw [if_neg (by omega), if_neg (by omega), if_pos h, hs]; dsimp only; rw [if_pos h0, if_pos hi]
theorem mvStep_4 (mo : Int) (s : AW) (z : Mvm) (h : z.ln = 4) : mvStep mo (s, z) = (awAdd (z.m.headD 0) 1 s, ⟨if z.m.tail = [] then 5 else 4, z.lost, z.now, z.p, z.tag, z.ref, z.rm, z.d, z.m.tail, z.o, z.u⟩) := by
  unfold mvStep; dsimp only; rw [if_neg (by omega), if_neg (by omega), if_neg (by omega), if_pos h]
theorem mvStep_5 (mo : Int) (s : AW) (z : Mvm) (h : z.ln = 5) : mvStep mo (s, z) = ((outStep z.p s z.o).1, if otOver (outStep z.p s z.o).2 = true then if otOver z.u = true then mv7 ⟨5, z.lost, z.now, z.p, z.tag, z.ref, z.rm, z.d, z.m, (outStep z.p s z.o).2, z.u⟩ else ⟨6, z.lost, z.now, z.p, z.tag, z.ref, z.rm, z.d, z.m, (outStep z.p s z.o).2, z.u⟩ else ⟨5, z.lost, z.now, z.p, z.tag, z.ref, z.rm, z.d, z.m, (outStep z.p s z.o).2, z.u⟩) := by
  unfold mvStep; dsimp only; rw [if_neg (by omega), if_neg (by omega), if_neg (by omega), if_neg (by omega), if_pos h]
theorem mvStep_6 (mo : Int) (s : AW) (z : Mvm) (h : z.ln = 6) : mvStep mo (s, z) = ((putStep z.d z.tag z.ref s z.u).1, if otOver (putStep z.d z.tag z.ref s z.u).2 = true then mv7 ⟨6, z.lost, z.now, z.p, z.tag, z.ref, z.rm, z.d, z.m, z.o, (putStep z.d z.tag z.ref s z.u).2⟩ else ⟨6, z.lost, z.now, z.p, z.tag, z.ref, z.rm, z.d, z.m, z.o, (putStep z.d z.tag z.ref s z.u).2⟩) := by
  unfold mvStep; dsimp only; rw [if_neg (by omega), if_neg (by omega), if_neg (by omega), if_neg (by omega), if_neg (by omega), if_pos h]
theorem mvStep_7 (mo : Int) (s : AW) (z : Mvm) (h : z.ln = 7) : mvStep mo (s, z) = (awAdd (z.m.headD 0) 1 s, if z.m.tail = [] then mvNext z else ⟨7, z.lost, z.now, z.p, z.tag, z.ref, z.rm, z.d, z.m.tail, z.o, z.u⟩) := by
  unfold mvStep; dsimp only; rw [if_neg (by omega), if_neg (by omega), if_neg (by omega), if_neg (by omega), if_neg (by omega), if_neg (by omega), if_pos h]
set_option maxHeartbeats 1000000 in
theorem c_Mv3y {z : Mvm} {s1 : AW} {rm1 : Rmm} (mo : Int) (hM : MvAt w O k X z) (hl : z.ln = 3) (hs : rmStep mo (s, z.rm) = (s1, rm1)) (h0 : rm1.ln = 0) (hi : rm1.is = true)
    (HR : ∀ R, RoomAt w O (k + 4) R z.rm → Calls Tryz.prog 328 #[.pointer (some ⟨R, 0, none⟩), .pointer (some ⟨B.p, 0, none⟩)] w (RP (SX (k + 4) (k + 18)) w O (.bool true) fun W G => PW W G B f s1 ∧ RoomAt W G (k + 4) R rm1))
    (hp : z.p.ok) (hto : rm1.p.ok) (t0 : 0 ≤ z.tag) (t1 : z.tag ≤ 255) (r1 : z.ref ≤ 9223372036854775807) (hk : 10 ≤ k) (hhi : ∀ j, O j ≠ 0 → j < w.heap.size) :
    Calls Tryz.prog 53 #[.pointer (some ⟨X, 0, none⟩), .pointer (some ⟨B.p, 0, none⟩)] w (RP (SX k (k + 24)) w O (.bool (mvOver (mvStep mo (s, z)).2)) fun W G => PW W G B f (mvStep mo (s, z)).1 ∧ MvAt W G k X (mvStep mo (s, z)).2) := by
  rw [mvStep_3y mo s s1 z rm1 hl hs h0 hi]
  obtain ⟨p, lv, hx, hpp, hparts⟩ := hM.ex
  obtain rfl := hpp (by omega)
  obtain ⟨d, R, hS, hd, hr⟩ := hparts.2.2.2.1 hl
  obtain ⟨A, o, c, rfl, hc1, hc2⟩ := hS.open (by decide)
  have a0 := hS.c 0 _ rfl
  rw [Nat.add_zero] at a0
  have HA := c_SeStepYes hx hS hd (HR R hr) h0 hi hp hto t0 t1 r1 hk hhi
  have HA2 := HA.mono (fun e w' h => (⟨.bool true, h.1, h.2⟩ : ∃ v, e = .returned v ∧ _))
  refine (c_MvStepG (n := 0) (Q2 := MvPost w O B f k X (s1, ⟨4, z.lost, z.now, z.p, z.tag, z.ref, rm1, rm1.p, mk2 z.p rm1.p, ⟨0, 0⟩, ptNew z.tag z.ref⟩)) (hx.c 4 _ rfl) a0 (m_SeStep _) (run_enter Tryz.func330 (by kernel_rfl) (by kernel_rfl)) HA2 ?_ (fun w2 h2 => h2.left (by dsimp only; omega) (by dsimp only; omega))).mono fun e w' h => MvPost.step h
  rintro w1 ⟨G0, W0, G1, e0, ⟨e1, lv1, m1, u, q, m2, x1, l1, b1, b2, b3, b4⟩, P1, r1', d1⟩
  have ho := POver.search (k := k) d1 r1' (by omega) (by omega)
  have h0b : (rm1.ln == 0) = true := by simp [h0]
  rw [h0b] at ho
  have hm := POver.mark (k := k) b1 ⟨by omega, by omega⟩
  rw [mk2_ne] at hm
  have E1 : Ext (SX k (k + 24)) O w G1 w1 := (e0.mono fun t _ h => SX.mono (by omega) (by omega) h).trans (e1.mono fun t _ h => .inr (by omega))
  refine (c_on1 (l := [IOut u, IPut q, IMark m2]) x1 l1 ho hm hk E1.hi).mono ?_
  rintro e w2 ⟨rfl, G2, e2, rfl, lv2, x2, s2⟩
  exact ⟨rfl, mk47 (by dsimp only; omega) (by dsimp only; omega) (E1.trans (e2.mono fun t _ h => .inr (by omega))) (P1.ext e2 (by omega) (by omega) (by omega) (by omega)) x2 s2 (fun _ => b1.ext e2 (by omega) (by omega)) (fun _ => b2.ext e2 (by omega)) (fun _ => b3.ext e2 (by omega)) (by dsimp only; rw [if_neg (by omega)]; exact b4.ext e2 (by omega) (by omega))⟩
set_option maxHeartbeats 1000000 in
theorem c_Mv4 {z : Mvm} (mo : Int) (hP : PW w O B f s) (hM : MvAt w O k X z) (hl : z.ln = 4) (hp : z.p.ok) (hm0 : z.m ≠ []) (hml : z.m.length ≤ 5) (hmb : ∀ a ∈ z.m, 0 ≤ a ∧ a < 18446744073709551616) (ho : z.o.ln < 3) (hk : 10 ≤ k) (hhi : ∀ j, O j ≠ 0 → j < w.heap.size) (n0 : 0 ≤ s.n) (n1 : s.n ≤ 4611686018427387904) :
    Calls Tryz.prog 53 #[.pointer (some ⟨X, 0, none⟩), .pointer (some ⟨B.p, 0, none⟩)] w (RP (SX k (k + 24)) w O (.bool (mvOver (mvStep mo (s, z)).2)) fun W G => PW W G B f (mvStep mo (s, z)).1 ∧ MvAt W G k X (mvStep mo (s, z)).2) := by
  rw [mvStep_4 mo s z hl]
  obtain ⟨p, lv, hx, hpp, hparts⟩ := hM.ex
  obtain rfl := hpp (by omega)
  obtain ⟨ln, lost, now, p, tag, ref, rm, dd, m, o, u⟩ := z
  dsimp only at *
  subst hl
  obtain ⟨m1, u', q, m2, hS, b1, b2, b3, b4⟩ := hparts.2.2.2.2.1 ⟨by (dsimp only; omega), by (dsimp only; omega)⟩
  dsimp only at hS b1 b2 b3 b4
  rw [if_neg (by decide)] at b4
  have b1 := b1 rfl
  have b2 := b2 (by decide)
  have b3 := b3 (by decide)
  obtain ⟨a, l, rfl⟩ : ∃ a l, m = a :: l := by cases m with
    | nil => exact absurd rfl hm0
    | cons a l => exact ⟨a, l, rfl⟩
  have hab := hmb a (by simp)
  obtain ⟨A, off, c, rfl, hc1, hc2⟩ := hS.open (by decide)
  have a0 := hS.c 0 _ rfl
  rw [Nat.add_zero] at a0
  have HA := c_MkStep a l (k + 19) hP b1 (by simp at hml; omega) (by omega) hhi hab.1 hab.2 n0 n1
  have HA2 := HA.mono (fun e w' h => (⟨_, h.1, h.2⟩ : ∃ v, e = .returned v ∧ _))
  have hf3 : (o.ln == 3) = false := by simp; omega
  simp only [List.headD_cons, List.tail_cons]
  refine (c_MvStepG (n := 3) (Q2 := MvPost w O B f k X (awAdd a 1 s, ⟨if l = [] then 5 else 4, lost, now, p, tag, ref, rm, dd, l, o, u⟩)) (hx.c 4 _ rfl) a0 (m_MkStep _) (run_enter Tryz.func145 (by kernel_rfl) (by kernel_rfl)) HA2 ?_ (fun w2 h2 => h2.left (by dsimp only; split <;> omega) (by dsimp only; split <;> omega))).mono fun e w' h => MvPost.step h
  rintro w1 ⟨G1, e1, P1, k1⟩
  have E1 : Ext (SX k (k + 24)) O w G1 w1 := e1.mono fun t _ h => SX.mono (by omega) (by omega) h
  have x1 := hx.ext e1 (SX.not (by omega) (by omega))
  have s1 := hS.ext e1 (SX.not (by omega) (by omega))
  have c2 := b2.ext e1 (SX.not (by omega) (by omega))
  have c3 := b3.ext e1 (SX.not (by omega) (by omega))
  have c4 := b4.ext e1 (SX.not (by omega) (by omega)) (SX.not (by omega) (by omega))
  have hm := POver.mark (k := k) k1 ⟨by omega, by omega⟩
  by_cases hl0 : l = []
  · subst hl0
    rw [if_pos rfl]
    have hou := POver.out (k := k) c2 hp (by omega) (by omega)
    rw [hf3] at hou
    refine (c_on1 (l := [IPut q, IMark m2]) x1 s1 hm hou hk E1.hi).mono ?_
    rintro e w2 ⟨rfl, G2, e2, rfl, lv2, x2, s2⟩
    exact ⟨rfl, mk47 (by dsimp only; omega) (by dsimp only; omega) (E1.trans (e2.mono fun t _ h => .inr (by omega))) (P1.ext e2 (by omega) (by omega) (by omega) (by omega)) x2 s2 (m1 := m1) (u := u') (fun h => absurd h (by dsimp only; omega)) (fun _ => c2.ext e2 (by omega)) (fun _ => c3.ext e2 (by omega)) (by dsimp only; rw [if_neg (by omega)]; exact c4.ext e2 (by omega) (by omega))⟩
  · rw [if_neg hl0]
    have hle : (l.length == 0) = false := by
      cases l with
      | nil => exact absurd rfl hl0
      | cons a l => rfl
    rw [hle] at hm
    refine (c_on0 (l := [IOut u', IPut q, IMark m2]) x1 s1 hm hk E1.hi).mono ?_
    rintro e w2 ⟨rfl, hb⟩
    exact ⟨rfl, mk47 (by dsimp only; omega) (by dsimp only; omega) (E1.below hb) (P1.below E1.hi hb) (x1.below hb) (s1.below hb) (fun _ => k1.below hb) (fun _ => c2.below hb) (fun _ => c3.below hb) (by dsimp only; rw [if_neg (by omega)]; exact c4.below hb)⟩
end
end Go.Proofs.YtlcibfpibklbdaaGreat
