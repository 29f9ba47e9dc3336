/- Layer 20: a step of the program's Move, where it is told what it needs; a Move by itself. -/
import Derived.Test.YtlcibfpibklbdaaGreatMy
namespace Go.Proofs.YtlcibfpibklbdaaGreat
set_option linter.unusedSimpArgs false
open Go.RowKit Go.Shelf
set_option linter.unusedVariables false

def sptP (p : Spt) : Prop := 1 ≤ p.b ∧ p.b ≤ 12 ∧ 0 ≤ p.q ∧ p.q < fnvSize p.b ∧ 0 ≤ p.s ∧ p.s ≤ 3
theorem sptP_ok {p : Spt} (h : sptP p) : p.ok := ⟨h.1, h.2.1, h.2.2.1, h.2.2.2.1, h.2.2.2.2.1, h.2.2.2.2.2⟩
instance (p : Spt) : Decidable (sptP p) := by unfold sptP; exact inferInstance
theorem otm_eq : ∀ {u v : Otm}, u.ln = v.ln → u.w = v.w → u = v
  | ⟨_, _⟩, ⟨_, _⟩, h1, h2 => by dsimp only at h1 h2; rw [h1, h2]
def MvPre2 (y : AW × Mvm) : Prop := 1 ≤ y.2.now ∧ y.2.now ≤ 12 ∧ y.1.it.length ≤ 1000 ∧ (itOf y.1.it (wrap64 (y.1.M y.2.p.item))).key.size ≤ 1000
instance (y : AW × Mvm) : Decidable (MvPre2 y) := by unfold MvPre2; exact inferInstance
def MvPre3 (y : AW × Mvm) : Prop := y.2.rm.ln = 1 ∧ (1 ≤ y.2.rm.b ∧ y.2.rm.b ≤ 12) ∧ (0 ≤ y.2.rm.a ∧ y.2.rm.a < fnvSize y.2.rm.b) ∧ 0 ≤ twFree (y.1.M (plTags y.2.rm.b y.2.rm.a)) ∧ 0 ≤ y.2.tag ∧ y.2.tag ≤ 255 ∧ y.2.ref ≤ 9223372036854775807
instance (y : AW × Mvm) : Decidable (MvPre3 y) := by unfold MvPre3; exact inferInstance
def MvPre4 (y : AW × Mvm) : Prop := y.2.m ≠ [] ∧ y.2.m.length ≤ 5 ∧ ∀ a ∈ y.2.m, 0 ≤ a ∧ a < 18446744073709551616
instance (y : AW × Mvm) : Decidable (MvPre4 y) := by unfold MvPre4; exact inferInstance
def MvPre5 (y : AW × Mvm) : Prop := sptP y.2.d ∧ y.2.o.ln < 3 ∧ 0 ≤ y.2.o.w ∧ y.2.o.w < 18446744073709551616 ∧ y.2.u.ln = (ptNew y.2.tag y.2.ref).ln ∧ y.2.u.w = (ptNew y.2.tag y.2.ref).w
instance (y : AW × Mvm) : Decidable (MvPre5 y) := by unfold MvPre5; exact inferInstance
def MvPre6 (y : AW × Mvm) : Prop := sptP y.2.d ∧ y.2.u.ln < 3 ∧ 0 ≤ y.2.u.w ∧ y.2.u.w < 18446744073709551616 ∧ (1 ≤ y.2.tag ∧ y.2.tag ≤ 255 ∧ 1 ≤ y.2.ref) ∧ y.2.ref ≤ 9223372036854775807
instance (y : AW × Mvm) : Decidable (MvPre6 y) := by unfold MvPre6; exact inferInstance
/-- What a step of a Move needs whose Room is at its first look, and finds a slot. -/
def MvPre (y : AW × Mvm) : Prop :=
  (1 ≤ y.2.ln ∧ y.2.ln ≤ 7) ∧ sptP y.2.p ∧ (0 ≤ y.1.n ∧ y.1.n ≤ 1000) ∧ (y.2.ln = 2 → MvPre2 y) ∧ (y.2.ln = 3 → MvPre3 y) ∧ (y.2.ln = 4 ∨ y.2.ln = 7 → MvPre4 y) ∧ (y.2.ln = 4 → y.2.o.ln < 3) ∧ (y.2.ln = 5 → MvPre5 y) ∧ (y.2.ln = 6 → MvPre6 y)
instance (y : AW × Mvm) : Decidable (MvPre y) := by unfold MvPre; exact inferInstance
theorem rmStep_1f (mo : Int) (s : AW) (z : Rmm) (h : z.ln = 1) (hf : 0 ≤ twFree (s.M (plTags z.b z.a))) : rmStep mo (s, z) = (awLoad (plTags z.b z.a) s, rmIn z ⟨z.b, z.a, twFree (s.M (plTags z.b z.a))⟩) := by
  unfold rmStep rmTg; dsimp only; rw [if_pos h, if_pos hf]
section
variable {X : Nat} {w : World} {O : Om} {B : Wb} {f : Cf} {s : AW} {k : Nat}
theorem c_MvStepP {z : Mvm} (mo : Int) (hpre : MvPre (s, z)) (hP : PW w O B f s) (hM : MvAt w O k X z) (hk : 10 ≤ k) (hhi : ∀ j, O j ≠ 0 → j < w.heap.size) :
    Calls Tryz.prog 53 #[.pointer (some ⟨X, 0, none⟩), .pointer (some ⟨B.p, 0, none⟩)] w (RP (SX k (k + 24)) w O (.bool (mvOver (mvStep mo (s, z)).2)) fun W G => PW W G B f (mvStep mo (s, z)).1 ∧ MvAt W G k X (mvStep mo (s, z)).2) := by
  obtain ⟨hl, hp, hn, h2, h3, h47, h4, h5, h6⟩ := hpre
  dsimp only at hl hp hn h2 h3 h47 h4 h5 h6
  have hp := sptP_ok hp
  have n0 := hn.1
  have n1 : s.n ≤ 4611686018427387904 := by omega
  have hc : z.ln = 1 ∨ z.ln = 2 ∨ z.ln = 3 ∨ z.ln = 4 ∨ z.ln = 5 ∨ z.ln = 6 ∨ z.ln = 7 := by omega
  rcases hc with g | g | g | g | g | g | g
  · exact c_Mv1 mo hP hM g hp hk hhi n0 n1
  · obtain ⟨a, b, c, d⟩ := h2 g
    dsimp only at a b c d
    exact c_Mv2 mo hP hM g hp ⟨by omega, b⟩ a (by omega) (by unfold maxLen; omega) hk hhi n0 n1
  · obtain ⟨a, b, c, d, t0, t1, r1⟩ := h3 g
    dsimp only at a b c d t0 t1 r1
    have hfb := twFree_bd (s.M (plTags z.rm.b z.rm.a))
    refine c_Mv3y mo hM g (rmStep_1f mo s z.rm a d) rfl rfl (fun R hR => ?_) hp ⟨b.1, b.2, c.1, c.2, d, hfb.2⟩ t0 t1 r1 hk hhi
    have hql : ∃ l, rmLeft z.rm = z.rm.a :: l := by
      unfold rmLeft; rw [if_pos a]; split
      · exact ⟨_, rfl⟩
      · exact ⟨_, rfl⟩
    obtain ⟨l, hql⟩ := hql
    exact (c_RmStepFree hP hR (.inl a) hql b c d (by omega) hhi n0 n1).mono fun e w' hh => hh.mono (fun t _ ht => SX.mono (by omega) (by omega) ht) (fun _ _ q => q)
  · obtain ⟨a, b, c⟩ := h47 (.inl g)
    exact c_Mv4 mo hP hM g hp a b c (h4 g) hk hhi n0 n1
  · obtain ⟨a, b, c, d, e1, e2⟩ := h5 g
    have hu : z.u = ptNew z.tag z.ref := otm_eq e1 e2
    exact c_Mv5 mo hP hM g hp (sptP_ok a) b c d hu hk hhi n0 n1
  · obtain ⟨a, b, c, d, e1, e2⟩ := h6 g
    exact c_Mv6 mo hP hM g hp (sptP_ok a) b c d e1 e2 hk hhi n0 n1
  · obtain ⟨a, b, c⟩ := h47 (.inr g)
    exact c_Mv7 mo hP hM g hp a b c hk hhi n0 n1
end
/-- One access, at most. -/
def One (s t : AW) : Prop := t.n ≤ s.n + 1 ∧ s.n ≤ t.n
theorem One.load (a : Int) (s : AW) : One s (awLoad a s) := ⟨Int.le_refl _, by show s.n ≤ s.n + 1; omega⟩
theorem One.store (a v : Int) (s : AW) : One s (awStore a v s) := ⟨Int.le_refl _, by show s.n ≤ s.n + 1; omega⟩
theorem One.add (a v : Int) (s : AW) : One s (awAdd a v s) := ⟨Int.le_refl _, by show s.n ≤ s.n + 1; omega⟩
theorem One.refl (s : AW) : One s s := ⟨by omega, by omega⟩
theorem One.note {s t : AW} (a b c d e g : Int) (h : One s t) : One s (awNote a b c d e g t) := h
theorem One.out (p : Spt) (s : AW) (o : Otm) : One s (outStep p s o).1 := by
  unfold outStep
  split
  · exact One.load _ _
  · split
    · exact One.store _ _ _
    · split
      · exact One.store _ _ _
      · exact One.refl _
theorem One.put (p : Spt) (tg rf : Int) (s : AW) (o : Otm) : One s (putStep p tg rf s o).1 := by
  unfold putStep
  split
  · exact One.store _ _ _
  · split
    · exact One.load _ _
    · split
      · exact One.store _ _ _
      · exact One.refl _
theorem One.wy (x : AW × Wym) : One x.1 (wyStep x).1 := by
  unfold wyStep
  split
  · exact One.refl _
  · split
    · exact One.load _ _
    · exact One.load _ _
theorem One.ho (x : AW × Hom) : One x.1 (hoStep x).1 := by
  unfold hoStep
  split
  · exact One.load _ _
  · split
    · exact One.load _ _
    · split
      · exact One.add _ _ _
      · split
        · exact One.out _ _ _
        · split
          · exact One.put _ _ _ _ _
          · split
            · exact One.add _ _ _
            · exact One.refl _
theorem One.rm (mo : Int) (x : AW × Rmm) : One x.1 (rmStep mo x).1 := by
  unfold rmStep
  split
  · exact One.load _ _
  · split
    · exact One.load _ _
    · split
      · split
        · dsimp only
          split
          · exact (One.wy (x.1, x.2.wy)).note _ _ _ _ _ _
          · exact One.wy (x.1, x.2.wy)
        · exact One.wy (x.1, x.2.wy)
      · split
        · exact One.ho (x.1, x.2.ho)
        · exact One.refl _
theorem One.mv (mo : Int) (x : AW × Mvm) : One x.1 (mvStep mo x).1 := by
  obtain ⟨s, z⟩ := x
  unfold mvStep
  dsimp only
  by_cases h1 : z.ln = 1
  · rw [if_pos h1]
    exact One.load _ _
  rw [if_neg h1]
  by_cases h2 : z.ln = 2
  · rw [if_pos h2]
    exact One.load _ _
  rw [if_neg h2]
  by_cases h3 : z.ln = 3
  · rw [if_pos h3]
    exact One.rm mo (s, z.rm)
  rw [if_neg h3]
  by_cases h4 : z.ln = 4
  · rw [if_pos h4]
    exact One.add _ _ _
  rw [if_neg h4]
  by_cases h5 : z.ln = 5
  · rw [if_pos h5]
    exact One.out _ _ _
  rw [if_neg h5]
  by_cases h6 : z.ln = 6
  · rw [if_pos h6]
    exact One.put _ _ _ _ _
  rw [if_neg h6]
  by_cases h7 : z.ln = 7
  · rw [if_pos h7]
    exact One.add _ _ _
  rw [if_neg h7]
  by_cases h8 : z.ln = 8
  · rw [if_pos h8]
    exact One.add _ _ _
  rw [if_neg h8]
  by_cases h9 : z.ln = 9
  · rw [if_pos h9]
    dsimp only; by_cases g : z.o.ln = 1
    · rw [if_pos g]; exact (One.out _ _ _).note _ _ _ _ _ _
    · rw [if_neg g]; exact One.out _ _ _
  rw [if_neg h9]
  by_cases h10 : z.ln = 10
  · rw [if_pos h10]
    exact One.add _ _ _
  rw [if_neg h10]
  by_cases h11 : z.ln = 11
  · rw [if_pos h11]
    exact (One.add 6 18446744073709551615 s).note _ _ _ _ _ _
  rw [if_neg h11]
  exact One.refl _
theorem m_MvOver (a : Addr) (w : World) : (method 519 104 (.pointer (some a)) "Over").run Tryz.prog w = .ok (52, .pointer (some a)) w := by kernel_rfl
theorem m_MvStep (a : Addr) (w : World) : (method 519 104 (.pointer (some a)) "Step").run Tryz.prog w = .ok (53, .pointer (some a)) w := by kernel_rfl
def mvIt (mo : Int) : Nat → AW × Mvm → AW × Mvm
  | 0, y => y
  | i + 1, y => mvStep mo (mvIt mo i y)
/-- A Move by itself, whose steps are told what they need. -/
theorem c_MvRun {w : World} {O : Om} {B : Wb} {f : Cf} {s : AW} {k : Nat} (X : Nat) (z : Mvm) (m N : Nat) (mo : Int) (hpre : ∀ i, i < N → MvPre (mvIt mo i (s, z))) (hov : mvOver (mvIt mo N (s, z)).2 = true) (hln : ∀ i, i ≤ N → 0 ≤ (mvIt mo i (s, z)).2.ln ∧ (mvIt mo i (s, z)).2.ln ≤ 11)
    (hP : PW w O B f s) (hX : MvAt w O k X z) (hk : 10 ≤ k) (hhi : ∀ j, O j ≠ 0 → j < w.heap.size) (n0 : 0 ≤ s.n) (n1 : s.n + m ≤ 4611686018427387904) :
    Calls Tryz.prog 21 #[.pointer (some ⟨B.p, 0, none⟩), .iface 104 (.pointer (some ⟨X, 0, none⟩)), .int .i64 m] w (RP (SX k (k + 24)) w O (.int .i64 (runN mvOver (mvStep mo) m (s, z)).1) fun W G => PW W G B f (runN mvOver (mvStep mo) m (s, z)).2.1 ∧ MvAt W G k X (runN mvOver (mvStep mo) m (s, z)).2.2) := by
  refine (c_RunG mvOver (mvStep mo) (SX k (k + 24)) (fun W G y => PW W G B f y.1 ∧ MvAt W G k X y.2 ∧ ∃ i, i ≤ N ∧ y = mvIt mo i (s, z)) B.p X 104 52 53 (m_MvOver _) (m_MvStep _)
    (run_enter Tryz.func52 (by kernel_rfl) (by kernel_rfl)) (run_enter Tryz.func53 (by kernel_rfl) (by kernel_rfl)) ?_ ?_ (fun y => One.mv mo y) w O m (s, z) ⟨hP, hX, 0, Nat.zero_le _, rfl⟩ hhi n0 n1).mono ?_
  · rintro W G y ⟨h1, h2, i, hi, rfl⟩
    exact c_MvOver h2 (hln i hi).1 (hln i hi).2
  · rintro W G y ⟨h1, h2, i, hi, hy⟩ ho hh q0 q1
    have hiN : i < N := by
      by_cases e : i = N
      · rw [hy, e, hov] at ho; cases ho
      · omega
    have hq := hpre i hiN
    rw [← hy] at hq
    obtain ⟨s1, z1⟩ := y
    refine (c_MvStepP mo hq h1 h2 hk hh).mono ?_
    intro e w' hp2
    exact ⟨_, RP.mono hp2 (fun _ _ h => h) fun W1 G1 h => ⟨h.1, h.2, i + 1, hiN, by rw [hy]; rfl⟩⟩
  · intro e w' hp2
    exact RP.mono hp2 (fun _ _ h => h) fun W1 G1 h => ⟨h.1, h.2.1⟩
end Go.Proofs.YtlcibfpibklbdaaGreat
