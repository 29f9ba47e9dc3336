/- Layer 24, plain: a Victim by itself. -/
import Derived.Test.YtlcibfpibklbdaaGreatHnF
import Derived.Test.YtlcibfpibklbdaaGreatViA
namespace Go.Proofs.YtlcibfpibklbdaaGreat
set_option linter.unusedSimpArgs false
set_option linter.unusedVariables false
open Go.RowKit
/-- The slots of a key's buckets, in their order. -/
def vcP (b a o : Int) (i : Nat) : Spt := if i < 4 then ⟨b, a, i⟩ else ⟨b, o, ((i - 4 : Nat) : Int)⟩
def vcN (a o : Int) : Nat := if a = o then 4 else 8
theorem vcN_le (a o : Int) : vcN a o ≤ 8 ∧ 4 ≤ vcN a o := by unfold vcN; split <;> omega
theorem vcP_ok {b a o : Int} (b0 : 1 ≤ b) (b1 : b ≤ 12) (a0 : 0 ≤ a) (a1 : a < fnvSize b) (o0 : 0 ≤ o) (o1 : o < fnvSize b) (i : Nat) (hi : i < 8) : (vcP b a o i).ok := by
  unfold vcP
  split
  · exact ⟨b0, b1, a0, a1, by show (0 : Int) ≤ (i : Int); omega, by show (i : Int) ≤ 3; omega⟩
  · exact ⟨b0, b1, o0, o1, by show (0 : Int) ≤ ((i - 4 : Nat) : Int); omega, by show ((i - 4 : Nat) : Int) ≤ 3; omega⟩
theorem vcP_b (b a o : Int) (i : Nat) : (vcP b a o i).b = b := by unfold vcP; split <;> rfl
theorem vcP_inj {b a o : Int} {i j : Nat} (hi : i < vcN a o) (hj : j < vcN a o) (h : vcP b a o i = vcP b a o j) : i = j := by
  unfold vcN at hi hj
  unfold vcP at h
  split at h <;> split at h <;> injection h with _ h2 h3 <;> split at hi <;> split at hj <;> omega
/-- The item of a slot. -/
def vcI (b a o : Int) (M : Int → Int) (j : Nat) : Int := M (vcP b a o j).item
/-- The words behind j slots. -/
def vcM (b a o : Int) (M : Int → Int) : Nat → Int → Int
  | 0 => M
  | j + 1 => upd (vcM b a o M j) (plRef (vcI b a o M j)) (rfLess (vcM b a o M j (plRef (vcI b a o M j))))
section
variable {b a o : Int} {M : Int → Int}
theorem vcM_s (j : Nat) : vcM b a o M (j + 1) = upd (vcM b a o M j) (plRef (vcI b a o M j)) (rfLess (vcM b a o M j (plRef (vcI b a o M j)))) := rfl
theorem vcM_low {J : Nat} (hI : ∀ j : Nat, j < J → 1 ≤ vcI b a o M j) (x : Int) (hx : x ≤ 4294967296) : vcM b a o M J x = M x := by
  induction J with
  | zero => rfl
  | succ J ih =>
    have := plRef_bd (hI J (by omega))
    rw [vcM_s, upd_other _ (by omega), ih fun j hj => hI j (by omega)]
/-- A mark of no item that was come by. -/
theorem vcM_out {J : Nat} (x : Int) (hx : ∀ j, j < J → x ≠ plRef (vcI b a o M j)) : vcM b a o M J x = M x := by
  induction J with
  | zero => rfl
  | succ J ih => rw [vcM_s, upd_other _ (hx J (by omega)), ih fun j hj => hx j (by omega)]
/-- A mark of one that was. -/
theorem vcM_in {J : Nat} (hI : ∀ j : Nat, j < J → 1 ≤ vcI b a o M j) (hd : ∀ i j, i < J → j < J → vcI b a o M i = vcI b a o M j → i = j) (n : Nat) (hn : n < J) : vcM b a o M J (plRef (vcI b a o M n)) = rfLess (M (plRef (vcI b a o M n))) := by
  induction J with
  | zero => omega
  | succ J ih =>
    rw [vcM_s]
    by_cases e : n = J
    · subst e
      rw [upd_same, vcM_out _ fun j hj q => by
        have := hd n j hn (by omega) (plRef_inj (hI n hn) (hI j (by omega)) q)
        omega]
    · rw [upd_other _ fun q => e (hd n J hn (by omega) (plRef_inj (hI n hn) (hI J (by omega)) q))]
      exact ih (fun j hj => hI j (by omega)) (fun i j h1 h2 => hd i j (by omega) (by omega)) (by omega)
structure VcJ (b a o : Int) (M : Int → Int) (s0 : AW) (J : Nat) (x : AW × Vcm) : Prop where
  ln : x.2.ln = 1
  p : x.2.p = vcP b a o J
  la : x.2.last = o
  is : x.2.is = false
  m : x.1.M = vcM b a o M J
  nt : x.1.nt = s0.nt
  it : x.1.it = s0.it
  n : x.1.n = s0.n + 3 * J
structure VcE (s0 : AW) (n : Int) (M' : Int → Int) (p : Spt) (is : Bool) (x : AW × Vcm) : Prop where
  ln : x.2.ln = 0
  p : is = true → x.2.p = p
  is : x.2.is = is
  m : x.1.M = M'
  nt : x.1.nt = s0.nt
  it : x.1.it = s0.it
  n : x.1.n = n
theorem vcNext_in {J : Nat} (hJ : J + 1 < vcN a o) (z : Vcm) (hp : z.p = vcP b a o J) (hl : z.last = o) : vcNext z = ⟨1, vcP b a o (J + 1), o, z.ref, z.mw, z.is, z.o⟩ := by
  obtain ⟨ln, p, last, ref, mw, is, ot⟩ := z
  dsimp only at hp hl
  subst hp hl
  unfold vcN at hJ
  unfold vcNext vcP
  dsimp only
  by_cases h1 : J < 3
  · rw [if_pos (by omega : J < 4), if_pos (by show (J : Int) < 3; omega), if_pos (by omega : J + 1 < 4)]
    rfl
  · by_cases h2 : J = 3
    · subst h2
      split at hJ
      · omega
      · rename_i ha
        simp [ha]
    · rw [if_neg (by omega : ¬ J < 4), if_neg (by omega : ¬ J + 1 < 4)]
      split at hJ
      · omega
      · dsimp only
        rw [if_pos (by omega), show ((J - 4 : Nat) : Int) + 1 = ((J + 1 - 4 : Nat) : Int) by omega]
theorem vcNext_end {J : Nat} (hJ : J + 1 = vcN a o) (z : Vcm) (hp : z.p = vcP b a o J) (hl : z.last = o) : (vcNext z).ln = 0 ∧ (vcNext z).is = z.is := by
  obtain ⟨ln, p, last, ref, mw, is, ot⟩ := z
  dsimp only at hp hl
  subst hp hl
  unfold vcN at hJ
  unfold vcNext vcP
  dsimp only
  split at hJ
  · rename_i ha
    have : J = 3 := by omega
    subst this
    simp [ha]
  · have : J = 7 := by omega
    subst this
    simp
/-- A slot whose item is marked. -/
theorem VcJ.by {s0 : AW} {J : Nat} {x : AW × Vcm} (H : VcJ b a o M s0 J x) (hI : ∀ j : Nat, j < J + 1 → 1 ≤ vcI b a o M j ∧ vcI b a o M j ≤ 9223372036854775807) (hlow : (vcP b a o J).item ≤ 4294967296) (hj : vcM b a o M J (plRef (vcI b a o M J)) % 2 = 1) :
    ∃ y, Gos vcOver vcStep 3 x y ∧ (J + 1 < vcN a o → VcJ b a o M s0 (J + 1) y) ∧ (J + 1 = vcN a o → y.2.ln = 0 ∧ y.2.is = false ∧ y.1.M = vcM b a o M (J + 1) ∧ y.1.nt = s0.nt ∧ y.1.it = s0.it ∧ y.1.n = s0.n + 3 * (J + 1)) := by
  obtain ⟨s, ⟨ln, p, last, r, mw, is, ot⟩⟩ := x
  obtain ⟨h1, h2, h3, h4, h5, h6, h7, h8⟩ := H
  dsimp only at h1 h2 h3 h4 h5 h6 h7 h8
  subst h1 h2 h3 h4
  have hr : vcRef s ⟨1, vcP b a last J, last, r, mw, false, ot⟩ = vcI b a last M J := by
    unfold vcRef
    dsimp only
    rw [h5, vcM_low (fun j hj' => (hI j (by omega)).1) _ hlow]
    have := hI J (by omega)
    exact IntWalk.wrap64_in _ (by unfold vcI at this; omega)
  have hne : vcI b a last M J ≠ 0 := by have := hI J (by omega); omega
  have e1 := vcStep_1 s ⟨1, vcP b a last J, last, r, mw, false, ot⟩ rfl
  rw [hr, if_neg hne] at e1
  have hm : s.M (plRef (vcI b a last M J)) % 2 = 1 := by rw [h5]; exact hj
  have e2 := vcStep_2 (awLoad (vcP b a last J).item s) ⟨2, vcP b a last J, last, vcI b a last M J, mw, false, ot⟩ rfl
  have hmk : rfMarked ((awLoad (vcP b a last J).item s).M (plRef (vcI b a last M J))) = true := by unfold rfMarked; exact decide_eq_true hm
  dsimp only at e2
  rw [hmk, if_pos rfl] at e2
  have e3 := vcStep_3 (awLoad (plRef (vcI b a last M J)) (awLoad (vcP b a last J).item s)) ⟨3, vcP b a last J, last, vcI b a last M J, (awLoad (vcP b a last J).item s).M (plRef (vcI b a last M J)), false, ⟨0, 0⟩⟩ rfl
  dsimp only at e1 e3
  refine' ⟨_, ⟨rfl, ?_⟩, ?_⟩
  rotate_left
  · rw [e1]
    refine ⟨rfl, ?_⟩
    rw [e2]
    refine ⟨rfl, ?_⟩
    rw [e3]
    rfl
  · have hM : upd s.M (plRef (vcI b a last M J)) (rfLess (s.M (plRef (vcI b a last M J)))) = vcM b a last M (J + 1) := by rw [vcM_s, ← h5]
    refine ⟨fun hJ => ?_, fun hJ => ?_⟩
    · rw [vcNext_in hJ _ rfl rfl]
      exact ⟨rfl, rfl, rfl, rfl, hM, h6, h7, by show s.n + 1 + 1 + 1 = _; rw [h8]; omega⟩
    · have := vcNext_end hJ ⟨3, vcP b a last J, last, vcI b a last M J, (awLoad (vcP b a last J).item s).M (plRef (vcI b a last M J)), false, ⟨0, 0⟩⟩ rfl rfl
      exact ⟨this.1, this.2, hM, h6, h7, by show s.n + 1 + 1 + 1 = _; rw [h8]; omega⟩
theorem VcJ.scan {s0 : AW} {x : AW × Vcm} (H : VcJ b a o M s0 0 x) (J : Nat) (hJ : J < vcN a o) (hI : ∀ j : Nat, j < J → 1 ≤ vcI b a o M j ∧ vcI b a o M j ≤ 9223372036854775807) (hlow : ∀ j, j < 8 → (vcP b a o j).item ≤ 4294967296) (hj : ∀ j, j < J → vcM b a o M j (plRef (vcI b a o M j)) % 2 = 1) :
    ∃ y, Gos vcOver vcStep (3 * J) x y ∧ VcJ b a o M s0 J y := by
  have hn := vcN_le a o
  induction J with
  | zero => exact ⟨x, rfl, H⟩
  | succ J ih =>
    obtain ⟨y, hg, hy⟩ := ih (by omega) (fun j hj' => hI j (by omega)) fun j hj' => hj j (by omega)
    obtain ⟨y2, k1, k2, -⟩ := hy.by (fun j hj' => hI j (by omega)) (hlow J (by omega)) (hj J (by omega))
    exact ⟨y2, hg.trans k1, k2 hJ⟩
/-- An empty slot. -/
theorem VcJ.free {s0 : AW} {J : Nat} {x : AW × Vcm} (H : VcJ b a o M s0 J x) (hI : ∀ j : Nat, j < J → 1 ≤ vcI b a o M j) (hlow : (vcP b a o J).item ≤ 4294967296) (hz : vcI b a o M J = 0) :
    ∃ y, Gos vcOver vcStep 1 x y ∧ y.2.ln = 0 ∧ y.2.is = true ∧ y.2.p = vcP b a o J ∧ y.1.M = vcM b a o M J ∧ y.1.nt = s0.nt ∧ y.1.it = s0.it ∧ y.1.n = s0.n + 3 * J + 1 := by
  obtain ⟨s, ⟨ln, p, last, r, mw, is, ot⟩⟩ := x
  obtain ⟨h1, h2, h3, h4, h5, h6, h7, h8⟩ := H
  dsimp only at h1 h2 h3 h4 h5 h6 h7 h8
  subst h1 h2 h3 h4
  have hr : vcRef s ⟨1, vcP b a last J, last, r, mw, false, ot⟩ = 0 := by
    unfold vcRef
    dsimp only
    rw [h5, vcM_low hI _ hlow]
    unfold vcI at hz
    rw [hz]
    exact IntWalk.wrap64_in _ (by omega)
  have e1 := vcStep_1 s ⟨1, vcP b a last J, last, r, mw, false, ot⟩ rfl
  rw [hr, if_pos rfl] at e1
  exact ⟨_, Gos.one rfl e1, rfl, rfl, rfl, h5, h6, h7, by show s.n + 1 = _; rw [h8]⟩
/-- Marked items, then an empty slot. -/
theorem vc_free {h : Int} {s : AW} (b0 : 1 ≤ b) (b1 : b ≤ 12) (ha : a = fnvBucket h b) (ho : o = fnvOther a (fnvTag h) b) (k : Nat) (hk : k < vcN a o) (hI : ∀ j : Nat, j < k → 1 ≤ vcI b a o s.M j ∧ vcI b a o s.M j ≤ 9223372036854775807)
    (hlow : ∀ j, j < 8 → (vcP b a o j).item ≤ 4294967296) (hd : ∀ i j, i < k → j < k → vcI b a o s.M i = vcI b a o s.M j → i = j) (hm : ∀ j, j < k → s.M (plRef (vcI b a o s.M j)) % 2 = 1) (hz : vcI b a o s.M k = 0) (most : Nat) (hmost : 3 * k + 1 ≤ most) :
    ∃ y z, runN vcOver vcStep most (s, vcNew b h) = (3 * k + 1, y, z) ∧ z.is = true ∧ z.p = vcP b a o k ∧ y.nt = s.nt := by
  have hn := vcN_le a o
  have h0 : VcJ b a o s.M s 0 (s, vcNew b h) := by
    unfold vcNew
    rw [if_pos (show vcTab b from ⟨b0, b1⟩), ← ha, ← ho]
    exact ⟨rfl, rfl, rfl, rfl, rfl, rfl, rfl, by show s.n = s.n + 3 * ((0 : Nat) : Int); omega⟩
  obtain ⟨x, hg, hx⟩ := h0.scan k hk hI hlow fun j hj => by
    rw [vcM_out _ fun i hi q => by
      have := hd j i hj (by omega) (plRef_inj (hI j hj).1 (hI i (by omega)).1 q)
      omega]
    exact hm j hj
  obtain ⟨⟨y, z⟩, hg2, z1, z2, z3, z4, z5, -, -⟩ := hx.free (fun j hj => (hI j hj).1) (hlow k (by omega)) hz
  exact ⟨y, z, (hg.trans hg2).fin (m := most) hmost (by show (z.ln == 0) = true; rw [show z.ln = 0 from z1]; rfl), z2, z3, z5⟩
end
end Go.Proofs.YtlcibfpibklbdaaGreat
