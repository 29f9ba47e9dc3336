/- Layer 23, plain: an Evict by itself, in a table that does not grow. -/
import Derived.Test.YthpedifjclofoaaGreatFil
namespace Go.Proofs.YthpedifjclofoaaGreat
set_option linter.unusedSimpArgs false
set_option linter.unusedVariables false
open Go.RowKit
/-- c steps, each of what is not over. -/
def Gos {Y : Type} (over : Y → Bool) (step : AW × Y → AW × Y) : Nat → AW × Y → AW × Y → Prop
  | 0, z, z' => z' = z
  | c + 1, z, z' => over z.2 = false ∧ Gos over step c (step z) z'
section
variable {Y : Type} {over : Y → Bool} {step : AW × Y → AW × Y}
theorem Gos.trans : ∀ {c d : Nat} {z z1 z2 : AW × Y}, Gos over step c z z1 → Gos over step d z1 z2 → Gos over step (c + d) z z2
  | 0, d, z, z1, z2, h, k => by rw [Nat.zero_add]; rw [show z1 = z from h] at k; exact k
  | c + 1, d, z, z1, z2, h, k => by rw [Nat.add_right_comm]; exact ⟨h.1, Gos.trans h.2 k⟩
theorem Gos.one {z z1 : AW × Y} (h : over z.2 = false) (e : step z = z1) : Gos over step 1 z z1 := ⟨h, e.symm⟩
theorem Gos.run : ∀ {c : Nat} {z z1 : AW × Y} {m : Nat}, Gos over step c z z1 → c ≤ m → runN over step m z = (c + (runN over step (m - c) z1).1, (runN over step (m - c) z1).2)
  | 0, z, z1, m, h, _ => by rw [show z1 = z from h, Nat.sub_zero, Nat.zero_add]
  | c + 1, z, z1, 0, h, hm => by omega
  | c + 1, z, z1, m + 1, h, hm => by
    rw [runN_on m z h.1, Gos.run h.2 (by omega), Nat.add_sub_add_right]
    dsimp only
    rw [Nat.add_right_comm]
theorem Gos.fin {c : Nat} {z z1 : AW × Y} {m : Nat} (h : Gos over step c z z1) (hm : c ≤ m) (ho : over z1.2 = true) : runN over step m z = (c, z1) := by
  rw [h.run hm, runN_over _ _ ho]; rfl
end
theorem ntAdd_fine {l : List Nt} {x : Nt} (k0 : 1 ≤ x.kind) (k1 : x.kind ≤ 9) (hl : l.length < 1048576) (hs : ∀ m ∈ l, m.step ≤ x.step) : ntAdd l x = l ++ [x] := by
  refine ntAdd_ok ?_
  have h1 : ntLow l x = false := by
    unfold ntLow
    cases h : l.getLast? with
    | none => rfl
    | some m =>
      have := hs m (List.mem_of_getLast? h)
      simp; omega
  unfold ntErr ntBad
  rw [h1, Bool.or_false, if_neg (by simp; omega), if_neg (by omega)]
theorem runN_n {Y : Type} {over : Y → Bool} {step : AW × Y → AW × Y} (hst : ∀ z, (step z).1.n ≤ z.1.n + 1 ∧ z.1.n ≤ (step z).1.n) (m : Nat) : ∀ z, z.1.n ≤ (runN over step m z).2.1.n ∧ (runN over step m z).2.1.n ≤ z.1.n + (runN over step m z).1 := by
  induction m with
  | zero => intro z; exact ⟨Int.le_refl _, by show z.1.n ≤ z.1.n + ((0 : Nat) : Int); omega⟩
  | succ m ih =>
    intro z
    by_cases h : over z.2 = true
    · rw [runN_over _ _ h]; exact ⟨Int.le_refl _, by show z.1.n ≤ z.1.n + ((0 : Nat) : Int); omega⟩
    · rw [runN_on _ _ (by simpa using h)]
      have h1 := ih (step z)
      have h2 := hst z
      dsimp only
      omega
/-- The slot that a hand looks at: its item. -/
def hnI (b h : Int) (M : Int → Int) (j : Nat) : Int := M (plAt b (h + j)).item
/-- The words behind j slots that were come by. -/
def hnM (b h : Int) (M : Int → Int) : Nat → Int → Int
  | 0 => M
  | j + 1 => if hnI b h M j = 0 then hnM b h M j else upd (hnM b h M j) (plRef (hnI b h M j)) ((hnM b h M j (plRef (hnI b h M j)) + 1) % 18446744073709551616)
/-- How many steps j slots take at most. -/
def hnC (b h : Int) (M : Int → Int) : Nat → Nat
  | 0 => 0
  | j + 1 => hnC b h M j + if hnI b h M j = 0 then 1 else 3
section
variable {b h : Int} {M : Int → Int}
theorem hnC_le (J : Nat) : hnC b h M J ≤ 3 * J := by
  induction J with
  | zero => exact Nat.le_refl _
  | succ J ih => unfold hnC; split <;> omega
theorem hnM_s0 {J : Nat} (hz : hnI b h M J = 0) : hnM b h M (J + 1) = hnM b h M J := by
  conv => lhs; unfold hnM
  rw [if_pos hz]
theorem hnC_s0 {J : Nat} (hz : hnI b h M J = 0) : hnC b h M (J + 1) = hnC b h M J + 1 := by
  conv => lhs; unfold hnC
  rw [if_pos hz]
theorem plRef_bd {r : Int} (h : 1 ≤ r) : 4294967297 ≤ plRef r := by unfold plRef; rw [if_neg (by omega)]; omega
theorem hnM_low (hI : ∀ j : Nat, 0 ≤ hnI b h M j) (j : Nat) (a : Int) (ha : a ≤ 4294967296) : hnM b h M j a = M a := by
  induction j with
  | zero => rfl
  | succ j ih =>
    unfold hnM
    split
    · exact ih
    · have := plRef_bd (r := hnI b h M j) (by have := hI j; omega)
      rw [upd_other _ (by omega), ih]
theorem hnM_item (hI : ∀ j : Nat, 0 ≤ hnI b h M j) (j : Nat) (n : Int) : hnM b h M j (plAt b n).item = M (plAt b n).item := hnM_low hI j _ (by have := (plAt_ok b n).item; omega)
/-- A hand that came to slot J. -/
structure HnAt (b h : Int) (M : Int → Int) (s0 : AW) (J : Nat) (x : AW × Evm) : Prop where
  ln : x.2.ln = 4
  t : x.2.t = b
  hh : x.2.h = h
  n : x.2.n = J
  m : x.1.M = hnM b h M J
  nt : x.1.nt = s0.nt
  it : x.1.it = s0.it
  up : s0.n ≤ x.1.n
theorem evNext_lt {z : Evm} (h : z.n + 1 < 2 * plSpots z.t) : evNext z = ⟨4, z.t, z.h, z.n + 1, z.ref, z.mw, z.o⟩ := by unfold evNext; rw [if_neg (by omega)]
theorem evNext_end {z : Evm} (h : z.n + 1 = 2 * plSpots z.t) : evNext z = ⟨11, z.t, z.h, z.n + 1, 0, z.mw, z.o⟩ := by unfold evNext; rw [if_pos h]
/-- An empty slot, or one whose item is marked. -/
theorem HnAt.by {s0 : AW} {J : Nat} {x : AW × Evm} (H : HnAt b h M s0 J x) (hI : ∀ j : Nat, 0 ≤ hnI b h M j ∧ hnI b h M j ≤ 9223372036854775807) (hj : hnI b h M J = 0 ∨ hnM b h M J (plRef (hnI b h M J)) % 2 = 1) :
    ∃ c y z, 1 ≤ c ∧ c ≤ (if hnI b h M J = 0 then 1 else 3) ∧ Gos evOver evStep c x (y, evNext z) ∧ z.t = b ∧ z.h = h ∧ z.n = J ∧ y.M = hnM b h M (J + 1) ∧ y.nt = s0.nt ∧ y.it = s0.it ∧ s0.n ≤ y.n := by
  obtain ⟨s, ⟨ln, t, h', n, r, mw, o⟩⟩ := x
  obtain ⟨h1, h2, h3, h4, h5, h6, h7, h8⟩ := H
  dsimp only at h1 h2 h3 h4 h5 h6 h7 h8
  subst h1 h2 h3 h4
  have hr : evRef s ⟨4, t, h', (J : Int), r, mw, o⟩ = hnI t h' M J := by
    unfold evRef
    rw [h5]
    unfold evSpot
    dsimp only
    rw [hnM_item (fun j => (hI j).1)]
    have := hI J
    exact IntWalk.wrap64_in _ (by unfold hnI at this; omega)
  by_cases h0 : hnI t h' M J = 0
  · refine ⟨1, awLoad (evSpot ⟨4, t, h', (J : Int), r, mw, o⟩).item s, ⟨4, t, h', J, 0, mw, o⟩, by omega, by rw [if_pos h0]; omega, ?_, rfl, rfl, rfl, ?_, h6, h7, by show s0.n ≤ s.n + 1; omega⟩
    · refine Gos.one rfl ?_
      unfold evStep
      simp only [hr, h0]
      simp
    · show s.M = _
      rw [h5]
      conv => rhs; unfold hnM
      rw [if_pos h0]
  · have hm : s.M (plRef (hnI t h' M J)) % 2 = 1 := by rw [h5]; exact hj.resolve_left h0
    refine ⟨3, awStore (plRef (hnI t h' M J)) ((s.M (plRef (hnI t h' M J)) + 1) % 18446744073709551616) (awLoad (plRef (hnI t h' M J)) (awLoad (evSpot ⟨4, t, h', (J : Int), r, mw, o⟩).item s)), ⟨6, t, h', J, hnI t h' M J, s.M (plRef (hnI t h' M J)), ⟨0, 0⟩⟩, by omega, by rw [if_neg h0]; omega, ?_, rfl, rfl, rfl, ?_, h6, h7, by show s0.n ≤ s.n + 1 + 1 + 1; omega⟩
    · have e1 : evStep (s, ⟨4, t, h', (J : Int), r, mw, o⟩) = (awLoad (evSpot ⟨4, t, h', (J : Int), r, mw, o⟩).item s, ⟨5, t, h', J, hnI t h' M J, mw, o⟩) := by
        unfold evStep
        simp only [hr]
        simp [h0]
      have e2 : evStep (awLoad (evSpot ⟨4, t, h', (J : Int), r, mw, o⟩).item s, ⟨5, t, h', (J : Int), hnI t h' M J, mw, o⟩) = (awLoad (plRef (hnI t h' M J)) (awLoad (evSpot ⟨4, t, h', (J : Int), r, mw, o⟩).item s), ⟨6, t, h', J, hnI t h' M J, s.M (plRef (hnI t h' M J)), ⟨0, 0⟩⟩) := by
        have hm' : (awLoad (evSpot ⟨4, t, h', (J : Int), r, mw, o⟩).item s).M (plRef (hnI t h' M J)) % 2 = 1 := hm
        unfold evStep
        simp only [hm']
        rfl
      refine ⟨rfl, ?_⟩
      rw [e1]
      refine ⟨rfl, ?_⟩
      rw [e2]
      refine ⟨rfl, ?_⟩
      rfl
    · show upd s.M _ _ = _
      rw [h5]
      conv => rhs; unfold hnM
      rw [if_neg h0]
/-- Behind J slots that are empty, or marked. -/
theorem HnAt.scan {s0 : AW} {x : AW × Evm} (H : HnAt b h M s0 0 x) (hI : ∀ j : Nat, 0 ≤ hnI b h M j ∧ hnI b h M j ≤ 9223372036854775807) (J : Nat) (hJ : (J : Int) < 2 * plSpots b)
    (hj : ∀ j, j < J → hnI b h M j = 0 ∨ hnM b h M j (plRef (hnI b h M j)) % 2 = 1) : ∃ c y, c ≤ hnC b h M J ∧ Gos evOver evStep c x y ∧ HnAt b h M s0 J y := by
  induction J with
  | zero => exact ⟨0, x, Nat.le_refl _, rfl, H⟩
  | succ J ih =>
    obtain ⟨c, y, hc, hg, hy⟩ := ih (by omega) fun j hj' => hj j (by omega)
    obtain ⟨c2, y2, z, k0, k1, k2, k3, k4, k5, k6, k7, k8, k9⟩ := hy.by hI (hj J (by omega))
    refine ⟨c + c2, (y2, evNext z), by unfold hnC; omega, hg.trans k2, ?_⟩
    rw [evNext_lt (by rw [k5, k3]; omega)]
    exact ⟨rfl, k3, k4, by show z.n + 1 = _; rw [k5]; omega, k6, k7, k8, k9⟩
/-- All slots looked at twice. -/
theorem HnAt.none {s0 : AW} {x : AW × Evm} (H : HnAt b h M s0 0 x) (hI : ∀ j : Nat, 0 ≤ hnI b h M j ∧ hnI b h M j ≤ 9223372036854775807) (J : Nat) (hJ : (J : Int) + 1 = 2 * plSpots b)
    (hj : ∀ j, j < J + 1 → hnI b h M j = 0 ∨ hnM b h M j (plRef (hnI b h M j)) % 2 = 1) : ∃ c y z, c ≤ hnC b h M (J + 1) ∧ Gos evOver evStep c x (y, z) ∧ z.ln = 11 ∧ z.t = b ∧ z.h = h ∧ z.n = 2 * plSpots b ∧ z.ref = 0 ∧ y.M = hnM b h M (J + 1) ∧ y.nt = s0.nt ∧ y.it = s0.it ∧ s0.n ≤ y.n := by
  obtain ⟨c, y, hc, hg, hy⟩ := H.scan hI J (by omega) fun j hj' => hj j (by omega)
  obtain ⟨c2, y2, z, k0, k1, k2, k3, k4, k5, k6, k7, k8, k9⟩ := hy.by hI (hj J (by omega))
  refine ⟨c + c2, y2, evNext z, by unfold hnC; omega, hg.trans k2, ?_⟩
  rw [evNext_end (by rw [k5, k3]; omega)]
  exact ⟨rfl, k3, k4, by show z.n + 1 = _; rw [k5]; omega, rfl, k6, k7, k8, k9⟩
/-- What an Evict that found an item leaves. -/
def hnOut (M : Int → Int) (p : Spt) (hd : Int) : Int → Int :=
  let M1 := upd M p.ver ((M p.ver + 1) % 18446744073709551616)
  let M2 := upd M1 p.tags (twWith (M1 p.tags) p.s 0)
  let M3 := upd M2 p.item 0
  let M4 := upd M3 p.ver ((M3 p.ver + 1) % 18446744073709551616)
  let M5 := upd M4 6 ((M4 6 + 18446744073709551615) % 18446744073709551616)
  let M6 := upd M5 4 hd
  upd M6 5 0
theorem hnOut_eq (M : Int → Int) (p : Spt) (hd : Int) (hp : p.ok) (a : Int) : hnOut M p hd a =
    if a = 5 then 0 else if a = 4 then hd else if a = 6 then (M 6 + 18446744073709551615) % 18446744073709551616 else if a = p.ver then ((M p.ver + 1) % 18446744073709551616 + 1) % 18446744073709551616
      else if a = p.item then 0 else if a = p.tags then twWith (M p.tags) p.s 0 else M a := by
  have h1 := hp.tags
  have h2 := hp.item
  have h3 := hp.ver
  have h4 := hp.s0
  have h5 := hp.s1
  unfold hnOut
  try dsimp only
  unfold upd
  by_cases c5 : a = 5
  · simp [c5]
  by_cases c4 : a = 4
  · simp [c4]
  by_cases c6 : a = 6
  · subst c6; simp; rw [if_neg (by omega), if_neg (by omega), if_neg (by omega), if_neg (by omega)]
  by_cases cv : a = p.ver
  · subst cv; simp [c5, c4, c6]; rw [if_neg (by omega), if_neg (by omega)]; omega
  by_cases ci : a = p.item
  · subst ci; simp [c5, c4, c6, cv]
  by_cases ct : a = p.tags
  · subst ct; simp [c5, c4, c6, cv, ci]
  · simp [c5, c4, c6, cv, ci, ct]
/-- An item that is not marked: to the end. -/
theorem HnAt.found {s0 : AW} {J : Nat} {x : AW × Evm} (H : HnAt b h M s0 J x) (hI : ∀ j : Nat, 0 ≤ hnI b h M j ∧ hnI b h M j ≤ 9223372036854775807) (hn : hnI b h M J ≠ 0) (hj : hnM b h M J (plRef (hnI b h M J)) % 2 = 0) :
    ∃ y z, Gos evOver evStep 10 x (y, z) ∧ z.ln = 0 ∧ z.t = b ∧ z.h = h ∧ z.n = J ∧ z.ref = hnI b h M J ∧ y.M = hnOut (hnM b h M J) (plAt b (h + J)) ((h + J + 1) % plSpots b) ∧
      (∃ n1 h1 n2 h2, s0.n ≤ n1 ∧ n1 ≤ n2 ∧ n2 ≤ y.n ∧ y.nt = ntAdd (ntAdd s0.nt ⟨n1, h1, 1, hnI b h M J, (plAt b (h + J)).b, (plAt b (h + J)).q, (plAt b (h + J)).s, 0⟩) ⟨n2, h2, 8, hnI b h M J, (plAt b (h + J)).b, (plAt b (h + J)).q, (plAt b (h + J)).s, J + 1⟩) ∧ y.it = s0.it := by
  obtain ⟨s, ⟨ln, t, h', n, r, mw, o⟩⟩ := x
  obtain ⟨h1, h2, h3, h4, h5, h6, h7, h8⟩ := H
  dsimp only at h1 h2 h3 h4 h5 h6 h7 h8
  subst h1 h2 h3 h4
  have hr : evRef s ⟨4, t, h', (J : Int), r, mw, o⟩ = hnI t h' M J := by
    unfold evRef
    rw [h5]
    unfold evSpot
    dsimp only
    rw [hnM_item (fun j => (hI j).1)]
    have := hI J
    exact IntWalk.wrap64_in _ (by unfold hnI at this; omega)
  have hm : s.M (plRef (hnI t h' M J)) % 2 = 0 := by rw [h5]; exact hj
  obtain ⟨rr, hrr⟩ : ∃ rr, rr = hnI t h' M J := ⟨_, rfl⟩
  obtain ⟨p, hp⟩ : ∃ p, p = plAt t (h' + J) := ⟨_, rfl⟩
  have hsp : ∀ ln r mw o, evSpot ⟨ln, t, h', (J : Int), r, mw, o⟩ = p := fun _ _ _ _ => hp.symm
  rw [← hrr] at hr hm hn ⊢
  rw [← hp]
  have e1 : evStep (s, ⟨4, t, h', (J : Int), r, mw, o⟩) = (awLoad p.item s, ⟨5, t, h', J, rr, mw, o⟩) := by
    unfold evStep
    simp only [hr, hsp]
    simp [hn]
  obtain ⟨s1, hs1⟩ : ∃ x, x = awLoad p.item s := ⟨_, rfl⟩
  have m1 : s1.M = s.M := by rw [hs1]; rfl
  have e2 : evStep (s1, ⟨5, t, h', (J : Int), rr, mw, o⟩) = (awLoad (plRef rr) s1, ⟨7, t, h', J, rr, s.M (plRef rr), ⟨0, 0⟩⟩) := by
    unfold evStep
    simp only [m1, hm]
    rfl
  have e3 : ∀ (s : AW) mw, evStep (s, ⟨7, t, h', (J : Int), rr, mw, ⟨0, 0⟩⟩) = (awAdd p.ver 1 s, ⟨8, t, h', J, rr, mw, ⟨0, 0⟩⟩) := fun s mw => by
    unfold evStep
    simp only [hsp]
    rfl
  have e4 : ∀ (s : AW) mw, evStep (s, ⟨8, t, h', (J : Int), rr, mw, ⟨0, 0⟩⟩) = (awLoad p.tags s, ⟨8, t, h', J, rr, mw, ⟨1, s.M p.tags⟩⟩) := fun s mw => by
    unfold evStep outStep
    simp only [hsp]
    rfl
  have e5 : ∀ (s : AW) mw wd, evStep (s, ⟨8, t, h', (J : Int), rr, mw, ⟨1, wd⟩⟩) = (awNote 1 rr p.b p.q p.s 0 (awStore p.tags (twWith wd p.s 0) s), ⟨8, t, h', J, rr, mw, ⟨2, wd⟩⟩) := fun s mw wd => by
    unfold evStep outStep
    simp only [hsp]
    rfl
  have e6 : ∀ (s : AW) mw wd, evStep (s, ⟨8, t, h', (J : Int), rr, mw, ⟨2, wd⟩⟩) = (awStore p.item 0 s, ⟨9, t, h', J, rr, mw, ⟨3, wd⟩⟩) := fun s mw wd => by
    unfold evStep outStep
    simp only [hsp]
    rfl
  have e7 : ∀ (s : AW) mw o, evStep (s, ⟨9, t, h', (J : Int), rr, mw, o⟩) = (awAdd p.ver 1 s, ⟨10, t, h', J, rr, mw, o⟩) := fun s mw o => by
    unfold evStep
    simp only [hsp]
    rfl
  have e8 : ∀ (s : AW) mw o, evStep (s, ⟨10, t, h', (J : Int), rr, mw, o⟩) = (awAdd 6 18446744073709551615 s, ⟨11, t, h', J, rr, mw, o⟩) := fun s mw o => by
    unfold evStep
    rfl
  have e9 : ∀ (s : AW) mw o, evStep (s, ⟨11, t, h', (J : Int), rr, mw, o⟩) = (awNote 8 rr p.b p.q p.s (J + 1) (awStore 4 ((h' + J + 1) % plSpots t) s), ⟨12, t, h', J, rr, mw, o⟩) := fun s mw o => by
    unfold evStep
    simp only [hsp]
    simp [hn]
  have e10 : ∀ (s : AW) mw o, evStep (s, ⟨12, t, h', (J : Int), rr, mw, o⟩) = (awStore 5 0 s, ⟨0, t, h', J, rr, mw, o⟩) := fun s mw o => by
    unfold evStep
    rfl
  have ov : ∀ ln r mw o, ln ≠ 0 → evOver ⟨ln, t, h', (J : Int), r, mw, o⟩ = false := fun ln r mw o hl => by unfold evOver; simpa using hl
  refine' ⟨_, _, ⟨ov _ _ _ _ (by decide), ?_⟩, ?_⟩
  rotate_left
  rotate_left
  · rw [e1, ← hs1]
    refine ⟨ov _ _ _ _ (by decide), ?_⟩
    rw [e2]
    refine ⟨ov _ _ _ _ (by decide), ?_⟩
    rw [e3]
    refine ⟨ov _ _ _ _ (by decide), ?_⟩
    rw [e4]
    refine ⟨ov _ _ _ _ (by decide), ?_⟩
    rw [e5]
    refine ⟨ov _ _ _ _ (by decide), ?_⟩
    rw [e6]
    refine ⟨ov _ _ _ _ (by decide), ?_⟩
    rw [e7]
    refine ⟨ov _ _ _ _ (by decide), ?_⟩
    rw [e8]
    refine ⟨ov _ _ _ _ (by decide), ?_⟩
    rw [e9]
    refine ⟨ov _ _ _ _ (by decide), ?_⟩
    rw [e10]
    rfl
  · refine ⟨rfl, rfl, rfl, rfl, rfl, ?_, ?_, ?_⟩
    · rw [← h5, ← m1]
      rfl
    · rw [← h6]
      rw [hs1]
      exact ⟨s.n + 1 + 1 + 1 + 1 + 1, _, s.n + 1 + 1 + 1 + 1 + 1 + 1 + 1 + 1 + 1, _, by omega, by omega, by show _ ≤ s.n + 1 + 1 + 1 + 1 + 1 + 1 + 1 + 1 + 1 + 1; omega, rfl⟩
    · rw [hs1]
      exact h7
end
end Go.Proofs.YthpedifjclofoaaGreat
