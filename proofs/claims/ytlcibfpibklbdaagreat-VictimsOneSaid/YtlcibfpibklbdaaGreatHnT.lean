/- Layer 23, plain: hands one behind the other, in a table whose items nobody marked. -/
import Derived.Test.YtlcibfpibklbdaaGreatHnP
namespace Go.Proofs.YtlcibfpibklbdaaGreat
set_option linter.unusedSimpArgs false
set_option linter.unusedVariables false
open Go.RowKit
theorem plAt_mod {t a c : Int} (h : a % plSpots t = c % plSpots t) : plAt t a = plAt t c := by unfold plAt plAtBits plAtN; rw [h]
theorem plSpots_one {b : Int} (b0 : 1 ≤ b) (b1 : b ≤ 12) : plSpots b = 4 * fnvSize b := by
  have h1 : plOld b = b := by unfold plOld; rw [if_pos (by omega)]; omega
  have h2 : plNow b = 0 := by unfold plNow; rw [if_neg (by omega)]
  unfold plSpots
  rw [h1, h2]
  have : fnvSize 0 = 0 := by decide
  omega
theorem plSpots_3 {b : Int} (b0 : 1 ≤ b) (b1 : b ≤ 3) : 8 ≤ plSpots b ∧ plSpots b ≤ 32 := by
  rw [plSpots_one b0 (by omega)]
  have : b = 1 ∨ b = 2 ∨ b = 3 := by omega
  rcases this with h | h | h <;> rw [h] <;> decide
/-- Behind n spots, m of them with an item. -/
structure HtI (b fr : Int) (s : AW) (n m : Nat) : Prop where
  b0 : 1 ≤ b
  b1 : b ≤ 3
  wd : s.M 2 = b
  lo : ∀ j : Nat, j < n → s.M (plAt b (fr + j)).item = 0
  it : ∀ t : Int, 0 ≤ s.M (plAt b t).item ∧ s.M (plAt b t).item ≤ 40
  mr : ∀ r : Int, 1 ≤ r → s.M (plRef r) = 0
  hd : ∃ d : Nat, d ≤ n ∧ s.M 4 % plSpots b = (fr + d) % plSpots b
  ct : s.M 6 = (-(m : Int)) % 18446744073709551616
  nt : s.nt.length = 2 * m
  mn : m ≤ n
  up : ∀ x ∈ s.nt, x.step ≤ s.n
theorem HtI.zero {b fr : Int} {s : AW} {n m : Nat} (h : HtI b fr s n m) (hz : s.M (plAt b (fr + n)).item = 0) : HtI b fr s (n + 1) m := by
  obtain ⟨d, hd, he⟩ := h.hd
  refine ⟨h.b0, h.b1, h.wd, fun j hj => ?_, h.it, h.mr, ⟨d, by omega, he⟩, h.ct, h.nt, by have := h.mn; omega, h.up⟩
  by_cases e : j = n
  · rw [e]; exact hz
  · exact h.lo j (by omega)
theorem ev_start (s : AW) : ∃ y r mw o, Gos evOver evStep 3 (s, evNew) (y, ⟨4, s.M 2, s.M 4 % plSpots (s.M 2), 0, r, mw, o⟩) ∧ y.M = upd s.M 5 1 ∧ y.nt = s.nt ∧ y.it = s.it ∧ s.n ≤ y.n := by
  refine ⟨awLoad 4 (awLoad 2 (awStore 5 1 s)), 0, 0, ⟨0, 0⟩, ⟨rfl, rfl, rfl, ?_⟩, rfl, rfl, rfl, by show s.n ≤ s.n + 1 + 1 + 1; omega⟩
  have e2 : upd s.M 5 1 2 = s.M 2 := upd_other _ (by decide)
  have e4 : upd s.M 5 1 4 = s.M 4 := upd_other _ (by decide)
  have e1 : evStep (s, evNew) = (awStore 5 1 s, ⟨2, 0, 0, 0, 0, 0, ⟨0, 0⟩⟩) := rfl
  rw [e1]
  have e3 : evStep (awStore 5 1 s, ⟨2, 0, 0, 0, 0, 0, ⟨0, 0⟩⟩) = (awLoad 2 (awStore 5 1 s), ⟨3, upd s.M 5 1 2, 0, 0, 0, 0, ⟨0, 0⟩⟩) := rfl
  rw [e3, e2]
  have e5 : evStep (awLoad 2 (awStore 5 1 s), ⟨3, s.M 2, 0, 0, 0, 0, ⟨0, 0⟩⟩) = (awLoad 4 (awLoad 2 (awStore 5 1 s)), ⟨4, s.M 2, upd s.M 5 1 4 % plSpots (s.M 2), 0, 0, 0, ⟨0, 0⟩⟩) := rfl
  rw [e5, e4]
  rfl
section
variable {b fr : Int} {s : AW} {n m : Nat}
theorem HtI.spot (h : HtI b fr s n m) {d : Nat} (hd : s.M 4 % plSpots b = (fr + d) % plSpots b) (j : Nat) : plAt b (s.M 4 % plSpots b + j) = plAt b (fr + ((d + j : Nat) : Int)) := by
  refine plAt_mod ?_
  rw [Int.emod_add_emod, Int.add_emod, hd, ← Int.add_emod]
  congr 1
  omega
theorem HtI.I (h : HtI b fr s n m) (g : Int) (j : Nat) : hnI b g (upd s.M 5 1) j = s.M (plAt b (g + j)).item := by
  unfold hnI; rw [upd_other _ (by have := (plAt_ok b (g + j)).item; omega)]
theorem hnM_zero {b h : Int} {M : Int → Int} (J : Nat) (hz : ∀ j, j < J → hnI b h M j = 0) : hnM b h M J = M := by
  induction J with
  | zero => rfl
  | succ J ih => unfold hnM; rw [if_pos (hz J (by omega)), ih fun j hj => hz j (by omega)]
/-- A hand takes the next item out. -/
theorem HtI.some (h : HtI b fr s n m) (hn : (n : Int) < plSpots b) (hz : s.M (plAt b (fr + n)).item ≠ 0) (hm : m ≤ 40) (most : Nat) (hmost : 7 * plSpots b + 20 ≤ most) :
    ∃ c y z, runN evOver evStep most (s, evNew) = (c, y, z) ∧ evGot z = (s.M (plAt b (fr + n)).item, plAt b (fr + n)) ∧ HtI b fr y (n + 1) (m + 1) := by
  obtain ⟨d, hd, he⟩ := h.hd
  have hsp := plSpots_3 h.b0 h.b1
  obtain ⟨y1, r1, mw1, o1, g1, m1, n1, i1, u1⟩ := ev_start s
  rw [h.wd] at g1
  obtain ⟨g, hg⟩ : ∃ g, g = s.M 4 % plSpots b := ⟨_, rfl⟩
  have hspot : ∀ j : Nat, plAt b (g + j) = plAt b (fr + ((d + j : Nat) : Int)) := fun j => by rw [hg]; exact h.spot he j
  have hI : ∀ j : Nat, hnI b g (upd s.M 5 1) j = s.M (plAt b (fr + ((d + j : Nat) : Int))).item := fun j => by rw [h.I g j, hspot]
  have hIb : ∀ j : Nat, 0 ≤ hnI b g (upd s.M 5 1) j ∧ hnI b g (upd s.M 5 1) j ≤ 9223372036854775807 := fun j => by
    rw [hI]; have := h.it (fr + ((d + j : Nat) : Int)); omega
  have h0 : ∀ j, j < n - d → hnI b g (upd s.M 5 1) j = 0 := fun j hj => by rw [hI]; exact h.lo _ (by omega)
  rw [← hg] at g1
  have H0 : HnAt b g (upd s.M 5 1) s 0 (y1, ⟨4, b, g, 0, r1, mw1, o1⟩) := ⟨rfl, rfl, rfl, rfl, m1, n1, i1, u1⟩
  obtain ⟨c, x, hc, hgo, hx⟩ := H0.scan hIb (n - d) (by omega) fun j hj => .inl (h0 j hj)
  have hnd : d + (n - d) = n := by omega
  have hIn : hnI b g (upd s.M 5 1) (n - d) = s.M (plAt b (fr + n)).item := by rw [hI, hnd]
  have hps : plAt b (g + ((n - d : Nat) : Int)) = plAt b (fr + n) := by rw [hspot, hnd]
  have hM := hnM_zero (n - d) h0
  have hit := h.it (fr + n)
  have hrf : 1 ≤ s.M (plAt b (fr + n)).item := by omega
  have hrb := plRef_bd hrf
  obtain ⟨y, z, hgo2, z0, z1, z2, z3, z4, z5, ⟨k1, k2, k3, k4, ka, kb, kc, z6⟩, z7⟩ := hx.found hIb (by rw [hIn]; exact hz) (by rw [hIn, hM, upd_other _ (by omega), h.mr _ hrf]; rfl)
  rw [hIn, hps] at z6
  rw [hIn] at z4
  rw [hM, hps] at z5
  have hgz : (g + ((n - d : Nat) : Int) + 1) % plSpots b = (fr + ((n + 1 : Nat) : Int)) % plSpots b := by
    rw [show g + ((n - d : Nat) : Int) + 1 = s.M 4 % plSpots b + (((n - d : Nat) : Int) + 1) by rw [hg]; omega, Int.emod_add_emod, Int.add_emod, he, ← Int.add_emod]
    congr 1
    omega
  have hp := plAt_ok b (fr + n)
  have e := hnOut_eq (upd s.M 5 1) (plAt b (fr + n)) ((g + ((n - d : Nat) : Int) + 1) % plSpots b) hp
  rw [← z5] at e
  have hv := hp.ver
  have hi := hp.item
  have ht := hp.tags
  have hkeep : ∀ a : Int, a ≠ 5 → a ≠ 4 → a ≠ 6 → a ≠ (plAt b (fr + n)).ver → a ≠ (plAt b (fr + n)).item → a ≠ (plAt b (fr + n)).tags → y.M a = s.M a := fun a q1 q2 q3 q4 q5 q6 => by
    rw [e, if_neg q1, if_neg q2, if_neg q3, if_neg q4, if_neg q5, if_neg q6, upd_other _ q1]
  have hitem : ∀ t : Int, y.M (plAt b t).item = 0 ∨ y.M (plAt b t).item = s.M (plAt b t).item := fun t => by
    have hp2 := plAt_ok b t
    have hi2 := hp2.item
    by_cases q : (plAt b t).item = (plAt b (fr + n)).item
    · left; rw [q, e, if_neg (by omega), if_neg (by omega), if_neg (by omega), if_neg (by omega), if_pos rfl]
    · right
      refine hkeep _ (by omega) (by omega) (by omega) (by omega) q ?_
      refine Spt.item_ne_tags hp2 hp ?_
      have h1 : plOld b = b := by unfold plOld; rw [if_pos (by have := h.b0; have := h.b1; omega)]; have := h.b0; have := h.b1; omega
      have h2 : ∀ t, (plAt b t).b = b := fun t => by
        show plAtBits b t = b
        unfold plAtBits
        rw [h1, if_pos]
        rw [← plSpots_one h.b0 (by have := h.b1; omega)]
        exact Int.emod_lt_of_pos _ (by omega)
      rw [h2, h2]
  have hcc := hnC_le (b := b) (h := g) (M := upd s.M 5 1) (n - d)
  have hrun := ((g1.trans hgo).trans hgo2).fin (m := most) (by omega) (by show (z.ln == 0) = true; rw [z0]; rfl)
  refine ⟨_, y, z, hrun, ?_, ?_⟩
  · unfold evGot
    rw [if_pos ⟨z0, by rw [z4]; exact hz⟩, z4]
    unfold evSpot
    rw [z1, z2, z3, hps]
  · refine ⟨h.b0, h.b1, ?_, fun j hj => ?_, fun t => ?_, fun r hr => ?_, ⟨n + 1, by omega, ?_⟩, ?_, ?_, by have := h.mn; omega, ?_⟩
    · rw [hkeep 2 (by decide) (by decide) (by decide) (by omega) (by omega) (by omega)]; exact h.wd
    · rcases Nat.lt_or_ge j n with q | q
      · rcases hitem (fr + j) with k | k
        · exact k
        · rw [k]; exact h.lo j q
      · have : j = n := by omega
        subst this
        rw [e, if_neg (by omega), if_neg (by omega), if_neg (by omega), if_neg (by omega), if_pos rfl]
    · rcases hitem t with k | k
      · rw [k]; omega
      · rw [k]; exact h.it t
    · have := plRef_bd hr
      rw [hkeep _ (by omega) (by omega) (by omega) (by omega) (by omega) (by omega)]; exact h.mr r hr
    · rw [e, if_neg (by decide), if_pos rfl, Int.emod_emod_of_dvd _ (Int.dvd_refl _)]; exact hgz
    · rw [e, if_neg (by decide), if_neg (by decide), if_pos rfl, upd_other _ (by decide), h.ct]
      omega
    · have hl := h.nt
      have hu := h.up
      have q1 := ntAdd_fine (l := s.nt) (x := ⟨k1, k2, 1, s.M (plAt b (fr + n)).item, (plAt b (fr + n)).b, (plAt b (fr + n)).q, (plAt b (fr + n)).s, 0⟩) (by show (1 : Int) ≤ 1; omega) (by show (1 : Int) ≤ 9; omega) (by omega) fun x hx => by have := hu x hx; show x.step ≤ k1; omega
      have q2 := ntAdd_fine (l := s.nt ++ [⟨k1, k2, 1, s.M (plAt b (fr + n)).item, (plAt b (fr + n)).b, (plAt b (fr + n)).q, (plAt b (fr + n)).s, 0⟩]) (x := ⟨k3, k4, 8, s.M (plAt b (fr + n)).item, (plAt b (fr + n)).b, (plAt b (fr + n)).q, (plAt b (fr + n)).s, ((n - d : Nat) : Int) + 1⟩) (by show (1 : Int) ≤ 8; omega) (by show (8 : Int) ≤ 9; omega) (by rw [List.length_append]; simp; omega) fun x hx => by
        rcases List.mem_append.1 hx with hx | hx
        · have := hu x hx; show x.step ≤ k3; omega
        · rw [List.mem_singleton.1 hx]; show k1 ≤ k3; omega
      rw [q1, q2] at z6
      rw [z6]
      simp
      omega
    · have hl := h.nt
      have hu := h.up
      have q1 := ntAdd_fine (l := s.nt) (x := ⟨k1, k2, 1, s.M (plAt b (fr + n)).item, (plAt b (fr + n)).b, (plAt b (fr + n)).q, (plAt b (fr + n)).s, 0⟩) (by show (1 : Int) ≤ 1; omega) (by show (1 : Int) ≤ 9; omega) (by omega) fun x hx => by have := hu x hx; show x.step ≤ k1; omega
      have q2 := ntAdd_fine (l := s.nt ++ [⟨k1, k2, 1, s.M (plAt b (fr + n)).item, (plAt b (fr + n)).b, (plAt b (fr + n)).q, (plAt b (fr + n)).s, 0⟩]) (x := ⟨k3, k4, 8, s.M (plAt b (fr + n)).item, (plAt b (fr + n)).b, (plAt b (fr + n)).q, (plAt b (fr + n)).s, ((n - d : Nat) : Int) + 1⟩) (by show (1 : Int) ≤ 8; omega) (by show (8 : Int) ≤ 9; omega) (by rw [List.length_append]; simp; omega) fun x hx => by
        rcases List.mem_append.1 hx with hx | hx
        · have := hu x hx; show x.step ≤ k3; omega
        · rw [List.mem_singleton.1 hx]; show k1 ≤ k3; omega
      rw [q1, q2] at z6
      rw [z6]
      intro x hx
      rcases List.mem_append.1 hx with hx | hx
      · rcases List.mem_append.1 hx with hx | hx
        · have := hu x hx; omega
        · rw [List.mem_singleton.1 hx]; show k1 ≤ y.n; omega
      · rw [List.mem_singleton.1 hx]; show k3 ≤ y.n; omega
/-- The last one takes nothing. -/
theorem HtI.last (h : HtI b fr s n m) (hn : (n : Int) = plSpots b) (hm : m ≤ 40) (most : Nat) (hmost : 7 * (n : Int) + 20 ≤ most) :
    ∃ c y z, runN evOver evStep most (s, evNew) = (c, y, z) ∧ z.ln = 0 ∧ z.ref = 0 ∧ y.M 6 = (-(m : Int)) % 18446744073709551616 ∧ y.nt.length = 2 * m + 1 := by
  have hsp := plSpots_3 h.b0 h.b1
  obtain ⟨y1, r1, mw1, o1, g1, m1, n1, i1, u1⟩ := ev_start s
  rw [h.wd] at g1
  obtain ⟨g, hg⟩ : ∃ g, g = s.M 4 % plSpots b := ⟨_, rfl⟩
  rw [← hg] at g1
  have hall : ∀ t : Int, s.M (plAt b t).item = 0 := fun t => by
    have q0 := Int.emod_nonneg (t - fr) (show plSpots b ≠ 0 by omega)
    have q1 := Int.emod_lt_of_pos (t - fr) (show 0 < plSpots b by omega)
    have := h.lo ((t - fr) % plSpots b).toNat (by omega)
    rw [Int.toNat_of_nonneg q0] at this
    rw [← this]
    congr 2
    refine plAt_mod ?_
    rw [Int.add_emod_emod]
    congr 1
    omega
  have hI : ∀ j : Nat, hnI b g (upd s.M 5 1) j = 0 := fun j => by rw [h.I g j]; exact hall _
  have H0 : HnAt b g (upd s.M 5 1) s 0 (y1, ⟨4, b, g, 0, r1, mw1, o1⟩) := ⟨rfl, rfl, rfl, rfl, m1, n1, i1, u1⟩
  obtain ⟨c, y, z, hc, hgo, z1, z2, z3, z4, z5, z6, z7, z8, z9⟩ := H0.none (fun j => by rw [hI]; omega) (2 * n - 1) (by omega) fun j _ => .inl (hI j)
  rw [hnM_zero _ fun j _ => hI j] at z6
  have e1 : evStep (y, z) = (awNote 8 0 0 0 0 z.n (awStore 4 z.h y), ⟨12, z.t, z.h, z.n, z.ref, z.mw, z.o⟩) := by
    unfold evStep
    simp only [z1, z5]
    simp
  have e2 : evStep (awNote 8 0 0 0 0 z.n (awStore 4 z.h y), ⟨12, z.t, z.h, z.n, z.ref, z.mw, z.o⟩) = (awStore 5 0 (awNote 8 0 0 0 0 z.n (awStore 4 z.h y)), ⟨0, z.t, z.h, z.n, z.ref, z.mw, z.o⟩) := rfl
  have hg2 : Gos evOver evStep 2 (y, z) (awStore 5 0 (awNote 8 0 0 0 0 z.n (awStore 4 z.h y)), ⟨0, z.t, z.h, z.n, z.ref, z.mw, z.o⟩) := by
    refine ⟨by unfold evOver; rw [z1]; rfl, ?_⟩
    rw [e1]
    refine ⟨rfl, ?_⟩
    rw [e2]
    rfl
  have hq := ntAdd_fine (l := s.nt) (x := ⟨y.n + 1, y.ho, 8, 0, 0, 0, 0, z.n⟩) (by show (1 : Int) ≤ 8; omega) (by show (8 : Int) ≤ 9; omega) (by have := h.nt; omega) fun x hx => by have := h.up x hx; show x.step ≤ y.n + 1; omega
  have hcc := hnC_le (b := b) (h := g) (M := upd s.M 5 1) (2 * n - 1 + 1)
  refine ⟨_, _, _, ((g1.trans hgo).trans hg2).fin (m := most) (by omega) rfl, rfl, z5, ?_, ?_⟩
  · show upd (upd y.M 4 z.h) 5 0 6 = _
    rw [upd_other _ (by decide), upd_other _ (by decide), z6, upd_other _ (by decide), h.ct]
  · show (ntAdd y.nt ⟨y.n + 1, y.ho, 8, 0, 0, 0, 0, z.n⟩).length = _
    rw [z7, hq, List.length_append, h.nt]
    rfl
end
end Go.Proofs.YtlcibfpibklbdaaGreat
