/- Layer 22: a Touch of the program's world. -/
import Derived.Test.YthpedifjclofoaaGreatBaE
import Derived.Test.YthpedifjclofoaaGreatRfStep
namespace Go.Proofs.YthpedifjclofoaaGreat
set_option linter.unusedSimpArgs false
open Go.RowKit
set_option linter.unusedVariables false
def awOf (z : TM) (s : AW) : AW := ⟨z.M, z.n, z.la, s.tk, s.ho, s.it, s.nt⟩
theorem c_PTStep {x : Nat} {T : Tc} {w : World} {O : Om} {B : Wb} {f : Cf} {s : AW} (k : Nat) (hP : PW w O B f s) (hT : TAt w x T) (hO : O x = k) (hok : T.ok) (hk : 10 ≤ k) (hhi : ∀ j, O j ≠ 0 → j < w.heap.size) (n0 : 0 ≤ s.n) (n1 : s.n ≤ 4611686018427387904) :
    Calls Tryz.prog 355 #[.pointer (some ⟨x, 0, none⟩), .pointer (some ⟨B.p, 0, none⟩)] w (RP (SX k k) w O (.bool (tcOver (tcStep ⟨s.M, s.n, s.la, T⟩).t)) fun W G => PW W G B f (awOf (tcStep ⟨s.M, s.n, s.la, T⟩) s) ∧ TAt W x (tcStep ⟨s.M, s.n, s.la, T⟩).t ∧ G x = k) := by
  classical
  have hTS : TS w (fun j => O j = 2) B.p B.c x ⟨s.M, s.n, s.la, T⟩ := ⟨hP.ce, hP.wo.c0, hP.wo.lt, fun h => by have h : O B.p = 2 := h; rw [hP.o] at h; omega, hT, fun h => by have h : O x = 2 := h; omega, fun h => by rw [h, hP.o] at hO; omega⟩
  refine (c_Step w _ B.p B.c x _ hTS hok n0 n1).mono ?_
  rintro e w' ⟨rfl, F, hS, hg, hw⟩
  have hnew : ∀ j, F j → ¬ O j = 0 → O j = 2 := fun j hj hz => by
    rcases hg.new j hj with h | h
    · exact h
    · exact absurd (hhi j hz) (by omega)
  obtain ⟨G, hG⟩ : ∃ G : Om, ∀ j, G j = if F j ∧ O j = 0 then 2 else O j := ⟨_, fun _ => rfl⟩
  have hOG : ∀ j, j < w.heap.size → G j = O j := fun j hj => by
    rw [hG]
    by_cases h : F j ∧ O j = 0
    · exfalso
      rcases hg.new j h.1 with h2 | h2
      · have h2 : O j = 2 := h2
        omega
      · omega
    · rw [if_neg h]
  have hFG : ∀ j, F j → G j = 2 := fun j hj => by
    rw [hG]
    by_cases h : O j = 0
    · rw [if_pos ⟨hj, h⟩]
    · rw [if_neg (fun h2 => h h2.2)]; exact hnew j hj h
  have hhiG : ∀ j, G j ≠ 0 → j < w'.heap.size := fun j hj => by
    by_cases h : F j
    · exact hS.ce.lts j h
    · rw [hG, if_neg (fun h2 => h h2.1)] at hj
      exact Nat.lt_of_lt_of_le (hhi j hj) hw.size
  have E : Ext (SX k k) O w G w' := ⟨hOG, hhiG, fun j hj hn => by
      by_cases h : F j
      · rw [hFG j h]; exact .inl ⟨by decide, by decide⟩
      · rw [hG, if_neg (fun h2 => h h2.1)] at hn
        exact absurd (hhi j hn) (by omega),
    hw.mono fun j hj h => by
      rcases h with h | h
      · have h : O j = 2 := h
        exact ⟨.inl (by rw [h]; exact ⟨by decide, by decide⟩), by omega⟩
      · rw [h, hO]; exact ⟨SX.self, by omega⟩⟩
  have hCO : CO w' G 2 B.c (tcStep ⟨s.M, s.n, s.la, T⟩).M (tcStep ⟨s.M, s.n, s.la, T⟩).n (tcStep ⟨s.M, s.n, s.la, T⟩).la :=
    Ce.mono hS.ce hFG (fun j hj => hhiG j (by have hj : G j = 2 := hj; omega))
  have hz : ∀ t, 1 ≤ t → t ≤ 4 → t ≠ 2 → ∀ j, j < w.heap.size → O j = t → ¬ (SX k k (O j) ∧ O j ≠ 0 ∧ ¬ (O j = t)) := fun t _ _ _ j _ h k => k.2.2 h
  have hw2 : Wrote (fun j => O j = 2 ∨ O j = k) w w' := hw.mono fun j hj h => by
    rcases h with h | h
    · exact .inl h
    · exact .inr (by rw [h]; exact hO)
  have E2 : Ext (fun t => t = 2 ∨ t = k) O w G w' := ⟨hOG, hhiG, fun j hj hn => by
      by_cases h : F j
      · exact .inl (hFG j h)
      · rw [hG, if_neg (fun h2 => h h2.1)] at hn
        exact absurd (hhi j hn) (by omega),
    hw2.mono fun j hj h => ⟨h, by rcases h with h | h <;> omega⟩⟩
  refine ⟨rfl, G, E, ⟨(hOG _ hP.wo.lt).trans hP.o, hP.wo.wrote E2.wr (fun h => by have := h.1; rw [hP.o] at this; omega), hCO, hP.ar.ext E2 (by omega), hP.no.ext E2 (by omega)⟩, hS.ta, (hOG _ hT.lt).trans hO⟩
theorem c_PNewT (r : Int) {w : World} {O : Om} (k : Nat) (hhi : ∀ j, O j ≠ 0 → j < w.heap.size) (r0 : -9223372036854775808 ≤ r) (r1 : r ≤ 9223372036854775807) :
    Calls Tryz.prog 186 #[.int .i64 r] w (RP (fun t => t = k) w O (.pointer (some ⟨w.heap.size, 0, none⟩)) fun W G => TAt W w.heap.size (tcNew (plRef r)) ∧ G w.heap.size = k) := by
  refine (c_NewTouch r w r0 r1).mono ?_
  rintro e w' ⟨rfl, rfl⟩
  exact ⟨rfl, _, Ext.alloc (S := fun t => t = k) (g := k) hhi rfl _, TAt.new _ _ _ _ rfl, newOwn_at (Nat.lt_succ_self _)⟩
theorem TAt.ext {S : Nat → Prop} {O O' : Om} {w w' : World} {x : Nat} {T : Tc} (h : TAt w x T) (e : Ext S O w O' w') (hs : ¬ S (O x)) : TAt w' x T := h.wrote e.wr fun k => hs k.1
theorem TAt.below {w w' : World} {x : Nat} {T : Tc} (h : TAt w x T) (hb : Below w.heap.size w w') : TAt w' x T := h.wrote (S := fun _ => False) (Wrote.of_below hb) id
end Go.Proofs.YthpedifjclofoaaGreat
