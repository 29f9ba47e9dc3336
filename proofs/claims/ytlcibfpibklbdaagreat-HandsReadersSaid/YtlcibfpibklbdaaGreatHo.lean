/- Layer 23: what an Evict's step keeps; an Evict of both sides. -/
import Derived.Test.YtlcibfpibklbdaaGreatRh
import Derived.Test.YtlcibfpibklbdaaGreatBaJ
import Derived.Test.YtlcibfpibklbdaaGreatBaG
namespace Go.Proofs.YtlcibfpibklbdaaGreat
set_option linter.unusedSimpArgs false
open Go.RowKit
set_option linter.unusedVariables false

theorem evNew_ok : EvOk evNew := by
  constructor <;> (unfold evNew; dsimp only; omega)
theorem evNext_ok {z : Evm} (t0 : 0 ≤ z.t) (t1 : z.t < 18446744073709551616) (h0 : 0 ≤ z.h) (h1 : z.h < 32768) (n0 : 0 ≤ z.n) (n2 : z.n < 2 * plSpots z.t) (r0 : -9223372036854775808 ≤ z.ref) (r1 : z.ref ≤ 9223372036854775807) (m0 : 0 ≤ z.mw) (m1 : z.mw < 18446744073709551616) (w0 : 0 ≤ z.o.w) (w1 : z.o.w < 18446744073709551616) : EvOk (evNext z) := by
  have hs := plSpots_bd z.t
  unfold evNext
  by_cases h : z.n + 1 = 2 * plSpots z.t
  · rw [if_pos h]
    constructor <;> (dsimp only; omega)
  · rw [if_neg h]
    constructor <;> (dsimp only; omega)
theorem evStep_ok {s : AW} {z : Evm} (hb : Bd s.M) (hz : EvOk z) : EvOk (evStep (s, z)).2 := by
  obtain ⟨l0, l1, t0, t1, h0, h1, m0, m1, m2, r0, r1, k0, k1, w0, w1, o8⟩ := hz
  by_cases e0 : z.ln = 0
  · rw [evStep_0 s z e0]
    exact ⟨l0, l1, t0, t1, h0, h1, m0, m1, m2, r0, r1, k0, k1, w0, w1, o8⟩
  have h : z.ln = 1 ∨ z.ln = 2 ∨ z.ln = 3 ∨ z.ln = 4 ∨ z.ln = 5 ∨ z.ln = 6 ∨ z.ln = 7 ∨ z.ln = 8 ∨ z.ln = 9 ∨ z.ln = 10 ∨ z.ln = 11 ∨ z.ln = 12 := by omega
  have hs := plSpots_bd z.t
  rcases h with h | h | h | h | h | h | h | h | h | h | h | h
  · rw [evStep_1 s z h]
    constructor <;> (dsimp only; omega)
  · rw [evStep_2 s z h]
    have := hb 2
    constructor <;> (dsimp only; omega)
  · rw [evStep_3 s z h]
    have a0 := Int.emod_nonneg (s.M 4) (show plSpots z.t ≠ 0 by omega)
    have a1 := Int.emod_lt_of_pos (s.M 4) (show 0 < plSpots z.t by omega)
    constructor <;> (dsimp only; omega)
  · rw [evStep_4 s z h]
    have hn := m2 (by omega)
    have hh := h1 (by omega)
    dsimp only
    by_cases hr : evRef s z = 0
    · rw [if_pos hr]
      exact evNext_ok t0 t1 h0 hh m0 hn (by dsimp only; omega) (by dsimp only; omega) k0 k1 w0 w1
    · rw [if_neg hr]
      have hw : -9223372036854775808 ≤ evRef s z ∧ evRef s z ≤ 9223372036854775807 := wrap64_bd _
      constructor <;> (dsimp only; omega)
  · rw [evStep_5 s z h]
    have := hb (plRef z.ref)
    have hn := m2 (by omega)
    have hh := h1 (by omega)
    dsimp only
    by_cases hr : s.M (plRef z.ref) % 2 = 0
    · rw [if_pos hr]
      constructor <;> (dsimp only; omega)
    · rw [if_neg hr]
      constructor <;> (dsimp only; omega)
  · rw [evStep_6 s z h]
    exact evNext_ok t0 t1 h0 (h1 (by omega)) m0 (m2 (by omega)) r0 r1 k0 k1 w0 w1
  · rw [evStep_7 s z h]
    have hn := m2 (by omega)
    have hh := h1 (by omega)
    have := o8 (by omega)
    constructor <;> (dsimp only; omega)
  · rw [evStep_8 s z h]
    have hn := m2 (by omega)
    have hh := h1 (by omega)
    have ho := o8 (by omega)
    obtain ⟨a0, a1⟩ := outStep_w (p := evSpot z) hb w0 w1
    have a2 := outStep_lnH (p := evSpot z) (s := s) ho
    obtain ⟨q, hq⟩ : ∃ q, q = (outStep (evSpot z) s z.o).2 := ⟨_, rfl⟩
    rw [← hq] at a0 a1 a2 ⊢
    dsimp only
    by_cases e2 : z.o.ln = 2
    · rw [if_pos e2]
      constructor <;> (dsimp only; omega)
    · rw [if_neg e2]
      constructor <;> (dsimp only; omega)
  · rw [evStep_9 s z h]
    have hn := m2 (by omega)
    have hh := h1 (by omega)
    constructor <;> (dsimp only; omega)
  · rw [evStep_10 s z h]
    have hn := m2 (by omega)
    have hh := h1 (by omega)
    constructor <;> (dsimp only; omega)
  · rw [evStep_11 s z h]
    have hh := h1 (by omega)
    constructor <;> (dsimp only; omega)
  · rw [evStep_12 s z h]
    have hh := h1 (by omega)
    constructor <;> (dsimp only; omega)
theorem evStep_aw (s : AW) (z : Evm) (l0 : 0 ≤ z.ln) (l1 : z.ln ≤ 12) : Aw1 s (evStep (s, z)).1 := by
  have h : z.ln = 0 ∨ z.ln = 1 ∨ z.ln = 2 ∨ z.ln = 3 ∨ z.ln = 4 ∨ z.ln = 5 ∨ z.ln = 6 ∨ z.ln = 7 ∨ z.ln = 8 ∨ z.ln = 9 ∨ z.ln = 10 ∨ z.ln = 11 ∨ z.ln = 12 := by omega
  rcases h with h | h | h | h | h | h | h | h | h | h | h | h | h
  · rw [evStep_0 s z h]; exact Aw1.refl _
  · rw [evStep_1 s z h]; exact aw1_store _ _ _
  · rw [evStep_2 s z h]; exact aw1_load _ _
  · rw [evStep_3 s z h]; exact aw1_load _ _
  · rw [evStep_4 s z h]; exact aw1_load _ _
  · rw [evStep_5 s z h]; exact aw1_load _ _
  · rw [evStep_6 s z h]; exact aw1_store _ _ _
  · rw [evStep_7 s z h]; exact aw1_add _ _ _
  · rw [evStep_8 s z h]
    obtain ⟨a, b⟩ := outStep_aw (evSpot z) s z.o
    dsimp only
    by_cases e : z.o.ln = 1
    · rw [if_pos e]; refine Aw1.note a b _ _ _ _ _ _ ?_ ?_ <;> decide
    · rw [if_neg e]; exact a
  · rw [evStep_9 s z h]; exact aw1_add _ _ _
  · rw [evStep_10 s z h]; exact aw1_add _ _ _
  · rw [evStep_11 s z h]
    dsimp only
    by_cases e : z.ref = 0
    · rw [if_pos e]; refine Aw1.note (aw1_store _ _ _) rfl _ _ _ _ _ _ ?_ ?_ <;> decide
    · rw [if_neg e]; refine Aw1.note (aw1_store _ _ _) rfl _ _ _ _ _ _ ?_ ?_ <;> decide
  · rw [evStep_12 s z h]; exact aw1_store _ _ _
structure Hop where
  x : Nat
  R : Nat
  z : Evm
structure HopAt (w : World) (G : Om) (k : Nat) (q : Hop) : Prop where
  e : EvAt w G k q.x q.z
  r : ReAt w G (k + 6) q.R q.z
  ok : EvOk q.z
theorem HopAt.ext {S : Nat → Prop} {O O' : Om} {w w' : World} {k : Nat} {q : Hop} (h : HopAt w O k q) (e : Ext S O w O' w') (hs : ∀ t, k ≤ t → t < k + 10 → ¬ S t) : HopAt w' O' k q :=
  ⟨h.e.ext e (fun t h1 h2 => hs t h1 (by omega)), h.r.ext e (hs _ (by omega) (by omega)) (hs _ (by omega) (by omega)) (hs _ (by omega) (by omega)) (hs _ (by omega) (by omega)), h.ok⟩
theorem HopAt.below {O : Om} {w w' : World} {k : Nat} {q : Hop} (h : HopAt w O k q) (hb : Below w.heap.size w w') : HopAt w' O k q := ⟨h.e.below hb, h.r.below hb, h.ok⟩
def HK : OpK Hop := ⟨fun q => q.x, fun q => q.R, HopAt, 10, fun h e hs => h.ext e hs⟩
/-- A step of one Evict of both sides, the document's first. -/
theorem QI.evict {E : TypeId} {w0 w w1 w2 : World} {B C : Wb} {f : Cf} {N k i : Nat} {vo : Value} {G G1 G2 : Om} {s : AW} {m : Nat} {l : List Hop} {q : Hop} (h : QI HK E w0 B C f N k w vo G s m l) (hi : l[i]? = some q)
    (e1 : Ext (SD (17 + 10 * i) (17 + 10 * i + 3)) G w G1 w1) (r1 : RW w1 G1 C f (evStep (s, q.z)).1 (m + 1)) (x1 : ReAt w1 G1 (17 + 10 * i) q.R (evStep (s, q.z)).2)
    (e2 : Ext (SX (11 + 10 * i) (11 + 10 * i + 5)) G1 w1 G2 w2) (p2 : PW w2 G2 B f (evStep (s, q.z)).1) (x2 : EvAt w2 G2 (11 + 10 * i) q.x (evStep (s, q.z)).2) :
    ∃ q' : Hop, HopAt w2 G2 (11 + 10 * i) q' ∧ q'.x = q.x ∧ q'.R = q.R ∧ q'.z = (evStep (s, q.z)).2 ∧ QI HK E w0 B C f N (k + 1) w2 vo G2 (evStep (s, q.z)).1 (m + 1) (l.set i q') := by
  have h0 : HopAt w G (11 + 10 * i) q := h.ops i q hi
  have a := evStep_aw s q.z h0.ok.l0 h0.ok.l1
  have hb : opb HK.wd i = 11 + 10 * i := rfl
  have hq : HopAt w2 G2 (11 + 10 * i) ⟨q.x, q.R, (evStep (s, q.z)).2⟩ := ⟨x2, by
    have := x1.ext e2 (SX.not (by omega) (by omega)) (SX.not (by omega) (by omega)) (SX.not (by omega) (by omega)) (SX.not (by omega) (by omega))
    show ReAt w2 G2 (11 + 10 * i + 6) q.R _
    rwa [show 11 + 10 * i + 6 = 17 + 10 * i by omega], evStep_ok h.pr.p.bd h0.ok⟩
  have E12 : Ext (SO (opb HK.wd i) HK.wd) G w G2 w2 := by
    rw [hb]
    refine (e1.mono ?_).trans (e2.mono ?_)
    · intro t _ ht; show SO (11 + 10 * i) 10 t; unfold SD SR at ht; unfold SO; omega
    · intro t _ ht; show SO (11 + 10 * i) 10 t; unfold SX at ht; unfold SO; omega
  refine ⟨_, hq, rfl, rfl, rfl, h.step hi E12 ⟨p2, r1.ext e2 (SX.not (by omega) (by omega)) (SX.not (by omega) (by omega)) (SX.not (by omega) (by omega)) (SX.not (by omega) (by omega))⟩ (by rw [hb]; exact hq) rfl rfl (by have := h.n0; have := a.n0; omega) (by have := a.n1; omega) (by omega) (by rw [a.it]; omega) (by have := a.nt; omega) ?_⟩
  intro x hx
  rcases a.nk x hx with g | g
  · exact h.hnk x g
  · exact g
end Go.Proofs.YtlcibfpibklbdaaGreat
