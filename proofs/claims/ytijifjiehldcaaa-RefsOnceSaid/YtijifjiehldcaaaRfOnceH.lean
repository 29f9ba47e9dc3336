/- Layer 22: the readers' arrays, in memory. -/
import Derived.Test.YtijifjiehldcaaaRfOnceP
import Derived.Test.YtijifjiehldcaaaSl
namespace Go.Proofs.Ytijifjiehldcaaa
open Go.RowKit
set_option linter.unusedVariables false

def tptr : Option (Nat × Tc) → Value
  | some (x, _) => .pointer (some ⟨x, 0, none⟩)
  | none => .pointer none
structure RO (w0 w : World) (F : Nat → Prop) (p c : Nat) (M : Int → Int) (n : Int) (la : La) (a b d : Nat) (T : Nat → Option (Nat × Tc)) (ld : Nat → Int) (hs : Nat → Bool) : Prop where
  lw : Lw w0 w F p c M n la
  ca : ∀ k, k < 8 → w.cell? ⟨a, k, none⟩ = some (tptr (T k))
  cb : ∀ k, k < 8 → w.cell? ⟨b, k, none⟩ = some (.int .u64 (ld k))
  cd : ∀ k, k < 8 → w.cell? ⟨d, k, none⟩ = some (.bool (hs k))
  fa : ∀ j, w.frozen? ⟨a, j, none⟩ = false
  fb : ∀ j, w.frozen? ⟨b, j, none⟩ = false
  fd : ∀ j, w.frozen? ⟨d, j, none⟩ = false
  la' : a < w.heap.size ∧ b < w.heap.size ∧ d < w.heap.size
  na : ¬ F a ∧ ¬ F b ∧ ¬ F d
  pa : a ≠ p ∧ b ≠ p ∧ d ≠ p
  ab : a ≠ b ∧ a ≠ d ∧ b ≠ d
  ba : w0.heap.size ≤ a ∧ w0.heap.size ≤ b ∧ w0.heap.size ≤ d
  tk : ∀ k, k < 8 → ∀ x t, T k = some (x, t) → Tk w F x t ∧ x ≠ p ∧ x ≠ a ∧ x ≠ b ∧ x ≠ d ∧ w0.heap.size ≤ x
  inj : ∀ k j, k < 8 → j < 8 → ∀ x t u, T k = some (x, t) → T j = some (x, u) → k = j
section
variable {w0 w w1 : World} {F F1 : Nat → Prop} {p c a b d : Nat} {M M1 : Int → Int} {n n1 : Int} {la la1 : La} {T : Nat → Option (Nat × Tc)} {ld : Nat → Int} {hs : Nat → Bool}
/-- Behind what writes the blocks S besides those of F. -/
theorem RO.on {S : Nat → Prop} (h : RO w0 w F p c M n la a b d T ld hs) (l1 : Lw w0 w1 F1 p c M1 n1 la1) (g : Grow w F w1 F1) (v : Wrote S w w1) (hS : ¬ S a ∧ ¬ S b ∧ ¬ S d ∧ ∀ k, k < 8 → ∀ x t, T k = some (x, t) → ¬ S x) : RO w0 w1 F1 p c M1 n1 la1 a b d T ld hs := by
  have hl := h.la'
  have hz := v.size
  have new : ∀ j, j < w.heap.size → ¬ F j → ¬ F1 j := fun j hj hn hf => (g.new j hf).elim hn fun h2 => by omega
  exact ⟨l1, fun k hk => (v.cell (p := ⟨a, k, none⟩) hl.1 hS.1).trans (h.ca k hk), fun k hk => (v.cell (p := ⟨b, k, none⟩) hl.2.1 hS.2.1).trans (h.cb k hk), fun k hk => (v.cell (p := ⟨d, k, none⟩) hl.2.2 hS.2.2.1).trans (h.cd k hk),
    fun j => (v.frozen (p := ⟨a, j, none⟩) hl.1 hS.1).trans (h.fa j), fun j => (v.frozen (p := ⟨b, j, none⟩) hl.2.1 hS.2.1).trans (h.fb j), fun j => (v.frozen (p := ⟨d, j, none⟩) hl.2.2 hS.2.2.1).trans (h.fd j),
    ⟨by omega, by omega, by omega⟩, ⟨new a hl.1 h.na.1, new b hl.2.1 h.na.2.1, new d hl.2.2 h.na.2.2⟩, h.pa, h.ab, h.ba, fun k hk x t hT => ⟨(h.tk k hk x t hT).1.on g v (hS.2.2.2 k hk x t hT), (h.tk k hk x t hT).2⟩, h.inj⟩
theorem RO.ce (h : RO w0 w F p c M n la a b d T ld hs) (l1 : Lw w0 w1 F1 p c M1 n1 la1) (g : Grow w F w1 F1) (v : Wrote F w w1) : RO w0 w1 F1 p c M1 n1 la1 a b d T ld hs :=
  h.on l1 g v ⟨h.na.1, h.na.2.1, h.na.2.2, fun k hk x t hT => (h.tk k hk x t hT).1.tn⟩
theorem RO.go (h : RO w0 w F p c M n la a b d T ld hs) (hb : Below w.heap.size w w1) : RO w0 w1 F p c M n la a b d T ld hs :=
  h.on (S := fun _ => False) (h.lw.go hb) ⟨fun j hj => Nat.lt_of_lt_of_le (h.lw.ce.lts j hj) hb.size, fun _ h => h, fun _ h => .inl h⟩ (Wrote.of_below hb) ⟨id, id, id, fun _ _ _ _ _ => id⟩
theorem Lw.set (h : Lw w0 w F p c M n la) (x j : Nat) (v : Value) (hx : ¬ F x) (hp : x ≠ p) (hb : w0.heap.size ≤ x) : Lw w0 (w.setCell ⟨x, j, none⟩ v) F p c M n la := by
  have hw := wrote_set w x j v
  exact ⟨h.ce.wrote hw (fun k hk e => by subst e; exact hx hk), (hw.cell (p := ⟨p, 0, none⟩) h.pl (fun e => hp e.symm)).trans h.hp, Nat.lt_of_lt_of_le h.pl hw.size, h.pn, h.base, h.pb, h.bel.setCell (p := ⟨x, j, none⟩) hb _⟩
theorem RO.setB (h : RO w0 w F p c M n la a b d T ld hs) (k : Nat) (hk : k < 8) (v : Int) : RO w0 (w.setCell ⟨b, k, none⟩ (.int .u64 v)) F p c M n la a b d T (ldAt ld k v) hs := by
  have hw := wrote_set w b k (.int .u64 v)
  have hl := h.la'
  have hz := hw.size
  refine ⟨h.lw.set b k _ h.na.2.1 h.pa.2.1 h.ba.2.1, fun j hj => (hw.cell (p := ⟨a, j, none⟩) hl.1 h.ab.1).trans (h.ca j hj), fun j hj => ?_, fun j hj => (hw.cell (p := ⟨d, j, none⟩) hl.2.2 (Ne.symm h.ab.2.2)).trans (h.cd j hj), fun j => (World.frozen?_setCell _ _ _ _).trans (h.fa j), fun j => (World.frozen?_setCell _ _ _ _).trans (h.fb j), fun j => (World.frozen?_setCell _ _ _ _).trans (h.fd j), ⟨by omega, by omega, by omega⟩, h.na, h.pa, h.ab, h.ba, fun j hj x t hT => ?_, h.inj⟩
  · unfold ldAt
    split
    · rename_i e
      subst e
      exact World.cell?_setCell_same _ _ _ (h.cb j hj)
    · rename_i e
      exact (World.cell?_setCell_other _ _ _ _ (fun h2 => e (by injection h2 with h3 h4; exact h4.symm))).trans (h.cb j hj)
  · obtain ⟨h1, h2, h3, h4, h5⟩ := h.tk j hj x t hT
    exact ⟨⟨h1.ta.wrote hw h4, h1.tn⟩, h2, h3, h4, h5⟩
theorem RO.setD (h : RO w0 w F p c M n la a b d T ld hs) (k : Nat) (hk : k < 8) (v : Bool) : RO w0 (w.setCell ⟨d, k, none⟩ (.bool v)) F p c M n la a b d T ld (hsAt hs k v) := by
  have hw := wrote_set w d k (.bool v)
  have hl := h.la'
  have hz := hw.size
  refine ⟨h.lw.set d k _ h.na.2.2 h.pa.2.2 h.ba.2.2, fun j hj => (hw.cell (p := ⟨a, j, none⟩) hl.1 h.ab.2.1).trans (h.ca j hj), fun j hj => (hw.cell (p := ⟨b, j, none⟩) hl.2.1 h.ab.2.2).trans (h.cb j hj), fun j hj => ?_, fun j => (World.frozen?_setCell _ _ _ _).trans (h.fa j), fun j => (World.frozen?_setCell _ _ _ _).trans (h.fb j), fun j => (World.frozen?_setCell _ _ _ _).trans (h.fd j), ⟨by omega, by omega, by omega⟩, h.na, h.pa, h.ab, h.ba, fun j hj x t hT => ?_, h.inj⟩
  · unfold hsAt
    split
    · rename_i e
      subst e
      exact World.cell?_setCell_same _ _ _ (h.cd j hj)
    · rename_i e
      exact (World.cell?_setCell_other _ _ _ _ (fun h2 => e (by injection h2 with h3 h4; exact h4.symm))).trans (h.cd j hj)
  · obtain ⟨h1, h2, h3, h4, h5⟩ := h.tk j hj x t hT
    exact ⟨⟨h1.ta.wrote hw h5.1, h1.tn⟩, h2, h3, h4, h5⟩
/-- A new Touch is put into the array. -/
theorem RO.setA (h : RO w0 w F p c M n la a b d T ld hs) (k : Nat) (hk : k < 8) (x : Nat) (t : Tc) (l1 : Lw w0 w1 F p c M n la) (k1 : Tk w1 F x t) (xp : x ≠ p) (xb : w0.heap.size ≤ x) (xs : w.heap.size ≤ x) (hb : Below w.heap.size w w1) : RO w0 (w1.setCell ⟨a, k, none⟩ (.pointer (some ⟨x, 0, none⟩))) F p c M n la a b d (tAt T k x t) ld hs := by
  have h1 := h.go hb
  have hw := wrote_set w1 a k (.pointer (some ⟨x, 0, none⟩))
  have hl0 := h.la'
  have hl := h1.la'
  have hz := hw.size
  refine ⟨l1.set a k _ h1.na.1 h1.pa.1 h1.ba.1, fun j hj => ?_, fun j hj => (hw.cell (p := ⟨b, j, none⟩) hl.2.1 (Ne.symm h1.ab.1)).trans (h1.cb j hj), fun j hj => (hw.cell (p := ⟨d, j, none⟩) hl.2.2 (Ne.symm h1.ab.2.1)).trans (h1.cd j hj), fun j => (World.frozen?_setCell _ _ _ _).trans (h1.fa j), fun j => (World.frozen?_setCell _ _ _ _).trans (h1.fb j), fun j => (World.frozen?_setCell _ _ _ _).trans (h1.fd j), ⟨by omega, by omega, by omega⟩, h1.na, h1.pa, h1.ab, h1.ba, fun j hj y u hT => ?_, fun j i hj hi y u u2 hT hT2 => ?_⟩
  · unfold tAt
    split
    · rename_i e
      subst e
      exact World.cell?_setCell_same _ _ _ (h1.ca j hj)
    · rename_i e
      exact (World.cell?_setCell_other _ _ _ _ (fun h2 => e (by injection h2 with h3 h4; exact h4.symm))).trans (h1.ca j hj)
  · unfold tAt at hT
    split at hT
    · cases hT
      exact ⟨⟨k1.ta.wrote hw (by show ¬ x = a; omega), k1.tn⟩, xp, by omega, by omega, by omega, xb⟩
    · obtain ⟨g1, g2, g3, g4, g5⟩ := h1.tk j hj y u hT
      exact ⟨⟨g1.ta.wrote hw g3, g1.tn⟩, g2, g3, g4, g5⟩
  · unfold tAt at hT hT2
    split at hT
    · rename_i e
      split at hT2
      · rename_i e2; omega
      · cases hT
        have := (h.tk i hi x u2 hT2).1.ta.lt
        omega
    · split at hT2
      · cases hT2
        have := (h.tk j hj x u hT).1.ta.lt
        omega
      · exact h.inj j i hj hi y u u2 hT hT2
/-- A Touch of the array has taken a step. -/
theorem RO.stepped (h : RO w0 w F p c M n la a b d T ld hs) (k : Nat) (hk : k < 8) (x : Nat) (t : Tc) (hT : T k = some (x, t)) {z : TM} {v : Value} {e : Ending} (hp : TSPost w F p c x z v e w1) :
    e = .returned v ∧ ∃ F', RO w0 w1 F' p c z.M z.n z.la a b d (tAt T k x z.t) ld hs := by
  obtain ⟨g1, g2, g3, g4, g5, g6⟩ := h.tk k hk x t hT
  obtain ⟨rfl, F', l1, ta1, tn1, tp1, gr, wr⟩ := h.lw.ts_post g6 hp
  refine ⟨rfl, F', ?_⟩
  have hl := h.la'
  have hz := wr.size
  have new : ∀ j, j < w.heap.size → ¬ F j → ¬ F' j := fun j hj hn hf => (gr.new j hf).elim hn fun h2 => by omega
  have sa : ¬ (F a ∨ a = x) := fun e => e.elim h.na.1 fun e => g3 e.symm
  have sb : ¬ (F b ∨ b = x) := fun e => e.elim h.na.2.1 fun e => g4 e.symm
  have sd : ¬ (F d ∨ d = x) := fun e => e.elim h.na.2.2 fun e => g5 e.symm
  refine ⟨l1, fun j hj => ?_, fun j hj => (wr.cell (p := ⟨b, j, none⟩) hl.2.1 sb).trans (h.cb j hj), fun j hj => (wr.cell (p := ⟨d, j, none⟩) hl.2.2 sd).trans (h.cd j hj),
    fun j => (wr.frozen (p := ⟨a, j, none⟩) hl.1 sa).trans (h.fa j), fun j => (wr.frozen (p := ⟨b, j, none⟩) hl.2.1 sb).trans (h.fb j), fun j => (wr.frozen (p := ⟨d, j, none⟩) hl.2.2 sd).trans (h.fd j),
    ⟨by omega, by omega, by omega⟩, ⟨new a hl.1 h.na.1, new b hl.2.1 h.na.2.1, new d hl.2.2 h.na.2.2⟩, h.pa, h.ab, h.ba, fun j hj y u hu => ?_, fun j i hj hi y u u2 hu hu2 => ?_⟩
  · refine (wr.cell (p := ⟨a, j, none⟩) hl.1 sa).trans ((h.ca j hj).trans ?_)
    unfold tAt
    split
    · rename_i e; subst e; rw [hT]; rfl
    · rfl
  · unfold tAt at hu
    split at hu
    · cases hu
      exact ⟨⟨ta1, tn1⟩, g2, g3, g4, g5, g6⟩
    · rename_i ej
      obtain ⟨q1, q2, q3, q4, q5⟩ := h.tk j hj y u hu
      exact ⟨q1.on gr wr fun e => e.elim q1.tn fun e2 => by subst e2; exact ej (h.inj j k hj hk _ u t hu hT), q2, q3, q4, q5⟩
  · unfold tAt at hu hu2
    split at hu
    · rename_i e
      split at hu2
      · rename_i e2; omega
      · cases hu
        exact e.trans (h.inj k i hk hi _ t u2 hT hu2)
    · split at hu2
      · rename_i e
        cases hu2
        exact (h.inj j k hj hk _ u t hu hT).trans e.symm
      · exact h.inj j i hj hi y u u2 hu hu2
end
end Go.Proofs.Ytijifjiehldcaaa
