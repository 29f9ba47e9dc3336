/- Layer 23: HandsReaders: the readers' touches in memory. -/
import Derived.Test.YtlcibfpibklbdaaGreatHwW
import Derived.Test.YtlcibfpibklbdaaGreatHnR
import Derived.Test.YtlcibfpibklbdaaGreatTcP
import Derived.Test.YtlcibfpibklbdaaGreatHm
namespace Go.Proofs.YtlcibfpibklbdaaGreat
set_option linter.unusedSimpArgs false
open Go.RowKit Go.Shelf
set_option linter.unusedVariables false
/-- An array of six touches. -/
def tsC (xs : Nat → Option Nat) : List Value := (List.range 6).map fun j => .pointer ((xs j).map fun x => ⟨x, 0, none⟩)
theorem tsC_len (xs : Nat → Option Nat) : (tsC xs).length = 6 := by unfold tsC; rw [List.length_map, List.length_range]
theorem tsC_get {xs : Nat → Option Nat} {j : Nat} (hj : j < 6) : (tsC xs)[j]? = some (.pointer ((xs j).map fun x => ⟨x, 0, none⟩)) := by unfold tsC; rw [List.getElem?_map, List.getElem?_range hj]; rfl
def setX (xs : Nat → Option Nat) (i x : Nat) : Nat → Option Nat := fun j => if j = i then some x else xs j
theorem tsC_set {xs : Nat → Option Nat} {i x : Nat} (hi : i < 6) : (tsC xs).set i (.pointer (some ⟨x, 0, none⟩)) = tsC (setX xs i x) := by
  refine List.ext_getElem? fun j => ?_
  rw [List.getElem?_set, tsC_len]
  by_cases hj : j < 6
  · rw [tsC_get hj, tsC_get hj]
    unfold setX
    by_cases c : i = j
    · subst c; rw [if_pos rfl, if_pos hi, if_pos rfl]; rfl
    · rw [if_neg c, if_neg (fun e => c e.symm)]
  · rw [List.getElem?_eq_none (by rw [tsC_len]; omega), if_neg (by omega), List.getElem?_eq_none (by rw [tsC_len]; omega)]
/-- One touch: not there, or in its block. -/
def T1At (W : World) (G : Om) (j : Nat) (x : Option Nat) (t : Tc) : Prop :=
  (x = none ∧ t.at_ = 0) ∨ ∃ b, x = some b ∧ TAt W b t ∧ G b = 61 + j ∧ t.ok
structure TsAt (W : World) (G : Om) (N : Nat) (xs : Nat → Option Nat) (T : Nat → Tc) : Prop where
  ob : Ob W G 60 N (tsC xs)
  ts : ∀ j, j < 6 → T1At W G j (xs j) (T j)
section
variable {W W' : World} {G G' : Om} {N : Nat} {xs : Nat → Option Nat} {T : Nat → Tc} {S : Nat → Prop}
theorem TsAt.ext (h : TsAt W G N xs T) (e : Ext S G W G' W') (h0 : ¬ S 60) (hs : ∀ j, j < 6 → ¬ S (61 + j)) : TsAt W' G' N xs T := by
  refine ⟨h.ob.ext e h0, fun j hj => ?_⟩
  rcases h.ts j hj with k | ⟨b, h1, h2, h3, h4⟩
  · exact .inl k
  · exact .inr ⟨b, h1, h2.ext e (by rw [h3]; exact hs j hj), (e.lo b h2.lt).trans h3, h4⟩
theorem TsAt.below (h : TsAt W G N xs T) (hb : Below W.heap.size W W') : TsAt W' G N xs T := by
  refine ⟨h.ob.below hb, fun j hj => ?_⟩
  rcases h.ts j hj with k | ⟨b, h1, h2, h3, h4⟩
  · exact .inl k
  · exact .inr ⟨b, h1, h2.below hb, h3, h4⟩
/-- A touch took a step. -/
theorem TsAt.step (h : TsAt W G N xs T) {i b : Nat} (hi : i < 6) (hx : xs i = some b) {t : Tc} (e : Ext (SX (61 + i) (61 + i)) G W G' W') (ht : TAt W' b t) (hg : G' b = 61 + i) (hok : t.ok) : TsAt W' G' N xs (setT T i t) := by
  refine ⟨h.ob.ext e (fun k => by rcases k with k | k <;> omega), fun j hj => ?_⟩
  unfold setT
  by_cases c : j = i
  · subst c; rw [if_pos rfl]; exact .inr ⟨b, hx, ht, hg, hok⟩
  · rw [if_neg c]
    rcases h.ts j hj with k | ⟨b2, h1, h2, h3, h4⟩
    · exact .inl k
    · exact .inr ⟨b2, h1, h2.ext e (by rw [h3]; intro k; rcases k with k | k <;> omega), (e.lo b2 h2.lt).trans h3, h4⟩
/-- A new one. -/
theorem TsAt.new (h : TsAt W G N xs T) {i b : Nat} (hi : i < 6) {t : Tc} (e : Ext (fun t => t = 61 + i) G W G' W') (ht : TAt W' b t) (hg : G' b = 61 + i) (hok : t.ok) :
    TsAt (W'.setCell ⟨N, i, none⟩ (.pointer (some ⟨b, 0, none⟩))) G' N (setX xs i b) (setT T i t) := by
  have h0 := h.ob.ext e (fun k => by omega)
  have e2 : Ext (fun t => t = 60) G' W' G' (W'.setCell ⟨N, i, none⟩ (.pointer (some ⟨b, 0, none⟩))) := Ext.of_set (S := fun t => t = 60) e.hi h0.o (show (60 : Nat) ≠ 0 by decide) rfl
  refine ⟨?_, fun j hj => ?_⟩
  · have := h0.set i (.pointer (some ⟨b, 0, none⟩)) (by rw [tsC_len]; exact hi)
    rw [tsC_set hi] at this
    exact this
  · unfold setT setX
    by_cases c : j = i
    · subst c; rw [if_pos rfl, if_pos rfl]; exact .inr ⟨b, rfl, ht.ext e2 (by rw [hg]; omega), hg, hok⟩
    · rw [if_neg c, if_neg c]
      rcases h.ts j hj with k | ⟨b2, h1, h2, h3, h4⟩
      · exact .inl k
      · have h5 := h2.ext e (by rw [h3]; omega)
        have h6 := (e.lo b2 h2.lt).trans h3
        exact .inr ⟨b2, h1, h5.ext e2 (by rw [h6]; omega), h6, h4⟩
end
theorem tcNew_ok (r : Int) (r0 : 1 ≤ r) (r1 : r ≤ 1000) : (tcNew (plRef r)).ok := by
  have h : plRef r = 4294967296 + r := by unfold plRef; rw [if_neg (by omega)]
  refine ⟨?_, ?_, by show (0 : Int) ≤ 0; decide, by show (0 : Int) < 18446744073709551616; decide, fun _ => .inl rfl⟩
  · show 0 ≤ plRef r; rw [h]; omega
  · show plRef r < _; rw [h]; omega
/-- How far the hand is, by the rounds that were run. -/
def HrT (i : Nat) (mu : Int) : Prop := mu ≤ 203 ∧ (400 ≤ i → mu + ((i - 400 + 3) / 4 : Nat) ≤ 203)
theorem HrT.more {i : Nat} {mu mu' : Int} (h : HrT i mu) (hd : mu' < mu) : HrT (i + 1) mu' := by
  refine ⟨by have := h.1; omega, fun hi => ?_⟩
  by_cases c : 400 ≤ i
  · have := h.2 c; omega
  · have e : (i + 1 - 400 + 3) / 4 = 0 := by omega
    have := h.1
    rw [e]
    omega
set_option maxRecDepth 100000 in
theorem HrT.same {i : Nat} {mu : Int} (h : HrT i mu) (hi : i < 400 ∨ i % 4 ≠ 0) : HrT (i + 1) mu := by
  refine ⟨h.1, fun h4 => ?_⟩
  by_cases c : 400 ≤ i
  · have := h.2 c; omega
  · have e : (i + 1 - 400 + 3) / 4 = 0 := by omega
    have := h.1
    rw [e]
    omega
theorem HrT.last {i : Nat} {mu : Int} (h : HrT i mu) (hi : i = 2000) (h0 : 0 ≤ mu) : False := by
  have e : (i - 400 + 3) / 4 = 400 := by omega
  have := h.2 (by omega)
  rw [e] at this
  omega
end Go.Proofs.YtlcibfpibklbdaaGreat
