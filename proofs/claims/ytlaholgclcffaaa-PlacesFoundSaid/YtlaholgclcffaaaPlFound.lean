/- Layer 8: a key has one or two places in each table that counts; from each the other one is found by the tag alone. -/
import Derived.Test.YtlaholgclcffaaaPlOfLaws
import Derived.Deep.DeepCutAuto
namespace Go.Proofs.Ytlaholgclcffaaa
open Go.RowKit
set_option linter.unusedVariables false

theorem plOnce_sub (l : List (Int × Int)) : ∀ out, ∃ s, l.foldl plAdd out = out ++ s ∧ s.Sublist l := by
  induction l with
  | nil => intro out; exact ⟨[], by simp⟩
  | cons a l ih =>
    intro out
    obtain ⟨s, h1, h2⟩ := ih (plAdd out a)
    rw [List.foldl_cons, h1]
    unfold plAdd
    split
    · exact ⟨s, rfl, h2.cons a⟩
    · exact ⟨a :: s, by simp, h2.cons_cons a⟩
theorem plOnce_mem (l : List (Int × Int)) (p : Int × Int) : p ∈ plOnce l ↔ p ∈ l := by
  suffices ∀ out, p ∈ l.foldl plAdd out ↔ p ∈ out ∨ p ∈ l by simpa [plOnce] using this []
  induction l with
  | nil => intro out; simp
  | cons a l ih =>
    intro out
    rw [List.foldl_cons, ih]
    unfold plAdd
    split
    · rename_i h
      constructor
      · rintro (h1 | h1)
        · exact .inl h1
        · exact .inr (List.mem_cons_of_mem _ h1)
      · rintro (h1 | h1)
        · exact .inl h1
        · rcases List.mem_cons.1 h1 with rfl | h2
          · exact .inl h
          · exact .inr h2
    · simp only [List.mem_append, List.mem_singleton, List.mem_cons, List.not_mem_nil, or_assoc, false_or]
/-- What PlacesFound says of a key's places, in plain words. -/
structure PlGood (h o : Int) (grows : Bool) (L : List (Int × Int)) : Prop where
  pos : 0 < L.length
  le : L.length ≤ 4
  one : grows = false → L.length ≤ 2
  two : grows = true → 2 ≤ L.length
  bits : ∀ p ∈ L, 1 ≤ p.1 ∧ p.1 ≤ 12 ∧ 0 ≤ p.2 ∧ p.2 < fnvSize p.1
  up : ∀ i j : Nat, (hi : i < L.length) → (hj : j < L.length) → i ≤ j → L[i].1 ≤ L[j].1
  other : ∀ p ∈ L, (p.1, fnvOther p.2 (fnvTag h) p.1) ∈ L
  first : ∃ hp : 0 < L.length, L[0] = (o, fnvBucket h o)
theorem plGood (h o : Int) (h0 : 0 ≤ h) (h1 : h < 18446744073709551616) (o0 : 1 ≤ o) (o1 : o ≤ 11) (grows : Bool) :
    PlGood h o grows (plPlaces h (plWord o (if grows then o + 1 else 0))) := by
  have ht := fnvTag_bd h h0 h1
  have hb := fnvBucket_bd (h := h) o0 (show o ≤ 12 by omega)
  have hb' := fnvBucket_bd (h := h) (b := o + 1) (by omega) (by omega)
  have ob := fnvOther_bd (k := fnvBucket h o) (t := fnvTag h) (b := o) (by omega)
  have ob' := fnvOther_bd (k := fnvBucket h (o + 1)) (t := fnvTag h) (b := o + 1) (by omega)
  have bk := fnvOther_back (k := fnvBucket h o) (t := fnvTag h) (b := o) (by omega)
  have bk' := fnvOther_back (k := fnvBucket h (o + 1)) (t := fnvTag h) (b := o + 1) (by omega)
  have hold : plOld (plWord o (if grows then o + 1 else 0)) = o := old_word o0 (by omega) (by split <;> omega) (by split <;> omega)
  have hnow : plNow (plWord o (if grows then o + 1 else 0)) = if grows then o + 1 else 0 := by
    cases grows
    · exact now_word0 o0 (by omega)
    · exact now_word o0 o1 rfl
  obtain ⟨M, hM⟩ : ∃ M, M = plPair h o ++ plPair h (if grows then o + 1 else 0) := ⟨_, rfl⟩
  have hL : plPlaces h (plWord o (if grows then o + 1 else 0)) = plOnce M := by unfold plPlaces; rw [hold, hnow, hM]
  have hMs : ∃ T, M = (o, fnvBucket h o) :: (o, fnvOther (fnvBucket h o) (fnvTag h) o) :: T ∧ (grows = false → T = []) ∧ (grows = true → T = [(o + 1, fnvBucket h (o + 1)), (o + 1, fnvOther (fnvBucket h (o + 1)) (fnvTag h) (o + 1))]) := by
    refine ⟨plPair h (if grows then o + 1 else 0), by rw [hM, plPair_in o0 (by omega)]; rfl, fun hg => ?_, fun hg => ?_⟩
    · rw [hg]; exact plPair_out (by simp)
    · rw [hg]; exact plPair_in (by simp; omega) (by simp; omega)
  obtain ⟨T, hT, hT0, hT1⟩ := hMs
  have hmem : ∀ p, p ∈ plOnce M ↔ p ∈ M := plOnce_mem M
  have hsub : ∃ s, plOnce M = (o, fnvBucket h o) :: s ∧ s.Sublist ((o, fnvOther (fnvBucket h o) (fnvTag h) o) :: T) := by
    obtain ⟨s, e1, e2⟩ := plOnce_sub ((o, fnvOther (fnvBucket h o) (fnvTag h) o) :: T) [(o, fnvBucket h o)]
    exact ⟨s, by rw [hT]; exact e1, e2⟩
  obtain ⟨s, hs, hss⟩ := hsub
  rw [hL]
  have hpw : M.Pairwise fun p q => p.1 ≤ q.1 := by
    cases hg : grows
    · rw [hT, hT0 hg]; simp
    · rw [hT, hT1 hg]; simp; omega
  have hpw' : (plOnce M).Pairwise fun p q => p.1 ≤ q.1 := by
    rw [hs]
    refine List.Pairwise.sublist (List.Sublist.cons_cons _ hss) ?_
    rw [← hT]; exact hpw
  have hin : ∀ p ∈ M, p = (o, fnvBucket h o) ∨ p = (o, fnvOther (fnvBucket h o) (fnvTag h) o) ∨ grows = true ∧ (p = (o + 1, fnvBucket h (o + 1)) ∨ p = (o + 1, fnvOther (fnvBucket h (o + 1)) (fnvTag h) (o + 1))) := by
    intro p hp
    rw [hT] at hp
    cases hg : grows
    · rw [hT0 hg] at hp; simp at hp; rcases hp with h | h <;> simp [h]
    · rw [hT1 hg] at hp; simp at hp; rcases hp with h | h | h | h <;> simp [h]
  have hin1 : (o, fnvBucket h o) ∈ M := by rw [hT]; simp
  have hin2 : (o, fnvOther (fnvBucket h o) (fnvTag h) o) ∈ M := by rw [hT]; simp
  have hin3 : grows = true → (o + 1, fnvBucket h (o + 1)) ∈ M := by intro hg; rw [hT, hT1 hg]; simp
  have hin4 : grows = true → (o + 1, fnvOther (fnvBucket h (o + 1)) (fnvTag h) (o + 1)) ∈ M := by intro hg; rw [hT, hT1 hg]; simp
  have hlen : (plOnce M).length ≤ M.length := plOnce_len M
  have hM0 : grows = false → M.length = 2 := fun hg => by rw [hT, hT0 hg]; rfl
  have hM1 : grows = true → M.length = 4 := fun hg => by rw [hT, hT1 hg]; rfl
  refine ⟨by rw [hs]; simp, ?_, fun hg => ?_, fun hg => ?_, fun p hp => ?_, fun i j hi hj hij => ?_, fun p hp => ?_, ⟨by rw [hs]; simp, by simp [hs]⟩⟩
  · cases hg : grows
    · have := hM0 hg; omega
    · have := hM1 hg; omega
  · have := hM0 hg; omega
  · have h3 := (hmem _).2 (hin3 hg)
    rw [hs] at h3 ⊢
    rcases List.mem_cons.1 h3 with h4 | h4
    · have := congrArg Prod.fst h4
      simp at this
      omega
    · have := List.length_pos_of_mem h4
      simp; omega
  · rcases hin p ((hmem p).1 hp) with rfl | rfl | ⟨_, rfl | rfl⟩ <;> simp <;> omega
  · rcases Nat.lt_or_ge i j with h | h
    · exact (List.pairwise_iff_getElem.1 hpw') i j hi hj h
    · obtain rfl : i = j := by omega
      exact Int.le_refl _
  · rw [hmem]
    rcases hin p ((hmem p).1 hp) with rfl | rfl | ⟨hg, rfl | rfl⟩
    · exact hin2
    · simp only [bk]; exact hin1
    · exact hin4 hg
    · simp only [bk']; exact hin3 hg
end Go.Proofs.Ytlaholgclcffaaa
