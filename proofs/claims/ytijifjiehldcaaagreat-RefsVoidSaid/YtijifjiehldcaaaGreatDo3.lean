/- Contracts that other seats of ours hold too (taken by sub.py). -/
import Derived.Test.YtijifjiehldcaaaGreatDo2
namespace Go.Proofs.YtijifjiehldcaaaGreat
set_option linter.unusedSimpArgs false
open Go.RowKit
set_option linter.unusedVariables false
theorem plAdd_pos (l : List (Int × Int)) (p : Int × Int) : 0 < (plAdd l p).length := by
  unfold plAdd
  split
  · rename_i h
    exact List.length_pos_of_mem h
  · simp
theorem foldl_pos (l : List (Int × Int)) : ∀ out : List (Int × Int), 0 < out.length → 0 < (l.foldl plAdd out).length := by
  induction l with
  | nil => intro out h; exact h
  | cons a l ih => intro out h; exact ih _ (plAdd_pos _ _)
theorem plPlaces_pos (h x : Int) : 0 < (plPlaces h x).length := by
  have ho := plOld_bd x
  unfold plPlaces plOnce
  rw [plPair_in ho.1 ho.2]
  exact foldl_pos _ (plAdd [] _) (plAdd_pos _ _)
theorem plPlaces_le (h x : Int) : (plPlaces h x).length ≤ 4 := by
  unfold plPlaces
  refine Nat.le_trans (plOnce_len _) ?_
  have : ∀ b, (plPair h b).length ≤ 2 := by intro b; unfold plPair; split <;> simp
  have h1 := this (plOld x)
  have h2 := this (plNow x)
  rw [List.length_append]
  omega
theorem plOnce_mem (l : List (Int × Int)) (p : Int × Int) : p ∈ plOnce l ↔ p ∈ l := by
  suffices ∀ out, p ∈ l.foldl plAdd out ↔ p ∈ out ∨ p ∈ l by simpa [plOnce] using this []
  induction l with
  | nil => intro out; simp
  | cons a l ih =>
    intro out
    rw [List.foldl_cons, ih]
    unfold plAdd
    split
    · rename_i h
      constructor
      · rintro (h1 | h1)
        · exact .inl h1
        · exact .inr (List.mem_cons_of_mem _ h1)
      · rintro (h1 | h1)
        · exact .inl h1
        · rcases List.mem_cons.1 h1 with rfl | h2
          · exact .inl h
          · exact .inr h2
    · simp only [List.mem_append, List.mem_singleton, List.mem_cons, List.not_mem_nil, or_assoc, false_or]
theorem plPlaces_bd {h x : Int} (h0 : 0 ≤ h) (h1 : h < 18446744073709551616) {p : Int × Int} (hp : p ∈ plPlaces h x) : 1 ≤ p.1 ∧ p.1 ≤ 12 ∧ 0 ≤ p.2 ∧ p.2 < fnvSize p.1 := by
  have ht := fnvTag_bd h h0 h1
  have hq : ∀ b, p ∈ plPair h b → 1 ≤ p.1 ∧ p.1 ≤ 12 ∧ 0 ≤ p.2 ∧ p.2 < fnvSize p.1 := by
    intro b hb
    by_cases hc : 1 ≤ b ∧ b ≤ 12
    · have hk := fnvBucket_bd (h := h) hc.1 hc.2
      rw [plPair_in hc.1 hc.2] at hb
      simp only [List.mem_cons, List.not_mem_nil, or_false] at hb
      rcases hb with rfl | rfl
      · exact ⟨hc.1, hc.2, hk.1, hk.2⟩
      · have := fnvOther_bd (k := fnvBucket h b) (t := fnvTag h) (b := b) ⟨hk.1, hk.2, ht.1, ht.2⟩
        exact ⟨hc.1, hc.2, this.1, this.2⟩
    · rw [plPair_out (by omega)] at hb; cases hb
  unfold plPlaces at hp
  rw [plOnce_mem, List.mem_append] at hp
  rcases hp with hp | hp
  · exact hq _ hp
  · exact hq _ hp
end Go.Proofs.YtijifjiehldcaaaGreat
