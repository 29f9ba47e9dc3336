/- The document's cells, in plain Lean: a list of words that are not 0, by rising addresses. -/
import Derived.Test.YtijifjiehldcaaaGreatRfPlain
namespace Go.Proofs.YtijifjiehldcaaaGreat
set_option linter.unusedVariables false
set_option linter.unusedSimpArgs false

structure Wv where
  a : Int
  v : Int
def rlook (L : List Wv) (x : Int) : Int := ((L.find? fun d => d.a == x).map Wv.v).getD 0
/-- A word is put: how the list goes on, element by element. -/
def rgo (a v : Int) : Bool → List Wv → List Wv → List Wv
  | done, out, [] => if done then out else out ++ [⟨a, v⟩]
  | done, out, x :: r =>
    if (!done && decide (a ≤ x.a)) = true then
      if x.a = a then rgo a v true (out ++ [⟨a, v⟩]) r else rgo a v true (out ++ [⟨a, v⟩] ++ [x]) r
    else if x.a = a then rgo a v done out r else rgo a v done (out ++ [x]) r
def rins (a v : Int) : List Wv → List Wv
  | [] => [⟨a, v⟩]
  | x :: r => if a ≤ x.a then ⟨a, v⟩ :: (x :: r).filter (fun d => decide (d.a ≠ a)) else x :: rins a v r
def rput (a v : Int) (L : List Wv) : List Wv := if v = 0 then L.filter (fun d => decide (d.a ≠ a)) else rins a v L
theorem rgo_done (a v : Int) (L : List Wv) : ∀ out, rgo a v true out L = out ++ L.filter (fun d => decide (d.a ≠ a)) := by
  induction L with
  | nil => intro out; simp [rgo]
  | cons x r ih =>
    intro out
    unfold rgo
    by_cases h : x.a = a
    · simp [h, ih]
    · simp [h, ih]
theorem rgo_ins (a v : Int) (L : List Wv) : ∀ out, rgo a v false out L = out ++ rins a v L := by
  induction L with
  | nil => intro out; simp [rgo, rins]
  | cons x r ih =>
    intro out
    unfold rgo rins
    by_cases h1 : a ≤ x.a
    · by_cases h : x.a = a
      · simp [h1, h, rgo_done]
      · simp [h1, h, rgo_done]
    · have h : ¬ x.a = a := by omega
      simp [h1, h, ih]
theorem rgo_put (a v : Int) (L : List Wv) : rgo a v (v == 0) [] L = rput a v L := by
  unfold rput
  by_cases h : v = 0
  · have : (v == 0) = true := by simp [h]
    rw [this, if_pos h, rgo_done]; simp
  · have : (v == 0) = false := by simp [h]
    rw [this, if_neg h, rgo_ins]; simp
theorem rlook_cons (x : Wv) (L : List Wv) (y : Int) : rlook (x :: L) y = if x.a = y then x.v else rlook L y := by
  unfold rlook
  rw [List.find?_cons]
  by_cases h : x.a = y
  · simp [h]
  · have : (x.a == y) = false := by simpa using h
    simp [this, h]
theorem rlook_filter (a : Int) (L : List Wv) (y : Int) : rlook (L.filter fun d => decide (d.a ≠ a)) y = if y = a then 0 else rlook L y := by
  induction L with
  | nil => simp [rlook]
  | cons x r ih =>
    by_cases h : x.a = a
    · rw [List.filter_cons_of_neg (by simp [h]), ih, rlook_cons]
      by_cases hy : y = a
      · simp [hy]
      · simp [hy]; intro h2; omega
    · rw [List.filter_cons_of_pos (by simp [h]), rlook_cons, ih, rlook_cons]
      by_cases hy : y = a
      · subst hy; simp [h]
      · simp [hy]
theorem rlook_ins (a v : Int) (L : List Wv) (y : Int) : rlook (rins a v L) y = if y = a then v else rlook L y := by
  induction L with
  | nil =>
    unfold rins
    rw [rlook_cons]
    by_cases hy : y = a
    · simp [hy]
    · rw [if_neg (fun h => hy h.symm), if_neg hy]
  | cons x r ih =>
    unfold rins
    by_cases h1 : a ≤ x.a
    · rw [if_pos h1, rlook_cons, rlook_filter]
      by_cases hy : y = a
      · simp [hy]
      · rw [if_neg (fun h => hy h.symm), if_neg hy, if_neg hy]
    · rw [if_neg h1, rlook_cons, ih, rlook_cons]
      by_cases hy : y = a
      · subst hy; rw [if_neg (by omega)]; simp
      · simp [hy]
theorem rlook_put (a v : Int) (L : List Wv) (y : Int) : rlook (rput a v L) y = upd (rlook L) a v y := by
  unfold rput upd
  by_cases h : v = 0
  · rw [if_pos h, rlook_filter, h]
  · rw [if_neg h, rlook_ins]
/-- By rising addresses. -/
def Ris (L : List Wv) : Prop := L.Pairwise fun x y => x.a < y.a
def WvOk (x : Wv) : Prop := (0 ≤ x.a ∧ x.a < 18446744073709551616) ∧ 0 < x.v ∧ x.v < 18446744073709551616
theorem ris_filter {L : List Wv} (h : Ris L) (p : Wv → Bool) : Ris (L.filter p) := List.Pairwise.filter p h
theorem mem_rins {a v : Int} {L : List Wv} {x : Wv} (h : x ∈ rins a v L) : x = ⟨a, v⟩ ∨ x ∈ L := by
  induction L with
  | nil => unfold rins at h; exact .inl (List.mem_singleton.1 h)
  | cons y r ih =>
    unfold rins at h
    split at h
    · rcases List.mem_cons.1 h with h | h
      · exact .inl h
      · exact .inr ((List.mem_filter.1 h).1)
    · rcases List.mem_cons.1 h with h | h
      · exact .inr (by simp [h])
      · exact (ih h).imp id fun h => by simp [h]
theorem ris_ins (a v : Int) {L : List Wv} (h : Ris L) : Ris (rins a v L) := by
  induction L with
  | nil => unfold rins; simp [Ris]
  | cons y r ih =>
    have h1 : ∀ z ∈ r, y.a < z.a := (List.pairwise_cons.1 h).1
    have h2 : Ris r := (List.pairwise_cons.1 h).2
    unfold rins
    split
    · rename_i hle
      refine List.pairwise_cons.2 ⟨fun z hz => ?_, ris_filter h _⟩
      rw [List.mem_filter] at hz
      obtain ⟨hz1, hz2⟩ := hz
      have hne : z.a ≠ a := by simpa using hz2
      rcases List.mem_cons.1 hz1 with rfl | hz1
      · show a < z.a; omega
      · have := h1 z hz1; show a < z.a; omega
    · refine List.pairwise_cons.2 ⟨fun z hz => ?_, ih h2⟩
      rcases mem_rins hz with rfl | hz
      · show y.a < a; omega
      · exact h1 z hz
theorem ris_put (a v : Int) {L : List Wv} (h : Ris L) : Ris (rput a v L) := by
  unfold rput
  split
  · exact ris_filter h _
  · exact ris_ins a v h
theorem ok_put {a v : Int} {L : List Wv} (h : ∀ x ∈ L, WvOk x) (a0 : 0 ≤ a) (a1 : a < 18446744073709551616) (v0 : 0 ≤ v) (v1 : v < 18446744073709551616) : ∀ x ∈ rput a v L, WvOk x := by
  intro x hx
  unfold rput at hx
  split at hx
  · exact h x (List.mem_filter.1 hx).1
  · rcases mem_rins hx with rfl | hx
    · exact ⟨⟨a0, a1⟩, by show 0 < v; omega, v1⟩
    · exact h x hx
theorem len_ins (a v : Int) (L : List Wv) : (rins a v L).length ≤ L.length + 1 := by
  induction L with
  | nil => simp [rins]
  | cons y r ih =>
    unfold rins
    split
    · have := List.length_filter_le (fun d => decide (d.a ≠ a)) (y :: r)
      simp only [List.length_cons] at this ⊢; omega
    · simp; omega
theorem len_put (a v : Int) (L : List Wv) : (rput a v L).length ≤ L.length + 1 := by
  unfold rput
  split
  · have := List.length_filter_le (fun d => decide (d.a ≠ a)) L; omega
  · exact len_ins a v L
theorem rlook_mem {L : List Wv} (h : Ris L) {x : Wv} (hx : x ∈ L) : rlook L x.a = x.v := by
  induction L with
  | nil => cases hx
  | cons y r ih =>
    have h1 : ∀ z ∈ r, y.a < z.a := (List.pairwise_cons.1 h).1
    rw [rlook_cons]
    rcases List.mem_cons.1 hx with rfl | hx
    · simp
    · have := h1 x hx
      rw [if_neg (by omega)]
      exact ih (List.pairwise_cons.1 h).2 hx
theorem rlook_none {L : List Wv} {y : Int} (h : ∀ x ∈ L, x.a ≠ y) : rlook L y = 0 := by
  unfold rlook
  rw [List.find?_eq_none.2 (fun d hd => by simpa using h d hd)]
  rfl
/-- Peek goes on by rounds. -/
theorem rlook_drop {L : List Wv} {y : Int} (k : Nat) (h : ∀ j, (hj : j < L.length) → j < k → L[j].a ≠ y) : rlook L y = rlook (L.drop k) y := by
  induction k generalizing L with
  | zero => simp
  | succ k ih =>
    cases L with
    | nil => simp
    | cons x r =>
      rw [List.drop_succ_cons, rlook_cons, if_neg (show ¬ x.a = y from h 0 (by simp) (by omega))]
      exact ih fun j hj hk => h (j + 1) (by simp; omega) (by omega)
end Go.Proofs.YtijifjiehldcaaaGreat
