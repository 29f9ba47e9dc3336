/- Layer 33: plain laws for ScriptsBack and ScriptsJoin. -/
import Derived.Test.YtcgobgegoflckaaScPlain
namespace Go.Proofs.Ytcgobgegoflckaa

theorem csSay_len' (c : Cm) : (csSay c).length = if c.kind = 0 then 2 + c.bytes.length else 1 := by
  unfold csSay
  split
  · simp; omega
  · split <;> simp
/-- What is printed of what was parsed is as long, or one longer: a last feed that was cut. -/
theorem csPrint_len : ∀ (k : Nat) (l : List Int), l.length ≤ k → Bs l → (csPrint (csParse l)).length ≤ l.length + 1 := by
  intro k
  induction k with
  | zero =>
    intro l h _
    obtain rfl := List.eq_nil_of_length_eq_zero (Nat.le_zero.1 h)
    rw [csParse_nil]; simp [csPrint]
  | succ k ih =>
    intro l h hB
    match l, h with
    | [], _ => rw [csParse_nil]; simp [csPrint]
    | n :: r, h =>
      simp only [List.length_cons] at h ⊢
      have hn := hB n (by simp)
      have hr : Bs r := fun z hz => hB z (by simp [hz])
      have hc : ∀ (c : Cm) (m : List Cm), (csPrint (c :: m)).length = (csSay c).length + (csPrint m).length := fun c m => by simp [csPrint]
      by_cases h1 : 192 ≤ n
      · have := ih r (by omega) hr
        rw [csParse_tick h1, hc, csSay_len']; simp; omega
      · by_cases h2 : 64 ≤ n
        · have := ih r (by omega) hr
          rw [csParse_pick h2 (by omega), hc, csSay_len']; simp; omega
        · match r, h with
          | [], _ => rw [csParse_last (by omega), hc, csSay_len']; simp [csPrint]
          | m :: r', h =>
            have hm := hr m (by simp)
            have := ih (r'.drop m.toNat) (by simp at h ⊢; omega) (fun z hz => hr z (by simp [List.mem_of_mem_drop hz]))
            rw [csParse_feed (by omega), hc, csSay_len']
            simp at this h ⊢
            by_cases h3 : m.toNat ≤ r'.length
            · rw [Nat.min_eq_left h3]; omega
            · rw [Nat.min_eq_right (by omega)]
              have h4 : r'.drop m.toNat = [] := List.drop_eq_nil_of_le (by omega)
              rw [h4, csParse_nil] at *
              simp [csPrint]; omega
/-- What a command that was parsed used. -/
def csUse (c : Cm) : Nat := if c.kind = 0 then 2 + c.bytes.length else 1
def csUsed (l : List Cm) : Nat := (l.map csUse).sum
theorem csUsed_snoc (l : List Cm) (c : Cm) : csUsed (l ++ [c]) = csUsed l + csUse c := by simp [csUsed]
theorem csUsed_take (l : List Cm) (k : Nat) (h : k < l.length) : csUsed (l.take (k + 1)) = csUsed (l.take k) + csUse l[k] := by
  rw [List.take_succ_eq_append_getElem h, csUsed_snoc]
theorem csUsed_parse : ∀ (k : Nat) (l : List Int), l.length ≤ k → Bs l → csUsed (csParse l) = l.length ∨ (csUsed (csParse l) = l.length + 1 ∧ ∃ c, (csParse l).getLast? = some c ∧ c.bytes = []) := by
  intro k
  induction k with
  | zero =>
    intro l h _
    obtain rfl := List.eq_nil_of_length_eq_zero (Nat.le_zero.1 h)
    rw [csParse_nil]; simp [csUsed]
  | succ k ih =>
    intro l h hB
    match l, h with
    | [], _ => rw [csParse_nil]; simp [csUsed]
    | n :: r, h =>
      simp only [List.length_cons] at h ⊢
      have hn := hB n (by simp)
      have hr : Bs r := fun z hz => hB z (by simp [hz])
      have hc : ∀ (c : Cm) (m : List Cm), csUsed (c :: m) = csUse c + csUsed m := fun c m => by simp [csUsed]
      have hlast : ∀ (c d : Cm) (m : List Cm), m.getLast? = some d → (c :: m).getLast? = some d := by
        intro c d m hm
        cases m with
        | nil => cases hm
        | cons e m => rw [List.getLast?_cons_cons]; exact hm
      by_cases h1 : 192 ≤ n
      · rw [csParse_tick h1, hc]
        have hu : csUse ⟨2, 0, []⟩ = 1 := rfl
        rcases ih r (by omega) hr with h3 | ⟨h3, c, h4, h5⟩
        · left; omega
        · exact .inr ⟨by omega, c, hlast _ _ _ h4, h5⟩
      · by_cases h2 : 64 ≤ n
        · rw [csParse_pick h2 (by omega), hc]
          have hu : csUse ⟨1, n % 64, []⟩ = 1 := rfl
          rcases ih r (by omega) hr with h3 | ⟨h3, c, h4, h5⟩
          · left; omega
          · exact .inr ⟨by omega, c, hlast _ _ _ h4, h5⟩
        · match r, h with
          | [], _ =>
            rw [csParse_last (by omega)]
            exact .inr ⟨rfl, _, rfl, rfl⟩
          | m :: r', h =>
            have hm := hr m (by simp)
            have := ih (r'.drop m.toNat) (by simp at h ⊢; omega) (fun z hz => hr z (by simp [List.mem_of_mem_drop hz]))
            rw [csParse_feed (by omega), hc]
            have hu : csUse ⟨0, n, r'.take m.toNat⟩ = 2 + min m.toNat r'.length := by simp [csUse]
            simp at this h ⊢
            rcases this with h3 | ⟨h3, c, h4, h5⟩
            · left; omega
            · by_cases h6 : m.toNat ≤ r'.length
              · refine .inr ⟨by omega, c, hlast _ _ _ h4, h5⟩
              · have h7 : r'.drop m.toNat = [] := List.drop_eq_nil_of_le (by omega)
                rw [h7, csParse_nil] at h4
                cases h4
end Go.Proofs.Ytcgobgegoflckaa
