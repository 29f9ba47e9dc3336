/- What layer 33 computes, in plain Lean: scripts of bytes, parsed and printed. -/
import Derived.Test.YtcgobgegoflckaaSl
namespace Go.Proofs.Ytcgobgegoflckaa

structure Cm where
  kind : Int
  conn : Int
  bytes : List Int
instance : Inhabited Cm := ⟨⟨0, 0, []⟩⟩
/-- Bytes that are some. -/
def Bs (l : List Int) : Prop := ∀ z ∈ l, 0 ≤ z ∧ z ≤ 255
def csParse : List Int → List Cm
  | [] => []
  | n :: r => if 192 ≤ n then ⟨2, 0, []⟩ :: csParse r else if 64 ≤ n then ⟨1, n % 64, []⟩ :: csParse r else
      match r with
      | [] => [⟨0, n, []⟩]
      | m :: r' => ⟨0, n, r'.take m.toNat⟩ :: csParse (r'.drop m.toNat)
termination_by l => l.length
decreasing_by all_goals (simp only [List.length_cons, List.length_drop]; omega)
theorem csParse_nil : csParse [] = [] := by rw [csParse]
theorem csParse_tick {n : Int} {r : List Int} (h : 192 ≤ n) : csParse (n :: r) = ⟨2, 0, []⟩ :: csParse r := by rw [csParse.eq_def]; simp only; rw [if_pos h]
theorem csParse_pick {n : Int} {r : List Int} (h : 64 ≤ n) (h2 : n < 192) : csParse (n :: r) = ⟨1, n % 64, []⟩ :: csParse r := by rw [csParse.eq_def]; simp only; rw [if_neg (by omega), if_pos h]
theorem csParse_last {n : Int} (h : n < 64) : csParse [n] = [⟨0, n, []⟩] := by rw [csParse.eq_def]; simp only; rw [if_neg (by omega), if_neg (by omega)]
theorem csParse_feed {n m : Int} {r : List Int} (h : n < 64) : csParse (n :: m :: r) = ⟨0, n, r.take m.toNat⟩ :: csParse (r.drop m.toNat) := by rw [csParse.eq_def]; simp only; rw [if_neg (by omega), if_neg (by omega)]
theorem csParse_len : ∀ (k : Nat) (l : List Int), l.length ≤ k → (csParse l).length ≤ l.length := by
  intro k
  induction k with
  | zero =>
    intro l h
    obtain rfl := List.eq_nil_of_length_eq_zero (Nat.le_zero.1 h)
    rw [csParse_nil]; simp
  | succ k ih =>
    intro l h
    match l, h with
    | [], _ => rw [csParse_nil]; simp
    | n :: r, h =>
      simp only [List.length_cons] at h ⊢
      by_cases h1 : 192 ≤ n
      · have := ih r (by omega); rw [csParse_tick h1]; simp; omega
      · by_cases h2 : 64 ≤ n
        · have := ih r (by omega); rw [csParse_pick h2 (by omega)]; simp; omega
        · match r, h with
          | [], _ => rw [csParse_last (by omega)]; simp
          | m :: r', h =>
            have := ih (r'.drop m.toNat) (by simp at h ⊢; omega)
            rw [csParse_feed (by omega)]
            simp at this h ⊢
            omega
/-- May a command be said? -/
def csMay (c : Cm) : Bool := (decide (c.kind = 0) && decide (0 ≤ c.conn ∧ c.conn < 64) && decide (c.bytes.length ≤ 255)) || (decide (c.kind = 1) && decide (0 ≤ c.conn ∧ c.conn < 64) && decide (c.bytes.length = 0)) || (decide (c.kind = 2) && decide (c.conn = 0) && decide (c.bytes.length = 0))
def csSay (c : Cm) : List Int := if c.kind = 0 then c.conn :: (c.bytes.length : Int) :: c.bytes else if c.kind = 1 then [64 + c.conn] else [192]
def csPrint (l : List Cm) : List Int := l.flatMap csSay
theorem csPrint_append (l m : List Cm) : csPrint (l ++ m) = csPrint l ++ csPrint m := by simp [csPrint]
/-- The last command is not cut: what comes behind is parsed by itself. -/
theorem csParse_say (c : Cm) (h : csMay c = true) (r : List Int) : csParse (csSay c ++ r) = c :: csParse r := by
  obtain ⟨k, n, b⟩ := c
  simp [csMay] at h
  rcases h with (⟨⟨rfl, h1, h2⟩, h3⟩ | ⟨⟨rfl, h1, h2⟩, h3⟩) | ⟨⟨rfl, rfl⟩, h3⟩
  · rw [show csSay ⟨0, n, b⟩ ++ r = n :: (b.length : Int) :: (b ++ r) by simp [csSay], csParse_feed (by omega)]
    simp
  · subst h3
    rw [show csSay ⟨1, n, []⟩ ++ r = (64 + n) :: r by simp [csSay], csParse_pick (by omega) (by omega), show (64 + n) % 64 = n by omega]
  · subst h3
    rw [show csSay ⟨2, 0, []⟩ ++ r = 192 :: r by simp [csSay], csParse_tick (by omega)]
theorem csParse_print (l : List Cm) (h : ∀ c ∈ l, csMay c = true) (r : List Int) : csParse (csPrint l ++ r) = l ++ csParse r := by
  induction l with
  | nil => rfl
  | cons c l ih =>
    rw [show csPrint (c :: l) ++ r = csSay c ++ (csPrint l ++ r) by simp [csPrint], csParse_say c (h c (by simp)), ih fun d hd => h d (by simp [hd])]
    rfl
/-- Whatever bytes are parsed, each command can be said. -/
theorem csParse_may : ∀ (k : Nat) (l : List Int), l.length ≤ k → Bs l → ∀ c ∈ csParse l, csMay c = true := by
  intro k
  induction k with
  | zero =>
    intro l h _ c hc
    obtain rfl := List.eq_nil_of_length_eq_zero (Nat.le_zero.1 h)
    rw [csParse_nil] at hc; cases hc
  | succ k ih =>
    intro l h hB c hc
    match l, h with
    | [], _ => rw [csParse_nil] at hc; cases hc
    | n :: r, h =>
      simp only [List.length_cons] at h
      have hn := hB n (by simp)
      have hr : Bs r := fun z hz => hB z (by simp [hz])
      by_cases h1 : 192 ≤ n
      · rw [csParse_tick h1] at hc
        rcases List.mem_cons.1 hc with rfl | hc
        · simp [csMay]
        · exact ih r (by omega) hr c hc
      · by_cases h2 : 64 ≤ n
        · rw [csParse_pick h2 (by omega)] at hc
          rcases List.mem_cons.1 hc with rfl | hc
          · simp [csMay]; omega
          · exact ih r (by omega) hr c hc
        · match r, h with
          | [], _ =>
            rw [csParse_last (by omega)] at hc
            simp at hc
            subst hc
            simp [csMay]; omega
          | m :: r', h =>
            have hm := hr m (by simp)
            rw [csParse_feed (by omega)] at hc
            rcases List.mem_cons.1 hc with rfl | hc
            · simp [csMay]; omega
            · exact ih (r'.drop m.toNat) (by simp at h ⊢; omega) (fun z hz => hr z (by simp [List.mem_of_mem_drop hz])) c hc
end Go.Proofs.Ytcgobgegoflckaa
