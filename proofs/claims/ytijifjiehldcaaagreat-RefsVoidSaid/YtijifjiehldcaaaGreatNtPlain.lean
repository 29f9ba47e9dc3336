/- What layer 9 computes, in plain Lean: notes, what a list takes, what it tells; the cells of a note. -/
import Derived.Test.YtijifjiehldcaaaGreatSl
namespace Go.Proofs.YtijifjiehldcaaaGreat
set_option linter.unusedVariables false
set_option linter.unusedSimpArgs false

structure Nt where
  step : Int
  thread : Int
  kind : Int
  ref : Int
  bits : Int
  bucket : Int
  slot : Int
  value : Int
/-- A note's numbers are within their types. -/
structure Nt.ok (n : Nt) : Prop where
  s0 : -9223372036854775808 ≤ n.step
  s1 : n.step ≤ 9223372036854775807
  t0 : -9223372036854775808 ≤ n.thread
  t1 : n.thread ≤ 9223372036854775807
  k0 : 0 ≤ n.kind
  k1 : n.kind ≤ 255
  r0 : -9223372036854775808 ≤ n.ref
  r1 : n.ref ≤ 9223372036854775807
def ntc (n : Nt) : List Value := [.int .i64 n.step, .int .i64 n.thread, .int .u8 n.kind, .int .i64 n.ref, .int .i64 n.bits, .int .i64 n.bucket, .int .i64 n.slot, .int .i64 n.value]
/-- A note as the document has it. -/
def ntr (n : Nt) : List Value := [.int .i64 n.step, .int .i64 n.thread, .int .i64 n.kind, .int .i64 n.ref, .int .i64 n.bits, .int .i64 n.bucket, .int .i64 n.slot, .int .i64 n.value]
theorem ntc_len (n : Nt) : (ntc n).length = 8 := rfl
theorem ntr_len (n : Nt) : (ntr n).length = 8 := rfl
/-- Has a list's last note a greater step? -/
def ntLow (l : List Nt) (n : Nt) : Bool := match l.getLast? with | some m => decide (n.step < m.step) | none => false
def ntBad (l : List Nt) (n : Nt) : Bool := decide (n.kind < 1 ∨ 9 < n.kind) || ntLow l n
def ntErr (l : List Nt) (n : Nt) : Int := if ntBad l n then 1 else if 1048576 ≤ l.length then 3 else 0
def ntAdd (l : List Nt) (n : Nt) : List Nt := if ntErr l n = 0 then l ++ [n] else l
theorem ntErr_cases (l : List Nt) (n : Nt) : ntErr l n = 0 ∨ ntErr l n = 1 ∨ ntErr l n = 3 := by
  unfold ntErr
  by_cases h : ntBad l n = true
  · simp [h]
  · by_cases h2 : 1048576 ≤ l.length
    · simp [h, h2]
    · simp [h, h2]
theorem ntErr_bad {l : List Nt} {n : Nt} (h : ntBad l n = true) : ntErr l n = 1 := by unfold ntErr; rw [if_pos h]
theorem ntErr_full {l : List Nt} {n : Nt} (h : ntBad l n = false) (h2 : 1048576 ≤ l.length) : ntErr l n = 3 := by unfold ntErr; rw [if_neg (by simp [h]), if_pos h2]
theorem ntErr_ok {l : List Nt} {n : Nt} (h : ntBad l n = false) (h2 : ¬ 1048576 ≤ l.length) : ntErr l n = 0 := by unfold ntErr; rw [if_neg (by simp [h]), if_neg h2]
theorem ntAdd_no {l : List Nt} {n : Nt} (h : ntErr l n ≠ 0) : ntAdd l n = l := by unfold ntAdd; rw [if_neg h]
theorem ntAdd_ok {l : List Nt} {n : Nt} (h : ntErr l n = 0) : ntAdd l n = l ++ [n] := by unfold ntAdd; rw [if_pos h]
theorem ntLow_nil (n : Nt) : ntLow [] n = false := rfl
theorem ntLow_get {l : List Nt} (n : Nt) (h : 0 < l.length) : ntLow l n = decide (n.step < l[l.length - 1].step) := by
  unfold ntLow
  rw [List.getLast?_eq_getElem?, List.getElem?_eq_getElem (by omega)]
/-- The place of the last note that tells an item as dropped, and is there one: of notes from a place on, behind what was found. -/
def ntDr (ref : Int) : List Nt → Nat → Nat × Bool → Nat × Bool
  | [], _, a => a
  | n :: l, i, a => ntDr ref l (i + 1) (if n.kind = 1 ∧ n.ref = ref then (i, true) else a)
theorem ntDr_append (ref : Int) (l m : List Nt) : ∀ i a, ntDr ref (l ++ m) i a = ntDr ref m (i + l.length) (ntDr ref l i a) := by
  induction l with
  | nil => intro i a; rfl
  | cons n l ih =>
    intro i a
    simp only [List.cons_append, ntDr, ih, List.length_cons, show i + 1 + l.length = i + (l.length + 1) by omega]
theorem ntDr_snoc (ref : Int) (l : List Nt) (n : Nt) : ntDr ref (l ++ [n]) 0 (0, false) = if n.kind = 1 ∧ n.ref = ref then (l.length, true) else ntDr ref l 0 (0, false) := by
  rw [ntDr_append, Nat.zero_add]
  rfl
def ntDropped (ref : Int) (l : List Nt) : Nat × Bool := ntDr ref l 0 (0, false)
theorem ntDropped_take (ref : Int) (l : List Nt) (k : Nat) (hk : k < l.length) : ntDropped ref (l.take (k + 1)) = if l[k].kind = 1 ∧ l[k].ref = ref then (k, true) else ntDropped ref (l.take k) := by
  unfold ntDropped
  rw [List.take_succ_eq_append_getElem hk, ntDr_snoc, List.length_take, Nat.min_eq_left (by omega)]
theorem ntDropped_snoc (ref : Int) (l : List Nt) (n : Nt) : ntDropped ref (l ++ [n]) = if n.kind = 1 ∧ n.ref = ref then (l.length, true) else ntDropped ref l := ntDr_snoc ref l n
/-- None of the notes from a place on: so it is what those ahead tell. -/
theorem ntDropped_back (ref : Int) (l : List Nt) (k : Nat) (h : ∀ j, (hj : j < l.length) → k ≤ j → ¬ (l[j].kind = 1 ∧ l[j].ref = ref)) : ∀ m, k ≤ m → m ≤ l.length → ntDropped ref (l.take m) = ntDropped ref (l.take k) := by
  intro m
  induction m with
  | zero => intro h1 _; rw [Nat.le_zero.1 h1]
  | succ m ih =>
    intro h1 h2
    rcases Nat.lt_or_ge m k with h3 | h3
    · rw [show k = m + 1 by omega]
    · rw [ntDropped_take ref l m (by omega), if_neg (h m (by omega) h3), ih h3 (by omega)]
theorem ntDropped_le (ref : Int) (l : List Nt) : (ntDropped ref l).1 ≤ l.length := by
  suffices ∀ k, k ≤ l.length → (ntDropped ref (l.take k)).1 ≤ k by simpa using this l.length (Nat.le_refl _)
  intro k
  induction k with
  | zero => intro _; simp [ntDropped, ntDr]
  | succ k ih =>
    intro h
    rw [ntDropped_take ref l k (by omega)]
    split
    · exact Nat.le_succ k
    · exact Nat.le_trans (ih (by omega)) (Nat.le_succ k)
/-- The kinds' names. -/
def ntNames : List ByteArray := [⟨#[63]⟩, ⟨#[101, 118, 105, 99, 116]⟩, ⟨#[102, 97, 105, 108]⟩, ⟨#[102, 117, 108, 108]⟩, ⟨#[103, 114, 111, 119]⟩, ⟨#[115, 119, 97, 112]⟩, ⟨#[114, 101, 116, 114, 121]⟩, ⟨#[108, 111, 99, 107, 101, 100]⟩, ⟨#[104, 97, 110, 100]⟩, ⟨#[116, 105, 99, 107]⟩]
def ntName (k : Int) : ByteArray := ntNames.getD k.toNat ⟨#[63]⟩
def ntSince (l : List Nt) (a : Int) : List Nt := l.drop a.toNat
def ntOf (l : List Nt) (k : Int) : List Nt := l.filter fun n => decide (n.kind = k)
end Go.Proofs.YtijifjiehldcaaaGreat
