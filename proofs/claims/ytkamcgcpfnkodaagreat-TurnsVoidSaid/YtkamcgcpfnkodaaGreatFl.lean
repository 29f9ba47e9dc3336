/- Layer 27: contracts of a Flush. -/
import Derived.Test.YtkamcgcpfnkodaaGreatTk
import Derived.Test.YtkamcgcpfnkodaaGreatWtk
namespace Go.Proofs.YtkamcgcpfnkodaaGreat
set_option linter.unusedSimpArgs false
open Go.RowKit
set_option linter.unusedVariables false

/-- A Flush: 1: it takes the lock, 2: it flushes, 3: it gives, 0: it is over. -/
structure Flm where
  ln : Nat
  tk : Tkm
  an : Int
  ep : Int
  pt : Int
structure FB where
  X : Nat
  T : Nat
  G : Nat
  bx : Nat
  bd : Nat
  bt : Nat
  bg : Nat
  be : Nat
def flCs (dv : Value) (an ep pt : Int) : List Value := [dv, .int .u8 an, .int .u64 0, .string ⟨#[]⟩, .string ⟨#[]⟩, .int .u32 0, .int .u64 0, .int .i64 0, .int .i64 0, .int .u64 ep, .int .i64 pt]
/-- A flush of the epoch: the world, the answer. -/
def awFlush (d : Int) (s : AW) : AW := if epFlushOk (s.M 8) then ⟨upd s.M 8 (epFlush (s.M 8) d), s.n + 1, ⟨3, 8, s.M 8, epFlush (s.M 8) d⟩, s.tk, s.ho, s.it, s.nt⟩ else awLoad 8 s
def anFlush (e : Int) : Int := if epFlushOk e then 10 else 5
theorem awFlush_n (d : Int) (s : AW) : (awFlush d s).n = s.n + 1 := by unfold awFlush; split <;> rfl
section
variable {a b k T : Nat} {cs : List Value} {O O0 : Om} {w w0 w1 : World} {B : Wb} {f : Cf} {s : AW}
theorem ext_set {c : Nat} {j : Nat} {v : Value} (hhi : ∀ j, O j ≠ 0 → j < w.heap.size) (hT : Ob w O k c cs) (hk : 10 ≤ k) : Ext (fun t => t = k) O w O (w.setCell ⟨c, j, none⟩ v) := Ext.of_set hhi hT.o (by omega) rfl
end
def flStep (t : Nat) (d : Int) (s : AW) (y : Flm) : AW × Flm :=
  if y.ln = 1 then ((tkStep t s y.tk).1, ⟨if (tkStep t s y.tk).2.ln = 0 then 2 else 1, (tkStep t s y.tk).2, y.an, y.ep, y.pt⟩)
  else if y.ln = 2 then (awFlush d s, ⟨3, y.tk, anFlush (s.M 8), s.M 8, s.n + 1⟩)
  else if y.ln = 3 then (awGive s, ⟨0, y.tk, y.an, y.ep, y.pt⟩)
  else (s, y)
section
variable {w : World} {O : Om} {B : Wb} {f : Cf} {s : AW} {k t : Nat} {b : FB} {d : Int}
/-- May a Flush stand so? -/
def Flm.ok (y : Flm) : Prop := y.ln ≤ 3 ∧ (y.ln = 1 → y.tk.ln = 1 ∨ y.tk.ln = 2)
theorem tkStep_ln {t : Nat} {s : AW} {x : Tkm} (h : x.ln = 1 ∨ x.ln = 2) : (tkStep t s x).2.ln = 0 ∨ (tkStep t s x).2.ln = 2 := by
  unfold tkStep
  rcases h with h | h
  · rw [if_pos h]; exact .inr rfl
  · rw [if_neg (by omega), if_pos h]
    split
    · exact .inl rfl
    · exact .inr h
theorem flStep_ok {y : Flm} (h : y.ok) : (flStep t d s y).2.ok := by
  obtain ⟨h1, h2⟩ := h
  unfold flStep
  split
  · rename_i h3
    refine ⟨?_, ?_⟩
    · dsimp only; split <;> omega
    · dsimp only
      intro h4
      rcases tkStep_ln (t := t) (s := s) (h2 h3) with h5 | h5
      · rw [if_pos h5] at h4; omega
      · exact .inr h5
  · split
    · exact ⟨by show 3 ≤ 3; omega, fun h => by have h4 : (3 : Nat) = 1 := h; omega⟩
    · split
      · exact ⟨by show 0 ≤ 3; omega, fun h => by have h4 : (0 : Nat) = 1 := h; omega⟩
      · exact ⟨h1, h2⟩
end
end Go.Proofs.YtkamcgcpfnkodaaGreat
