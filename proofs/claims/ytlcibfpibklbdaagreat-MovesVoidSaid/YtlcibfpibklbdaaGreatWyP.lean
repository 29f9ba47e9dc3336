/- Layers 16, 17, 18, 20, plain: what a Way, Hops, a Room and a Move compute on a world. -/
import Derived.Test.YtlcibfpibklbdaaGreatBaD
namespace Go.Proofs.YtlcibfpibklbdaaGreat
set_option linter.unusedSimpArgs false
open Go.RowKit
set_option linter.unusedVariables false

/-- A node of a search: its bucket, the node from which it was reached (-1: none), by which of its slots. -/
structure Wnd where
  q : Int
  fr : Int
  sl : Int
/-- A Way: its line, its nodes, the next one, bits, how many nodes at most, the way. -/
structure Wym where
  ln : Int
  l : List Wnd
  i : Nat
  b : Int
  mo : Int
  way : List Spt
def wyHas (l : List Wnd) (q : Int) : Bool := l.any fun n => n.q == q
def wyNode (l : List Wnd) (n : Wnd) : List Wnd := if wyHas l n.q then l else l ++ [n]
def wyAdd (mo : Int) (l : List Wnd) (n : Wnd) : List Wnd := if (l.length : Int) < mo then wyNode l n else l
/-- The slots 0 to k - 1 of a node. -/
def wyGrow (b mo : Int) (i : Nat) (q tg : Int) : Nat → List Wnd → List Wnd
  | 0, l => l
  | k + 1, l => wyAdd mo (wyGrow b mo i q tg k l) ⟨fnvOther q (twTag tg k) b, i, k⟩
/-- The way from its end on back. -/
def wyPath (b : Int) (l : List Wnd) : Nat → Int → Int → List Spt → List Spt
  | 0, _, _, acc => acc
  | f + 1, i, s, acc => if i < 0 then acc else match l[i.toNat]? with
    | none => acc
    | some n => wyPath b l f n.fr n.sl (⟨b, n.q, s⟩ :: acc)
def wyQ (z : Wym) : Int := match z.l[z.i]? with
  | none => 0
  | some n => n.q
def wyNew (b a c mo : Int) : Wym := if 0 ≤ a ∧ a < fnvSize b ∧ 0 ≤ c ∧ c < fnvSize b then ⟨1, wyNode [⟨a, -1, 0⟩] ⟨c, -1, 0⟩, 0, b, mo, []⟩ else ⟨0, [], 0, 0, 0, []⟩
def wyTg (s : AW) (z : Wym) : Int := s.M (plTags z.b (wyQ z))
def wyStep (x : AW × Wym) : AW × Wym :=
  if x.2.ln = 0 then x
  else if 0 ≤ twFree (wyTg x.1 x.2) then (awLoad (plTags x.2.b (wyQ x.2)) x.1, ⟨0, x.2.l, x.2.i, x.2.b, x.2.mo, wyPath x.2.b x.2.l (x.2.i + 1) x.2.i (twFree (wyTg x.1 x.2)) []⟩)
  else (awLoad (plTags x.2.b (wyQ x.2)) x.1, ⟨if x.2.i + 1 = (wyGrow x.2.b x.2.mo x.2.i (wyQ x.2) (wyTg x.1 x.2) 4 x.2.l).length then 0 else 1, wyGrow x.2.b x.2.mo x.2.i (wyQ x.2) (wyTg x.1 x.2) 4 x.2.l, x.2.i + 1, x.2.b, x.2.mo, []⟩)
/-- Nodes that may be: each bucket once, each reached from one ahead of it. -/
structure WyL (b : Int) (l : List Wnd) : Prop where
  nd : (l.map Wnd.q).Nodup
  q : ∀ n ∈ l, 0 ≤ n.q ∧ n.q < fnvSize b
  fr : ∀ (j : Nat) n, l[j]? = some n → -1 ≤ n.fr ∧ n.fr < j ∧ 0 ≤ n.sl ∧ n.sl ≤ 3
theorem nodup_len : ∀ (n : Nat) (l : List Int), l.Nodup → (∀ x ∈ l, 0 ≤ x ∧ x < n) → l.length ≤ n := by
  intro n
  induction n with
  | zero =>
    intro l _ h
    cases l with
    | nil => simp
    | cons x l => have := h x (by simp); omega
  | succ n ih =>
    intro l hn h
    by_cases hm : (n : Int) ∈ l
    · have h1 := List.length_erase_of_mem hm
      have h2 := ih (l.erase n) (hn.erase _) (fun x hx => by
        have h3 := h x (List.mem_of_mem_erase hx)
        have h4 : x ≠ n := fun e => by subst e; exact (List.Nodup.not_mem_erase hn) hx
        omega)
      have : 0 < l.length := List.length_pos_of_mem hm
      omega
    · have := ih l hn (fun x hx => by
        have h3 := h x hx
        have h4 : x ≠ n := fun e => hm (by rw [← e]; exact hx)
        omega)
      omega
theorem WyL.len {b : Int} {l : List Wnd} (h : WyL b l) : l.length ≤ 4096 := by
  have hs := fnvSize_bd b
  have := nodup_len 4096 (l.map Wnd.q) h.nd (fun x hx => by
    obtain ⟨n, hn, rfl⟩ := List.mem_map.1 hx
    have := h.q n hn
    omega)
  simpa using this
theorem wyHas_iff (l : List Wnd) (q : Int) : wyHas l q = true ↔ q ∈ l.map Wnd.q := by
  unfold wyHas
  rw [List.any_eq_true, List.mem_map]
  constructor
  · rintro ⟨n, hn, h⟩; exact ⟨n, hn, by simpa using h⟩
  · rintro ⟨n, hn, h⟩; exact ⟨n, hn, by simpa using h⟩
theorem WyL.node {b : Int} {l : List Wnd} (h : WyL b l) (n : Wnd) (hq : 0 ≤ n.q ∧ n.q < fnvSize b) (hf : -1 ≤ n.fr ∧ n.fr < l.length) (hs : 0 ≤ n.sl ∧ n.sl ≤ 3) : WyL b (wyNode l n) := by
  unfold wyNode
  split
  · exact h
  · rename_i hh
    have hni : n.q ∉ l.map Wnd.q := fun e => hh ((wyHas_iff l n.q).2 e)
    refine ⟨?_, fun m hm => ?_, fun j m hj => ?_⟩
    · rw [List.map_append]
      refine List.nodup_append.2 ⟨h.nd, by simp, fun x hx y hy e => ?_⟩
      simp at hy
      rw [e, hy] at hx
      exact hni hx
    · rcases List.mem_append.1 hm with g | g
      · exact h.q m g
      · rw [List.mem_singleton.1 g]; exact hq
    · by_cases g : j < l.length
      · rw [List.getElem?_append_left g] at hj; exact h.fr j m hj
      · rw [List.getElem?_append_right (by omega)] at hj
        have h0 := (List.getElem?_eq_some_iff.1 hj).1
        simp at h0
        have e : j - l.length = 0 := by omega
        rw [e] at hj
        simp at hj
        subst hj
        omega
theorem wyNode_len (l : List Wnd) (n : Wnd) : l.length ≤ (wyNode l n).length ∧ (wyNode l n).length ≤ l.length + 1 := by unfold wyNode; split <;> simp
theorem wyAdd_len (mo : Int) (l : List Wnd) (n : Wnd) : l.length ≤ (wyAdd mo l n).length ∧ (wyAdd mo l n).length ≤ l.length + 1 := by
  have := wyNode_len l n
  unfold wyAdd; split
  · exact this
  · omega
theorem wyNode_old (l : List Wnd) (n : Wnd) (j : Nat) (hj : j < l.length) : (wyNode l n)[j]? = l[j]? := by
  unfold wyNode; split
  · rfl
  · rw [List.getElem?_append_left hj]
theorem wyAdd_old (mo : Int) (l : List Wnd) (n : Wnd) (j : Nat) (hj : j < l.length) : (wyAdd mo l n)[j]? = l[j]? := by
  unfold wyAdd; split
  · exact wyNode_old l n j hj
  · rfl
theorem wyGrow_len (b mo : Int) (i : Nat) (q tg : Int) (k : Nat) (l : List Wnd) : l.length ≤ (wyGrow b mo i q tg k l).length := by
  induction k with
  | zero => exact Nat.le_refl _
  | succ k ih => unfold wyGrow; exact Nat.le_trans ih (wyAdd_len _ _ _).1
theorem WyL.grow {b : Int} {l : List Wnd} (h : WyL b l) (mo : Int) (i : Nat) (q tg : Int) (hi : i < l.length) (hq : 0 ≤ q ∧ q < fnvSize b) (hf : twFree tg < 0) (k : Nat) (hk : k ≤ 4) : WyL b (wyGrow b mo i q tg k l) := by
  induction k with
  | zero => exact h
  | succ k ih =>
    unfold wyGrow wyAdd
    split
    · have hl := wyGrow_len b mo i q tg k l
      have ht : 1 ≤ twTag tg k ∧ twTag tg k ≤ 255 := by
        have hb := twTag_bd tg k
        have h0 : twTag tg k ≠ 0 := by
          unfold twFree at hf
          have hk4 : k = 0 ∨ k = 1 ∨ k = 2 ∨ k = 3 := by omega
          intro e
          rcases hk4 with rfl | rfl | rfl | rfl
          · rw [if_pos (show twTag tg 0 = 0 from e)] at hf; omega
          · repeat' split at hf
            all_goals first | omega | contradiction
          · repeat' split at hf
            all_goals first | omega | contradiction
          · repeat' split at hf
            all_goals first | omega | contradiction
        omega
      refine (ih (by omega)).node _ ?_ ?_ ?_
      · exact fnvOther_bd ⟨hq.1, hq.2, ht.1, ht.2⟩
      · dsimp only; omega
      · dsimp only; omega
    · exact ih (by omega)
/-- A Way that may be. -/
structure WyOk (z : Wym) : Prop where
  l0 : z.ln = 0 ∨ z.ln = 1
  b : z.ln = 1 → 1 ≤ z.b ∧ z.b ≤ 12
  l : z.ln = 1 → WyL z.b z.l
  i : z.ln = 1 → z.i < z.l.length
  w : ∀ p ∈ z.way, p.ok
  wl : z.way.length ≤ 4097
end Go.Proofs.YtlcibfpibklbdaaGreat
