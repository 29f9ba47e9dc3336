/- Layer 9: NotesStay. -/
import Derived.Test.YtcgjopjjmgpobaaNtBoth
namespace Go.Proofs.Ytcgjopjjmgpobaa
open Go.RowKit
set_option linter.unusedVariables false

theorem ntOf_split (T : List Nt) (k : Int) (i : Nat) (hi : i < T.length) (hk : T[i].kind = k) : ntOf T k = ntOf (T.take i) k ++ (T[i] :: ntOf (T.drop (i + 1)) k) := by
  conv => lhs; rw [← List.take_append_drop i T, List.drop_eq_getElem_cons hi]
  unfold ntOf
  rw [List.filter_append, List.filter_cons_of_pos (by simp [hk])]
theorem ntOf_get (T : List Nt) (k : Int) (i : Nat) (hi : i < T.length) (hk : T[i].kind = k) : (ntOf T k)[(ntOf (T.take i) k).length]? = some T[i] := by
  rw [ntOf_split T k i hi hk, List.getElem?_append_right (Nat.le_refl _), Nat.sub_self]
  rfl
def ntUnder (T : List Nt) (k : Int) : Nat := (T.filter fun n => decide (n.kind < k)).length
theorem ntUnder_succ (T : List Nt) (k : Int) : ntUnder T (k + 1) = ntUnder T k + (ntOf T k).length := by
  unfold ntUnder ntOf
  induction T with
  | nil => rfl
  | cons n T ih =>
    simp only [List.filter_cons]
    by_cases h1 : n.kind < k
    · have h2 : n.kind < k + 1 := by omega
      have h3 : ¬ n.kind = k := by omega
      rw [if_pos (by simpa using h2), if_pos (by simpa using h1), if_neg (by simpa using h3), List.length_cons, List.length_cons, ih]; omega
    · by_cases h3 : n.kind = k
      · have h2 : n.kind < k + 1 := by omega
        rw [if_pos (by simpa using h2), if_neg (by simpa using h1), if_pos (by simpa using h3), List.length_cons, List.length_cons, ih]; omega
      · have h2 : ¬ n.kind < k + 1 := by omega
        rw [if_neg (by simpa using h2), if_neg (by simpa using h1), if_neg (by simpa using h3), ih]
theorem ntUnder_le (T : List Nt) (k : Int) : ntUnder T k ≤ T.length := List.length_filter_le _ _
theorem ntUnder_zero {T : List Nt} (h : ∀ n ∈ T, 1 ≤ n.kind ∧ n.kind ≤ 9) : ntUnder T 0 = 0 := by
  unfold ntUnder
  rw [List.filter_eq_nil_iff.2 (fun n hn => by have := h n hn; simp; omega)]
  rfl
theorem ntUnder_all {T : List Nt} (h : ∀ n ∈ T, 1 ≤ n.kind ∧ n.kind ≤ 9) : ntUnder T 256 = T.length := by
  unfold ntUnder
  rw [List.filter_eq_self.2 (fun n hn => by have := h n hn; simp; omega)]
theorem ntErr_short {T : List Nt} (q : Nt) (h : T.length < 1048576) : ntErr T q = if ntBad T q then 1 else 0 := by
  cases hB : ntBad T q
  · rw [ntErr_ok hB (by omega)]; rfl
  · rw [ntErr_bad hB]; rfl
theorem ntBad_kind {T : List Nt} {q : Nt} (h : ntBad T q = false) : 1 ≤ q.kind ∧ q.kind ≤ 9 := by
  unfold ntBad at h
  simp at h
  omega
theorem ntBad_eq (T : List Nt) (q : Nt) : (!ntBad T q) = (decide (1 ≤ q.kind ∧ q.kind ≤ 9) && !ntLow T q) := by
  unfold ntBad
  rw [Bool.not_or, ← decide_not]
  congr 1
  exact decide_eq_decide.2 (by omega)
/-- The program's list, and the notes that the law took, beside it. -/
structure Stay (w0 w : World) (h : Nat) (x vt : Value) (X T : List Nt) : Prop where
  nl : NLx w0 w 56 ntc h x X
  tk : w.ownsRow (h + 1) 56 8 vt T.length (rowOf ntc T)
  ap : ∀ k, vt.ownBlock = some k → x.ownBlock ≠ some k
  kd : ∀ n ∈ T, 1 ≤ n.kind ∧ n.kind ≤ 9
theorem Stay.go {w0 w w' : World} {h : Nat} {x vt : Value} {X T : List Nt} (s : Stay w0 w h x vt X T) (hb : Below w.heap.size w w') : Stay w0 w' h x vt X T := ⟨s.nl.go hb, ownsRow_below s.tk hb, s.ap, s.kd⟩
theorem Stay.arr {w0 w : World} {h : Nat} {x vt : Value} {X T : List Nt} (s : Stay w0 w h x vt X T) : Arr w vt T.length 8 (rowOf ntc T) := Arr.of_own s.tk
theorem c_AddStay (n : Nt) (h : Nat) (x vt : Value) (X T : List Nt) (w0 w : World) (s : Stay w0 w h x vt X T) (k0 : 0 ≤ n.kind) (k1 : n.kind ≤ 255) :
    Calls Try.prog 37 #[.pointer (some ⟨h, 0, none⟩), .agg #[.int .i64 n.step, .int .i64 n.thread, .int .u8 n.kind, .int .i64 n.ref, .int .i64 n.bits, .int .i64 n.bucket, .int .i64 n.slot, .int .i64 n.value]] w fun e w' =>
      e = .returned (.int .i64 (ntErr X n)) ∧ ∃ x', Stay w0 w' h x' vt (ntAdd X n) T := by
  refine (c_Add n h x X w s.nl.nl k0 k1).mono ?_
  rintro e w' ⟨rfl, v', hn, hv, hw⟩
  have hz := s.nl.below.size
  refine ⟨rfl, v', ⟨hn, s.nl.base, fun k hk => ?_, s.nl.below.trans (hw.below (B := w0.heap.size) ?_ hz)⟩, hw.own s.tk ?_, fun k hk => ?_, s.kd⟩
  · rcases hv k hk with h1 | h1
    · exact s.nl.row k h1
    · omega
  · rintro k _ (rfl | h1)
    · exact s.nl.base
    · exact s.nl.row k h1
  · rintro k hk (rfl | h1)
    · have := (s.tk.lt _ hk).1; omega
    · exact s.ap k hk h1
  · intro h1
    rcases hv k h1 with h2 | h2
    · exact s.ap k hk h2
    · have := (s.tk.lt _ hk).2; omega
theorem append_stay {ops : Array Oper} {rest : List Oper} {o : Oper} {a : Act} {Q : Exit → Act → World → Prop} (hgd : o.guard = none) (s y : Operand) (w : World)
    (ho : o.op = .call { callee := .builtin .append, args := #[s, y], argTypes := #[44, 44] })
    (w0 : World) (h : Nat) (x vt : Value) (X T : List Nt) (hs : a.eval s = vt) (hS : Stay w0 w h x vt X T) (q : Nt) (hq : 1 ≤ q.kind ∧ q.kind ≤ 9) (hy : a.eval y = .slice (some ⟨w.heap.size, 0, none⟩) 1 1) (hT : T.length ≤ 1000)
    (hK : ∀ vt' w', Stay w0 w' h x vt' X (T ++ [q]) → wpList Try.prog ops Q rest (a.put o.dst vt') w') :
    wpList Try.prog ops Q (o :: rest) a (w.alloc (ntObj q)) := by
  obtain ⟨i0, hi, hz0, hz1, hz2⟩ := info_parts infoNt
  have hh := hS.nl.nl.lt
  refine wpList_append_lies _ hgd s y _ ho (h + 1) 56 i0 _ 8 64 Try.underlying44 hi hz0 hz1 hz2 rfl (by omega) vt T.length (rowOf ntc T) hs (hS.tk.alloc _) ⟨w.heap.size, 0, none⟩ 1 1 (ntc q) hy rfl
    (World.news_of_block (cs := (ntc q).toArray) (t := 56) (fr := (0, 0)) (heap_alloc_new w _)) (by simp [Value.oneCell', ntc]) (by omega) (by unfold maxLen; omega) (by omega) (by simp; omega) (w.heap.size + 1) (by simp) ?_
  intro g cap w' hown hgr hat _
  have hw : Wrote (fun k => vt.ownBlock = some k) w w' := ((Wrote.refl _ _).alloc _).grown hgr fun k hk _ => hk
  refine hK _ w' ⟨⟨hS.nl.nl.wrote hw ?_, hS.nl.base, hS.nl.row, hS.nl.below.trans (hw.below (B := w0.heap.size) (fun k _ hk => ?_) hS.nl.below.size)⟩, by rw [rowOf_snoc, List.length_append]; exact hown, fun k hk => ?_, fun n hn => ?_⟩
  · rintro k (rfl | hk) h1
    · have := (hS.tk.lt _ h1).1; omega
    · exact hS.ap k h1 hk
  · have := (hS.tk.lt _ hk).1
    have := hS.nl.base
    omega
  · cases hk
    rcases hat with e | e
    · exact hS.ap g e
    · intro h1
      have := hS.nl.nl.lts g (.inr h1)
      omega
  · rcases List.mem_append.1 hn with hn | hn
    · exact hS.kd n hn
    · rw [List.mem_singleton] at hn; subst hn; exact hq
theorem ntOf_le (T : List Nt) (k : Int) (j : Nat) : (ntOf (T.take j) k).length ≤ (ntOf T k).length := by
  conv => rhs; rw [← List.take_append_drop j T]
  unfold ntOf
  rw [List.filter_append, List.length_append]
  omega
end Go.Proofs.Ytcgjopjjmgpobaa
