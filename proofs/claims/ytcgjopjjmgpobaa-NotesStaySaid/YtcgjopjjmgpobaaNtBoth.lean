/- Layer 9: two lists side by side, the program's and the document's; notes that were told. -/
import Derived.Test.YtcgjopjjmgpobaaNtRef3
import Derived.Test.YtcgjopjjmgpobaaNtDrop
import Derived.Deep.RegionWith
import Derived.Deep.DrawnRows
import Derived.Deep.RegionLaw
namespace Go.Proofs.Ytcgjopjjmgpobaa
open Go.RowKit
set_option linter.unusedVariables false

theorem NL.drew {w : World} {E : TypeId} {f : Nt → List Value} {h : Nat} {v : Value} {l : List Nt} (n : NL w E f h v l) : NL w.drew E f h v l :=
  ⟨n.head, n.free, n.lt, n.apart, n.own⟩
/-- The program's list and the document's, of a call's own. -/
structure Both (w0 w : World) (hx : Nat) (vx : Value) (X : List Nt) (hr : Nat) (vr : Value) (R : List Nt) : Prop where
  x : NL w 56 ntc hx vx X
  r : NL w 70 ntr hr vr R
  apart : ∀ k, NLset hx vx k → ¬ NLset hr vr k
  bx : ∀ k, NLset hx vx k → w0.heap.size ≤ k
  br : ∀ k, NLset hr vr k → w0.heap.size ≤ k
  below : Below w0.heap.size w0 w
section
variable {w0 w w' : World} {hx hr : Nat} {vx vr : Value} {X R : List Nt}
theorem Both.drew (h : Both w0 w hx vx X hr vr R) : Both w0 w.drew hx vx X hr vr R := ⟨h.x.drew, h.r.drew, h.apart, h.bx, h.br, h.below.drew⟩
theorem Both.go (h : Both w0 w hx vx X hr vr R) (hb : Below w.heap.size w w') : Both w0 w' hx vx X hr vr R := ⟨h.x.below hb, h.r.below hb, h.apart, h.bx, h.br, h.below.trans (hb.mono h.below.size)⟩
theorem Both.wrote {S : Nat → Prop} (h : Both w0 w hx vx X hr vr R) (hw : Wrote S w w') (h1 : ∀ k, NLset hx vx k → ¬ S k) (h2 : ∀ k, NLset hr vr k → ¬ S k) (h3 : ∀ k, S k → w0.heap.size ≤ k) : Both w0 w' hx vx X hr vr R :=
  ⟨h.x.wrote hw h1, h.r.wrote hw h2, h.apart, h.bx, h.br, h.below.trans (hw.below (fun k _ hs => h3 k hs) h.below.size)⟩
theorem Both.ax (h : Both w0 w hx vx X hr vr R) : Arr w vx X.length 8 (rowOf ntc X) := Arr.of_own h.x.own
theorem Both.ar (h : Both w0 w hx vx X hr vr R) : Arr w vr R.length 8 (rowOf ntr R) := Arr.of_own h.r.own
theorem c_xAdd (n : Nt) (h : Both w0 w hx vx X hr vr R) (k0 : 0 ≤ n.kind) (k1 : n.kind ≤ 255) :
    Calls Try.prog 37 #[.pointer (some ⟨hx, 0, none⟩), .agg #[.int .i64 n.step, .int .i64 n.thread, .int .u8 n.kind, .int .i64 n.ref, .int .i64 n.bits, .int .i64 n.bucket, .int .i64 n.slot, .int .i64 n.value]] w fun e w' =>
      e = .returned (.int .i64 (ntErr X n)) ∧ ∃ vx', Both w0 w' hx vx' (ntAdd X n) hr vr R := by
  refine (c_Add n hx vx X w h.x k0 k1).mono ?_
  rintro e w' ⟨rfl, v', hn, hv, hw⟩
  have hz := h.below.size
  have key : ∀ k, NLset hx v' k → NLset hx vx k ∨ w.heap.size ≤ k := by
    rintro k (rfl | hk)
    · exact .inl (.inl rfl)
    · rcases hv k hk with h1 | h1
      · exact .inl (.inr h1)
      · exact .inr h1
  refine ⟨rfl, v', hn, h.r.wrote hw (fun k hk hs => h.apart k hs hk), fun k hk hr' => ?_, fun k hk => ?_, h.br, h.below.trans (hw.below (fun k _ hs => h.bx k hs) hz)⟩
  · rcases key k hk with h1 | h1
    · exact h.apart k h1 hr'
    · have := h.r.lts k hr'; omega
  · rcases key k hk with h1 | h1
    · exact h.bx k h1
    · omega
theorem c_yAdd (n : Nt) (h : Both w0 w hx vx X hr vr R) (k0 : 0 ≤ n.kind) (k1 : n.kind ≤ 255) :
    Calls Try.prog 41 #[.pointer (some ⟨hr, 0, none⟩), .agg #[.int .i64 n.step, .int .i64 n.thread, .int .i64 n.kind, .int .i64 n.ref, .int .i64 n.bits, .int .i64 n.bucket, .int .i64 n.slot, .int .i64 n.value]] w fun e w' =>
      e = .returned (.int .i64 (ntErr R n)) ∧ ∃ vr', Both w0 w' hx vx X hr vr' (ntAdd R n) := by
  refine (c_rAdd n hr vr R w h.r k0 k1).mono ?_
  rintro e w' ⟨rfl, v', hn, hv, hw⟩
  have hz := h.below.size
  have key : ∀ k, NLset hr v' k → NLset hr vr k ∨ w.heap.size ≤ k := by
    rintro k (rfl | hk)
    · exact .inl (.inl rfl)
    · rcases hv k hk with h1 | h1
      · exact .inl (.inr h1)
      · exact .inr h1
  refine ⟨rfl, v', h.x.wrote hw (fun k hk hs => h.apart k hk hs), hn, fun k hk hr' => ?_, h.bx, fun k hk => ?_, h.below.trans (hw.below (fun k _ hs => h.br k hs) hz)⟩
  · rcases key k hr' with h1 | h1
    · exact h.apart k hk h1
    · have := h.x.lts k hk; omega
  · rcases key k hk with h1 | h1
    · exact h.br k h1
    · omega
end
theorem Both.new {w0 w : World} (hb : Below w0.heap.size w0 w) (N M : Nat) (hN : N = w.heap.size) (hM : M = w.heap.size + 1) : Both w0 ((w.alloc (.cells #[.slice none 0 0] 80)).alloc (.cells #[.slice none 0 0] 67)) N (.slice none 0 0) [] M (.slice none 0 0) [] := by
  have hx := (NLx.new hb N hN).go ((Below.refl _ _).alloc (Nat.le_refl _) (.cells #[.slice none 0 0] 67))
  have hz := hb.size
  refine ⟨hx.nl, ⟨?_, ?_, by simp; omega, (fun h => by cases h), World.ownsRow_nil _ _ _ _⟩, ?_, ?_, ?_, hx.below⟩
  · subst hM
    have : (w.alloc (.cells #[.slice none 0 0] 80)).heap.size = w.heap.size + 1 := by simp
    rw [← this]
    unfold World.cell?
    rw [heap_alloc_new]
    rfl
  · subst hM
    simp
  · rintro k (rfl | h) (h2 | h2)
    · omega
    · cases h2
    · cases h
    · cases h
  · rintro k (rfl | h)
    · omega
    · cases h
  · rintro k (rfl | h)
    · omega
    · cases h
theorem ntAdd_kinds {l : List Nt} {n : Nt} (h : ∀ m ∈ l, 0 ≤ m.kind ∧ m.kind ≤ 255) (hn : 0 ≤ n.kind ∧ n.kind ≤ 255) : ∀ m ∈ ntAdd l n, 0 ≤ m.kind ∧ m.kind ≤ 255 := by
  unfold ntAdd
  split
  · intro m hm
    rcases List.mem_append.1 hm with h1 | h1
    · exact h m h1
    · rw [List.mem_singleton] at h1; subst h1; exact hn
  · exact h

/-- Notes that were told, in memory from B on: they may be spoilt. -/
structure Kept (w : World) (B : Nat) (v : Value) (l : List Nt) : Prop where
  arr : Arr w v l.length 8 (rowOf ntc l)
  base : ∀ a n c, v = .slice (some a) n c → B ≤ a.block
  fresh : 0 < l.length → Fresh w B v
theorem Kept.lt {w : World} {B : Nat} {v : Value} {l : List Nt} (h : Kept w B v l) (h0 : 0 < l.length) {a : Addr} {n c : Nat} (he : v = .slice (some a) n c) : a.block < w.heap.size := by
  obtain ⟨b, o, c', e, _, _, hlt, _⟩ := h.arr.open h0 (by omega)
  rw [he] at e
  cases e
  exact hlt
theorem Kept.wrote {S : Nat → Prop} {w w' : World} {B : Nat} {v : Value} {l : List Nt} (h : Kept w B v l) (hw : Wrote S w w') (hS : 0 < l.length → ∀ a n c, v = .slice (some a) n c → ¬ S a.block) : Kept w' B v l := by
  by_cases h0 : 0 < l.length
  · refine ⟨h.arr.wrote hw (hS h0), h.base, fun _ a n c he => ?_⟩
    obtain ⟨h1, oo, h2, h3⟩ := h.fresh h0 a n c he
    exact ⟨h1, oo, h2, fun j => (hw.frozen (p := ⟨a.block, j, none⟩) (h.lt (a := a) h0 he) (hS h0 a n c he)).trans (h3 j)⟩
  · obtain ⟨hl, ao, c, rfl, hc, hm, hx⟩ := h.arr
    refine ⟨⟨hl, ao, c, rfl, hc, hm, fun j u hu => ?_⟩, h.base, fun h1 => absurd h1 h0⟩
    have := (List.getElem?_eq_some_iff.1 hu).1
    omega
theorem Kept.below {w w' : World} {B : Nat} {v : Value} {l : List Nt} (h : Kept w B v l) (hw : Below w.heap.size w w') : Kept w' B v l := h.wrote (S := fun _ => False) (Wrote.of_below hw) fun _ _ _ _ _ hf => hf
theorem NtNew.kept {w w' : World} {B : Nat} {v : Value} {l : List Nt} (h : NtNew w w' v l) (hB : B ≤ w.heap.size) : Kept w' B v l :=
  ⟨h.arr, fun a n c he => Nat.le_trans hB (h.fresh a n c he).1, fun _ a n c he => ⟨Nat.le_trans hB (h.fresh a n c he).1, (h.fresh a n c he).2⟩⟩
/-- What is told later lies elsewhere. -/
theorem Kept.apart {w w1 w' : World} {B : Nat} {v u : Value} {l m : List Nt} (h : Kept w B v l) (hs : w.heap.size ≤ w1.heap.size) (k : NtNew w1 w' u m) : 0 < l.length → ∀ a n c a' n' c', v = .slice (some a) n c → u = .slice (some a') n' c' → a.block ≠ a'.block := by
  intro h0 a n c a' n' c' he he' e
  have h1 := h.lt h0 he
  have h2 := (k.fresh a' n' c' he').1
  omega
def SpoilS (v : Value) (l : List Nt) : Nat → Prop := fun k => 0 < l.length ∧ ∃ a n c, v = .slice (some a) n c ∧ k = a.block
theorem c_spoil2 {w : World} {B : Nat} {v : Value} {l : List Nt} (h : Kept w B v l) : Calls Try.prog 48 #[v] w fun e w' => e = .returned (.tuple #[]) ∧ Wrote (SpoilS v l) w w' := c_spoil v l B w h.arr h.fresh
theorem spoil_base {w : World} {B k : Nat} {v : Value} {l : List Nt} (h : Kept w B v l) (hs : SpoilS v l k) : B ≤ k := by
  obtain ⟨_, a, n, c, he, rfl⟩ := hs
  exact h.base a n c he
theorem spoil_far {w : World} {B k hh : Nat} {v u : Value} {l : List Nt} (hl : ∀ k, NLset hh u k → k < B) (h : Kept w B v l) (hk : NLset hh u k) (hs : SpoilS v l k) : False := by
  have h1 := hl k hk
  have h2 := spoil_base h hs
  omega
theorem spoil_apart {v u : Value} {l m : List Nt} (h : 0 < l.length → ∀ a n c a' n' c', v = .slice (some a) n c → u = .slice (some a') n' c' → a.block ≠ a'.block) : 0 < m.length → ∀ a n c, u = .slice (some a) n c → ¬ SpoilS v l a.block := by
  rintro _ a' n' c' he' ⟨h0, a, n, c, he, e⟩
  exact h h0 a n c a' n' c' he he' e.symm
/-- What a list's header holds. -/
def hdOf (h : Nat) (w : World) : Value := (w.cell? ⟨h, 0, none⟩).getD undef
theorem hdOf_eq {h : Nat} {w : World} {v : Value} (hc : w.cell? ⟨h, 0, none⟩ = some v) : hdOf h w = v := by unfold hdOf; rw [hc]; rfl
theorem hdOf_cell {h : Nat} {w : World} {v : Value} (hc : w.cell? ⟨h, 0, none⟩ = some v) : w.cell? ⟨h, 0, none⟩ = some (hdOf h w) := by rw [hdOf_eq hc]; exact hc
theorem NtAt.andAll {w : World} {b o : Nat} {n : Nt} {Q : Prop} (h : NtAt w b o n) (q : Q) : w.cell? ⟨b, o, none⟩ = some (.int .i64 n.step) ∧ w.cell? ⟨b, o + 1, none⟩ = some (.int .i64 n.thread) ∧ w.cell? ⟨b, o + 2, none⟩ = some (.int .u8 n.kind) ∧ w.cell? ⟨b, o + 3, none⟩ = some (.int .i64 n.ref) ∧ w.cell? ⟨b, o + 4, none⟩ = some (.int .i64 n.bits) ∧ w.cell? ⟨b, o + 5, none⟩ = some (.int .i64 n.bucket) ∧ w.cell? ⟨b, o + 6, none⟩ = some (.int .i64 n.slot) ∧ w.cell? ⟨b, o + 7, none⟩ = some (.int .i64 n.value) ∧ Q := by
  obtain ⟨h0, h1, h2, h3, h4, h5, h6, h7⟩ := h.all
  exact ⟨h0, h1, h2, h3, h4, h5, h6, h7, q⟩
end Go.Proofs.Ytcgjopjjmgpobaa
