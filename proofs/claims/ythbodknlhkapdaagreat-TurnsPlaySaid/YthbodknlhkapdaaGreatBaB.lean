/- Slices over any program. -/
import Derived.Test.YthbodknlhkapdaaGreatBaA
import Derived.BigRegion
import Derived.Deep.AppendLies
import Derived.Deep.DrawnRows
import Derived.Deep.RegionHeld3
import Derived.Laws.BitsAllLaws
import Derived.Laws.BitsLemmas
import Derived.Laws.LoneSync
import Derived.Maps.Own
import Derived.Outline
import Derived.RegionTactic
import Derived.Test.YthbodknlhkapdaaGreatProg
namespace Go.Proofs.YthbodknlhkapdaaGreat
set_option linter.unusedSimpArgs false
set_option linter.unusedVariables false
set_option maxHeartbeats 1000000
set_option maxRecDepth 100000
section
open Go.RowKit
def Arr (w : World) (v : Value) (n size : Nat) (xs : List Value) : Prop :=
 xs.length = n * size ∧ ∃ ao c, v = .slice ao n c ∧ n ≤ c ∧ c ≤ maxLen ∧ ∀ j u, xs[j]? = some u → ∃ b o, ao = some ⟨b, o, none⟩ ∧ b < w.heap.size ∧ w.cell? ⟨b, o + j, none⟩ = some u
section
variable {w w' : World} {v : Value} {n size : Nat} {xs : List Value}
theorem Arr.below (h : Arr w v n size xs) (hb : Below w.heap.size w w') : Arr w' v n size xs := by
 obtain ⟨hl, ao, c, rfl, hc, hm, hx⟩ := h
 refine ⟨hl, ao, c, rfl, hc, hm, fun j u hu => ?_⟩
 obtain ⟨b, o, rfl, hlt, hcell⟩ := hx j u hu
 exact ⟨b, o, rfl, Nat.lt_of_lt_of_le hlt hb.size, (hb.cell (p := ⟨b, o + j, none⟩) hlt).trans hcell⟩
theorem Arr.of_own {base : Nat} {e : TypeId} (h : w.ownsRow base e size v n xs) : Arr w v n size xs := by
 refine ⟨h.1, ?_⟩
 rcases h.2 with ⟨rfl, rfl⟩ | ⟨g, cap, cur, rfl, hb, hg, hn, hm, hs, hx⟩
 · have : xs = [] := List.eq_nil_of_length_eq_zero (by simpa using h.1)
   subst this
   exact ⟨none, 0, rfl, Nat.le_refl _, by unfold maxLen; omega, fun j u hu => by simp at hu⟩
 refine ⟨_, cap, rfl, hn, hm, fun j u hu => ⟨g, 0, rfl, (Array.getElem?_eq_some_iff.1 hg).1, ?_⟩⟩
 have := h.cells (g := g) rfl j u hu
 rw [Nat.zero_add]
 by_cases hj : j = 0
 · subst hj; simpa [Addr.add] using this
 simpa [Addr.add, hj] using this
theorem Arr.open (h : Arr w v n size xs) (hn : 0 < n) (hs : 0 < size) : ∃ b o c, v = .slice (some ⟨b, o, none⟩) n c ∧ n ≤ c ∧ c ≤ maxLen ∧ b < w.heap.size ∧ ∀ j u, xs[j]? = some u → w.cell? ⟨b, o + j, none⟩ = some u := by
 obtain ⟨hl, ao, c, rfl, hc, hm, hx⟩ := h
 have h0 : 0 < xs.length := by rw [hl]; exact Nat.mul_pos hn hs
 obtain ⟨b, o, rfl, hlt, -⟩ := hx 0 xs[0] (by simp [h0])
 refine ⟨b, o, c, rfl, hc, hm, hlt, fun j u hu => ?_⟩
 obtain ⟨b', o', he, _, hcell⟩ := hx j u hu
 cases he
 exact hcell
theorem Arr.shape (h : Arr w v n size xs) : ∃ ao c, v = .slice ao n c ∧ n ≤ c ∧ c ≤ maxLen := by
 obtain ⟨hl, ao, c, rfl, hc, hm, hx⟩ := h
 exact ⟨ao, c, rfl, hc, hm⟩
theorem Arr.clip {ao : Option Addr} {c : Nat} (h : Arr w (.slice ao n c) n size xs) : Arr w (.slice ao n n) n size xs := by
 obtain ⟨hl, ao', c', he, hc, hm, hx⟩ := h
 cases he
 exact ⟨hl, ao, n, rfl, Nat.le_refl _, Nat.le_trans hc hm, hx⟩
theorem Arr.nil (w : World) (size : Nat) : Arr w (.slice none 0 0) 0 size [] := ⟨by simp, none, 0, rfl, Nat.le_refl _, by unfold maxLen; omega, fun j u hu => by simp at hu⟩
end
def Aa2 {α : Type} (f : α → List Value) (l : List α) : List Value := l.flatMap f
theorem Abw {α : Type} (f : α → List Value) (l : List α) (a : α) : Aa2 f (l ++ [a]) = Aa2 f l ++ f a := by simp [Aa2]
theorem Afw {α : Type} {f : α → List Value} {k : Nat} (hf : ∀ a, (f a).length = k) (l : List α) : (Aa2 f l).length = l.length * k := by
 induction l with
 | nil => simp [Aa2]
 | cons a l ih => simp only [Aa2, List.flatMap_cons, List.length_append, List.length_cons] at ih ⊢; rw [ih, hf, Nat.add_mul]; omega
theorem Abk {α : Type} {f : α → List Value} {k : Nat} (hf : ∀ a, (f a).length = k) (l : List α) (i j : Nat) (hi : i < l.length) (hj : j < k) : (Aa2 f l)[i * k + j]? = (f l[i])[j]? := by
 induction l generalizing i with
 | nil => simp at hi
 | cons a l ih =>
   show (f a ++ Aa2 f l)[i * k + j]? = _
   cases i with
   | zero => rw [Nat.zero_mul, Nat.zero_add, List.getElem?_append_left (by rw [hf]; exact hj)]; rfl
   | succ i =>
     rw [List.getElem?_append_right (by rw [hf, Nat.add_mul]; omega), hf, show (i + 1) * k + j - k = i * k + j by rw [Nat.add_mul]; omega]
     exact ih i (by simpa using hi)
theorem Afn (w : World) (cs : List Value) (e : TypeId) (N : Nat) (hN : N = w.heap.size) : ∀ j u, cs[j]? = some u → (w.alloc (.cells cs.toArray e)).cell? ((⟨N, 0, none⟩ : Addr).add j) = some u := by
 subst hN
 intro j u hj
 have : (w.alloc (.cells cs.toArray e)).cell? ⟨w.heap.size, j, none⟩ = some u := by
  unfold World.cell?
  rw [heap_alloc_new]
  simpa using hj
 by_cases h0 : j = 0
 · subst h0; simpa [Addr.add] using this
 simpa [Addr.add, h0] using this
theorem Acf {P : Program} {ops : Array Oper} {rest : List Oper} {o : Oper} {a : Act} {Q : Exit → Act → World → Prop} (w : World) (hgd : o.guard = none) (s x : Operand) (t : TypeId)
 (ho : o.op = .call { callee := .builtin .append, args := #[s, x], argTypes := #[t, t] })
 (base : Nat) (e : TypeId) (i : TypeInfo) (z : Value) (size bytes : Nat) (ht : P.underlying t = some (.slice e)) (hi : P.info? e = some i) (hz : i.zero = some z)
 (hsize : i.size = size) (hby : i.bytes = bytes) (hzs : z.cells.size = size) (hsz : 0 < size) (hbp : 0 < bytes)
 (v : Value) (n : Nat) (xs : List Value) (hs : a.eval s = v) (hown : w.ownsRow base e size v n xs)
 (cs : List Value) (e' : TypeId) (hx : a.eval x = .slice (some ⟨w.heap.size, 0, none⟩) 1 1) (hl : cs.length = size) (h1 : ∀ u ∈ cs, u.oneCell' = true)
 (hbytes : (n + 1) * bytes ≤ 140737488355328) (hbase : base ≤ w.heap.size)
 (h : ∀ g cap w', w'.ownsRow base e size (.slice (some ⟨g, 0, none⟩) (n + 1) cap) (n + 1) (xs ++ cs) → w.grownBy w' v.ownBlock → wpList P ops Q rest (a.put o.dst (.slice (some ⟨g, 0, none⟩) (n + 1) cap)) w') :
 wpList P ops Q (o :: rest) a (w.alloc (.cells cs.toArray e')) := by
 have hle : n + 1 ≤ (n + 1) * bytes := Nat.le_mul_of_pos_right _ hbp
 refine wpList_append_own _ hgd s x t ho base e i z size bytes ht hi hz hsize hby hzs hsz v n xs hs (hown.alloc _) ⟨w.heap.size, 0, none⟩ 1 1 cs hx (by rw [hl, Nat.one_mul]) ?_ h1 (by unfold maxLen; omega) hbytes (by simp; omega) ?_
 · exact Afn w cs e' _ rfl
 intro v' w' hown' hg hnil
 rcases hown'.2 with ⟨_, h0⟩ | ⟨g, cap, cur, rfl, _⟩
 · exact absurd h0 (by omega)
 refine h g cap w' hown' ⟨hg.os, hg.tape, hg.output, Nat.le_trans (by simp) hg.size, fun k hk hne => ?_⟩
 rw [hg.block k (by simp; omega) hne, Below.heap_alloc w _ k hk]
theorem Abi {w w' : World} {base : Nat} {e : TypeId} {size : Nat} {v : Value} {n : Nat} {xs : List Value} (h : w.ownsRow base e size v n xs) (hb : Below w.heap.size w w') : w'.ownsRow base e size v n xs := by
 refine ⟨h.1, ?_⟩
 rcases h.2 with hn | ⟨g, cap, cur, hv, hbs, hg, rest⟩
 · exact .inl hn
 exact .inr ⟨g, cap, cur, hv, hbs, (hb.block g (Array.getElem?_eq_some_iff.1 hg).1).trans hg, rest⟩
theorem Abq {a w w' : World} {base : Nat} {e : TypeId} {size : Nat} {v : Value} {n : Nat} {xs : List Value} (h : Below base a w) (hb : base ≤ w.heap.size) (ho : w.ownsRow base e size v n xs) (hg : w.grownBy w' v.ownBlock) : Below base a w' :=
 h.grown hg hb fun k hk => (ho.lt k hk).1
end
section
open Go.RowKit
structure Aag (S : Nat → Prop) (w w' : World) : Prop where
 os : w'.os = w.os
 tape : w'.tape = w.tape
 output : w'.output = w.output
 size : w.heap.size ≤ w'.heap.size
 block : ∀ k, k < w.heap.size → ¬ S k → w'.heap[k]? = w.heap[k]?
theorem Aag.refl (S : Nat → Prop) (w : World) : Aag S w w := ⟨rfl, rfl, rfl, Nat.le_refl _, fun _ _ _ => rfl⟩
theorem Aag.trans {S T : Nat → Prop} {a b c : World} (h : Aag S a b) (k : Aag T b c) (hT : ∀ n, n < a.heap.size → T n → S n) : Aag S a c :=
 ⟨k.os.trans h.os, k.tape.trans h.tape, k.output.trans h.output, Nat.le_trans h.size k.size, fun i hi hn => (k.block i (Nat.lt_of_lt_of_le hi h.size) fun ht => hn (hT i hi ht)).trans (h.block i hi hn)⟩
theorem Aag.mono {S T : Nat → Prop} {a b : World} (h : Aag S a b) (hT : ∀ n, n < a.heap.size → S n → T n) : Aag T a b := ⟨h.os, h.tape, h.output, h.size, fun i hi hn => h.block i hi fun hs => hn (hT i hi hs)⟩
theorem Aag.drew {S : Nat → Prop} {a b : World} (h : Aag S a b) : Aag S a b.drew := ⟨h.os, h.tape, h.output, h.size, h.block⟩
theorem Aag.drewN {S : Nat → Prop} {a b : World} (h : Aag S a b) (n : Nat) : Aag S a (b.drewN n) := ⟨h.os, h.tape, h.output, h.size, h.block⟩
theorem Aag.of_below {S : Nat → Prop} {w w' : World} (h : Below w.heap.size w w') : Aag S w w' := ⟨h.os, h.tape, h.output, h.size, fun k hk _ => h.block k hk⟩
theorem Aag.below {S : Nat → Prop} {w w' : World} {B : Nat} (h : Aag S w w') (hS : ∀ k, k < w.heap.size → S k → B ≤ k) (hB : B ≤ w.heap.size) : Below B w w' :=
 ⟨h.os, h.tape, h.output, h.size, fun k hk => h.block k (by omega) fun hs => by have := hS k (by omega) hs; omega⟩
theorem Aag.alloc {S : Nat → Prop} {a b : World} (h : Aag S a b) (o : Obj) : Aag S a (b.alloc o) :=
 h.trans (T := fun _ => False) ⟨rfl, rfl, rfl, by simp, fun k hk _ => Below.heap_alloc _ _ _ hk⟩ fun _ _ hf => hf.elim
theorem Aag.setCell {S : Nat → Prop} {a b : World} (h : Aag S a b) {p : Addr} (hp : p.block < a.heap.size → S p.block) (u : Value) : Aag S a (b.setCell p u) :=
 h.trans (T := fun k => k = p.block) ⟨rfl, rfl, rfl, by simp [World.setCell], fun k hk hn => Below.heap_setCell _ _ _ _ hn⟩ fun n hn e => by subst e; exact hp hn
theorem Aag.grown {S : Nat → Prop} {a w w' : World} {row : Option Nat} (h : Aag S a w) (hg : w.grownBy w' row) (hr : ∀ k, row = some k → k < a.heap.size → S k) : Aag S a w' :=
 h.trans (T := fun k => some k = row) ⟨hg.os, hg.tape, hg.output, hg.size, fun k hk hn => hg.block k hk hn⟩ fun n hn e => hr n e.symm hn
theorem Aag.cell {S : Nat → Prop} {w w' : World} (h : Aag S w w') {p : Addr} (hp : p.block < w.heap.size) (hn : ¬ S p.block) : w'.cell? p = w.cell? p := World.cell?_of_block (w := w) (h.block p.block hp hn)
theorem Aag.frozen {S : Nat → Prop} {w w' : World} (h : Aag S w w') {p : Addr} (hp : p.block < w.heap.size) (hn : ¬ S p.block) : w'.frozen? p = w.frozen? p := World.frozen?_of_block (w := w) (h.block p.block hp hn)
theorem Aag.own {S : Nat → Prop} {w w' : World} (h : Aag S w w') {base : Nat} {e : TypeId} {size : Nat} {v : Value} {n : Nat} {xs : List Value} (ho : w.ownsRow base e size v n xs) (hn : ∀ k, v.ownBlock = some k → ¬ S k) : w'.ownsRow base e size v n xs := by
 refine ⟨ho.1, ?_⟩
 rcases ho.2 with h0 | ⟨g, cap, cur, hv, hbs, hg, rest⟩
 · exact .inl h0
 exact .inr ⟨g, cap, cur, hv, hbs, (h.block g (Array.getElem?_eq_some_iff.1 hg).1 (hn g (by rw [hv]; rfl))).trans hg, rest⟩
theorem Arr.wrote {S : Nat → Prop} {w w' : World} {v : Value} {n size : Nat} {xs : List Value} (h : Arr w v n size xs) (hw : Aag S w w') (hn : ∀ a m c, v = .slice (some a) m c → ¬ S a.block) : Arr w' v n size xs := by
 obtain ⟨hl, ao, c, rfl, hc, hm, hx⟩ := h
 refine ⟨hl, ao, c, rfl, hc, hm, fun j u hu => ?_⟩
 obtain ⟨b, o, rfl, hlt, hcell⟩ := hx j u hu
 exact ⟨b, o, rfl, Nat.lt_of_lt_of_le hlt hw.size, (hw.cell (p := ⟨b, o + j, none⟩) hlt (hn ⟨b, o, none⟩ _ _ rfl)).trans hcell⟩
end
section
structure Nt where
 step : Int
 thread : Int
 kind : Int
 ref : Int
 bits : Int
 bucket : Int
 slot : Int
 value : Int
structure Nt.ok (n : Nt) : Prop where
 s0 : -9223372036854775808 ≤ n.step
 s1 : n.step ≤ 9223372036854775807
 t0 : -9223372036854775808 ≤ n.thread
 t1 : n.thread ≤ 9223372036854775807
 k0 : 0 ≤ n.kind
 k1 : n.kind ≤ 255
 r0 : -9223372036854775808 ≤ n.ref
 r1 : n.ref ≤ 9223372036854775807
def ntc (n : Nt) : List Value := [.int .i64 n.step, .int .i64 n.thread, .int .u8 n.kind, .int .i64 n.ref, .int .i64 n.bits, .int .i64 n.bucket, .int .i64 n.slot, .int .i64 n.value]
def ntr (n : Nt) : List Value := [.int .i64 n.step, .int .i64 n.thread, .int .i64 n.kind, .int .i64 n.ref, .int .i64 n.bits, .int .i64 n.bucket, .int .i64 n.slot, .int .i64 n.value]
theorem Ar5 (n : Nt) : (ntc n).length = 8 := rfl
theorem Ar4 (n : Nt) : (ntr n).length = 8 := rfl
def Ake (l : List Nt) (n : Nt) : Bool := match l.getLast? with | some m => decide (n.step < m.step) | none => false
def Aek (l : List Nt) (n : Nt) : Bool := decide (n.kind < 1 ∨ 9 < n.kind) || Ake l n
def Afe (l : List Nt) (n : Nt) : Int := if Aek l n then 1 else if 1048576 ≤ l.length then 3 else 0
def Af0 (l : List Nt) (n : Nt) : List Nt := if Afe l n = 0 then l ++ [n] else l
theorem Ady {l : List Nt} {n : Nt} (h : Aek l n = true) : Afe l n = 1 := by unfold Afe; rw [if_pos h]
theorem Ae5 {l : List Nt} {n : Nt} (h : Aek l n = false) (h2 : 1048576 ≤ l.length) : Afe l n = 3 := by unfold Afe; rw [if_neg (by simp [h]), if_pos h2]
theorem Aos {l : List Nt} {n : Nt} (h : Aek l n = false) (h2 : ¬ 1048576 ≤ l.length) : Afe l n = 0 := by unfold Afe; rw [if_neg (by simp [h]), if_neg h2]
theorem Akf {l : List Nt} {n : Nt} (h : Afe l n ≠ 0) : Af0 l n = l := by unfold Af0; rw [if_neg h]
theorem Aou {l : List Nt} {n : Nt} (h : Afe l n = 0) : Af0 l n = l ++ [n] := by unfold Af0; rw [if_pos h]
theorem Alw {l : List Nt} (n : Nt) (h : 0 < l.length) : Ake l n = decide (n.step < l[l.length - 1].step) := by
 unfold Ake
 rw [List.getLast?_eq_getElem?, List.getElem?_eq_getElem (by omega)]
end
section
open Go.RowKit
structure NL (w : World) (E : TypeId) (f : Nt → List Value) (h : Nat) (v : Value) (l : List Nt) : Prop where
 head : w.cell? ⟨h, 0, none⟩ = some v
 free : w.frozen? ⟨h, 0, none⟩ = false
 lt : h < w.heap.size
 apart : v.ownBlock ≠ some h
 own : w.ownsRow 0 E 8 v l.length (Aa2 f l)
def Ael (h : Nat) (v : Value) : Nat → Prop := fun k => k = h ∨ v.ownBlock = some k
theorem NL.lts {w : World} {E : TypeId} {f : Nt → List Value} {h : Nat} {v : Value} {l : List Nt} (n : NL w E f h v l) : ∀ k, Ael h v k → k < w.heap.size := by
 rintro k (rfl | hk)
 · exact n.lt
 exact (n.own.lt k hk).2
theorem NL.wrote {S : Nat → Prop} {w w' : World} {E : TypeId} {f : Nt → List Value} {h : Nat} {v : Value} {l : List Nt} (n : NL w E f h v l) (hw : Aag S w w') (hs : ∀ k, Ael h v k → ¬ S k) : NL w' E f h v l :=
 ⟨(hw.cell (p := ⟨h, 0, none⟩) n.lt (hs h (.inl rfl))).trans n.head, (hw.frozen (p := ⟨h, 0, none⟩) n.lt (hs h (.inl rfl))).trans n.free, Nat.lt_of_lt_of_le n.lt hw.size, n.apart, hw.own n.own fun k hk => hs k (.inr hk)⟩
theorem NL.below {w w' : World} {E : TypeId} {f : Nt → List Value} {h : Nat} {v : Value} {l : List Nt} (n : NL w E f h v l) (hw : Below w.heap.size w w') : NL w' E f h v l :=
 n.wrote (S := fun _ => False) (Aag.of_below hw) fun _ _ hf => hf
theorem Ahk {f : Nt → List Value} (hf : ∀ a, (f a).length = 8) {l : List Nt} {w : World} {b o : Nat} (h : ∀ j u, (Aa2 f l)[j]? = some u → w.cell? ⟨b, o + j, none⟩ = some u) (i : Nat) (hi : i < l.length) (j : Nat) (hj : j < 8) {u : Value} (hu : (f l[i])[j]? = some u) :
 w.cell? ⟨b, o + (i * 8 + j), none⟩ = some u := h _ _ ((Abk hf l i j hi hj).trans hu)
end
section
open Go.RowKit Go.ChangeMaps Go.MapKept
def Aql (x : Int × Nat) : Value × Value := (.int .u64 x.1, .pointer (some ⟨x.2, 0, none⟩))
def Afs (w : World) (m : Nat) (L : List (Int × Nat)) : Prop :=
 ∃ es clk, w.heap[m]? = some (.map es clk) ∧ es.toList.map (fun e => (e.key, e.val)) = L.map Aql ∧ (∀ e ∈ es.toList, e.born < clk) ∧ (es.toList.map (·.born)).Nodup
def Af4 (L : List (Int × Nat)) (a : Int) : Option Nat := (L.find? fun x => x.1 == a).map Prod.snd
def Axo : Option Nat → Value
 | some b => .pointer (some ⟨b, 0, none⟩)
 | none => .pointer none
theorem Afs.lt {w : World} {m : Nat} {L : List (Int × Nat)} (h : Afs w m L) : m < w.heap.size := by
 obtain ⟨es, clk, hb, _⟩ := h
 exact (Array.getElem?_eq_some_iff.1 hb).1
theorem Afs.block {w w' : World} {m : Nat} {L : List (Int × Nat)} (h : Afs w m L) (hb : w'.heap[m]? = w.heap[m]?) : Afs w' m L := by
 obtain ⟨es, clk, h1, h2⟩ := h
 exact ⟨es, clk, hb.trans h1, h2⟩
theorem Al1 (a : Int) : ∀ (es : List MapEntry) (L : List (Int × Nat)) (i : Nat), es.map (fun e => (e.key, e.val)) = L.map Aql →
 Instr.findNow (.int .u64) (.int .u64 a) es i = some ((Af4 L a).map fun b => (i + (L.findIdx fun x => x.1 == a), Value.pointer (some ⟨b, 0, none⟩))) := by
 intro es
 induction es with
 | nil =>
   intro L i h
   cases L with
   | nil => rfl
   | cons x L => simp at h
 | cons e es ih =>
   intro L i h
   cases L with
   | nil => simp at h
   | cons x L =>
     simp only [List.map_cons, List.cons.injEq, Aql, Prod.mk.injEq] at h
     obtain ⟨⟨hk, hv⟩, h⟩ := h
     unfold Instr.findNow
     rw [hk, hv]
     by_cases hx : a = x.1
     · have e1 : (a == x.1) = true := by simp [hx]
       have e2 : (x.1 == a) = true := by simp [hx]
       simp [Instr.sameNow, e1, Af4, List.find?_cons, e2, List.findIdx_cons]
     have e1 : (a == x.1) = false := by simp [hx]
     have e2 : (x.1 == a) = false := by simp; exact fun h => hx h.symm
     have := ih L (i + 1) h
     simp only [Instr.sameNow, e1, if_true, this]
     have e3 : i + 1 + List.findIdx (fun x => x.1 == a) L = i + (List.findIdx (fun x => x.1 == a) L + 1) := by omega
     rw [e3]
     simp [Af4, List.find?_cons, e2, List.findIdx_cons]
section
variable {P : Program} {w : World} {T kt et : TypeId} {m : Nat} {L : List (Int × Nat)}
theorem Ad9 (hk : P.underlying kt = some (.int .u64)) {es : List MapEntry} (h : es.map (fun e => (e.key, e.val)) = L.map Aql) (a : Int) :
 (Instr.findKey kt (.int .u64 a) es).run P w = .ok ((Af4 L a).map fun b => ((L.findIdx fun x => x.1 == a), Value.pointer (some ⟨b, 0, none⟩))) w := by
 have := Al1 a es L 0 h
 simp [Instr.findKey, run_underlying hk, this, Result.andThen]
theorem Adn (hk : P.underlying kt = some (.int .u64)) (b : Bool) (n : Nat) (a : Int) : (Instr.checkKey b (n + 1) kt (.int .u64 a)).run P w = .ok () w := by
 simp [Instr.checkKey, run_underlying hk, Result.andThen]
theorem Afs.run_lookup (h : Afs w m L) (hT : P.underlying T = some (.map kt et)) (hk : P.underlying kt = some (.int .u64)) (hz : (zeroValue et).run P w = .ok (.pointer none) w) (a : Int) :
 (Instr.lookup T (.map (some m)) (.int .u64 a) false).run P w = .ok (Axo (Af4 L a)) w := by
 obtain ⟨es, clk, hb, he, hbn, hnd⟩ := h
 cases hl : Af4 L a with
 | none => simp [Instr.lookup, run_underlying hT, MapKept.run_getObj_map hb, Adn hk, Ad9 hk he, hl, hz, Axo, Result.andThen]
 | some b => simp [Instr.lookup, run_underlying hT, MapKept.run_getObj_map hb, Adn hk, Ad9 hk he, hl, hz, Axo, Result.andThen]
theorem Afi (hT : P.underlying T = some (.map kt et)) (hk : P.underlying kt = some (.int .u64)) (hz : (zeroValue et).run P w = .ok (.pointer none) w) (a : Int) :
 (Instr.lookup T (.map none) (.int .u64 a) false).run P w = .ok (.pointer none) w := by
 have := Ad9 (w := w) (L := []) hk (es := []) rfl a
 simp [Instr.lookup, run_underlying hT, Adn hk, this, Af4, hz, Result.andThen]
theorem Afs.update (h : Afs w m L) (hT : P.underlying T = some (.map kt et)) (hk : P.underlying kt = some (.int .u64)) (a : Int) (b : Nat) (hn : Af4 L a = none) :
 ∃ w', (Instr.mapUpdate T (.map (some m)) (.int .u64 a) (.pointer (some ⟨b, 0, none⟩))).run P w = .ok () w' ∧ Afs w' m (L ++ [(a, b)]) ∧ w.grownBy w' (some m) := by
 obtain ⟨es, clk, hb, he, hbn, hnd⟩ := h
 refine ⟨setBlock w m (.map (es.push { key := .int .u64 a, val := .pointer (some ⟨b, 0, none⟩), born := clk }) (clk + 1)), ?_, ⟨_, _, heap_setBlock_same hb _, ?_, ?_, ?_⟩, ⟨rfl, rfl, rfl, by simp [setBlock], fun i _ hi => heap_setBlock_other hb _ (fun e => hi (by rw [e]))⟩⟩
 · simp [Instr.mapUpdate, run_underlying hT, MapKept.run_getObj_map hb, Adn hk, Ad9 hk he, hn, MapKept.run_setObj_map _ hb, setBlock, Result.andThen]
 · simp [he, Aql]
 · intro e hm
   rw [Array.toList_push, List.mem_append] at hm
   rcases hm with hm | hm
   · exact Nat.lt_succ_of_lt (hbn e hm)
   rw [List.mem_singleton] at hm
   subst hm
   exact Nat.lt_succ_self _
 rw [Array.toList_push, List.map_append]
 refine List.nodup_append.2 ⟨hnd, by simp, ?_⟩
 intro a ha b hb' hab
 obtain ⟨e, hm, rfl⟩ := List.mem_map.1 ha
 have := hbn e hm
 simp at hb'
 omega
end
theorem Adm {P : Program} (w : World) {ops : Array Oper} {rest : List Oper} {o : Oper} {a : Act} {Q : Exit → Act → World → Prop} (hg : o.guard = none) (m x v : Operand) (T : TypeId) (hop : o.op = Op.mapUpdate T m x v)
 (kt et : TypeId) (hT : P.underlying T = some (.map kt et)) (hk : P.underlying kt = some (.int .u64)) (r : Nat) (L : List (Int × Nat)) (hm : a.eval m = .map (some r)) (h : Afs w r L) (z : Int) (b : Nat) (hx : a.eval x = .int .u64 z) (hv : a.eval v = .pointer (some ⟨b, 0, none⟩)) (hn : Af4 L z = none)
 (hK : ∀ w', Afs w' r (L ++ [(z, b)]) → w.grownBy w' (some r) → wpList P ops Q rest (a.put o.dst undef) w') :
 wpList P ops Q (o :: rest) a w := by
 refine wpList_plain hg fun K' hK' => ?_
 obtain ⟨w', hrun, r1, r2⟩ := h.update hT hk z b hn
 unfold Oper.wp
 simp [execOp, hop, hm, hx, hv, hrun, Result.andThen]
 exact hK' _ _ (hK w' r1 r2)
end
section
open Go.RowKit
structure Wde where
 a : Int
 b : Nat
 v : Int
def wdk (d : Wde) : Int × Nat := (d.a, d.b)
def Afh (L : List Wde) (x : Int) : Int := ((L.find? fun d => d.a == x).map Wde.v).getD 0
structure Ag7 (w : World) (F : Nat → Prop) (c : Nat) (d : Wde) : Prop where
 cell : w.cell? ⟨d.b, 0, none⟩ = some (.int .u64 d.v)
 free : w.frozen? ⟨d.b, 0, none⟩ = false
 mem : F d.b
 lt : d.b < w.heap.size
 ne : d.b ≠ c
 v0 : 0 ≤ d.v
 v1 : d.v < 18446744073709551616
structure Cl (w : World) (F : Nat → Prop) (c : Nat) (L : List Wde) (n k a s i : Int) : Prop where
 mp : (L = [] ∧ w.cell? ⟨c, 0, none⟩ = some (.map none)) ∨ ∃ m, w.cell? ⟨c, 0, none⟩ = some (.map (some m)) ∧ Afs w m (L.map wdk) ∧ F m ∧ (∀ d ∈ L, d.b ≠ m) ∧ m ≠ c
 c1 : w.cell? ⟨c, 1, none⟩ = some (.int .i64 n)
 c2 : w.cell? ⟨c, 2, none⟩ = some (.int .u8 k)
 c3 : w.cell? ⟨c, 3, none⟩ = some (.int .u64 a)
 c4 : w.cell? ⟨c, 4, none⟩ = some (.int .u64 s)
 c5 : w.cell? ⟨c, 5, none⟩ = some (.int .u64 i)
 fr : ∀ j, w.frozen? ⟨c, j, none⟩ = false
 lt : c < w.heap.size
 mem : F c
 wd : ∀ d ∈ L, Ag7 w F c d
 na : (L.map Wde.a).Nodup
 nb : (L.map Wde.b).Nodup
section
variable {w w' : World} {F G S : Nat → Prop} {c : Nat} {L : List Wde} {n k a s i : Int}
theorem Ag7.wrote {d : Wde} (h : Ag7 w F c d) (hw : Aag S w w') (hs : ¬ S d.b) : Ag7 w' F c d :=
 ⟨(hw.cell (p := ⟨d.b, 0, none⟩) h.lt hs).trans h.cell, (hw.frozen (p := ⟨d.b, 0, none⟩) h.lt hs).trans h.free, h.mem, Nat.lt_of_lt_of_le h.lt hw.size, h.ne, h.v0, h.v1⟩
theorem Ag7.mono {d : Wde} (h : Ag7 w F c d) (hF : ∀ k, F k → G k) : Ag7 w G c d := ⟨h.cell, h.free, hF _ h.mem, h.lt, h.ne, h.v0, h.v1⟩
theorem Afs.wrote {m : Nat} {E : List (Int × Nat)} (h : Afs w m E) (hw : Aag S w w') (hs : ¬ S m) : Afs w' m E := h.block (hw.block m h.lt hs)
theorem Cl.wrote (h : Cl w F c L n k a s i) (hw : Aag S w w') (hs : ∀ j, F j → ¬ S j) : Cl w' F c L n k a s i := by
 have hc : ∀ j, w'.cell? ⟨c, j, none⟩ = w.cell? ⟨c, j, none⟩ := fun j => hw.cell (p := ⟨c, j, none⟩) h.lt (hs c h.mem)
 refine ⟨?_, (hc 1).trans h.c1, (hc 2).trans h.c2, (hc 3).trans h.c3, (hc 4).trans h.c4, (hc 5).trans h.c5, fun j => (hw.frozen (p := ⟨c, j, none⟩) h.lt (hs c h.mem)).trans (h.fr j), Nat.lt_of_lt_of_le h.lt hw.size, h.mem, fun d hd => (h.wd d hd).wrote hw (hs _ (h.wd d hd).mem), h.na, h.nb⟩
 rcases h.mp with ⟨h0, h1⟩ | ⟨m, h1, h2, h3, h4, h5⟩
 · exact .inl ⟨h0, (hc 0).trans h1⟩
 exact .inr ⟨m, (hc 0).trans h1, h2.wrote hw (hs m h3), h3, h4, h5⟩
theorem Cl.below (h : Cl w F c L n k a s i) (hb : Below w.heap.size w w') : Cl w' F c L n k a s i := h.wrote (S := fun _ => False) (Aag.of_below hb) fun _ _ hf => hf
theorem Cl.head {n' k' a' s' i' : Int} (h : Cl w F c L n k a s i) (hw : Aag (fun j => j = c) w w') (h0 : w'.cell? ⟨c, 0, none⟩ = w.cell? ⟨c, 0, none⟩) (h1 : w'.cell? ⟨c, 1, none⟩ = some (.int .i64 n')) (h2 : w'.cell? ⟨c, 2, none⟩ = some (.int .u8 k'))
 (h3 : w'.cell? ⟨c, 3, none⟩ = some (.int .u64 a')) (h4 : w'.cell? ⟨c, 4, none⟩ = some (.int .u64 s')) (h5 : w'.cell? ⟨c, 5, none⟩ = some (.int .u64 i')) (hf : ∀ j, w'.frozen? ⟨c, j, none⟩ = w.frozen? ⟨c, j, none⟩) : Cl w' F c L n' k' a' s' i' := by
 refine ⟨?_, h1, h2, h3, h4, h5, fun j => (hf j).trans (h.fr j), Nat.lt_of_lt_of_le h.lt hw.size, h.mem, fun d hd => (h.wd d hd).wrote hw (h.wd d hd).ne, h.na, h.nb⟩
 rcases h.mp with ⟨e0, e1⟩ | ⟨m, e1, e2, e3, e4, e5⟩
 · exact .inl ⟨e0, h0.trans e1⟩
 exact .inr ⟨m, h0.trans e1, e2.wrote hw e5, e3, e4, e5⟩
def Aj2 (x v : Int) (d : Wde) : Wde := if d.a = x then ⟨d.a, d.b, v⟩ else d
theorem Ark (x v : Int) (d : Wde) : (Aj2 x v d).a = d.a := by unfold Aj2; split <;> rfl
theorem Arj (x v : Int) (d : Wde) : (Aj2 x v d).b = d.b := by unfold Aj2; split <;> rfl
theorem Az5 (x v : Int) : wdk ∘ Aj2 x v = wdk := by funext d; simp [wdk, Ark, Arj]
theorem Axs {L : List Wde} (h : (L.map Wde.b).Nodup) {d e : Wde} (hd : d ∈ L) (he : e ∈ L) (hb : d.b = e.b) : d = e := by
 induction L with
 | nil => cases hd
 | cons x L ih =>
   simp only [List.map_cons, List.nodup_cons] at h
   rcases List.mem_cons.1 hd with rfl | hd1
   · rcases List.mem_cons.1 he with rfl | he1
     · rfl
     exact (h.1 (List.mem_map.2 ⟨e, he1, hb.symm⟩)).elim
   rcases List.mem_cons.1 he with rfl | he1
   · exact (h.1 (List.mem_map.2 ⟨d, hd1, hb⟩)).elim
   exact ih h.2 hd1 he1
theorem Cl.put {d : Wde} {v : Int} (h : Cl w F c L n k a s i) (hd : d ∈ L) (v0 : 0 ≤ v) (v1 : v < 18446744073709551616) (hw : Aag S w w') (hS : ∀ j, F j → S j → j = d.b) (hc : w'.cell? ⟨d.b, 0, none⟩ = some (.int .u64 v)) (hf : w'.frozen? ⟨d.b, 0, none⟩ = false) :
 Cl w' F c (L.map (Aj2 d.a v)) n k a s i := by
 have hdw := h.wd d hd
 have hn : ∀ j, F j → j ≠ d.b → ¬ S j := fun j hj hne hs => hne (hS j hj hs)
 have hk : ∀ j, w'.cell? ⟨c, j, none⟩ = w.cell? ⟨c, j, none⟩ := fun j => hw.cell (p := ⟨c, j, none⟩) h.lt (hn c h.mem (Ne.symm hdw.ne))
 refine ⟨?_, (hk 1).trans h.c1, (hk 2).trans h.c2, (hk 3).trans h.c3, (hk 4).trans h.c4, (hk 5).trans h.c5, fun j => (hw.frozen (p := ⟨c, j, none⟩) h.lt (hn c h.mem (Ne.symm hdw.ne))).trans (h.fr j), Nat.lt_of_lt_of_le h.lt hw.size, h.mem, ?_, ?_, ?_⟩
 · rcases h.mp with ⟨e0, e1⟩ | ⟨m, e1, e2, e3, e4, e5⟩
   · rw [e0] at hd; cases hd
   refine .inr ⟨m, (hk 0).trans e1, ?_, e3, ?_, e5⟩
   · rw [List.map_map, Az5]; exact e2.wrote hw (hn m e3 (Ne.symm (e4 d hd)))
   intro e he
   obtain ⟨e', he', rfl⟩ := List.mem_map.1 he
   rw [Arj]; exact e4 e' he'
 · intro e he
   obtain ⟨e', he', rfl⟩ := List.mem_map.1 he
   by_cases hx : e'.b = d.b
   · obtain rfl := Axs h.nb he' hd hx
     have : Aj2 e'.a v e' = ⟨e'.a, e'.b, v⟩ := by unfold Aj2; rw [if_pos rfl]
     rw [this]
     exact ⟨hc, hf, hdw.mem, Nat.lt_of_lt_of_le hdw.lt hw.size, hdw.ne, v0, v1⟩
   have hne : e'.a ≠ d.a := by
    intro he2
    have : ∀ (L : List Wde), (L.map Wde.a).Nodup → e' ∈ L → d ∈ L → e' = d := by
     intro L
     induction L with
     | nil => intro _ h; cases h
     | cons x L ih =>
       intro hn h1 h2
       simp only [List.map_cons, List.nodup_cons] at hn
       rcases List.mem_cons.1 h1 with rfl | h3
       · rcases List.mem_cons.1 h2 with rfl | h4
         · rfl
         exact (hn.1 (List.mem_map.2 ⟨d, h4, he2.symm⟩)).elim
       rcases List.mem_cons.1 h2 with rfl | h4
       · exact (hn.1 (List.mem_map.2 ⟨e', h3, he2⟩)).elim
       exact ih hn.2 h3 h4
    exact hx (by rw [this L h.na he' hd])
   have : Aj2 d.a v e' = e' := by unfold Aj2; rw [if_neg hne]
   rw [this]
   exact (h.wd e' he').wrote hw (hn _ (h.wd e' he').mem hx)
 · rw [List.map_map, show Wde.a ∘ Aj2 d.a v = Wde.a from funext fun e => Ark _ _ e]; exact h.na
 rw [List.map_map, show Wde.b ∘ Aj2 d.a v = Wde.b from funext fun e => Arj _ _ e]; exact h.nb
theorem Apa {L : List Wde} {d : Wde} (hd : d ∈ L) (v x : Int) : Afh (L.map (Aj2 d.a v)) x = if x = d.a then v else Afh L x := by
 unfold Afh
 rw [List.find?_map]
 have hp : ((fun e : Wde => e.a == x) ∘ Aj2 d.a v) = fun e => e.a == x := by funext e; simp [Ark]
 rw [hp]
 by_cases hx : x = d.a
 · subst hx
   rw [if_pos rfl]
   cases hf : L.find? (fun e => e.a == d.a) with
   | none => have := List.find?_eq_none.1 hf d hd; simp at this
   | some e =>
     have he : e.a = d.a := by have := List.find?_some hf; simpa using this
     simp [Aj2, he]
 rw [if_neg hx]
 cases hf : L.find? (fun e => e.a == x) with
 | none => rfl
 | some e =>
   have he : e.a = x := by have := List.find?_some hf; simpa using this
   have : e.a ≠ d.a := fun h => hx (he.symm.trans h)
   simp [Aj2, this]
theorem Aky {L : List Wde} (h : (L.map Wde.a).Nodup) {d : Wde} (hd : d ∈ L) : Afh L d.a = d.v := by
 induction L with
 | nil => cases hd
 | cons x L ih =>
   simp only [List.map_cons, List.nodup_cons] at h
   unfold Afh
   rw [List.find?_cons]
   rcases List.mem_cons.1 hd with rfl | hd
   · simp
   have hne : x.a ≠ d.a := fun e => h.1 (List.mem_map.2 ⟨d, hd, e.symm⟩)
   have : (x.a == d.a) = false := by simpa using hne
   rw [this]
   exact ih h.2 hd
theorem Al6 {L : List Wde} {x : Int} (b : Nat) (hx : ∀ d ∈ L, d.a ≠ x) (y : Int) : Afh (L ++ [⟨x, b, 0⟩]) y = Afh L y := by
 unfold Afh
 rw [List.find?_append]
 cases hf : L.find? (fun e => e.a == y) with
 | some e => rfl
 | none =>
   by_cases hxy : x = y
   · subst hxy; simp
   have : (x == y) = false := by simpa using hxy
   simp [List.find?_cons, this]
theorem Aso {L : List Wde} {x : Int} (hx : ∀ d ∈ L, d.a ≠ x) : Afh L x = 0 := by
 unfold Afh
 rw [List.find?_eq_none.2 (fun d hd => by simpa using hx d hd)]
 rfl
theorem Agi {L : List Wde} {x : Int} (hx : ∀ d ∈ L, d.a ≠ x) : Af4 (L.map wdk) x = none := by
 unfold Af4
 rw [List.find?_map, List.find?_eq_none.2 (fun d hd => by simpa [wdk] using hx d hd)]
 rfl
theorem Ajp {L : List Wde} (h : (L.map Wde.a).Nodup) {d : Wde} (hd : d ∈ L) : Af4 (L.map wdk) d.a = some d.b := by
 induction L with
 | nil => cases hd
 | cons x L ih =>
   simp only [List.map_cons, List.nodup_cons] at h
   unfold Af4
   rw [List.map_cons, List.find?_cons]
   rcases List.mem_cons.1 hd with rfl | hd
   · simp [wdk]
   have hne : x.a ≠ d.a := fun e => h.1 (List.mem_map.2 ⟨d, hd, e.symm⟩)
   have : ((wdk x).1 == d.a) = false := by simpa [wdk] using hne
   rw [this]
   exact ih h.2 hd
theorem Ax5 (h : Cl w F c L n k a s i) (x : Int) : 0 ≤ Afh L x ∧ Afh L x < 18446744073709551616 := by
 unfold Afh
 cases hf : L.find? (fun e => e.a == x) with
 | none => simp
 | some e =>
   have := h.wd e (List.mem_of_find?_eq_some hf)
   exact ⟨this.v0, this.v1⟩
theorem Cl.snoc {m b : Nat} {x : Int} (hL : ∀ d ∈ L, d.a ≠ x) (hF : ∀ j, F j → j < b) (hFG : ∀ j, F j → G j) (hGm : G m) (hGb : G b)
 (h0 : w'.cell? ⟨c, 0, none⟩ = some (.map (some m))) (hm : Afs w' m (L.map wdk ++ [(x, b)])) (hmb : b ≠ m) (hmL : ∀ d ∈ L, d.b ≠ m) (hmc : m ≠ c) (hbc : b ≠ c)
 (c1 : w'.cell? ⟨c, 1, none⟩ = some (.int .i64 n)) (c2 : w'.cell? ⟨c, 2, none⟩ = some (.int .u8 k)) (c3 : w'.cell? ⟨c, 3, none⟩ = some (.int .u64 a)) (c4 : w'.cell? ⟨c, 4, none⟩ = some (.int .u64 s)) (c5 : w'.cell? ⟨c, 5, none⟩ = some (.int .u64 i))
 (fr : ∀ j, w'.frozen? ⟨c, j, none⟩ = false) (lt : c < w'.heap.size) (mem : G c) (hb : w'.cell? ⟨b, 0, none⟩ = some (.int .u64 0)) (hbf : w'.frozen? ⟨b, 0, none⟩ = false) (hbl : b < w'.heap.size)
 (wd : ∀ d ∈ L, Ag7 w' F c d) (na : (L.map Wde.a).Nodup) (nb : (L.map Wde.b).Nodup) : Cl w' G c (L ++ [⟨x, b, 0⟩]) n k a s i := by
 refine ⟨.inr ⟨m, h0, by rw [List.map_append]; exact hm, hGm, ?_, hmc⟩, c1, c2, c3, c4, c5, fr, lt, mem, ?_, ?_, ?_⟩
 · intro d hd
   rcases List.mem_append.1 hd with hd | hd
   · exact hmL d hd
   rw [List.mem_singleton] at hd; subst hd; exact hmb
 · intro d hd
   rcases List.mem_append.1 hd with hd | hd
   · exact (wd d hd).mono hFG
   rw [List.mem_singleton] at hd; subst hd
   exact ⟨hb, hbf, hGb, hbl, hbc, Int.le_refl 0, (by show (0:Int) < 18446744073709551616; omega)⟩
 · rw [List.map_append, List.map_cons, List.map_nil, List.nodup_append]
   refine ⟨na, by simp, fun y hy z hz => ?_⟩
   obtain ⟨d, hd, rfl⟩ := List.mem_map.1 hy
   rw [List.mem_singleton] at hz
   rw [hz]; exact hL d hd
 rw [List.map_append, List.map_cons, List.map_nil, List.nodup_append]
 refine ⟨nb, by simp, fun y hy z hz => ?_⟩
 obtain ⟨d, hd, rfl⟩ := List.mem_map.1 hy
 rw [List.mem_singleton] at hz
 rw [hz]; have := hF _ (wd d hd).mem; exact Nat.ne_of_lt this
end
end
section
structure La where
 k : Int
 a : Int
 s : Int
 i : Int
def upd (M : Int → Int) (a v : Int) : Int → Int := fun x => if x = a then v else M x
def Bd (M : Int → Int) : Prop := ∀ x, 0 ≤ M x ∧ M x < 18446744073709551616
theorem Bd.upd {M : Int → Int} (h : Bd M) (a : Int) {v : Int} (h0 : 0 ≤ v) (h1 : v < 18446744073709551616) : Bd (upd M a v) := by
 intro x
 unfold Proofs.YthbodknlhkapdaaGreat.upd
 split
 · exact ⟨h0, h1⟩
 exact h x
end
section
open Go.RowKit
theorem Alk {a : Addr} {x y : Int} {w : World} (hc : w.cell? a = some (.int .u64 x)) (hz : w.frozen? a = false) :
 (callFunc 133 #[.pointer (some a), .int .u64 y]).run Tryz.prog w = .ok (.value (.int .u64 x)) (w.setCell a (.int .u64 y)) := by
 rw [run_callFunc_extern Tryz.func133 (by kernel_rfl) (by kernel_rfl) (by kernel_rfl) (e := Extern.Atomic.swapT (.int .u64)) (by kernel_rfl)]
 change (Sem.run Tryz.prog (do
  let a' ← asAddr (.pointer (some a))
  let old ← Extern.Atomic.read (.int .u64) a'
  store a' (.int .u64 y) .atomic
  pure old) w).andThen _ = _
 simp [Extern.Atomic.read, asAddr, hc, hz, run_store Tryz.prog w a (.int .u64 y) .atomic rfl, Result.andThen]
section
variable {b : Nat} {w : World} {x : Int} (hc : w.cell? ⟨b, 0, none⟩ = some (.int .u64 x)) (hz : w.frozen? ⟨b, 0, none⟩ = false)
include hc
theorem Ais : C1 56 b w fun e w' => e = .returned (.int .u64 x) ∧ w = w' := by
 have hld := run_call_load (P := Tryz.prog) Tryz.func100 (by kernel_rfl) (by kernel_rfl) (by kernel_rfl) .u64 (by kernel_rfl) hc
 go_enter Tryz.func56, Tryz.ntmps56
 go_wp2
 go_ret
 exact ⟨rfl, rfl⟩
include hz
theorem Ay1 (y : Int) : Calls Tryz.prog 99 #[.pointer (some ⟨b, 0, none⟩), .int .u64 y] w fun e w' => e = .returned (.int .u64 x) ∧ w.setCell ⟨b, 0, none⟩ (.int .u64 y) = w' := by
 have hld := Alk (y := y) hc hz
 go_enter Tryz.func99, Tryz.ntmps99
 go_wp2
 go_ret
 exact ⟨rfl, rfl⟩
theorem Avv (y : Int) : Calls Tryz.prog 102 #[.pointer (some ⟨b, 0, none⟩), .int .u64 y] w fun e w' => e = .returned (.tuple #[]) ∧ w.setCell ⟨b, 0, none⟩ (.int .u64 y) = w' := by
 have hld := run_call_store (P := Tryz.prog) Tryz.func134 (by kernel_rfl) (by kernel_rfl) (by kernel_rfl) (by kernel_rfl) (y := y) (k := .u64) hc hz
 go_enter Tryz.func102, Tryz.ntmps102
 go_wp2
 go_end0
 exact ⟨rfl, rfl⟩
theorem Aqv (y : Int) : Calls Tryz.prog 136 #[.pointer (some ⟨b, 0, none⟩), .int .u64 x, .int .u64 y] w fun e w' => e = .returned (.bool true) ∧ w.setCell ⟨b, 0, none⟩ (.int .u64 y) = w' := by
 have hld := run_call_cas_hit (P := Tryz.prog) Tryz.func163 (by kernel_rfl) (by kernel_rfl) (by kernel_rfl) .u64 (by kernel_rfl) (y := y) hc hz
 go_enter Tryz.func136, Tryz.ntmps136
 go_wp2
 go_ret
 exact ⟨rfl, rfl⟩
theorem Bba (y : Int) : Calls Tryz.prog 245 #[.pointer (some ⟨b, 0, none⟩), .int .u64 y] w fun e w' => e = .returned (.int .u64 (IntKind.u64.wrap (x + y))) ∧ w.setCell ⟨b, 0, none⟩ (.int .u64 (IntKind.u64.wrap (x + y))) = w' := by
 have hs : (Op.intArith .add .u64 x y).run Tryz.prog w = .ok (.int .u64 (IntKind.u64.wrap (x + y))) w := by simp [go_sem, Op.intArith]
 have hld := run_call_add (P := Tryz.prog) Tryz.func246 (by kernel_rfl) (by kernel_rfl) (by kernel_rfl) .u64 (by kernel_rfl) hc hz hs
 have hl2 := hQd hs
 clear hs
 go_enter Tryz.func245, Tryz.ntmps245
 go_wp2
 go_ret
 exact ⟨rfl, rfl⟩
end
structure Aod (w : World) (F : Nat → Prop) (w' : World) (G : Nat → Prop) : Prop where
 lts : ∀ j, G j → j < w'.heap.size
 old : ∀ j, F j → G j
 new : ∀ j, G j → F j ∨ w.heap.size ≤ j
def Ap1 (w : World) (F : Nat → Prop) (c : Nat) (L : List Wde) (n k a s i x : Int) (e : Ending) (w' : World) : Prop :=
 ∃ L' F' d, e = .returned (.pointer (some ⟨d.b, 0, none⟩)) ∧ Cl w' F' c L' n k a s i ∧ d ∈ L' ∧ d.a = x ∧ (∀ y, Afh L' y = Afh L y) ∧ Aod w F w' F' ∧ Aag F w w'
theorem Af2 (w : World) (N : Nat) (hN : N = w.heap.size) : Afs (w.alloc (.map #[] 0)) N [] := by
 subst hN
 exact ⟨#[], 0, heap_alloc_new w _, rfl, by simp, by simp⟩
theorem Cl.mkmap {w : World} {F : Nat → Prop} {c : Nat} {n k a s i : Int} (h : Cl w F c [] n k a s i) (h0 : w.cell? ⟨c, 0, none⟩ = some (.map none)) (hF : ∀ j, F j → j < w.heap.size) :
 Cl ((w.setCell ⟨c, 0, none⟩ (.map (some w.heap.size))).alloc (.map #[] 0)) (fun j => F j ∨ j = w.heap.size) c [] n k a s i ∧ Afs ((w.setCell ⟨c, 0, none⟩ (.map (some w.heap.size))).alloc (.map #[] 0)) w.heap.size [] ∧
 ((w.setCell ⟨c, 0, none⟩ (.map (some w.heap.size))).alloc (.map #[] 0)).cell? ⟨c, 0, none⟩ = some (.map (some w.heap.size)) ∧ Aag (fun j => j = c) w ((w.setCell ⟨c, 0, none⟩ (.map (some w.heap.size))).alloc (.map #[] 0)) := by
 obtain ⟨W, hW⟩ := exq (w.setCell ⟨c, 0, none⟩ (.map (some w.heap.size)))
 rw [← hW]
 have hz : W.heap.size = w.heap.size := by rw [hW]; simp
 have hw0 : Aag (fun j => j = c) w W := by rw [hW]; exact Aag.setCell (S := fun j => j = c) (Aag.refl _ _) (p := ⟨c, 0, none⟩) (fun _ => rfl) _
 have hb : Below W.heap.size W (W.alloc (.map #[] 0)) := bal _ _
 have hcl : c < W.heap.size := by rw [hz]; exact h.lt
 have hc : ∀ j, (W.alloc (.map #[] 0)).cell? ⟨c, j, none⟩ = W.cell? ⟨c, j, none⟩ := fun j => hb.cell (p := ⟨c, j, none⟩) hcl
 have hk : ∀ j, j ≠ 0 → W.cell? ⟨c, j, none⟩ = w.cell? ⟨c, j, none⟩ := fun j hj => by rw [hW]; exact World.cell?_setCell_other _ _ _ _ (by simp [hj])
 have h00 : W.cell? ⟨c, 0, none⟩ = some (.map (some w.heap.size)) := by rw [hW]; exact World.cell?_setCell_same _ _ _ h0
 have hm : Afs (W.alloc (.map #[] 0)) w.heap.size [] := Af2 W _ hz.symm
 refine ⟨⟨.inr ⟨w.heap.size, (hc 0).trans h00, hm, .inr rfl, (fun d hd => by cases hd), by have := h.lt; omega⟩, (hc 1).trans ((hk 1 (by decide)).trans h.c1), (hc 2).trans ((hk 2 (by decide)).trans h.c2), (hc 3).trans ((hk 3 (by decide)).trans h.c3), (hc 4).trans ((hk 4 (by decide)).trans h.c4), (hc 5).trans ((hk 5 (by decide)).trans h.c5), fun j => (hb.frozen (p := ⟨c, j, none⟩) hcl).trans ?_, by simp; omega, .inl h.mem, (fun d hd => by cases hd), h.na, h.nb⟩, hm, (hc 0).trans h00, hw0.alloc _⟩
 rw [hW]; exact (World.frozen?_setCell _ _ _ _).trans (h.fr j)
theorem Cl.addWord {w w1 : World} {F : Nat → Prop} {c m : Nat} {L : List Wde} {n k a s i x : Int} {T : TypeId} (h : Cl w F c L n k a s i) (h1 : w.cell? ⟨c, 0, none⟩ = some (.map (some m))) (h2 : Afs w m (L.map wdk)) (h3 : F m) (h4 : ∀ d ∈ L, d.b ≠ m) (h5 : m ≠ c)
 (hF : ∀ j, F j → j < w.heap.size) (hL : ∀ d ∈ L, d.a ≠ x) (hm : Afs w1 m (L.map wdk ++ [(x, w.heap.size)])) (hg : (w.alloc (.cells #[.int .u64 0] T)).grownBy w1 (some m)) :
 Cl w1 (fun j => F j ∨ j = w.heap.size) c (L ++ [⟨x, w.heap.size, 0⟩]) n k a s i ∧ Aag (fun j => j = m) w w1 ∧ w.heap.size < w1.heap.size := by
 have hw : Aag (fun j => j = m) w w1 := ((Aag.refl _ _).alloc _).grown hg fun k hk _ => by cases hk; rfl
 have hc : ∀ j, w1.cell? ⟨c, j, none⟩ = w.cell? ⟨c, j, none⟩ := fun j => hw.cell (p := ⟨c, j, none⟩) h.lt (Ne.symm h5)
 have hml := h2.lt
 have hz : w.heap.size + 1 ≤ w1.heap.size := by have := hg.size; simpa using this
 have hb0 : (w.alloc (.cells #[.int .u64 0] T)).cell? ⟨w.heap.size, 0, none⟩ = some (.int .u64 0) := by
  unfold World.cell?
  rw [heap_alloc_new]
  rfl
 have hbf : (w.alloc (.cells #[.int .u64 0] T)).frozen? ⟨w.heap.size, 0, none⟩ = false := by
  unfold World.frozen?
  rw [heap_alloc_new]
  rfl
 have hne : some w.heap.size ≠ some m := by intro e; injection e; omega
 refine ⟨Cl.snoc hL hF (fun j hj => .inl hj) (.inl h3) (.inr rfl) ((hc 0).trans h1) hm (by omega) h4 h5 (by have := h.lt; omega) ((hc 1).trans h.c1) ((hc 2).trans h.c2) ((hc 3).trans h.c3) ((hc 4).trans h.c4) ((hc 5).trans h.c5)
  (fun j => (hw.frozen (p := ⟨c, j, none⟩) h.lt (Ne.symm h5)).trans (h.fr j)) (Nat.lt_of_lt_of_le h.lt hw.size) (.inl h.mem) ((hg.cell_far ⟨w.heap.size, 0, none⟩ (by simp) hne).trans hb0) ((hg.frozen_far ⟨w.heap.size, 0, none⟩ (by simp) hne).trans hbf) (by omega)
  (fun d hd => (h.wd d hd).wrote hw (h4 d hd)) h.na h.nb, hw, by omega⟩
theorem Agd (w : World) : (zeroValue 134).run Tryz.prog w = .ok (.pointer none) w := by kernel_rfl
theorem c_at (w : World) (F : Nat → Prop) (c : Nat) (L : List Wde) (n k a s i x : Int) (h : Cl w F c L n k a s i) (hF : ∀ j, F j → j < w.heap.size) (x0 : 0 ≤ x) (x1 : x < 18446744073709551616) :
 Calls Tryz.prog 97 #[.pointer (some ⟨c, 0, none⟩), .int .u64 x] w (Ap1 w F c L n k a s i x) := by
 by_cases hin : ∃ d ∈ L, d.a = x
 · obtain ⟨d, hd, rfl⟩ := hin
   rcases h.mp with ⟨h0, _⟩ | ⟨m, h1, h2, h3, h4, h5⟩
   · rw [h0] at hd; cases hd
   have hlk := Afs.run_lookup h2 Tryz.underlying135 Tryz.underlying38 (Agd w) d.a
   rw [Ajp h.na hd] at hlk
   simp only [Axo] at hlk
   have HP : Hid (Ap1 w F c L n k a s i d.a (.returned (.pointer (some ⟨d.b, 0, none⟩))) w) := hQd ⟨L, F, d, rfl, h, hd, rfl, fun _ => rfl, ⟨hF, fun _ h => h, fun _ h => .inl h⟩, Aag.refl _ _⟩
   clear h h2 h3 h4 h5 hd
   go_enter Tryz.func97, Tryz.ntmps97
   go_wp2
   go_ret
   exact HP.out
 have hL : ∀ d ∈ L, d.a ≠ x := fun d hd e => hin ⟨d, hd, e⟩
 have HL := hQd hL
 have H := hQd h
 have HF := hQd hF
 have hcl := h.lt
 have hfr := h.fr 0
 clear hin hL hF
 rcases h.mp with ⟨h0, h1⟩ | ⟨m, h1, h2, h3, h4, h5⟩
 · subst h0
   have hlk := fun (W : World) => Afi (w := W) (T := 135) Tryz.underlying135 Tryz.underlying38 (Agd W) x
   have hmm := @run_makeMap Tryz.prog
   have heq := fun (W : World) (r : Option Nat) => run_eql_map_nil (P := Tryz.prog) W 135 38 134 r Tryz.underlying135
   have hne : ¬ c = w.heap.size := by omega
   have HM := hQd (Cl.mkmap h h1 HF.out)
   have HE : Hid (∀ w1, Afs w1 w.heap.size [(x, w.heap.size + 1)] → (((w.setCell ⟨c, 0, none⟩ (.map (some w.heap.size))).alloc (.map #[] 0)).alloc (.cells #[.int .u64 0] 206)).grownBy w1 (some w.heap.size) → Ap1 w F c [] n k a s i x (.returned (.pointer (some ⟨w.heap.size + 1, 0, none⟩))) w1) := by
    refine hQd fun w1 hm hg => ?_
    obtain ⟨g1, g2, g3, g4⟩ := HM.out
    have hz1 : ((w.setCell ⟨c, 0, none⟩ (.map (some w.heap.size))).alloc (.map #[] 0)).heap.size = w.heap.size + 1 := by simp
    have hlt : ∀ j, (F j ∨ j = w.heap.size) → j < ((w.setCell ⟨c, 0, none⟩ (.map (some w.heap.size))).alloc (.map #[] 0)).heap.size := by
     rw [hz1]; rintro j (hj | hj)
     · have := HF.out j hj; omega
     omega
    obtain ⟨q1, q2, q3⟩ := Cl.addWord g1 g3 g2 (.inr rfl) (fun d hd => by cases hd) (by have := h.lt; omega) hlt (fun d hd => by cases hd) (by rw [hz1]; exact hm) hg
    rw [hz1] at q1 q3
    refine ⟨_, _, ⟨x, w.heap.size + 1, 0⟩, rfl, q1, by simp, rfl, fun y => Al6 _ (fun d hd => by cases hd) y, ⟨?_, fun j hj => .inl (.inl hj), ?_⟩, ?_⟩
    · rintro j ((hj | hj) | hj)
      · have := HF.out j hj; omega
      · omega
      omega
    · rintro j ((hj | hj) | hj)
      · exact .inl hj
      · exact .inr (by omega)
      exact .inr (by omega)
    exact (g4.mono (fun j _ e => by subst e; exact h.mem)).trans q2 (fun j hj e => by omega)
   have HM2 : Hid (Afs (((w.setCell ⟨c, 0, none⟩ (.map (some w.heap.size))).alloc (.map #[] 0)).alloc (.cells #[.int .u64 0] 206)) w.heap.size []) := hQd ((Af2 _ _ (by simp)).block (Below.heap_alloc _ _ _ (by simp)))
   have HN : Hid (Af4 [] x = none) := hQd rfl
   clear h HM
   go_enter Tryz.func97, Tryz.ntmps97
   go_wp2_with (at_mapUpdate; refine Adm _ rfl _ _ _ 135 rfl 38 134 Tryz.underlying135 Tryz.underlying38 w.heap.size [] rfl HM2.out x (w.heap.size + 1) rfl rfl HN.out ?_; intro w1 hm1 hg1)
   go_ret
   exact HE.out _ hm1 hg1
 have hlk := Afs.run_lookup h2 Tryz.underlying135 Tryz.underlying38 (Agd w) x
 rw [Agi HL.out] at hlk
 simp only [Axo] at hlk
 have heq := fun (W : World) (r : Option Nat) => run_eql_map_nil (P := Tryz.prog) W 135 38 134 r Tryz.underlying135
 have hne : ¬ c = w.heap.size := by omega
 have HM2 := hQd (h2.block (w' := w.alloc (.cells #[.int .u64 0] 206)) (Below.heap_alloc _ _ _ h2.lt))
 have HN := hQd (Agi HL.out)
 have HE : Hid (∀ w1, Afs w1 m (L.map wdk ++ [(x, w.heap.size)]) → (w.alloc (.cells #[.int .u64 0] 206)).grownBy w1 (some m) → Ap1 w F c L n k a s i x (.returned (.pointer (some ⟨w.heap.size, 0, none⟩))) w1) := by
  refine hQd fun w1 hm hg => ?_
  obtain ⟨q1, q2, q3⟩ := Cl.addWord h h1 h2 h3 h4 h5 HF.out HL.out hm hg
  refine ⟨_, _, ⟨x, w.heap.size, 0⟩, rfl, q1, by simp, rfl, fun y => Al6 _ HL.out y, ⟨?_, fun j hj => .inl hj, ?_⟩, ?_⟩
  · rintro j (hj | hj)
    · have := HF.out j hj; omega
    omega
  · rintro j (hj | hj)
    · exact .inl hj
    exact .inr (by omega)
  exact q2.mono (fun j _ e => by subst e; exact h3)
 clear h h2 h3 h4 h5
 go_enter Tryz.func97, Tryz.ntmps97
 go_wp2_with (at_mapUpdate; refine Adm _ rfl _ _ _ 135 rfl 38 134 Tryz.underlying135 Tryz.underlying38 m (L.map wdk) rfl HM2.out x w.heap.size rfl rfl HN.out ?_; intro w1 hm1 hg1)
 go_ret
 exact HE.out _ hm1 hg1
end
section
open Go.RowKit
theorem Aod.trans {w w1 w2 : World} {F G H : Nat → Prop} (h : Aod w F w1 G) (k : Aod w1 G w2 H) (hs : w.heap.size ≤ w1.heap.size) : Aod w F w2 H :=
 ⟨k.lts, fun j hj => k.old j (h.old j hj), fun j hj => (k.new j hj).elim (fun h1 => h.new j h1) fun h1 => .inr (by omega)⟩
theorem Aod.size {w w1 w2 : World} {F G : Nat → Prop} (h : Aod w F w1 G) (hs : w1.heap.size ≤ w2.heap.size) : Aod w F w2 G := ⟨fun j hj => Nat.lt_of_lt_of_le (h.lts j hj) hs, h.old, h.new⟩
def Ap2 (w : World) (F D : Nat → Prop) (R : World → Prop) (c : Nat) (L : List Wde) (n kd x v' : Int) (e : Ending) (w' : World) : Prop :=
 e = .returned (.int .u64 (Afh L x)) ∧ R w' ∧ ∃ L' F', Cl w' F' c L' (n + 1) kd x (Afh L x) v' ∧ (∀ y, Afh L' y = if y = x then v' else Afh L y) ∧ Aod w F w' F' ∧ Aag (fun j => F j ∨ D j) w w'
theorem Cl.stored {w : World} {F : Nat → Prop} {c : Nat} {L : List Wde} {n k a s i n' k' a' s' i' : Int} (h : Cl w F c L n k a s i) :
 Cl (((((w.setCell ⟨c, 1, none⟩ (.int .i64 n')).setCell ⟨c, 2, none⟩ (.int .u8 k')).setCell ⟨c, 3, none⟩ (.int .u64 a')).setCell ⟨c, 4, none⟩ (.int .u64 s')).setCell ⟨c, 5, none⟩ (.int .u64 i')) F c L n' k' a' s' i' ∧
 Aag (fun j => j = c) w (((((w.setCell ⟨c, 1, none⟩ (.int .i64 n')).setCell ⟨c, 2, none⟩ (.int .u8 k')).setCell ⟨c, 3, none⟩ (.int .u64 a')).setCell ⟨c, 4, none⟩ (.int .u64 s')).setCell ⟨c, 5, none⟩ (.int .u64 i')) := by
 have hw : Aag (fun j => j = c) w (((((w.setCell ⟨c, 1, none⟩ (.int .i64 n')).setCell ⟨c, 2, none⟩ (.int .u8 k')).setCell ⟨c, 3, none⟩ (.int .u64 a')).setCell ⟨c, 4, none⟩ (.int .u64 s')).setCell ⟨c, 5, none⟩ (.int .u64 i')) := by
  repeat (first | exact Aag.refl _ _ | refine Aag.setCell (S := fun j => j = c) ?_ (p := ⟨c, _, none⟩) (fun _ => rfl) _)
 have h1 := h.c1
 have h2 := h.c2
 have h3 := h.c3
 have h4 := h.c4
 have h5 := h.c5
 refine ⟨h.head hw ?_ ?_ ?_ ?_ ?_ ?_ ?_, hw⟩
 all_goals (first | (intro j; simp [World.frozen?_setCell]) | simp [World.cell?_setCell_other, World.cell?_setCell_same, h1, h2, h3, h4, h5] | skip)
theorem Aao {f : FuncId} {fn : Func} (hf : Tryz.prog.funcs[f]? = some fn) (hname : (fn.name == "runtime.NumGoroutine") = false) (hb : fn.body.isNone = false) (args : Array Value) (w : World) : (callFunc f args).run Tryz.prog w = .ok (.enter f args) w := by
 have h1 : fn.name ≠ "runtime.NumGoroutine" := by simpa using hname
 have h2 : ¬ fn.body = none := by intro e; rw [e] at hb; cases hb
 simp [callFunc, hf, h1, h2, Sem.run]
def Amz (w : World) (F D : Nat → Prop) (R : World → Prop) (K : FuncId) (caps : Array Value) (v v' : Int) : Prop :=
 ∀ W b, Aag F w W → (F b ∨ w.heap.size ≤ b) → b < W.heap.size → W.cell? ⟨b, 0, none⟩ = some (.int .u64 v) → W.frozen? ⟨b, 0, none⟩ = false →
  Calls Tryz.prog K (#[.pointer (some ⟨b, 0, none⟩)] ++ caps) W fun e W' => e = .returned (.int .u64 v) ∧ W'.cell? ⟨b, 0, none⟩ = some (.int .u64 v') ∧ W'.frozen? ⟨b, 0, none⟩ = false ∧ Aag (fun j => j = b ∨ D j) W W' ∧ R W'
theorem Ahq (w : World) (F D : Nat → Prop) (R : World → Prop) (c : Nat) (L : List Wde) (n k a s i kd x v' : Int) (K : FuncId) (caps : Array Value) (h : Cl w F c L n k a s i) (hF : ∀ j, F j → j < w.heap.size) (x0 : 0 ≤ x) (x1 : x < 18446744073709551616)
 (hn0 : 0 ≤ n) (hn : n ≤ 4611686018427387904) (v0 : 0 ≤ v') (v1 : v' < 18446744073709551616) (hD : ∀ j, D j → ¬ F j ∧ j < w.heap.size) (hR : ∀ A B, R A → Aag (fun j => j = c) A B → R B) (hd : Amz w F D R K caps (Afh L x) v') (hK : ∀ args W, (callFunc K args).run Tryz.prog W = .ok (.enter K args) W) :
 Calls Tryz.prog 54 #[.pointer (some ⟨c, 0, none⟩), .int .u8 kd, .int .u64 x, .func (.func K) #[] caps] w (Ap2 w F D R c L n kd x v') := by
 have H := hQd h
 have HF := hQd hF
 have HD := hQd hD
 have HR := hQd hR
 have Hd := hQd hd
 obtain ⟨cv, hcv⟩ := exq (Afh L x)
 have HC := hQd hcv
 clear h hF hD hR hd hcv
 go_enter Tryz.func54, Tryz.ntmps54
 go_wp2_with fail
 refine (c_at w F c L n k a s i x H.out HF.out x0 x1).mono ?_
 rintro e w1 ⟨L1, F1, d, rfl, h1, hd1, rfl, hv1, hg1, hw1⟩
 have hcell := (h1.wd d hd1).cell
 have hfree := (h1.wd d hd1).free
 have hdv : d.v = Afh L d.a := by rw [← hv1, Aky h1.na hd1]
 have hdl := (h1.wd d hd1).lt
 have hdn := hg1.new _ (h1.wd d hd1).mem
 have hc0 : (F c) := H.out.mem
 have Hc := hQd (Hd.out w1 d.b hw1 hdn hdl (by rw [← hdv]; exact hcell) hfree)
 clear hcell hfree hdl hdn
 go_wp2_with fail
 refine Hc.out.mono ?_
 rintro e w2 ⟨rfl, hb2, hf2, hw2, hr2⟩
 have hdm := (h1.wd d hd1).mem
 have hdc := (h1.wd d hd1).ne
 have hDn : ∀ j, F1 j → D j → False := fun j hj hd => by
  obtain ⟨g1, g2⟩ := HD.out j hd
  rcases hg1.new j hj with h | h
  · exact g1 h
  omega
 have h2 : Cl w2 F1 c (L1.map (Aj2 d.a v')) n k a s i := Cl.put h1 hd1 v0 v1 hw2 (fun j hj hs => hs.elim id fun hd => (hDn j hj hd).elim) hb2 hf2
 have hval : ∀ y, Afh (L1.map (Aj2 d.a v')) y = if y = d.a then v' else Afh L y := fun y => by rw [Apa hd1, hv1]
 have hnc : ∀ j, D j → j ≠ c := fun j hj e => by subst e; exact (HD.out j hj).1 hc0
 have HE : Hid (∀ w3, Cl w3 F1 c (L1.map (Aj2 d.a v')) (n + 1) kd d.a (Afh L d.a) v' → Aag (fun j => j = c) w2 w3 → Ap2 w F D R c L n kd d.a v' (.returned (.int .u64 (Afh L d.a))) w3) := by
  refine hQd fun w3 h3 hw3 => ⟨rfl, HR.out _ _ hr2 hw3, _, F1, h3, hval, hg1.size (Nat.le_trans hw2.size hw3.size), ?_⟩
  have hs1 := hw1.size
  refine ((hw1.mono (fun j _ h => .inl h)).trans hw2 ?_).trans hw3 ?_
  · rintro j hj (rfl | hd)
    · rcases hg1.new _ hdm with h | h
      · exact .inl h
      omega
    exact .inr hd
  rintro j _ rfl
  exact .inl hc0
 have HS := hQd (fun (n' k' a' s' i' : Int) => Cl.stored (n' := n') (k' := k') (a' := a') (s' := s') (i' := i') h2)
 have c1 := h2.c1
 have c2 := h2.c2
 have c3 := h2.c3
 have c4 := h2.c4
 have c5 := h2.c5
 have fr := h2.fr
 have hn1 : n + 1 ≤ 9223372036854775807 := by omega
 have hb3 : (w2.setCell ⟨c, 1, none⟩ (.int .i64 (n + 1))).cell? ⟨d.b, 0, none⟩ = some (.int .u64 v') := (World.cell?_setCell_other _ _ _ _ (fun e => hdc (congrArg Addr.block e).symm)).trans hb2
 have Hb3 := hQd hb3
 clear h1 h2 hval hv1 hdv hDn hnc hw2 hr2 Hc Hd HR HD hg1 hw1 hb3 hb2
 go_wp2_with (go_at_call 56; refine (Ais Hb3.out).mono ?_; rintro e w' ⟨rfl, rfl⟩)
 go_ret
 exact HE.out _ (HS.out _ _ _ _ _).1 (HS.out _ _ _ _ _).2
end
section
open Go.RowKit
structure Ce (w : World) (F : Nat → Prop) (c : Nat) (M : Int → Int) (n : Int) (la : La) : Prop where
 ex : ∃ L, Cl w F c L n la.k la.a la.s la.i ∧ ∀ x, Afh L x = M x
 lts : ∀ j, F j → j < w.heap.size
theorem Ce.bd {w : World} {F : Nat → Prop} {c : Nat} {M : Int → Int} {n : Int} {la : La} (h : Ce w F c M n la) : Bd M := by
 obtain ⟨L, hL, hv⟩ := h.ex
 intro x
 rw [← hv]; exact Ax5 hL x
theorem Ce.mem {w : World} {F : Nat → Prop} {c : Nat} {M : Int → Int} {n : Int} {la : La} (h : Ce w F c M n la) : F c := by
 obtain ⟨L, hL, hv⟩ := h.ex
 exact hL.mem
theorem Ce.wrote {w w' : World} {F S : Nat → Prop} {c : Nat} {M : Int → Int} {n : Int} {la : La} (h : Ce w F c M n la) (hw : Aag S w w') (hs : ∀ j, F j → ¬ S j) : Ce w' F c M n la := by
 obtain ⟨L, hL, hv⟩ := h.ex
 exact ⟨⟨L, hL.wrote hw hs, hv⟩, fun j hj => Nat.lt_of_lt_of_le (h.lts j hj) hw.size⟩
theorem Ce.below {w w' : World} {F : Nat → Prop} {c : Nat} {M : Int → Int} {n : Int} {la : La} (h : Ce w F c M n la) (hb : Below w.heap.size w w') : Ce w' F c M n la := h.wrote (S := fun _ => False) (Aag.of_below hb) fun _ _ hf => hf
def Ag8 (w : World) (F : Nat → Prop) (c : Nat) (M : Int → Int) (n : Int) (la : La) (v : Value) (e : Ending) (w' : World) : Prop :=
 e = .returned v ∧ ∃ F', Ce w' F' c M n la ∧ Aod w F w' F' ∧ Aag F w w'
theorem Ap2.ce {w w0 : World} {F D : Nat → Prop} {R : World → Prop} {c : Nat} {L : List Wde} {n kd x v' : Int} {e : Ending} {w' : World} {M : Int → Int} (h : Ap2 w F D R c L n kd x v' e w') (hM : ∀ y, Afh L y = M y) (hw : Below w0.heap.size w0 w) (hD : ∀ j, D j → w0.heap.size ≤ j) :
 e = .returned (.int .u64 (M x)) ∧ R w' ∧ ∃ F', Ce w' F' c (upd M x v') (n + 1) ⟨kd, x, M x, v'⟩ ∧ Aod w0 F w' F' ∧ Aag F w0 w' ∧ ∀ j, F' j → F j ∨ w.heap.size ≤ j := by
 obtain ⟨rfl, hr, L', F', h1, h2, h3, h4⟩ := h
 have hs := hw.size
 rw [hM] at h1 ⊢
 refine ⟨rfl, hr, F', ⟨⟨L', h1, fun y => ?_⟩, h3.lts⟩, ⟨h3.lts, h3.old, fun j hj => (h3.new j hj).elim .inl fun h => .inr (by omega)⟩, (Aag.of_below hw).trans h4 fun j hj h => h.elim id fun hd => ?_, h3.new⟩
 · rw [h2]; unfold upd; split <;> simp [hM]
 have := hD j hd; omega
theorem Awi (M : Int → Int) (x : Int) : upd M x (M x) = M := by funext y; unfold upd; split <;> simp_all
section
variable {w : World} {F : Nat → Prop} {c : Nat} {M : Int → Int} {n : Int} {la : La}
theorem Asl (w : World) (F : Nat → Prop) (v : Int) : Amz w F (fun _ => False) (fun _ => True) 56 #[] v v := by
 intro W b _ _ hb hc hf
 refine (Ais hc).mono ?_
 rintro e w' ⟨rfl, rfl⟩
 exact ⟨rfl, hc, hf, Aag.refl _ _, trivial⟩
theorem Bbq (x : Int) (h : Ce w F c M n la) (x0 : 0 ≤ x) (x1 : x < 18446744073709551616) (hn0 : 0 ≤ n) (hn : n ≤ 4611686018427387904) :
 Calls Tryz.prog 37 #[.pointer (some ⟨c, 0, none⟩), .int .u64 x] w (Ag8 w F c M (n + 1) ⟨1, x, M x, M x⟩ (.int .u64 (M x))) := by
 obtain ⟨L, hL, hv⟩ := h.ex
 have hb := h.bd x
 have Ha := hQd (Ahq w F (fun _ => False) (fun _ => True) c L n la.k la.a la.s la.i 1 x (M x) 56 #[] hL h.lts x0 x1 hn0 hn hb.1 hb.2 (fun _ h => h.elim) (fun _ _ h _ => h) (by rw [hv]; exact Asl w F (M x)) (Aao Tryz.func56 (by kernel_rfl) (by kernel_rfl)))
 have Hv := hQd hv
 clear h hL hv hb
 go_enter Tryz.func37, Tryz.ntmps37
 go_wp2_with fail
 refine Ha.out.mono ?_
 intro e w' hp
 obtain ⟨rfl, _, F', hq1, hq2, hq3, _⟩ := hp.ce Hv.out (Below.refl _ _) (fun _ h => h.elim)
 rw [Awi] at hq1
 have Hq := hQd (Exists.intro (p := fun G => Ce w' G c _ _ _ ∧ Aod w F w' G ∧ Aag F w w') F' ⟨hq1, hq2, hq3⟩)
 clear hp hq1 hq2 hq3
 go_wp2
 go_ret
 exact ⟨rfl, Hq.out⟩
theorem Aqn (w : World) (F : Nat → Prop) (v y : Int) (N : Nat) (hN : w.cell? ⟨N, 0, none⟩ = some (.int .u64 y)) (hl : N < w.heap.size) (hF : ¬ F N) : Amz w F (fun _ => False) (fun _ => True) 98 #[.pointer (some ⟨N, 0, none⟩)] v y := by
 intro W b hw hb0 hb hc hf
 have hN2 : W.cell? ⟨N, 0, none⟩ = some (.int .u64 y) := (hw.cell (p := ⟨N, 0, none⟩) hl hF).trans hN
 have HS := hQd (Ay1 hc hf y)
 have HE : Hid ((W.setCell ⟨b, 0, none⟩ (.int .u64 y)).cell? ⟨b, 0, none⟩ = some (.int .u64 y) ∧ (W.setCell ⟨b, 0, none⟩ (.int .u64 y)).frozen? ⟨b, 0, none⟩ = false ∧ Aag (fun j => j = b ∨ False) W (W.setCell ⟨b, 0, none⟩ (.int .u64 y))) :=
  hQd ⟨World.cell?_setCell_same _ _ _ hc, (World.frozen?_setCell _ _ _ _).trans hf, Aag.setCell (S := fun j => j = b ∨ False) (Aag.refl _ _) (p := ⟨b, 0, none⟩) (fun _ => .inl rfl) _⟩
 clear hc hf hw hN
 go_enter Tryz.func98, Tryz.ntmps98
 go_wp2_with fail
 refine HS.out.mono ?_
 rintro e w' ⟨rfl, rfl⟩
 go_wp2
 go_ret
 exact ⟨rfl, HE.out.1, HE.out.2.1, HE.out.2.2, trivial⟩
theorem Ax9 (w : World) (y : Int) : Calls Tryz.prog 55 #[.int .u64 y] w fun e w' => e = .returned (.func (.func 98) #[] #[.pointer (some ⟨w.heap.size, 0, none⟩)]) ∧ w.alloc (.cells #[.int .u64 y] 37) = w' := by
 go_enter Tryz.func55, Tryz.ntmps55
 go_wp2
 go_ret
 exact ⟨rfl, rfl⟩
theorem Aez (w : World) (v : Value) (e : TypeId) (N : Nat) (hN : N = w.heap.size) : (w.alloc (.cells #[v] e)).cell? ⟨N, 0, none⟩ = some v := by
 subst hN
 unfold World.cell?
 rw [heap_alloc_new]
 rfl
theorem Arb (w : World) (v : Value) (e : TypeId) (N : Nat) (hN : N = w.heap.size) : (w.alloc (.cells #[v] e)).frozen? ⟨N, 0, none⟩ = false := by
 subst hN
 unfold World.frozen?
 rw [heap_alloc_new]
 rfl
theorem Ay7 (x y : Int) (h : Ce w F c M n la) (x0 : 0 ≤ x) (x1 : x < 18446744073709551616) (y0 : 0 ≤ y) (y1 : y < 18446744073709551616) (hn0 : 0 ≤ n) (hn : n ≤ 4611686018427387904) :
 Calls Tryz.prog 17 #[.pointer (some ⟨c, 0, none⟩), .int .u64 x, .int .u64 y] w (Ag8 w F c (upd M x y) (n + 1) ⟨2, x, M x, y⟩ (.int .u64 (M x))) := by
 have h1 := h.below (bal _ (.cells #[.int .u64 y] 37))
 obtain ⟨L, hL, hv⟩ := h1.ex
 have Ha := hQd (Ahq _ F (fun _ => False) (fun _ => True) c L n la.k la.a la.s la.i 2 x y _ _ hL h1.lts x0 x1 hn0 hn y0 y1 (fun _ h => h.elim) (fun _ _ h _ => h) (Aqn _ F (Afh L x) y w.heap.size (Aez _ _ _ _ rfl) (by simp) (fun hf => by have := h.lts _ hf; omega)) (Aao Tryz.func98 (by kernel_rfl) (by kernel_rfl)))
 have Hv := hQd hv
 clear h h1 hL hv
 go_enter Tryz.func17, Tryz.ntmps17
 go_wp2_with fail
 refine (Ax9 _ _).mono ?_
 rintro e w' ⟨rfl, rfl⟩
 go_wp2_with fail
 refine Ha.out.mono ?_
 intro e w' hp
 obtain ⟨rfl, _, F', hq1, hq2, hq3, _⟩ := hp.ce Hv.out (bal _ (.cells #[.int .u64 y] 37)) (fun _ h => h.elim)
 have Hq := hQd (Exists.intro (p := fun G => Ce w' G c _ _ _ ∧ Aod w F w' G ∧ Aag F w w') F' ⟨hq1, hq2, hq3⟩)
 clear hp hq1 hq2 hq3
 go_wp2
 go_ret
 exact ⟨rfl, Hq.out⟩
theorem Asm (w : World) (F : Nat → Prop) (v y z : Int) (N : Nat) (hN : w.cell? ⟨N, 0, none⟩ = some (.int .u64 y)) (hl : N < w.heap.size) (hF : ¬ F N) (v0 : 0 ≤ v) (v1 : v < 18446744073709551616) (y0 : 0 ≤ y) (y1 : y < 18446744073709551616) (hz : Hid (z = (v + y) % 18446744073709551616)) : Amz w F (fun _ => False) (fun _ => True) 244 #[.pointer (some ⟨N, 0, none⟩)] v z := by
 intro W b hw hb0 hb hc hf
 have hN2 : W.cell? ⟨N, 0, none⟩ = some (.int .u64 y) := (hw.cell (p := ⟨N, 0, none⟩) hl hF).trans hN
 have hs := Bba (w := W.drew) hc hf y
 have e1 : IntKind.u64.wrap (v + y) = z := by rw [hz.out, IntKind.wrap_u64]
 rw [e1] at hs
 have HS := hQd hs
 have hne : N ≠ b := by
  intro e; subst e
  rcases hb0 with h | h
  · exact hF h
  omega
 have HE : Hid ((W.setCell ⟨b, 0, none⟩ (.int .u64 z)).drew.cell? ⟨b, 0, none⟩ = some (.int .u64 z) ∧ (W.setCell ⟨b, 0, none⟩ (.int .u64 z)).drew.frozen? ⟨b, 0, none⟩ = false ∧ Aag (fun j => j = b ∨ False) W (W.setCell ⟨b, 0, none⟩ (.int .u64 z)).drew ∧ IntKind.u64.wrap (z - y) = v) :=
  hQd ⟨World.cell?_setCell_same _ _ _ hc, (World.frozen?_setCell _ _ _ _).trans hf, (Aag.setCell (S := fun j => j = b ∨ False) (Aag.refl _ _) (p := ⟨b, 0, none⟩) (fun _ => .inl rfl) _).drew, by rw [hz.out, IntKind.wrap_u64]; omega⟩
 have hN3 : (W.setCell ⟨b, 0, none⟩ (.int .u64 z)).cell? ⟨N, 0, none⟩ = some (.int .u64 y) := (World.cell?_setCell_other _ _ _ _ (fun e => hne (congrArg Addr.block e).symm)).trans hN2
 clear hc hf hw hN e1 hs
 go_enter Tryz.func244, Tryz.ntmps244
 go_wp2_with fail
 go_region_held3 (fun w' => w'.cell? ⟨N, 0, none⟩ = some (.int .u64 y)) (go_keep) ((go_at_call 245; refine (HS.out).mono ?_; rintro e w' ⟨rfl, rfl⟩))
 all_goals
  go_wp2
  go_ret
  exact ⟨Aa6 HE.out.2.2.2, HE.out.1, HE.out.2.1, HE.out.2.2.1, trivial⟩
theorem Bde (x y : Int) (h : Ce w F c M n la) (x0 : 0 ≤ x) (x1 : x < 18446744073709551616) (y0 : 0 ≤ y) (y1 : y < 18446744073709551616) (hn0 : 0 ≤ n) (hn : n ≤ 4611686018427387904) :
 Calls Tryz.prog 243 #[.pointer (some ⟨c, 0, none⟩), .int .u64 x, .int .u64 y] w (Ag8 w F c (upd M x ((M x + y) % 18446744073709551616)) (n + 1) ⟨4, x, M x, (M x + y) % 18446744073709551616⟩ (.int .u64 (M x))) := by
 have hb := h.bd x
 have h1 := h.below (bal _ (.cells #[.int .u64 y] 37))
 obtain ⟨L, hL, hv⟩ := h1.ex
 obtain ⟨z, hz⟩ := exq ((M x + y) % 18446744073709551616)
 have z0 : 0 ≤ z ∧ z < 18446744073709551616 := by omega
 have Hz := hQd hz
 have Ha := hQd (Ahq _ F (fun _ => False) (fun _ => True) c L n la.k la.a la.s la.i 4 x z 244 #[.pointer (some ⟨w.heap.size, 0, none⟩)] hL h1.lts x0 x1 hn0 hn z0.1 z0.2 (fun _ h => h.elim) (fun _ _ h _ => h) (by rw [hv]; exact Asm _ F (M x) y z w.heap.size (Aez _ _ _ _ rfl) (by simp) (fun hf => by have := h.lts _ hf; omega) hb.1 hb.2 y0 y1 Hz) (Aao Tryz.func244 (by kernel_rfl) (by kernel_rfl)))
 have Hv := hQd hv
 rw [← hz]
 clear h h1 hL hv hz hb z0
 go_enter Tryz.func243, Tryz.ntmps243
 go_wp2_with fail
 refine Ha.out.mono ?_
 intro e w' hp
 obtain ⟨rfl, _, F', hq1, hq2, hq3, _⟩ := hp.ce Hv.out (bal _ (.cells #[.int .u64 y] 37)) (fun _ h => h.elim)
 have Hq := hQd (Exists.intro (p := fun G => Ce w' G c _ _ _ ∧ Aod w F w' G ∧ Aag F w w') F' ⟨hq1, hq2, hq3⟩)
 clear hp hq1 hq2 hq3
 go_wp2
 go_ret
 exact ⟨rfl, Hq.out⟩
theorem Akx (w : World) (F : Nat → Prop) (v is : Int) (N : Nat) (h0 : w.cell? ⟨N, 0, none⟩ = some (.int .u64 v)) (h1 : w.cell? ⟨N + 1, 0, none⟩ = some (.int .u64 is)) (h2 : w.cell? ⟨N + 2, 0, none⟩ = some (.bool false)) (h3 : w.frozen? ⟨N + 2, 0, none⟩ = false)
 (hl : N + 2 < w.heap.size) (hF : ∀ j, F j → j < N) : Amz w F (fun j => j = N + 2) (fun W => W.cell? ⟨N + 2, 0, none⟩ = some (.bool true) ∧ W.frozen? ⟨N + 2, 0, none⟩ = false ∧ N + 2 < W.heap.size) 135 #[.pointer (some ⟨N, 0, none⟩), .pointer (some ⟨N + 1, 0, none⟩), .pointer (some ⟨N + 2, 0, none⟩)] v is := by
 intro W b hw hb0 hb hc hf
 have hk : ∀ j, N ≤ j → ¬ F j := fun j hj hf => by have := hF j hf; omega
 have k0 : W.cell? ⟨N, 0, none⟩ = some (.int .u64 v) := (hw.cell (p := ⟨N, 0, none⟩) (by show N < _; omega) (hk _ (Nat.le_refl _))).trans h0
 have k1 : W.cell? ⟨N + 1, 0, none⟩ = some (.int .u64 is) := (hw.cell (p := ⟨N + 1, 0, none⟩) (by show N + 1 < _; omega) (hk _ (by show N ≤ N + 1; omega))).trans h1
 have k2 : W.cell? ⟨N + 2, 0, none⟩ = some (.bool false) := (hw.cell (p := ⟨N + 2, 0, none⟩) hl (hk _ (by show N ≤ N + 2; omega))).trans h2
 have k3 : W.frozen? ⟨N + 2, 0, none⟩ = false := (hw.frozen (p := ⟨N + 2, 0, none⟩) hl (hk _ (by show N ≤ N + 2; omega))).trans h3
 have hl2 : N + 2 < W.heap.size := Nat.lt_of_lt_of_le hl hw.size
 have hbn : b ≠ N ∧ b ≠ N + 1 ∧ b ≠ N + 2 := by
  rcases hb0 with h | h
  · have := hF b h; omega
  omega
 obtain ⟨n0, n1, n2⟩ := hbn
 have HS := hQd (Aqv hc hf is)
 have q0 : (W.setCell ⟨b, 0, none⟩ (.int .u64 is)).cell? ⟨N, 0, none⟩ = some (.int .u64 v) := (World.cell?_setCell_other _ _ _ _ (fun e => n0 (congrArg Addr.block e))).trans k0
 have q2 : (W.setCell ⟨b, 0, none⟩ (.int .u64 is)).cell? ⟨N + 2, 0, none⟩ = some (.bool false) := (World.cell?_setCell_other _ _ _ _ (fun e => n2 (congrArg Addr.block e))).trans k2
 have HE : Hid (((W.setCell ⟨b, 0, none⟩ (.int .u64 is)).setCell ⟨N + 2, 0, none⟩ (.bool true)).cell? ⟨b, 0, none⟩ = some (.int .u64 is) ∧ ((W.setCell ⟨b, 0, none⟩ (.int .u64 is)).setCell ⟨N + 2, 0, none⟩ (.bool true)).frozen? ⟨b, 0, none⟩ = false ∧ Aag (fun j => j = b ∨ j = N + 2) W ((W.setCell ⟨b, 0, none⟩ (.int .u64 is)).setCell ⟨N + 2, 0, none⟩ (.bool true)) ∧ ((W.setCell ⟨b, 0, none⟩ (.int .u64 is)).setCell ⟨N + 2, 0, none⟩ (.bool true)).cell? ⟨N + 2, 0, none⟩ = some (.bool true) ∧ ((W.setCell ⟨b, 0, none⟩ (.int .u64 is)).setCell ⟨N + 2, 0, none⟩ (.bool true)).frozen? ⟨N + 2, 0, none⟩ = false ∧ N + 2 < ((W.setCell ⟨b, 0, none⟩ (.int .u64 is)).setCell ⟨N + 2, 0, none⟩ (.bool true)).heap.size) := by
  refine hQd ⟨(World.cell?_setCell_other _ _ _ _ (fun e => n2 (congrArg Addr.block e).symm)).trans (World.cell?_setCell_same _ _ _ hc), ?_, ?_, World.cell?_setCell_same _ _ _ q2, ?_, by simp; omega⟩
  · rw [World.frozen?_setCell, World.frozen?_setCell]; exact hf
  · exact Aag.setCell (S := fun j => j = b ∨ j = N + 2) (Aag.setCell (S := fun j => j = b ∨ j = N + 2) (Aag.refl _ _) (p := ⟨b, 0, none⟩) (fun _ => .inl rfl) _) (p := ⟨N + 2, 0, none⟩) (fun _ => .inr rfl) _
  rw [World.frozen?_setCell, World.frozen?_setCell]; exact k3
 clear hc hf hw h0 h1 h2 h3 hk
 go_enter Tryz.func135, Tryz.ntmps135
 go_wp2_with fail
 refine HS.out.mono ?_
 rintro e w' ⟨rfl, rfl⟩
 go_wp2
 go_ret
 exact ⟨rfl, HE.out.1, HE.out.2.1, HE.out.2.2.1, HE.out.2.2.2.1, HE.out.2.2.2.2.1, HE.out.2.2.2.2.2⟩
theorem At3 (x was is : Int) (h : Ce w F c M n la) (x0 : 0 ≤ x) (x1 : x < 18446744073709551616) (i0 : 0 ≤ is) (i1 : is < 18446744073709551616) (hn0 : 0 ≤ n) (hn : n ≤ 4611686018427387904) (hv : M x = was) :
 Calls Tryz.prog 108 #[.pointer (some ⟨c, 0, none⟩), .int .u64 x, .int .u64 was, .int .u64 is] w (Ag8 w F c (upd M x is) (n + 1) ⟨3, x, M x, is⟩ (.tuple #[.int .u64 (M x), .bool true])) := by
 have hb := h.bd x
 have hbel : Below w.heap.size w (((w.alloc (.cells #[.int .u64 was] 37)).alloc (.cells #[.int .u64 is] 37)).alloc (.cells #[.bool false] 4)) := ((bal _ _).alloc (by simp) _).alloc (by simp; omega) _
 have h1 := h.below hbel
 have hlt := h.lts
 have k0 : (((w.alloc (.cells #[.int .u64 was] 37)).alloc (.cells #[.int .u64 is] 37)).alloc (.cells #[.bool false] 4)).cell? ⟨w.heap.size, 0, none⟩ = some (.int .u64 was) := by
  rw [(bal _ _).cell (p := ⟨w.heap.size, 0, none⟩) (by simp <;> omega), (bal _ _).cell (p := ⟨w.heap.size, 0, none⟩) (by simp)]
  exact Aez _ _ _ _ rfl
 have k1 : (((w.alloc (.cells #[.int .u64 was] 37)).alloc (.cells #[.int .u64 is] 37)).alloc (.cells #[.bool false] 4)).cell? ⟨w.heap.size + 1, 0, none⟩ = some (.int .u64 is) := by
  rw [(bal _ _).cell (p := ⟨w.heap.size + 1, 0, none⟩) (by simp)]
  exact Aez _ _ _ _ (by simp)
 have k2 := Aez ((w.alloc (.cells #[.int .u64 was] 37)).alloc (.cells #[.int .u64 is] 37)) (.bool false) 4 (w.heap.size + 2) (by simp)
 have k3 := Arb ((w.alloc (.cells #[.int .u64 was] 37)).alloc (.cells #[.int .u64 is] 37)) (.bool false) 4 (w.heap.size + 2) (by simp)
 obtain ⟨L, hL, hv0⟩ := h1.ex
 have Hcell := hQd hbel
 have Ha := hQd (Ahq _ F (fun j => j = w.heap.size + 2) (fun W => W.cell? ⟨w.heap.size + 2, 0, none⟩ = some (.bool true) ∧ W.frozen? ⟨w.heap.size + 2, 0, none⟩ = false ∧ w.heap.size + 2 < W.heap.size) c L n la.k la.a la.s la.i 3 x is 135 #[.pointer (some ⟨w.heap.size, 0, none⟩), .pointer (some ⟨w.heap.size + 1, 0, none⟩), .pointer (some ⟨w.heap.size + 2, 0, none⟩)] hL h1.lts x0 x1 hn0 hn i0 i1
  (fun j hj => by subst hj; exact ⟨fun hf => by have := hlt _ hf; omega, by simp⟩)
  (fun A B hA hw => ⟨(hw.cell (p := ⟨w.heap.size + 2, 0, none⟩) hA.2.2 (by have := hlt _ h.mem; show ¬ w.heap.size + 2 = c; omega)).trans hA.1, (hw.frozen (p := ⟨w.heap.size + 2, 0, none⟩) hA.2.2 (by have := hlt _ h.mem; show ¬ w.heap.size + 2 = c; omega)).trans hA.2.1, Nat.lt_of_lt_of_le hA.2.2 hw.size⟩)
  (by rw [hv0]; exact Akx _ F (M x) is w.heap.size (hv ▸ k0) k1 k2 k3 (by simp) hlt) (Aao Tryz.func135 (by kernel_rfl) (by kernel_rfl)))
 have Hv := hQd hv0
 have Hlt := hQd hlt
 have Hh := hQd hv
 clear h h1 hL hv0 hb k0 k1 k2 k3 hbel hlt hv
 go_enter Tryz.func108, Tryz.ntmps108
 go_wp2_with fail
 refine Ha.out.mono ?_
 intro e w' hp
 obtain ⟨rfl, ⟨hr1, hr2, hr3⟩, F', hq1, hq2, hq3, hq4⟩ := hp.ce Hv.out Hcell.out (fun j hj => by omega)
 have Hq1 := hQd hq1
 have Hq2 := hQd hq2
 have Hq3 := hQd hq3
 have HE : Hid (∀ w3, Aag (fun j => j = w.heap.size + 2) w' w3 → Ag8 w F c (upd M x is) (n + 1) ⟨3, x, M x, is⟩ (.tuple #[.int .u64 (M x), .bool true]) (.returned (.tuple #[.int .u64 (M x), .bool true])) w3) := by
  refine hQd fun w3 hw3 => ⟨rfl, F', Hq1.out.wrote hw3 (fun j hj e => ?_), Hq2.out.size hw3.size, Hq3.out.trans hw3 fun j hj e => by omega⟩
  subst e
  rcases hq4 _ hj with h | h
  · have := Hlt.out _ h; omega
  simp at h; omega
 clear hp hq1 hq2 hq3 hq4
 go_wp2
 go_region
 all_goals
  go_wp2
  exact bodyPost_ret (v := .tuple #[.int .u64 (M x), .bool true]) (by simp [results, Tryz.results108, go_sem, hr1, hr2]) rfl (HE.out _ (Aag.setCell (S := fun j => j = w.heap.size + 2) (Aag.refl _ _) (p := ⟨w.heap.size + 2, 0, none⟩) (fun _ => rfl) _).drew)
theorem Amp (x : Int) (h : Ce w F c M n la) (x0 : 0 ≤ x) (x1 : x < 18446744073709551616) :
 Calls Tryz.prog 19 #[.pointer (some ⟨c, 0, none⟩), .int .u64 x] w fun e w' => e = .returned (.int .u64 (M x)) ∧ w = w' := by
 obtain ⟨L, hL, hv⟩ := h.ex
 by_cases hin : ∃ d ∈ L, d.a = x
 · obtain ⟨d, hd, rfl⟩ := hin
   rcases hL.mp with ⟨h0, _⟩ | ⟨m, h1, h2, h3, h4, h5⟩
   · rw [h0] at hd; cases hd
   have hlk := Afs.run_lookup h2 Tryz.underlying135 Tryz.underlying38 (Agd w) d.a
   rw [Ajp hL.na hd] at hlk
   simp only [Axo] at hlk
   have hval : M d.a = d.v := by rw [← hv, Aky hL.na hd]
   have Hc := hQd (Ais (hL.wd d hd).cell)
   rw [hval]
   clear h hL hv h2 h3 h4 h5 hd hval
   go_enter Tryz.func19, Tryz.ntmps19
   go_wp2_with fail
   refine Hc.out.mono ?_
   rintro e w' ⟨rfl, rfl⟩
   go_wp2
   go_ret
   exact ⟨rfl, rfl⟩
 have hn : ∀ d ∈ L, d.a ≠ x := fun d hd e => hin ⟨d, hd, e⟩
 have hval : M x = 0 := by rw [← hv, Aso hn]
 rw [hval]
 rcases hL.mp with ⟨h0, h1⟩ | ⟨m, h1, h2, h3, h4, h5⟩
 · have hlk := Afi (w := w) (T := 135) Tryz.underlying135 Tryz.underlying38 (Agd w) x
   clear h hL hv hn hin hval h0
   go_enter Tryz.func19, Tryz.ntmps19
   go_wp2
   go_ret
   exact ⟨rfl, rfl⟩
 have hlk := Afs.run_lookup h2 Tryz.underlying135 Tryz.underlying38 (Agd w) x
 rw [Agi hn] at hlk
 simp only [Axo] at hlk
 clear h hL hv hn hin hval h2 h3 h4 h5
 go_enter Tryz.func19, Tryz.ntmps19
 go_wp2
 go_ret
 exact ⟨rfl, rfl⟩
theorem Apt (h : Ce w F c M n la) : C1 92 c w fun e w' => e = .returned (.int .i64 n) ∧ w = w' := by
 obtain ⟨L, hL, hv⟩ := h.ex
 have c1 := hL.c1
 clear h hL hv
 go_enter Tryz.func92, Tryz.ntmps92
 go_wp2
 go_ret
 exact ⟨rfl, rfl⟩
theorem Aww (h : Ce w F c M n la) : C1 46 c w fun e w' => e = .returned (.agg #[.int .u8 la.k, .int .u64 la.a, .int .u64 la.s, .int .u64 la.i]) ∧ Below w.heap.size w w' := by
 obtain ⟨L, hL, hv⟩ := h.ex
 have c2 := hL.c2
 have c3 := hL.c3
 have c4 := hL.c4
 have c5 := hL.c5
 have hlt := hL.lt
 clear h hL hv
 go_enter Tryz.func46, Tryz.ntmps46
 go_wp2
 exact bodyPost_ret (v := .agg #[.int .u8 la.k, .int .u64 la.a, .int .u64 la.s, .int .u64 la.i]) (by simp [results, Tryz.results46, go_sem]) rfl ⟨rfl, bal _ _⟩
end
end
end Go.Proofs.YthbodknlhkapdaaGreat
