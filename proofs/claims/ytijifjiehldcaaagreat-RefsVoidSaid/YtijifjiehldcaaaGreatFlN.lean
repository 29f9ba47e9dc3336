/- Layer 27: a new Flush; what it got. -/
import Derived.Test.YtijifjiehldcaaaGreatFl
namespace Go.Proofs.YtijifjiehldcaaaGreat
set_option linter.unusedSimpArgs false
open Go.RowKit
set_option linter.unusedVariables false

def flNew : Flm := ⟨1, ⟨1, 0, false⟩, 0, 0, 0⟩
/-- A block that stands, ahead of a new one. -/
theorem Ob.alloc {O : Om} {w : World} {g b g2 : Nat} {cs : List Value} (h : Ob w O g b cs) (o : Obj) : Ob (w.alloc o) (newOwn O w.heap.size (w.heap.size + 1) g2) g b cs :=
  ⟨by unfold newOwn; rw [if_neg (by have := h.lt; omega)]; exact h.o, by have := h.lt; simp; omega, fun j u hu => (((Below.refl w.heap.size w).alloc (Nat.le_refl _) o).cell (p := ⟨b, j, none⟩) h.lt).trans (h.c j u hu), fun j => (((Below.refl w.heap.size w).alloc (Nat.le_refl _) o).frozen (p := ⟨b, j, none⟩) h.lt).trans (h.f j)⟩
theorem alloc_ob {O : Om} {w : World} (hhi : ∀ j, O j ≠ 0 → j < w.heap.size) (g : Nat) (cs : Array Value) (ty : TypeId) (n : Nat) (hn : n = w.heap.size) :
    ∃ O', Ext (fun j => j = g) O w O' (w.alloc (.cells cs ty)) ∧ Ob (w.alloc (.cells cs ty)) O' g n cs.toList ∧ ∀ g' b' ds, Ob w O g' b' ds → Ob (w.alloc (.cells cs ty)) O' g' b' ds := by
  subst hn
  exact ⟨_, Ext.alloc (S := fun j => j = g) (g := g) hhi rfl (.cells cs ty), Ob.new w O g cs ty, fun g' b' ds h => h.alloc _⟩
set_option maxHeartbeats 2000000 in
set_option maxRecDepth 100000 in
theorem c_NewFlush (w : World) (O : Om) (k t : Nat) (d : Int) (hk : 10 ≤ k) (ht : t < 64) (hhi : ∀ j, O j ≠ 0 → j < w.heap.size) :
    Calls Tryz.prog 24 #[.int .i64 t, .int .i64 d] w fun e w' => ∃ b, RP (fun j => k ≤ j ∧ j ≤ k + 3) w O (.pointer (some ⟨b.X, 0, none⟩)) (fun W G => FAt W G k b t d flNew) e w' := by
  obtain ⟨O1, e1, d1, -⟩ := alloc_ob hhi (k + 3) #[.int .i64 d] 2 _ rfl
  obtain ⟨O2, e2, x2, k2⟩ := alloc_ob e1.hi k (flCs .nilFunc 0 0 0).toArray 84 (w.heap.size + 1) (by simp)
  obtain ⟨O3, e3, b3, k3⟩ := alloc_ob e2.hi (k + 3) #[.pointer (some ⟨w.heap.size + 1, 0, none⟩)] 63 (w.heap.size + 1 + 1) (by simp)
  have E3 : Hid (Ext (fun j => k ≤ j ∧ j ≤ k + 3) O w O3 _) := Lib.hid (((e1.mono fun t _ h => by omega).trans (e2.mono fun t _ h => by omega)).trans (e3.mono fun t _ h => by omega))
  have D3 := Lib.hid (k3 _ _ _ (k2 _ _ _ d1))
  have X3 := Lib.hid (k3 _ _ _ x2)
  have B3 := Lib.hid b3
  clear e1 d1 e2 x2 k2 e3 b3 k3
  go_enter Tryz.func24, Tryz.ntmps24
  go_wp2_with fail
  refine (c_NewTakeE t _ O3 (k + 1) (by omega) (by omega) (by omega) E3.out.hi).mono ?_
  rintro e w4 ⟨T, rfl, O4, e4, t4⟩
  obtain ⟨O5, e5, b5, k5⟩ := alloc_ob e4.hi (k + 3) #[.pointer (some ⟨T, 0, none⟩)] 149 w4.heap.size rfl
  have E5 : Hid (Ext (fun j => k ≤ j ∧ j ≤ k + 3) O w O5 _) := Lib.hid ((E3.out.trans (e4.mono fun t _ h => by omega)).trans (e5.mono fun t _ h => by omega))
  have D5 := Lib.hid (k5 _ _ _ (D3.out.ext e4 (by omega)))
  have X5 := Lib.hid (k5 _ _ _ (X3.out.ext e4 (by omega)))
  have B5 := Lib.hid (k5 _ _ _ (B3.out.ext e4 (by omega)))
  have T5 := Lib.hid (k5 _ _ _ t4)
  have C5 := Lib.hid b5
  have q5 := T5.out.c 3 _ rfl
  clear e4 t4 e5 b5 k5 E3 D3 X3 B3
  go_wp2_with fail
  refine (c_TakeOver T _ _ q5 false (.inr ⟨_, _, _, rfl, rfl⟩)).mono ?_
  rintro e w' ⟨rfl, rfl⟩
  clear q5
  go_wp2_with fail
  refine (c_NewGiveE _ O5 (k + 2) (by omega) E5.out.hi).mono ?_
  rintro e w6 ⟨G, rfl, O6, e6, g6⟩
  obtain ⟨O7, e7, b7, k7⟩ := alloc_ob e6.hi (k + 3) #[.pointer (some ⟨G, 0, none⟩)] 151 w6.heap.size rfl
  obtain ⟨O8, e8, b8, k8⟩ := alloc_ob e7.hi (k + 3) #[.func (.func 68) #[] #[.pointer (some ⟨w6.heap.size, 0, none⟩), .pointer (some ⟨w.heap.size + 1 + 1, 0, none⟩)]] 82 (w6.heap.size + 1) (by simp)
  have D8 := k8 _ _ _ (k7 _ _ _ (D5.out.ext e6 (by omega)))
  have X8 := k8 _ _ _ (k7 _ _ _ (X5.out.ext e6 (by omega)))
  have B8 := k8 _ _ _ (k7 _ _ _ (B5.out.ext e6 (by omega)))
  have T8 := k8 _ _ _ (k7 _ _ _ (T5.out.ext e6 (by omega)))
  have C8 := k8 _ _ _ (k7 _ _ _ (C5.out.ext e6 (by omega)))
  have G8 := k8 _ _ _ (k7 _ _ _ g6)
  have H8 := k8 _ _ _ b7
  have E8 : Ext (fun j => k ≤ j ∧ j ≤ k + 3) O w O8 _ := ((E5.out.trans (e6.mono fun t _ h => by omega)).trans (e7.mono fun t _ h => by omega)).trans (e8.mono fun t _ h => by omega)
  have q0 := X8.c 0 _ rfl
  have f0 := X8.f 0
  have qb := B8.c 0 _ rfl
  have Q := Lib.hid (And.intro E8 (And.intro (FR.mk (b := ⟨w.heap.size + 1, T, G, w.heap.size + 1 + 1, w.heap.size, w4.heap.size, w6.heap.size, w6.heap.size + 1⟩) (x := ⟨1, 0, false⟩) T8 G8 B8 D8 C8 H8 b8) X8))
  clear e6 g6 e7 b7 k7 e8 b8 k8 D8 X8 B8 T8 C8 G8 H8 E8 E5 D5 X5 B5 T5 C5
  go_wp2
  go_ret
  obtain ⟨E8, R8, X8⟩ := Q.out
  have s8 := ext_set (j := 0) (v := TAKESV ⟨w.heap.size + 1, T, G, w.heap.size + 1 + 1, w.heap.size, w4.heap.size, w6.heap.size, w6.heap.size + 1⟩) E8.hi X8 hk
  exact ⟨⟨w.heap.size + 1, T, G, w.heap.size + 1 + 1, w.heap.size, w4.heap.size, w6.heap.size, w6.heap.size + 1⟩, rfl, O8, E8.trans (s8.mono fun t _ h => by omega), X8.set 0 _ (by simp [flCs]), R8.ext s8 (by omega) (by omega) (by omega)⟩
/-- An answer of a kind alone. -/
def anV (an : Int) : Value := .agg #[.int .u8 an, .int .u64 0, .string ⟨#[]⟩, .string ⟨#[]⟩, .int .u32 0, .int .u64 0, .int .i64 0, .int .i64 0]
set_option maxHeartbeats 1000000 in
set_option maxRecDepth 100000 in
theorem c_FGot (w : World) (O : Om) (k X : Nat) (an ep pt : Int) (hX : Ob w O k X (flCs .nilFunc an ep pt)) :
    Calls Tryz.prog 30 #[.pointer (some ⟨X, 0, none⟩)] w fun e w' => e = .returned (.tuple #[anV an, .int .u64 ep, .int .i64 pt]) ∧ Below w.heap.size w w' := by
  have q0 := hX.c 0 _ rfl
  have q1 := hX.c 1 _ rfl
  have q2 := hX.c 2 _ rfl
  have q3 := hX.c 3 _ rfl
  have q4 := hX.c 4 _ rfl
  have q5 := hX.c 5 _ rfl
  have q6 := hX.c 6 _ rfl
  have q7 := hX.c 7 _ rfl
  have q8 := hX.c 8 _ rfl
  have q9 := hX.c 9 _ rfl
  have q10 := hX.c 10 _ rfl
  have hl := hX.lt
  clear hX
  go_enter Tryz.func30, Tryz.ntmps30
  go_wp2_with fail
  go_region
  all_goals
    go_wp2
    exact bodyPost_ret (v := .tuple #[anV an, .int .u64 ep, .int .i64 pt]) (by simp [results, Tryz.results30, go_sem, anV]) rfl ⟨rfl, by first | exact ((Below.refl _ _).alloc (Nat.le_refl _) _).drew | exact (((Below.refl _ _).alloc (Nat.le_refl _) _).setCell (by simp) _).drew⟩
end Go.Proofs.YtijifjiehldcaaaGreat
