/- Layer 23: an Evict's lines 1 to 6. -/
import Derived.Test.YtlcibfpibklbdaaGreatBaE
import Derived.Test.YtlcibfpibklbdaaGreatBaG
namespace Go.Proofs.YtlcibfpibklbdaaGreat
set_option linter.unusedSimpArgs false
open Go.RowKit Go.Shelf
set_option linter.unusedVariables false

def evCs (z : Evm) (all : Int) (a o l : Option Addr) : List Value := [.int .i64 z.ln, .int .u64 z.t, .int .i64 all, .int .i64 z.h, .int .i64 z.n, .int .i64 z.ref, .int .u64 z.mw, .pointer a, .pointer o, .pointer l]
/-- An Evict in block X. -/
structure EvAt (W : World) (G : Om) (k X : Nat) (z : Evm) : Prop where
  ex : ∃ (all : Int) (a o l : Option Addr), Ob W G k X (evCs z all a o l) ∧ (3 ≤ z.ln → all = plSpots z.t) ∧
    (z.ln = 7 → ∃ A, a = some ⟨A, 0, none⟩ ∧ MkAt W G (k + 1) A [(evSpot z).ver]) ∧
    (z.ln = 7 ∨ z.ln = 8 → ∃ U, o = some ⟨U, 0, none⟩ ∧ OutAt W G (k + 3) U (evSpot z) z.o) ∧
    (z.ln = 7 ∨ z.ln = 8 ∨ z.ln = 9 → ∃ L, l = some ⟨L, 0, none⟩ ∧ MkAt W G (k + 4) L [(evSpot z).ver])
theorem EvAt.ext {S : Nat → Prop} {O O' : Om} {w w' : World} {k X : Nat} {z : Evm} (h : EvAt w O k X z) (e : Ext S O w O' w') (hs : ∀ t, k ≤ t → t < k + 6 → ¬ S t) : EvAt w' O' k X z := by
  obtain ⟨all, a, o, l, h1, h2, h3, h4, h5⟩ := h.ex
  exact ⟨all, a, o, l, h1.ext e (hs k (by omega) (by omega)), h2, fun g => (h3 g).imp fun A h => ⟨h.1, h.2.ext e (hs _ (by omega) (by omega)) (hs _ (by omega) (by omega))⟩, fun g => (h4 g).imp fun A h => ⟨h.1, h.2.ext e (hs _ (by omega) (by omega))⟩, fun g => (h5 g).imp fun A h => ⟨h.1, h.2.ext e (hs _ (by omega) (by omega)) (hs _ (by omega) (by omega))⟩⟩
theorem EvAt.below {O : Om} {w w' : World} {k X : Nat} {z : Evm} (h : EvAt w O k X z) (hb : Below w.heap.size w w') : EvAt w' O k X z := by
  obtain ⟨all, a, o, l, h1, h2, h3, h4, h5⟩ := h.ex
  exact ⟨all, a, o, l, h1.below hb, h2, fun g => (h3 g).imp fun A h => ⟨h.1, h.2.below hb⟩, fun g => (h4 g).imp fun A h => ⟨h.1, h.2.below hb⟩, fun g => (h5 g).imp fun A h => ⟨h.1, h.2.below hb⟩⟩
theorem EvAt.simple {W : World} {G : Om} {k X : Nat} {z : Evm} (all : Int) (a o l : Option Addr) (h : Ob W G k X (evCs z all a o l)) (ha : 3 ≤ z.ln → all = plSpots z.t) (h7 : z.ln ≠ 7) (h8 : z.ln ≠ 8) (h9 : z.ln ≠ 9) : EvAt W G k X z :=
  ⟨all, a, o, l, h, ha, fun e => absurd e h7, fun e => by rcases e with e | e; exact absurd e h7; exact absurd e h8, fun e => by rcases e with e | e | e; exact absurd e h7; exact absurd e h8; exact absurd e h9⟩
theorem EvAt.cell0 {W : World} {G : Om} {k X : Nat} {z : Evm} (h : EvAt W G k X z) : W.cell? ⟨X, 0, none⟩ = some (.int .i64 z.ln) := by
  obtain ⟨all, a, o, l, h1, -⟩ := h.ex
  exact h1.c 0 _ rfl
def EPost (w : World) (O : Om) (B : Wb) (f : Cf) (k X : Nat) (y : AW × Evm) (e : Ending) (w' : World) : Prop :=
  RP (SX k (k + 5)) w O (.bool (evOver y.2)) (fun W G => PW W G B f y.1 ∧ EvAt W G k X y.2) e w'
theorem c_EvOver {X : Nat} {ln : Int} {w : World} (h : w.cell? ⟨X, 0, none⟩ = some (.int .i64 ln)) : Calls Tryz.prog 23 #[.pointer (some ⟨X, 0, none⟩)] w fun e w' => e = .returned (.bool (ln == 0)) ∧ w = w' := by
  go_enter Tryz.func23, Tryz.ntmps23
  go_wp2
  go_ret
  exact ⟨rfl, rfl⟩
theorem c_NewEvict {w : World} {O : Om} (k : Nat) (hhi : ∀ j, O j ≠ 0 → j < w.heap.size) : Calls Tryz.prog 20 #[] w fun e w' => ∃ X, RP (fun t => t = k) w O (.pointer (some ⟨X, 0, none⟩)) (fun W G => EvAt W G k X evNew) e w' := by
  obtain ⟨O1, e1, x1, -⟩ := alloc_ob hhi k (evCs evNew 0 none none none).toArray 132 w.heap.size rfl
  go_enter Tryz.func20, Tryz.ntmps20
  go_wp2
  go_ret
  exact ⟨w.heap.size, rfl, O1, e1, EvAt.simple 0 none none none x1 (fun h => absurd (show (3 : Int) ≤ 1 from h) (by decide)) (by decide) (by decide) (by decide)⟩
section
variable {X : Nat} {w : World} {O : Om} {B : Wb} {f : Cf} {s : AW} {k : Nat}
set_option maxHeartbeats 1000000 in
set_option maxRecDepth 100000 in
theorem c_EvSpot (t h n : Int) (h1 : w.cell? ⟨X, 1, none⟩ = some (.int .u64 t)) (h3 : w.cell? ⟨X, 3, none⟩ = some (.int .i64 h)) (h4 : w.cell? ⟨X, 4, none⟩ = some (.int .i64 n)) (t0 : 0 ≤ t) (t1 : t < 18446744073709551616) (b0 : 0 ≤ h) (b1 : h < 32768) (n0 : 0 ≤ n) (n1 : n ≤ 65536) :
    Calls Tryz.prog 77 #[.pointer (some ⟨X, 0, none⟩)] w fun e w' => e = .returned (.agg #[.int .i64 (plAt t (h + n)).b, .int .i64 (plAt t (h + n)).q, .int .i64 (plAt t (h + n)).s]) ∧ Below w.heap.size w w' := by
  have hl := blk_lt h1
  dsimp only at hl
  have hw : wrap64 (h + n) = h + n := by unfold wrap64; omega
  have hw2 : IntKind.i64.wrap (h + n) = h + n := by simp [IntKind.wrap, IntKind.bits, IntKind.signed]; omega
  have HA := Lib.hid (fun W => c_At t (h + n) W t0 t1 (by omega) (by omega))
  obtain ⟨v, hv⟩ : ∃ v, v = plAt t (h + n) := ⟨_, rfl⟩
  have e1 : plAtBits t (h + n) = v.b := by rw [hv]; rfl
  have e2 : plAtN t (h + n) / 4 = v.q := by rw [hv]; rfl
  have e3 : (h + n) % plSpots t % 4 = v.s := by rw [hv]; rfl
  rw [e1, e2, e3] at HA
  rw [← hv]
  clear t0 t1 b0 b1 n0 n1 e1 e2 e3 hv
  go_enter Tryz.func77, Tryz.ntmps77
  go_wp2_with fail
  obtain ⟨W, hW⟩ : ∃ W, W = w.alloc (.cells #[.int .i64 0, .int .i64 0, .int .i64 0] 45) := ⟨_, rfl⟩
  have hB : Below w.heap.size w W := by rw [hW]; exact (Below.refl _ _).alloc (Nat.le_refl _) _
  have y1 := (hB.cell (p := ⟨X, 1, none⟩) hl).trans h1
  have y3 := (hB.cell (p := ⟨X, 3, none⟩) hl).trans h3
  have y4 := (hB.cell (p := ⟨X, 4, none⟩) hl).trans h4
  have hlW : X < W.heap.size := Nat.lt_of_lt_of_le hl hB.size
  have hwl : w.heap.size < W.heap.size := by rw [hW]; simp
  have hne : ¬ X = w.heap.size := by omega
  have hne2 : ¬ w.heap.size = X := by omega
  have z0 : W.cell? ⟨w.heap.size, 0, none⟩ = some (.int .i64 0) := by rw [hW]; simp
  have z1 : W.cell? ⟨w.heap.size, 1, none⟩ = some (.int .i64 0) := by rw [hW]; simp
  have z2 : W.cell? ⟨w.heap.size, 2, none⟩ = some (.int .i64 0) := by rw [hW]; simp
  have zf : ∀ j, W.frozen? ⟨w.heap.size, j, none⟩ = false := fun j => by rw [hW]; exact frozen_newA w #[.int .i64 0, .int .i64 0, .int .i64 0] _ _ rfl j
  have HZ := Lib.hid (And.intro z0 (And.intro z1 (And.intro z2 zf)))
  have HB := Lib.hid hB
  rw [← hW]
  clear hW hB h1 h3 h4 z0 z1 z2 zf
  go_region_held3 (fun w' => w'.cell? ⟨X, 1, none⟩ = some (.int .u64 t) ∧ w'.cell? ⟨X, 3, none⟩ = some (.int .i64 h) ∧ w'.cell? ⟨X, 4, none⟩ = some (.int .i64 n)) (go_keep)
    ((go_at_call 18
      refine (HA.out _).mono ?_
      rintro e w1 ⟨rfl, hb1⟩
      have x1 := (hb1.cell (p := ⟨X, 1, none⟩) hlW).trans y1
      have x3 := (hb1.cell (p := ⟨X, 3, none⟩) hlW).trans y3
      have x4 := (hb1.cell (p := ⟨X, 4, none⟩) hlW).trans y4
      have z0 := (hb1.cell (p := ⟨w.heap.size, 0, none⟩) hwl).trans HZ.out.1
      have z1 := (hb1.cell (p := ⟨w.heap.size, 1, none⟩) hwl).trans HZ.out.2.1
      have z2 := (hb1.cell (p := ⟨w.heap.size, 2, none⟩) hwl).trans HZ.out.2.2.1
      have zf0 := (hb1.frozen (p := ⟨w.heap.size, 0, none⟩) hwl).trans (HZ.out.2.2.2 0)
      have zf1 := (hb1.frozen (p := ⟨w.heap.size, 1, none⟩) hwl).trans (HZ.out.2.2.2 1)
      have zf2 := (hb1.frozen (p := ⟨w.heap.size, 2, none⟩) hwl).trans (HZ.out.2.2.2 2)
      have zl : w.heap.size < w1.heap.size := Nat.lt_of_lt_of_le hwl hb1.size
      have HB1 := Lib.hid (HB.out.drew.trans (hb1.mono (by simp; omega)))
      clear hb1))
  all_goals
    go_wp2_with fail
    exact bodyPost_ret (v := .agg #[.int .i64 v.b, .int .i64 v.q, .int .i64 v.s]) (by simp [results, Tryz.results77, go_sem, *]) rfl ⟨rfl, ((HB1.out.setCell (p := ⟨w.heap.size, 0, none⟩) (Nat.le_refl _) _).setCell (p := ⟨w.heap.size, 1, none⟩) (Nat.le_refl _) _).setCell (p := ⟨w.heap.size, 2, none⟩) (Nat.le_refl _) _⟩
end
end Go.Proofs.YtlcibfpibklbdaaGreat
