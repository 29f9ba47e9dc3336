/- Layer 23: the document's Evict: its object, lines 1 to 6. -/
import Derived.Test.YtlcibfpibklbdaaGreatBaG
import Derived.Test.YtlcibfpibklbdaaGreatHd1
namespace Go.Proofs.YtlcibfpibklbdaaGreat
set_option linter.unusedSimpArgs false
open Go.RowKit Go.Shelf
set_option linter.unusedVariables false

def reCs (z : Evm) (p : Spt) (a u : Option Addr) : List Value := [.int .i64 z.ln, .int .i64 z.ref, .int .i64 p.b, .int .i64 p.q, .int .i64 p.s, .int .u64 z.t, .int .u64 z.h, .int .i64 z.n, .int .u64 z.mw, .pointer a, .pointer u]
structure ReAt (W : World) (G : Om) (k R : Nat) (z : Evm) : Prop where
  ex : ∃ (p : Spt) (a u : Option Addr), Ob W G k R (reCs z p a u) ∧ (5 ≤ z.ln ∧ z.ln ≤ 10 → p = evSpot z ∧ z.ref ≠ 0) ∧ (z.ln = 11 ∨ z.ln = 12 ∨ z.ln = 0 → p = if z.ref = 0 then ⟨0, 0, 0⟩ else evSpot z) ∧ (z.ln = 7 ∨ z.ln = 9 → ∃ Y, a = some ⟨Y, 0, none⟩ ∧ RmAt W G (k + 1) Y [(evSpot z).ver]) ∧ (z.ln = 8 → ∃ Y, u = some ⟨Y, 0, none⟩ ∧ RoAt W G (k + 3) Y (evSpot z) z.o) ∧ (1 ≤ z.ln ∧ z.ln ≤ 3 → z.n = 0) ∧ (z.ln = 7 → z.o.ln = 0 ∧ z.o.w = 0)
theorem ReAt.ext {S : Nat → Prop} {O O' : Om} {w w' : World} {k R : Nat} {z : Evm} (h : ReAt w O k R z) (e : Ext S O w O' w') (h0 : ¬ S k) (h1 : ¬ S (k + 1)) (h2 : ¬ S (k + 2)) (h3 : ¬ S (k + 3)) : ReAt w' O' k R z := by
  obtain ⟨p, a, u, x, c1, c2, c3, c4, c5⟩ := h.ex
  refine ⟨p, a, u, x.ext e h0, c1, c2, fun g => ?_, fun g => ?_, c5⟩
  · obtain ⟨Y, g1, g2⟩ := c3 g; exact ⟨Y, g1, g2.ext e h1 h2⟩
  · obtain ⟨Y, g1, g2⟩ := c4 g; exact ⟨Y, g1, g2.ext e h3⟩
theorem ReAt.below {O : Om} {w w' : World} {k R : Nat} {z : Evm} (h : ReAt w O k R z) (hb : Below w.heap.size w w') : ReAt w' O k R z := by
  obtain ⟨p, a, u, x, c1, c2, c3, c4, c5⟩ := h.ex
  refine ⟨p, a, u, x.below hb, c1, c2, fun g => ?_, fun g => ?_, c5⟩
  · obtain ⟨Y, g1, g2⟩ := c3 g; exact ⟨Y, g1, g2.below hb⟩
  · obtain ⟨Y, g1, g2⟩ := c4 g; exact ⟨Y, g1, g2.below hb⟩
theorem ReAt.simple {W : World} {G : Om} {k R : Nat} {z : Evm} (p : Spt) (a u : Option Addr) (x : Ob W G k R (reCs z p a u)) (c1 : 5 ≤ z.ln ∧ z.ln ≤ 10 → p = evSpot z ∧ z.ref ≠ 0) (c2 : z.ln = 11 ∨ z.ln = 12 ∨ z.ln = 0 → p = if z.ref = 0 then ⟨0, 0, 0⟩ else evSpot z) (c3 : z.ln ≠ 7 ∧ z.ln ≠ 8 ∧ z.ln ≠ 9) (c5 : 1 ≤ z.ln ∧ z.ln ≤ 3 → z.n = 0) : ReAt W G k R z :=
  ⟨p, a, u, x, c1, c2, fun g => by omega, fun g => by omega, c5, fun g => by omega⟩
def REPost (w : World) (O : Om) (C : Wb) (f : Cf) (k R m : Nat) (r : AW × Evm) : Ending → World → Prop :=
  RP (SD k (k + 3)) w O (.tuple #[]) fun W G => RW W G C f r.1 (m + 1) ∧ ReAt W G k R r.2
section
variable {R : Nat} {w : World} {O : Om} {C : Wb} {f : Cf} {s : AW} {m k : Nat}
theorem c_reMany (t : Int) (x : w.cell? ⟨R, 5, none⟩ = some (.int .u64 t)) (t0 : 0 ≤ t) (t1 : t < 18446744073709551616) :
    Calls Tryz.prog 118 #[.pointer (some ⟨R, 0, none⟩)] w fun e w' => e = .returned (.int .i64 (plSpots t)) ∧ w = w' := by
  have HS := Lib.hid (fun W => c_rSpots t W t0 t1)
  go_enter Tryz.func118, Tryz.ntmps118
  go_wp2_with fail
  refine (HS.out _).mono ?_
  rintro e w' ⟨rfl, rfl⟩
  go_wp2_with fail
  go_ret
  exact ⟨rfl, rfl⟩
set_option maxHeartbeats 4000000 in
set_option maxRecDepth 100000 in
theorem c_reNext (z : Evm) (p : Spt) (a u : Option Addr) (hx : Ob w O k R (reCs z p a u)) (t0 : 0 ≤ z.t) (t1 : z.t < 18446744073709551616) (m0 : 0 ≤ z.n) (m1 : z.n ≤ 65536) (hk : 10 ≤ k) (hhi : ∀ j, O j ≠ 0 → j < w.heap.size) :
    Calls Tryz.prog 121 #[.pointer (some ⟨R, 0, none⟩)] w (RP (fun t => t = k) w O (.tuple #[]) fun W G => ∃ p2, Ob W G k R (reCs (evNext z) p2 a u) ∧ ((evNext z).ln = 11 → p2 = ⟨0, 0, 0⟩)) := by
  obtain ⟨Z, hZ⟩ : ∃ Z, Z = evNext z := ⟨_, rfl⟩
  rw [← hZ]
  obtain ⟨ln, t, h, n, ref, mk, o⟩ := z
  unfold evNext at hZ
  dsimp only at t0 t1 m0 m1 hZ ⊢
  have hsp := plSpots_bd t
  have x7 := hx.c 7 _ rfl
  have f7 := hx.f 7
  have f0 := hx.f 0
  have x0 := hx.c 0 _ rfl
  dsimp only at x7 x0
  have E1 := ext_set (j := 7) (v := .int .i64 (n + 1)) hhi hx hk
  have X1 := hx.set 7 (.int .i64 (n + 1)) (by simp [reCs])
  have E2 := ext_set (j := 0) (v := .int .i64 4) E1.hi X1 hk
  have X2 := Lib.hid (X1.set 0 (.int .i64 4) (by simp [reCs]))
  have EE := Lib.hid (E1.trans E2)
  have hw1 : wrap64 (n + 1) = n + 1 := by unfold wrap64; omega
  have hw2 : IntKind.i64.wrap (n + 1) = n + 1 := by simp [IntKind.wrap, IntKind.bits, IntKind.signed]; omega
  obtain ⟨N, hN⟩ : ∃ N, N = plSpots t := ⟨_, rfl⟩
  rw [← hN] at hsp hZ
  have HZ := Lib.hid hZ
  have hw3 : wrap64 (2 * N) = 2 * N := by unfold wrap64; omega
  have hw4 : IntKind.i64.wrap (2 * N) = 2 * N := by simp [IntKind.wrap, IntKind.bits, IntKind.signed]; omega
  have HT := Lib.hid (And.intro t0 (And.intro t1 hN))
  clear hx hhi E1 X1 E2 t0 t1 m0 m1 hN hsp hZ
  go_enter Tryz.func121, Tryz.ntmps121
  go_upto_region 2 with fail
  obtain ⟨w2, hw⟩ : ∃ w2, w2 = (w.setCell ⟨R, 7, none⟩ (.int .i64 (n + 1))).setCell ⟨R, 0, none⟩ (.int .i64 4) := ⟨_, rfl⟩
  rw [← hw] at X2 EE ⊢
  clear hw x7 f7 f0 x0
  have y7 := X2.out.c 7 _ rfl
  have y5 := X2.out.c 5 _ rfl
  have HS := Lib.hid (fun n => c_reMany (R := R) (w := w2.drewN n) t ((X2.out.below (w' := w2.drewN n) ⟨rfl, rfl, rfl, Nat.le_refl _, fun _ _ => rfl⟩).c 5 _ rfl) HT.out.1 HT.out.2.1)
  rw [← HT.out.2.2] at HS
  by_cases he : n + 1 = 2 * N
  · have de : (n + 1 == 2 * N) = true := by simp [he]
    have HE := Lib.hid he
    clear he
    go_quiet ((go_at_call 118; exact quietS (HS.out _)))
    have X3 := Lib.hid (X2.out.below (w' := w2.drewN nq) ⟨rfl, rfl, rfl, Nat.le_refl _, fun _ _ => rfl⟩)
    have E3 := Lib.hid (EE.out.below (show Below w2.heap.size w2 (w2.drewN nq) from ⟨rfl, rfl, rfl, Nat.le_refl _, fun _ _ => rfl⟩))
    obtain ⟨w3, hw⟩ : ∃ w3, w3 = w2.drewN nq := ⟨_, rfl⟩
    rw [← hw] at X3 E3 ⊢
    clear hw y7 y5
    have y0 := X3.out.c 0 _ rfl
    have f0 := X3.out.f 0
    have y1 := X3.out.c 1 _ rfl
    have f1 := X3.out.f 1
    have y2 := X3.out.c 2 _ rfl
    have f2 := X3.out.f 2
    have y3 := X3.out.c 3 _ rfl
    have f3 := X3.out.f 3
    have y4 := X3.out.c 4 _ rfl
    have f4 := X3.out.f 4
    have A1 := X3.out.set 0 (.int .i64 11) (by simp [reCs])
    have F1 := ext_set (j := 0) (v := .int .i64 11) E3.out.hi X3.out hk
    have A2 := A1.set 1 (.int .i64 0) (by simp [reCs])
    have F2 := ext_set (j := 1) (v := .int .i64 0) F1.hi A1 hk
    have A3 := A2.set 2 (.int .i64 0) (by simp [reCs])
    have F3 := ext_set (j := 2) (v := .int .i64 0) F2.hi A2 hk
    have A4 := A3.set 3 (.int .i64 0) (by simp [reCs])
    have F4 := ext_set (j := 3) (v := .int .i64 0) F3.hi A3 hk
    have A5 := Lib.hid (A4.set 4 (.int .i64 0) (by simp [reCs]))
    have F5 := Lib.hid (((((E3.out.trans F1).trans F2).trans F3).trans F4).trans (ext_set (j := 4) (v := .int .i64 0) F4.hi A4 hk))
    clear A1 F1 A2 F2 A3 F3 A4 F4
    go_wp2_with fail
    go_end0
    have hZ := HZ.out
    rw [if_pos HE.out] at hZ
    rw [hZ]
    exact ⟨rfl, _, F5.out, ⟨0, 0, 0⟩, A5.out, fun _ => rfl⟩
  · have de : (n + 1 == 2 * N) = false := by simp [he]
    have HE := Lib.hid he
    clear he
    go_quiet ((go_at_call 118; exact quietS (HS.out _)))
    have X3 := Lib.hid (X2.out.below (w' := w2.drewN nq) ⟨rfl, rfl, rfl, Nat.le_refl _, fun _ _ => rfl⟩)
    have E3 := Lib.hid (EE.out.below (show Below w2.heap.size w2 (w2.drewN nq) from ⟨rfl, rfl, rfl, Nat.le_refl _, fun _ _ => rfl⟩))
    clear y7 y5
    go_wp2_with fail
    go_end0
    have hZ := HZ.out
    rw [if_neg HE.out] at hZ
    rw [hZ]
    exact ⟨rfl, _, E3.out, p, X3.out, fun g => absurd (show (4 : Int) = 11 from g) (by decide)⟩
end
end Go.Proofs.YtlcibfpibklbdaaGreat
