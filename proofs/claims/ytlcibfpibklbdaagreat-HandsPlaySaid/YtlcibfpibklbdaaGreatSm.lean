/- Layer 23: same of an operation of both sides. -/
import Derived.Test.YtlcibfpibklbdaaGreatHo
import Derived.BigQuiet
import Derived.Deep.QuietTactic
import Derived.ChangeKeysEq
import Derived.Laws.StructEq
namespace Go.Proofs.YtlcibfpibklbdaaGreat
set_option linter.unusedSimpArgs false
open Go.RowKit
set_option linter.unusedVariables false

theorem cell_newH (w : World) (cs : Array Value) (t : TypeId) (n : Nat) (hn : n = w.heap.size) (j : Nat) (u : Value) (h : cs[j]? = some u) : (w.alloc (.cells cs t)).cell? ⟨n, j, none⟩ = some u := by
  subst hn; simp [h]
theorem below_dnH (w : World) (n : Nat) : Below w.heap.size w (w.drewN n) := ⟨rfl, rfl, rfl, Nat.le_refl _, fun _ _ => rfl⟩
set_option maxHeartbeats 4000000 in
set_option maxRecDepth 100000 in
theorem c_same23 {w : World} {O : Om} {k : Nat} {q : Hop} (h : HopAt w O k q) :
    Calls Tryz.prog 59 #[.agg #[.pointer (some ⟨q.x, 0, none⟩), .pointer (some ⟨q.R, 0, none⟩)]] w fun e w' => e = .returned (.bool true) ∧ Below w.heap.size w w' := by
  obtain ⟨X, hX⟩ : ∃ X, X = q.x := ⟨_, rfl⟩
  obtain ⟨R, hR⟩ : ∃ R, R = q.R := ⟨_, rfl⟩
  obtain ⟨rf, hrf⟩ : ∃ z, z = (evGot q.z).1 := ⟨_, rfl⟩
  obtain ⟨sp, hsp⟩ : ∃ z, z = (evGot q.z).2 := ⟨_, rfl⟩
  have HG : Hid (∀ W, Below w.heap.size w W → Calls Tryz.prog 22 #[.pointer (some ⟨X, 0, none⟩)] W fun e w' => e = .returned (.tuple #[.int .i64 rf, spV sp]) ∧ Below W.heap.size W w') := Lib.hid fun W hb => by rw [hrf, hsp, hX]; exact c_EvGot (h.e.below hb) h.ok
  have HR : Hid (∀ W, Below w.heap.size w W → Calls Tryz.prog 115 #[.pointer (some ⟨R, 0, none⟩)] W fun e w' => e = .returned (.tuple #[.int .i64 rf, spV sp]) ∧ Below W.heap.size W w') := Lib.hid fun W hb => by rw [hrf, hsp, hR]; exact c_reGot (h.r.below hb)
  obtain ⟨ln, hln⟩ : ∃ z, z = q.z.ln := ⟨_, rfl⟩
  have xr : w.cell? ⟨X, 0, none⟩ = some (.int .i64 ln) := by rw [hX, hln]; exact h.e.cell0
  have r0 : w.cell? ⟨R, 0, none⟩ = some (.int .i64 ln) := by rw [hR, hln]; obtain ⟨p, a, u, ho, -⟩ := h.r.ex; exact ho.c 0 _ rfl
  have hXl := blk_lt xr
  have hRl := blk_lt r0
  have HO : Hid (∀ W, Below w.heap.size w W → Calls Tryz.prog 23 #[.pointer (some ⟨X, 0, none⟩)] W fun e w' => e = .returned (.bool (ln == 0)) ∧ W = w') := Lib.hid fun W hb => c_EvOver ((hb.cell (p := ⟨X, 0, none⟩) hXl).trans xr)
  obtain ⟨ov, hov⟩ : ∃ z, z = (ln == 0) := ⟨_, rfl⟩
  rw [← hov] at HO
  have hd : (ln == 0) = ov := hov.symm
  obtain ⟨sb, sq, ss⟩ := sp
  rw [← hX, ← hR]
  unfold spV at HG HR
  dsimp only at HG HR hRl
  clear h hX hR hrf hsp hln hov xr hXl
  go_enter Tryz.func59, Tryz.ntmps59
  go_wp2_with fail
  obtain ⟨W1, hW1⟩ : ∃ W1, W1 = w.alloc (.cells #[.pointer (some ⟨X, 0, none⟩), .pointer (some ⟨R, 0, none⟩)] 124) := ⟨_, rfl⟩
  have y0 : W1.cell? ⟨w.heap.size, 0, none⟩ = some (.pointer (some ⟨X, 0, none⟩)) := by rw [hW1]; simp
  have y1 : W1.cell? ⟨w.heap.size, 1, none⟩ = some (.pointer (some ⟨R, 0, none⟩)) := by rw [hW1]; simp
  have hl1 : w.heap.size < W1.heap.size := by rw [hW1]; simp
  have b1 : Below w.heap.size w W1 := by rw [hW1]; exact (Below.refl _ _).alloc (Nat.le_refl _) _
  rw [← hW1]
  clear hW1
  have HB1 := Lib.hid b1
  clear b1
  refine (HG.out W1 HB1.out).mono ?_
  rintro e W2 ⟨rfl, hb2⟩
  have HB2 := Lib.hid (HB1.out.trans (hb2.mono HB1.out.size))
  have z1 := (hb2.cell (p := ⟨w.heap.size, 1, none⟩) hl1).trans y1
  have z0 := (hb2.cell (p := ⟨w.heap.size, 0, none⟩) hl1).trans y0
  have hl2 : w.heap.size < W2.heap.size := Nat.lt_of_lt_of_le hl1 hb2.size
  clear hb2 y0 y1 HB1
  go_wp2_with fail
  obtain ⟨W3, hW3⟩ : ∃ W3, W3 = W2.alloc (.cells #[.int .i64 sb, .int .i64 sq, .int .i64 ss] 45) := ⟨_, rfl⟩
  have hc := fun j u hu => cell_newH W2 #[.int .i64 sb, .int .i64 sq, .int .i64 ss] 45 _ rfl j u hu
  rw [← hW3] at hc
  have b3 : Below W2.heap.size W2 W3 := by rw [hW3]; exact (Below.refl _ _).alloc (Nat.le_refl _) _
  have y0 := (b3.cell (p := ⟨w.heap.size, 0, none⟩) hl2).trans z0
  have y1 := (b3.cell (p := ⟨w.heap.size, 1, none⟩) hl2).trans z1
  have a0 := hc 0 _ rfl
  have a1 := hc 1 _ rfl
  have a2 := hc 2 _ rfl
  have hl3 : w.heap.size < W3.heap.size := Nat.lt_of_lt_of_le hl2 b3.size
  have hn2 : W2.heap.size < W3.heap.size := by rw [hW3]; simp
  have HB3 := Lib.hid (HB2.out.trans (b3.mono HB2.out.size))
  rw [← hW3]
  clear hW3 hc b3 z0 z1 HB2
  obtain ⟨n2, hn⟩ : ∃ n, n = W2.heap.size := ⟨_, rfl⟩
  rw [← hn] at a0 a1 a2 hn2 ⊢
  clear hn
  refine (HR.out W3 HB3.out).mono ?_
  rintro e W4 ⟨rfl, hb4⟩
  have c := fun j => hb4.cell (p := ⟨n2, j, none⟩) hn2
  have d0 := (c 0).trans a0
  have d1 := (c 1).trans a1
  have d2 := (c 2).trans a2
  have z0 := (hb4.cell (p := ⟨w.heap.size, 0, none⟩) hl3).trans y0
  have z1 := (hb4.cell (p := ⟨w.heap.size, 1, none⟩) hl3).trans y1
  have hl4 : w.heap.size < W4.heap.size := Nat.lt_of_lt_of_le hl3 hb4.size
  have hn4 : n2 < W4.heap.size := Nat.lt_of_lt_of_le hn2 hb4.size
  have HB4 := Lib.hid (HB3.out.trans (hb4.mono HB3.out.size))
  clear c hb4 a0 a1 a2 y0 y1 HB3 HR HG
  go_upto_region 3 with fail
  obtain ⟨W5, hW5⟩ : ∃ W5, W5 = W4.alloc (.cells #[.int .i64 sb, .int .i64 sq, .int .i64 ss] 45) := ⟨_, rfl⟩
  have hc := fun j u hu => cell_newH W4 #[.int .i64 sb, .int .i64 sq, .int .i64 ss] 45 _ rfl j u hu
  rw [← hW5] at hc
  have b5 : Below W4.heap.size W4 W5 := by rw [hW5]; exact (Below.refl _ _).alloc (Nat.le_refl _) _
  have c := fun j => b5.cell (p := ⟨n2, j, none⟩) hn4
  have e0 := (c 0).trans d0
  have e1 := (c 1).trans d1
  have e2 := (c 2).trans d2
  have g0 := hc 0 _ rfl
  have g1 := hc 1 _ rfl
  have g2 := hc 2 _ rfl
  have y0 := (b5.cell (p := ⟨w.heap.size, 0, none⟩) hl4).trans z0
  have y1 := (b5.cell (p := ⟨w.heap.size, 1, none⟩) hl4).trans z1
  have HB5 := Lib.hid (HB4.out.trans (b5.mono HB4.out.size))
  have x0 := (HB5.out.cell (p := ⟨R, 0, none⟩) hRl).trans r0
  rw [← hW5]
  clear hW5 hc c b5 z0 z1 d0 d1 d2 HB4 r0
  have HOQ := Lib.hid (fun W (h : ∃ n, W = W5.drewN n) => HO.out W (by obtain ⟨n, rfl⟩ := h; exact HB5.out.trans ((below_dnH W5 n).mono HB5.out.size)))
  go_quiet ((go_at_call 23; exact quietS (HOQ.out _ ⟨_, rfl⟩)))
  go_wp2
  go_ret
  exact ⟨rfl, HB5.out.trans ((below_dnH W5 nq).mono HB5.out.size)⟩
end Go.Proofs.YtlcibfpibklbdaaGreat
