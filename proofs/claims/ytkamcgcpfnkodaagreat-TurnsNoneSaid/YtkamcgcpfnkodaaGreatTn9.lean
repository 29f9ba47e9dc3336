/- Layer 21: TurnsNone. -/
import Derived.Test.YtkamcgcpfnkodaaGreatTn8
import Derived.Test.YtkamcgcpfnkodaaGreatGr
import Derived.Test.YtkamcgcpfnkodaaGreatWtk
import Derived.Shelf.Lay
namespace Go.Proofs.YtkamcgcpfnkodaaGreat
open Go.RowKit Go.Shelf
set_option linter.unusedVariables false

@[go_sem] theorem fld_pair0 (a b : Value) (W : World) : (Instr.field 33 (.agg #[a, b]) 0).run Tryz.prog W = .ok a W := by kernel_rfl
@[go_sem] theorem fld_acc0 (a b c d : Value) (W : World) : (Instr.field 52 (.agg #[a, b, c, d]) 0).run Tryz.prog W = .ok a W := by kernel_rfl
theorem c_TMoved {X : Nat} {n : Int} {w : World} (h : w.cell? ⟨X, 3, none⟩ = some (.int .i64 n)) : Calls Tryz.prog 15 #[.pointer (some ⟨X, 0, none⟩)] w fun e w' => e = .returned (.int .i64 n) ∧ w = w' := by
  go_enter Tryz.func15, Tryz.ntmps15
  go_wp2
  go_ret
  exact ⟨rfl, rfl⟩
theorem c_NCountN (h : Nat) (ao : Option Addr) (n c : Nat) (w : World) (hc : w.cell? ⟨h, 0, none⟩ = some (.slice ao n c)) :
    Calls Tryz.prog 12 #[.pointer (some ⟨h, 0, none⟩)] w fun e w' => e = .returned (.int .i64 n) ∧ w = w' := c_NtCount h ao n c w hc
theorem c_PNCount {w : World} {O : Om} {B : Wb} {f : Cf} {s : AW} (h : PW w O B f s) : Calls Tryz.prog 12 #[.pointer (some ⟨B.np, 0, none⟩)] w fun e w' => e = .returned (.int .i64 s.nt.length) ∧ w = w' := by
  obtain ⟨v, hn, -⟩ := h.no.ex
  obtain ⟨ao, cp, rfl, -, -⟩ := (Arr.of_own hn.own).shape
  exact c_NCountN B.np ao s.nt.length cp w hn.head
theorem env_begin {S : Nat → Prop} {w W w1 : World} {G : Om} (hb : Below w.heap.size w W) (e : Ext S O0 W G w1) : Env w G w1 := by
  refine ⟨fun j hj => ?_, e.hi, hb.trans ((e.wr.below (fun k _ hk => absurd rfl hk.2) (Nat.le_refl _)).mono hb.size)⟩
  by_cases h : j < W.heap.size
  · exact absurd (e.lo j h) (by show ¬ G j = 0; exact hj)
  · have := hb.size; omega
set_option maxHeartbeats 4000000 in
set_option maxRecDepth 100000 in
theorem w_TurnsNone (v : Value) (F : Fst) (w : World) (g : FstBd F) (c : FstAt w v F) :
    Calls Tryz.prog 3 #[v] w fun e w' => e = .returned (.bool true) ∧ Below w.heap.size w w' := by
  obtain ⟨⟨fb, fg, ft, fq, fy⟩, gr, it, pu, st, ti⟩ := F
  obtain ⟨vi, vp, vs, rfl, a1, a2, a3⟩ := c.ex
  obtain ⟨ai, ci, rfl, hci, hmi⟩ := a1.shape
  obtain ⟨ap, cp, rfl, hcp, hmp⟩ := a2.shape
  obtain ⟨as', cs, rfl, hcs, hms⟩ := a3.shape
  unfold fstV at c ⊢
  dsimp only at c a1 a2 a3 ⊢
  have HC := Lib.hid c
  have HA := Lib.hid (And.intro a1 (And.intro a2 a3))
  have HG := Lib.hid g
  clear c a1 a2 a3 g
  go_enter Tryz.func3, Tryz.ntmps3
  go_wp2_with fail
  obtain ⟨W1, hW1⟩ : ∃ W1, W1 = w.alloc (.cells #[.int .i64 fb, .int .i64 fg, .int .i64 ft, .int .i64 fq, .int .i64 fy, .bool gr, .slice ai it.length ci, .slice ap pu.length cp, .slice as' st.length cs, .int .i64 ti] 28) := ⟨_, rfl⟩
  have B1 : Hid (Below w.heap.size w W1) := Lib.hid (by rw [hW1]; exact (Below.refl _ _).alloc (Nat.le_refl _) _)
  have n1 : w.heap.size < W1.heap.size := by rw [hW1]; simp
  have y0 : W1.cell? ⟨w.heap.size, 0, none⟩ = some (.int .i64 fb) := by rw [hW1]; simp
  have y1 : W1.cell? ⟨w.heap.size, 1, none⟩ = some (.int .i64 fg) := by rw [hW1]; simp
  have y2 : W1.cell? ⟨w.heap.size, 2, none⟩ = some (.int .i64 ft) := by rw [hW1]; simp
  have y3 : W1.cell? ⟨w.heap.size, 3, none⟩ = some (.int .i64 fq) := by rw [hW1]; simp
  have y4 : W1.cell? ⟨w.heap.size, 4, none⟩ = some (.int .i64 fy) := by rw [hW1]; simp
  have y5 : W1.cell? ⟨w.heap.size, 5, none⟩ = some (.bool gr) := by rw [hW1]; simp
  have y6 : W1.cell? ⟨w.heap.size, 6, none⟩ = some (.slice ai it.length ci) := by rw [hW1]; simp
  have y7 : W1.cell? ⟨w.heap.size, 7, none⟩ = some (.slice ap pu.length cp) := by rw [hW1]; simp
  have y8 : W1.cell? ⟨w.heap.size, 8, none⟩ = some (.slice as' st.length cs) := by rw [hW1]; simp
  have y9 : W1.cell? ⟨w.heap.size, 9, none⟩ = some (.int .i64 ti) := by rw [hW1]; simp
  have fz : W1.frozen? ⟨w.heap.size, 5, none⟩ = false := by rw [hW1]; simp
  rw [← hW1]
  clear hW1
  refine (c_Great (HC.out.below B1.out)).mono ?_
  rintro e w3 ⟨b, rfl, hb3, hbd⟩
  have B3 := Lib.hid (B1.out.trans (hb3.mono B1.out.size))
  have HBD := Lib.hid hbd
  cases b with
  | true =>
    clear hb3 hbd y0 y1 y2 y3 y4 y5 y6 y7 y8 y9 fz
    go_wp2_with fail
    refine (c_lives21 w3).mono ?_
    rintro e w4 ⟨rfl, hb4⟩
    go_wp2_with fail
    go_ret
    exact ⟨rfl, B3.out.trans (hb4.mono B3.out.size)⟩
  | false =>
    have k := fun j => hb3.cell (p := ⟨w.heap.size, j, none⟩) n1
    have kf := (hb3.frozen (p := ⟨w.heap.size, 5, none⟩) n1).trans fz
    have z0 := (k 0).trans y0
    have z1 := (k 1).trans y1
    have z2 := (k 2).trans y2
    have z3 := (k 3).trans y3
    have z4 := (k 4).trans y4
    have z5 := (k 5).trans y5
    have z6 := (k 6).trans y6
    have z7 := (k 7).trans y7
    have z8 := (k 8).trans y8
    have z9 := (k 9).trans y9
    have hlt3 : w.heap.size < w3.heap.size := Nat.lt_of_lt_of_le n1 hb3.size
    clear hb3 hbd k y0 y1 y2 y3 y4 y5 y6 y7 y8 y9 fz
    have hbb := HBD.out (by first | rfl | trivial)
    have B2 : Hid (Below w.heap.size w (w3.setCell ⟨w.heap.size, 5, none⟩ (.bool false))) := Lib.hid (B3.out.setCell (p := ⟨w.heap.size, 5, none⟩) (Nat.le_refl _) _)
    have hBg := c_Begin ⟨⟨fb, fg, ft, fq, fy⟩, false, it, pu, st, ti⟩ (.slice ai it.length ci) (.slice ap pu.length cp) (.slice as' st.length cs) (w3.setCell ⟨w.heap.size, 5, none⟩ (.bool false)) ⟨HA.out.1.below B2.out, HA.out.2.1.below B2.out, HA.out.2.2.below B2.out, hbb.1, hbb.2.1, hbb.2.2.1, hbb.2.2.2, HG.out.pub, HG.out.stb, HG.out.ti0, HG.out.ti1⟩
    unfold fstV at hBg
    dsimp only at hBg
    have HBg := Lib.hid hBg
    clear hBg hbb
    go_wp2_with fail
    refine HBg.out.mono ?_
    rintro e w4 ⟨B, C, rfl, G, e4, s, m, pr, n0, n1, m1, hit, hnt⟩
    have E4 := Lib.hid (env_begin B2.out e4)
    have P4 := Lib.hid pr.p
    have p0 := pr.p.wo.c0
    have p2 := pr.p.wo.c2
    have hbd := Lib.hid (pr.p.bd 2)
    obtain ⟨f, hf⟩ : ∃ f : Cf, f = cfOf ⟨fb, fg, ft, fq, fy⟩ := ⟨_, rfl⟩
    rw [← hf] at P4
    clear HBg e4 pr hf z0 z1 z2 z3 z4 z5 z6 z7 z8 z9 kf hit hnt
    go_wp2_with fail
    refine (c_Peek (F := fun j => G j = 2) 2 P4.out.ce (by decide) (by decide)).mono ?_
    rintro e w' ⟨rfl, rfl⟩
    go_wp2_with fail
    refine (c_As (s.M 2) _ hbd.out.1 hbd.out.2).mono ?_
    rintro e w' ⟨rfl, rfl⟩
    by_cases hz : plNow (s.M 2) = 0
    · have dz : (plNow (s.M 2) != 0) = false := by simp [hz]
      have hst : Hid (tnStep f.q (s, tzNew) = (awLoad 2 s, ⟨0, s.M 2, 0, 0, 0⟩)) := Lib.hid (by simp [tnStep, tzNew, hz])
      have hw1 : wrap64 (s.n + 1) = s.n + 1 := by unfold wrap64; omega
      have hw2 : IntKind.i64.wrap (s.n + 1) = s.n + 1 := by simp [IntKind.wrap, IntKind.bits, IntKind.signed]; omega
      clear hz
      go_wp2_with fail
      refine (c_WSteps _ G B f s P4.out).mono ?_
      rintro e w' ⟨rfl, rfl⟩
      go_wp2_with fail
      refine (c_PNCount P4.out).mono ?_
      rintro e w' ⟨rfl, rfl⟩
      go_wp2_with fail
      refine (c_NewTurn E4.out.hi).mono ?_
      rintro e w5 ⟨X, rfl, G5, e5, t5⟩
      have E5 := Lib.hid (E4.out.ext e5)
      have P5 := Lib.hid (P4.out.ext e5 (by decide) (by decide) (by decide) (by decide))
      have HT := Lib.hid (c_TStep1 P5.out t5 E5.out.hi rfl (by decide) (by decide) n0 (by omega))
      rw [hst.out] at HT
      clear e5 t5 p0 p2
      go_wp2_with fail
      refine HT.out.mono ?_
      rintro e w6 ⟨rfl, G6, e6, P6, t6⟩
      have E6 := Lib.hid (E5.out.ext e6)
      have PP6 := Lib.hid P6
      obtain ⟨sw, mv, hx, -, -⟩ := t6.ex
      have x3 := hx.c 3 _ rfl
      have p0 := P6.wo.c0
      have p2 := P6.wo.c2
      rw [show tzOver (awLoad 2 s, (⟨0, s.M 2, 0, 0, 0⟩ : Tz)).2 = true from rfl]
      clear HT e6 P6 t6 hx
      go_wp2_with fail
      refine (c_TMoved x3).mono ?_
      rintro e w' ⟨rfl, rfl⟩
      go_wp2_with fail
      refine (c_WSteps _ G6 B f _ PP6.out).mono ?_
      rintro e w' ⟨rfl, rfl⟩
      rw [show (awLoad 2 s).n = s.n + 1 from rfl]
      go_wp2_with fail
      refine (c_Last (F := fun j => G6 j = 2) PP6.out.ce).mono ?_
      rintro e w7 ⟨rfl, hb7⟩
      have E7 := Lib.hid (E6.out.ext (Ext.of_below (S := SW) E6.out.hi hb7))
      have P7 := Lib.hid (PP6.out.below E6.out.hi hb7)
      have r2 := P7.out.wo.c2
      rw [show (awLoad 2 s).la.k = 1 from rfl]
      clear hb7 p0 p2 x3
      go_wp2_with fail
      refine (c_PNCount P7.out).mono ?_
      rintro e w' ⟨rfl, rfl⟩
      rw [show (awLoad 2 s).nt = s.nt from rfl]
      go_wp2_with fail
      refine (c_lives21 _).mono ?_
      rintro e w8 ⟨rfl, hb8⟩
      go_wp2_with fail
      go_ret
      exact ⟨rfl, E7.out.bel.trans (hb8.mono E7.out.bel.size)⟩
    · have dz : (plNow (s.M 2) != 0) = true := by simp [hz]
      clear hz p0 p2
      go_wp2_with fail
      refine (c_lives21 _).mono ?_
      rintro e w5 ⟨rfl, hb5⟩
      go_wp2_with fail
      go_ret
      exact ⟨rfl, E4.out.bel.trans (hb5.mono E4.out.bel.size)⟩
end Go.Proofs.YtkamcgcpfnkodaaGreat
