/- A pair of worlds as a law begins: contracts of Other and Begin. -/
import Derived.Test.YtijifjiehldcaaaGreatPp
import Derived.Test.YtijifjiehldcaaaGreatRn
import Derived.Test.YtijifjiehldcaaaGreatFlN
namespace Go.Proofs.YtijifjiehldcaaaGreat
set_option linter.unusedSimpArgs false
open Go.RowKit
set_option linter.unusedVariables false

theorem c_Other (f : Cf) (w : World) : Calls Tryz.prog 39 #[.agg #[.int .i64 f.b, .int .i64 f.g, .int .i64 f.t, .int .i64 f.q, .int .i64 f.y]] w fun e w' => e = .returned (.agg #[.int .i64 f.b, .int .i64 f.g, .int .i64 f.t, .int .i64 f.q, .int .i64 f.y]) ∧ Below w.heap.size w w' := by
  obtain ⟨b, g, t, q, y⟩ := f
  dsimp only
  go_enter Tryz.func39, Tryz.ntmps39
  go_wp2
  refine bodyPost_ret (v := .agg #[.int .i64 b, .int .i64 g, .int .i64 t, .int .i64 q, .int .i64 y]) ?_ rfl ⟨rfl, ((Below.refl _ _).alloc (Nat.le_refl _) _).alloc (by simp) _⟩
  simp [results, Tryz.results39, go_sem]

def putc (p : Int × Int × Int) : List Value := [.int .u8 p.1, .int .u8 p.2.1, .int .u8 p.2.2]
def stoc (p : Int × Int) : List Value := [.int .u64 p.1, .int .u64 p.2]
/-- How a pair of worlds is at first. -/
structure Fst where
  cf : Cf
  gr : Bool
  it : List It
  pu : List (Int × Int × Int)
  st : List (Int × Int)
  ti : Int
def fstV (F : Fst) (vi vp vs : Value) : Value := .agg #[.int .i64 F.cf.b, .int .i64 F.cf.g, .int .i64 F.cf.t, .int .i64 F.cf.q, .int .i64 F.cf.y, .bool F.gr, vi, vp, vs, .int .i64 F.ti]
/-- .. in memory, and not too great. -/
structure FstIn (w : World) (F : Fst) (vi vp vs : Value) : Prop where
  it : Arr w vi F.it.length 6 (rowOf itc F.it)
  pu : Arr w vp F.pu.length 3 (rowOf putc F.pu)
  st : Arr w vs F.st.length 2 (rowOf stoc F.st)
  it1 : F.it.length ≤ 40
  pu1 : F.pu.length ≤ 60
  st1 : F.st.length ≤ 60
  key : ∀ x ∈ F.it, x.key.size ≤ 400
  pub : ∀ p ∈ F.pu, (0 ≤ p.1 ∧ p.1 < 256) ∧ (0 ≤ p.2.1 ∧ p.2.1 < 256) ∧ (0 ≤ p.2.2 ∧ p.2.2 < 256)
  stb : ∀ p ∈ F.st, (0 ≤ p.1 ∧ p.1 < 18446744073709551616) ∧ (0 ≤ p.2 ∧ p.2 < 18446744073709551616)
  ti0 : -9223372036854775808 ≤ F.ti
  ti1 : F.ti ≤ 9223372036854775807
def cfD : Cf := ⟨2, 8, 3, 1, 16⟩
theorem cfD_may : cfD.may := cfB_may (by decide)
/-- The configuration that a pair is given. -/
def cfOf (f : Cf) : Cf := if cfB f then f else cfD
theorem cfOf_may (f : Cf) : (cfOf f).may := by
  unfold cfOf
  split
  · exact cfB_may ‹_›
  · exact cfD_may
/-- Nobody's yet. -/
def O0 : Om := fun _ => 0
theorem o0_hi (w : World) : ∀ j, O0 j ≠ 0 → j < w.heap.size := fun j h => absurd rfl h
/-- Both worlds' owners, and the law's own blocks. -/
def SB (t : Nat) : Prop := 1 ≤ t ∧ t ≤ 9
theorem sb_sp {t : Nat} (h : SP t) : SB t := ⟨h.1, by have := h.2; omega⟩
theorem sb9 : SB 9 := ⟨by decide, by decide⟩
theorem sr9 : ¬ SR 9 := fun h => absurd h.2 (by decide)
theorem sp9 : ¬ SP 9 := fun h => absurd h.2 (by decide)
theorem Ext.arr {S : Nat → Prop} {w w' : World} {G : Om} {v : Value} {n size : Nat} {xs : List Value} (h : Arr w v n size xs) (e : Ext S O0 w G w') (h0 : ¬ S 0) : Arr w' v n size xs := by
  obtain ⟨hl, ao, c, rfl, h1, h2, h3⟩ := h
  refine ⟨hl, ao, c, rfl, h1, h2, fun j u hu => ?_⟩
  obtain ⟨b, o, rfl, hlt, hcell⟩ := h3 j u hu
  exact ⟨b, o, rfl, Nat.lt_of_lt_of_le hlt e.size, (e.cell (p := ⟨b, o + j, none⟩) hlt h0).trans hcell⟩
theorem Ob.set9 {S : Nat → Prop} {O0 O : Om} {w0 w : World} {b : Nat} {cs : List Value} (e : Ext S O0 w0 O w) (h : Ob w O 9 b cs) (hS : S 9) (j : Nat) (v : Value) : Ext S O0 w0 O (w.setCell ⟨b, j, none⟩ v) :=
  e.trans (Ext.of_set (S := S) e.hi h.o (by decide) hS)
theorem sb0 : ¬ SB 0 := fun h => absurd h.1 (by decide)
theorem sw9 : ¬ SW 9 := fun h => absurd h.2 (by decide)
theorem RW.set9 {w : World} {O : Om} {C : Wb} {f : Cf} {s : AW} {m b j : Nat} {v : Value} (h : RW w O C f s m) (hhi : ∀ j, O j ≠ 0 → j < w.heap.size) (hb : O b = 9) : RW (w.setCell ⟨b, j, none⟩ v) O C f s m :=
  h.ext (S := fun t => t = 9) (Ext.of_set hhi hb (by decide) rfl) (by decide) (by decide) (by decide) (by decide)
theorem PW.set9 {w : World} {O : Om} {C : Wb} {f : Cf} {s : AW} {b j : Nat} {v : Value} (h : PW w O C f s) (hhi : ∀ j, O j ≠ 0 → j < w.heap.size) (hb : O b = 9) : PW (w.setCell ⟨b, j, none⟩ v) O C f s :=
  h.ext (S := fun t => t = 9) (Ext.of_set hhi hb (by decide) rfl) (by decide) (by decide) (by decide) (by decide)
def cfL (f : Cf) : List Value := [.int .i64 f.b, .int .i64 f.g, .int .i64 f.t, .int .i64 f.q, .int .i64 f.y]
set_option maxHeartbeats 4000000 in
set_option maxRecDepth 100000 in
theorem c_Begin (F : Fst) (vi vp vs : Value) (w : World) (h : FstIn w F vi vp vs) :
    Calls Tryz.prog 9 #[fstV F vi vp vs] w fun e w' => ∃ B C, RP SB w O0 (.agg #[.pointer (some ⟨B.p, 0, none⟩), .pointer (some ⟨C.p, 0, none⟩)]) (fun W G => ∃ s m, PR W G B C (cfOf F.cf) s m ∧ 0 ≤ s.n ∧ s.n ≤ 1000 ∧ m ≤ 1000 ∧ s.it = F.it ∧ s.nt = []) e w' := by
  have HF := Lib.hid h
  obtain ⟨f, gr, it, pu, st, ti⟩ := F
  unfold fstV
  dsimp only at HF ⊢
  obtain ⟨ai, ci, rfl, hci, hmi⟩ := HF.out.it.shape
  obtain ⟨ap, cp, rfl, hcp, hmp⟩ := HF.out.pu.shape
  obtain ⟨as', cs, rfl, hcs, hms⟩ := HF.out.st.shape
  dsimp only at hci hcp hcs
  obtain ⟨G1, e1, f1, -⟩ := alloc_ob (o0_hi w) 9 #[.int .i64 f.b, .int .i64 f.g, .int .i64 f.t, .int .i64 f.q, .int .i64 f.y, .bool gr, .slice ai it.length ci, .slice ap pu.length cp, .slice as' st.length cs, .int .i64 ti] 28 _ rfl
  obtain ⟨G2, e2, r2, k2⟩ := alloc_ob e1.hi 9 #[.pointer none, .pointer none] 34 (w.heap.size + 1) (by simp)
  obtain ⟨G3, e3, c3, k3⟩ := alloc_ob e2.hi 9 #[.int .i64 f.b, .int .i64 f.g, .int .i64 f.t, .int .i64 f.q, .int .i64 f.y] 23 (w.heap.size + 1 + 1) (by simp)
  obtain ⟨W, hW⟩ : ∃ W, W = ((w.alloc (.cells #[.int .i64 f.b, .int .i64 f.g, .int .i64 f.t, .int .i64 f.q, .int .i64 f.y, .bool gr, .slice ai it.length ci, .slice ap pu.length cp, .slice as' st.length cs, .int .i64 ti] 28)).alloc (.cells #[.pointer none, .pointer none] 34)).alloc (.cells #[.int .i64 f.b, .int .i64 f.g, .int .i64 f.t, .int .i64 f.q, .int .i64 f.y] 23) := ⟨_, rfl⟩
  have hz : W.heap.size = w.heap.size + 1 + 1 + 1 := by rw [hW]; simp
  have f3 := k3 _ _ _ (k2 _ _ _ f1)
  have r3 := k3 _ _ _ r2
  have e123 : Ext SB O0 w G3 _ := ((e1.mono fun t _ h => by subst h; exact ⟨by decide, by decide⟩).trans (e2.mono fun t _ h => by subst h; exact ⟨by decide, by decide⟩)).trans (e3.mono fun t _ h => by subst h; exact ⟨by decide, by decide⟩)
  rw [← hW] at f3 r3 c3 e123
  have FF := Lib.hid f3
  have RR := Lib.hid r3
  have KK := Lib.hid c3
  have EE := Lib.hid e123
  clear h e1 f1 e2 r2 k2 e3 k3 f3 r3 c3 e123
  obtain ⟨N, hN⟩ : ∃ N, N = w.heap.size := ⟨_, rfl⟩
  have HN := Lib.hid hN
  go_enter Tryz.func9, Tryz.ntmps9
  go_wp2_with fail
  rw [← hW, ← hN]
  rw [← hN] at hz FF RR KK
  clear hW hN
  refine (c_Other f W).mono ?_
  rintro e w1 ⟨rfl, hb1⟩
  go_wp2_with fail
  refine (c_rMay10 f w1).mono ?_
  rintro e w2 ⟨rfl, hb2⟩
  have FF2 := Lib.hid ((FF.out.below hb1).below hb2)
  have RR2 := Lib.hid ((RR.out.below hb1).below hb2)
  have KK2 := Lib.hid ((KK.out.below hb1).below hb2)
  have EE2 := Lib.hid ((EE.out.below hb1).below hb2)
  clear hb1 hb2 FF RR KK EE
  have hn1 : ¬ N + 1 + 1 = N := by omega
  have hn2 : ¬ N + 1 + 1 = N + 1 := by omega
  have c0 := KK2.out.c 0 _ rfl
  have c1 := KK2.out.c 1 _ rfl
  have c2 := KK2.out.c 2 _ rfl
  have c3 := KK2.out.c 3 _ rfl
  have c4 := KK2.out.c 4 _ rfl
  have z0 := KK2.out.f 0
  have z1 := KK2.out.f 1
  have z2 := KK2.out.f 2
  have z3 := KK2.out.f 3
  have z4 := KK2.out.f 4
  have hlt := KK2.out.lt
  have hp0 : w2.heap.size ≠ N := by omega
  have hp1 : w2.heap.size ≠ N + 1 := by omega
  have hp2 : w2.heap.size ≠ N + 1 + 1 := by omega
  obtain ⟨g, hg⟩ : ∃ g, g = cfOf f := ⟨_, rfl⟩
  have hgm : g.may := by rw [hg]; exact cfOf_may f
  cases hcf : cfB f
  · have hgD : g = cfD := by rw [hg]; unfold cfOf; rw [hcf]; rfl
    have HG := Lib.hid (show cfD = cfOf f by rw [← hg, hgD])
    rw [hgD] at hgm
    clear hg hgD hcf
    go_wp2_with fail
    obtain ⟨W3, hW3⟩ : ∃ W3, W3 = (((((w2.setCell ⟨N + 1 + 1, 0, none⟩ (.int .i64 2)).setCell ⟨N + 1 + 1, 1, none⟩ (.int .i64 8)).setCell ⟨N + 1 + 1, 2, none⟩ (.int .i64 3)).setCell ⟨N + 1 + 1, 3, none⟩ (.int .i64 1)).setCell ⟨N + 1 + 1, 4, none⟩ (.int .i64 16)) := ⟨_, rfl⟩
    have FF3 : Hid (Ob W3 G3 9 N [.int .i64 f.b, .int .i64 f.g, .int .i64 f.t, .int .i64 f.q, .int .i64 f.y, .bool gr, .slice ai it.length ci, .slice ap pu.length cp, .slice as' st.length cs, .int .i64 ti]) := Lib.hid (by rw [hW3]; exact ((((FF2.out.other hn1).other hn1).other hn1).other hn1).other hn1)
    have RR3 : Hid (Ob W3 G3 9 (N + 1) [.pointer none, .pointer none]) := Lib.hid (by rw [hW3]; exact ((((RR2.out.other hn2).other hn2).other hn2).other hn2).other hn2)
    have KK3 : Hid (Ob W3 G3 9 (N + 1 + 1) [.int .i64 2, .int .i64 8, .int .i64 3, .int .i64 1, .int .i64 16]) := Lib.hid (by rw [hW3]; exact ((((KK2.out.set 0 _ (by simp)).set 1 _ (by simp)).set 2 _ (by simp)).set 3 _ (by simp)).set 4 _ (by simp))
    have EE3 : Hid (Ext SB O0 w G3 W3) := by
      have q1 := KK2.out.set 0 (.int .i64 2) (by simp)
      have q2 := q1.set 1 (.int .i64 8) (by simp)
      have q3 := q2.set 2 (.int .i64 3) (by simp)
      have q4 := q3.set 3 (.int .i64 1) (by simp)
      have a1 := Ob.set9 EE2.out KK2.out sb9 0 (.int .i64 2)
      have a2 := Ob.set9 a1 q1 sb9 1 (.int .i64 8)
      have a3 := Ob.set9 a2 q2 sb9 2 (.int .i64 3)
      have a4 := Ob.set9 a3 q3 sb9 3 (.int .i64 1)
      exact Lib.hid (by rw [hW3]; exact Ob.set9 a4 q4 sb9 4 (.int .i64 16))
    have hM : w2.heap.size = W3.heap.size := by rw [hW3]; simp
    rw [← hW3]
    clear hW3 FF2 RR2 KK2 EE2 c0 c1 c2 c3 c4 z0 z1 z2 z3 z4
    obtain ⟨G4, e4, p4, k4⟩ := alloc_ob EE3.out.hi 9 #[.pointer none, .pointer none] 34 w2.heap.size hM
    obtain ⟨W4, hW4⟩ : ∃ W4, W4 = W3.alloc (.cells #[.pointer none, .pointer none] 34) := ⟨_, rfl⟩
    have f4 := k4 _ _ _ FF3.out
    have r4 := k4 _ _ _ RR3.out
    have q4 := k4 _ _ _ KK3.out
    rw [← hW4] at e4 p4 f4 r4 q4 ⊢
    have FF4 := Lib.hid f4
    have RR4 := Lib.hid r4
    have KK4 := Lib.hid q4
    have PP4 := Lib.hid p4
    have EE4 := Lib.hid (EE3.out.trans (e4.mono fun t _ h => by subst h; exact ⟨by decide, by decide⟩))
    clear e4 p4 f4 r4 q4 k4 hW4 FF3 RR3 KK3 EE3 hM
    refine (c_Other cfD W4).mono ?_
    rintro e w5 ⟨rfl, hb5⟩
    have FF5 := Lib.hid (FF4.out.below hb5)
    have RR5 := Lib.hid (RR4.out.below hb5)
    have KK5 := Lib.hid (KK4.out.below hb5)
    have PP5 := Lib.hid (PP4.out.below hb5)
    have EE5 := Lib.hid (EE4.out.below hb5)
    clear hb5 FF4 RR4 KK4 PP4 EE4
    go_wp2_with fail
    refine (c_RNew10 cfD w5 G4 hgm EE5.out.hi).mono ?_
    rintro e w6 ⟨C, rfl, G6, e6, rw6⟩
    have FF6 := Lib.hid (FF5.out.ext e6 sr9)
    have RR6 := Lib.hid (RR5.out.ext e6 sr9)
    have KK6 := Lib.hid (KK5.out.ext e6 sr9)
    have PP6 := Lib.hid (PP5.out.ext e6 sr9)
    have EE6 := Lib.hid (EE5.out.trans (e6.mono fun t _ h => sb_sp (sp_sr h)))
    have RW6 := Lib.hid rw6
    clear e6 rw6 FF5 RR5 KK5 PP5 EE5
    have d0 := KK6.out.c 0 _ rfl
    have d1 := KK6.out.c 1 _ rfl
    have d2 := KK6.out.c 2 _ rfl
    have d3 := KK6.out.c 3 _ rfl
    have d4 := KK6.out.c 4 _ rfl
    have y0 := PP6.out.c 0 _ rfl
    have y1 := PP6.out.c 1 _ rfl
    have g0 := PP6.out.f 0
    have g1 := PP6.out.f 1
    go_wp2_with fail
    obtain ⟨W7, hW7⟩ : ∃ W7, W7 = w6.setCell ⟨w2.heap.size, 1, none⟩ (.pointer (some ⟨C.p, 0, none⟩)) := ⟨_, rfl⟩
    have FF7 : Hid (Ob W7 G6 9 N [.int .i64 f.b, .int .i64 f.g, .int .i64 f.t, .int .i64 f.q, .int .i64 f.y, .bool gr, .slice ai it.length ci, .slice ap pu.length cp, .slice as' st.length cs, .int .i64 ti]) := Lib.hid (by rw [hW7]; exact FF6.out.other hp0)
    have RR7 : Hid (Ob W7 G6 9 (N + 1) [.pointer none, .pointer none]) := Lib.hid (by rw [hW7]; exact RR6.out.other hp1)
    have KK7 : Hid (Ob W7 G6 9 (N + 1 + 1) [.int .i64 2, .int .i64 8, .int .i64 3, .int .i64 1, .int .i64 16]) := Lib.hid (by rw [hW7]; exact KK6.out.other hp2)
    have PP7 : Hid (Ob W7 G6 9 w2.heap.size [.pointer none, .pointer (some ⟨C.p, 0, none⟩)]) := Lib.hid (by rw [hW7]; exact PP6.out.set 1 _ (by simp))
    have EE7 : Hid (Ext SB O0 w G6 W7) := Lib.hid (by rw [hW7]; exact Ob.set9 EE6.out PP6.out sb9 1 _)
    have RW7 : Hid (RW W7 G6 C cfD (aw0 cfD.b) 1) := Lib.hid (by rw [hW7]; exact RW6.out.set9 EE6.out.hi PP6.out.o)
    rw [← hW7]
    clear hW7 FF6 RR6 KK6 PP6 EE6 RW6 d0 d1 d2 d3 d4 y0 y1 g0 g1
    refine (c_WNewQ cfD W7 hgm).mono ?_
    intro e w8 hw8
    obtain ⟨B, rfl, G8, e8, pw8⟩ := hw8.rp EE7.out.hi
    have FF8 := Lib.hid (FF7.out.ext e8 sw9)
    have RR8 := Lib.hid (RR7.out.ext e8 sw9)
    have KK8 := Lib.hid (KK7.out.ext e8 sw9)
    have PP8 := Lib.hid (PP7.out.ext e8 sw9)
    have EE8 := Lib.hid (EE7.out.trans (e8.mono fun t _ h => sb_sp (sp_sw h)))
    have PR8 := Lib.hid (PR.mk pw8 (RW7.out.sw e8))
    clear hw8 e8 pw8 FF7 RR7 KK7 PP7 EE7 RW7
    have d0 := KK8.out.c 0 _ rfl
    have d1 := KK8.out.c 1 _ rfl
    have d2 := KK8.out.c 2 _ rfl
    have d3 := KK8.out.c 3 _ rfl
    have d4 := KK8.out.c 4 _ rfl
    have u5 := FF8.out.c 5 _ rfl
    have u6 := FF8.out.c 6 _ rfl
    have y0 := PP8.out.c 0 _ rfl
    have y1 := PP8.out.c 1 _ rfl
    have g0 := PP8.out.f 0
    have g1 := PP8.out.f 1
    have hgb0 := hgm.b0
    have hgb1 := hgm.b1
    go_wp2_with fail
    all_goals
      obtain ⟨W9, hW9⟩ : ∃ W9, W9 = w8.setCell ⟨w2.heap.size, 0, none⟩ (.pointer (some ⟨B.p, 0, none⟩)) := ⟨_, rfl⟩
      have FF9 : Hid (Ob W9 G8 9 N _) := Lib.hid (by rw [hW9]; exact FF8.out.other hp0)
      have RR9 : Hid (Ob W9 G8 9 (N + 1) [.pointer none, .pointer none]) := Lib.hid (by rw [hW9]; exact RR8.out.other hp1)
      have PP9 : Hid (Ob W9 G8 9 w2.heap.size [.pointer (some ⟨B.p, 0, none⟩), .pointer (some ⟨C.p, 0, none⟩)]) := Lib.hid (by rw [hW9]; exact PP8.out.set 0 _ (by simp))
      have EE9 : Hid (Ext SB O0 w G8 W9) := Lib.hid (by rw [hW9]; exact Ob.set9 EE8.out PP8.out sb9 0 _)
      have PR9 : Hid (PR W9 G8 B C cfD (aw0 cfD.b) 1) := Lib.hid (by rw [hW9]; exact ⟨PR8.out.p.set9 EE8.out.hi PP8.out.o, PR8.out.r.set9 EE8.out.hi PP8.out.o⟩)
      rw [← hW9]
      clear hW9 FF8 RR8 KK8 PP8 EE8 PR8 d0 d1 d2 d3 d4 u5 u6 y0 y1 g0 g1
    all_goals first
      | (refine (c_PStore _ _ PR9.out EE9.out.hi (by decide) (by decide) (by decide) (by first | decide | omega) (by first | decide | omega) (by show (0 : Int) ≤ 0; decide) (by show (0 : Int) ≤ 4611686018427387904; decide)).mono ?_
         rintro e w10 ⟨rfl, G10, e10, pr10⟩
         have FF10 := Lib.hid (FF9.out.ext e10 sp9)
         have RR10 := Lib.hid (RR9.out.ext e10 sp9)
         have PP10 := Lib.hid (PP9.out.ext e10 sp9)
         have EE10 := Lib.hid (EE9.out.trans (e10.mono fun t _ h => sb_sp h))
         have PR10 : Hid (∃ s m, PR w10 G10 B C cfD s m ∧ 0 ≤ s.n ∧ s.n ≤ 1 ∧ m ≤ 2 ∧ s.it = [] ∧ s.nt = []) := Lib.hid ⟨_, _, pr10, by show (0 : Int) ≤ 0 + 1; decide, by show (0 : Int) + 1 ≤ 1; decide, by decide, rfl, rfl⟩
         clear e10 pr10 FF9 RR9 PP9 EE9 PR9
         go_wp2_with fail)
      | (obtain ⟨w10, hw10⟩ : ∃ w10, w10 = W9 := ⟨_, rfl⟩
         obtain ⟨G10, hG10⟩ : ∃ G10, G10 = G8 := ⟨_, rfl⟩
         have PR10 : Hid (∃ s m, PR W9 G8 B C cfD s m ∧ 0 ≤ s.n ∧ s.n ≤ 1 ∧ m ≤ 2 ∧ s.it = [] ∧ s.nt = []) := Lib.hid ⟨_, _, PR9.out, by show (0 : Int) ≤ 0; decide, by show (0 : Int) ≤ 1; decide, by decide, rfl, rfl⟩
         have FF10 := FF9
         have RR10 := RR9
         have PP10 := PP9
         have EE10 := EE9
         rw [← hw10, ← hG10] at FF10 RR10 PP10 EE10 PR10
         rw [← hw10]
         clear hw10 hG10 FF9 RR9 PP9 EE9 PR9)
    all_goals
      go_loopw [5] (fun i wr => ∃ k : Nat, ∃ G s m, k ≤ it.length ∧ i = .int .i64 k ∧ Ob wr G 9 N [.int .i64 f.b, .int .i64 f.g, .int .i64 f.t, .int .i64 f.q, .int .i64 f.y, .bool gr, .slice ai it.length ci, .slice ap pu.length cp, .slice as' st.length cs, .int .i64 ti] ∧ Ob wr G 9 (N + 1) [.pointer none, .pointer none] ∧ Ob wr G 9 w2.heap.size [.pointer (some ⟨B.p, 0, none⟩), .pointer (some ⟨C.p, 0, none⟩)] ∧ Ext SB O0 w G wr ∧ PR wr G B C cfD s m ∧ 0 ≤ s.n ∧ s.n ≤ 1 ∧ m ≤ 2 ∧ s.it = it.take k ∧ s.nt = [])
        (fun i _ => it.length - (intOf i).toNat)
      case atStart =>
        obtain ⟨s, m, h1, h2, h3, h4, h5, h6⟩ := PR10.out
        exact ⟨0, G10, s, m, Nat.zero_le _, rfl, FF10.out, RR10.out, PP10.out, EE10.out, h1, h2, h3, h4, by simpa using h5, h6⟩
      case round =>
        clear FF10 RR10 PP10 EE10 PR10
        obtain ⟨k, G, s, m, hk, rfl, f0, r0, p0, e0, pr0, n0, n1, m1, hit, hnt⟩ := hrel
        have u6 := f0.c 6 _ rfl
        have u7 := f0.c 7 _ rfl
        have y0 := p0.c 0 _ rfl
        have y1 := p0.c 1 _ rfl
        have hl40 := HF.out.it1
        dsimp only at hl40
        have FF := Lib.hid f0
        have RR := Lib.hid r0
        have PP := Lib.hid p0
        have EE := Lib.hid e0
        have QQ := Lib.hid pr0
        have HI := Lib.hid hit
        have HT := Lib.hid hnt
        clear f0 r0 p0 e0 pr0 hit hnt
        by_cases hlt2 : k < it.length
        · obtain ⟨b', o', c', he, hcp, hmx, hbl, hx⟩ := HF.out.it.open (by dsimp only; omega) (by omega)
          cases he
          obtain ⟨x, hxe⟩ : ∃ x, x = it[k] := ⟨_, rfl⟩
          have hr : ∀ j, j < 6 → (rowOf itc it)[k * 6 + j]? = (itc x)[j]? := fun j hj => by rw [hxe]; exact rowOf_get itc_len it k j hlt2 hj
          have v0 : wr.cell? ⟨b', o' + k * 6, none⟩ = some (.string x.key) := (EE.out.cell (p := ⟨b', o' + k * 6, none⟩) hbl sb0).trans (hx _ _ (hr 0 (by omega)))
          have v1 : wr.cell? ⟨b', o' + k * 6 + 1, none⟩ = some (.string x.val) := (EE.out.cell (p := ⟨b', o' + k * 6 + 1, none⟩) hbl sb0).trans (hx _ _ (hr 1 (by omega)))
          have v2 : wr.cell? ⟨b', o' + k * 6 + 2, none⟩ = some (.int .u32 x.fl) := (EE.out.cell (p := ⟨b', o' + k * 6 + 2, none⟩) hbl sb0).trans (hx _ _ (hr 2 (by omega)))
          have v3 : wr.cell? ⟨b', o' + k * 6 + 3, none⟩ = some (.int .u64 x.id) := (EE.out.cell (p := ⟨b', o' + k * 6 + 3, none⟩) hbl sb0).trans (hx _ _ (hr 3 (by omega)))
          have v4 : wr.cell? ⟨b', o' + k * 6 + 4, none⟩ = some (.int .i64 x.dies) := (EE.out.cell (p := ⟨b', o' + k * 6 + 4, none⟩) hbl sb0).trans (hx _ _ (hr 4 (by omega)))
          have v5 : wr.cell? ⟨b', o' + k * 6 + 5, none⟩ = some (.int .i64 x.gen) := (EE.out.cell (p := ⟨b', o' + k * 6 + 5, none⟩) hbl sb0).trans (hx _ _ (hr 5 (by omega)))
          have HX := Lib.hid hxe
          have hbz : G b' = 0 := EE.out.lo b' hbl
          have hbw : b' < wr.heap.size := Nat.lt_of_lt_of_le hbl EE.out.size
          clear hx hr hxe
          go_wp2_with fail
          go_region_held3 (fun w' => w'.cell? ⟨w2.heap.size, 0, none⟩ = some (.pointer (some ⟨B.p, 0, none⟩)) ∧ w'.cell? ⟨w2.heap.size, 1, none⟩ = some (.pointer (some ⟨C.p, 0, none⟩)) ∧ w'.cell? ⟨N, 6, none⟩ = some (.slice (some ⟨b', o', none⟩) it.length ci) ∧ w'.cell? ⟨b', o' + k * 6, none⟩ = some (.string x.key) ∧ w'.cell? ⟨b', o' + k * 6 + 1, none⟩ = some (.string x.val) ∧ w'.cell? ⟨b', o' + k * 6 + 2, none⟩ = some (.int .u32 x.fl) ∧ w'.cell? ⟨b', o' + k * 6 + 3, none⟩ = some (.int .u64 x.id) ∧ w'.cell? ⟨b', o' + k * 6 + 4, none⟩ = some (.int .i64 x.dies) ∧ w'.cell? ⟨b', o' + k * 6 + 5, none⟩ = some (.int .i64 x.gen)) (go_keep)
            ((go_at_call 42
              refine (c_PItem (w := wr.drew) x (QQ.out.below EE.out.hi (drew_below wr)) EE.out.hi (by rw [HI.out]; simp; omega)).mono ?_
              rintro e w11 ⟨rfl, G11, e11, pr11⟩
              have x0 := (e11.nob sp0 hbw hbz (o' + k * 6)).trans v0
              have x1 := (e11.nob sp0 hbw hbz (o' + k * 6 + 1)).trans v1
              have x2 := (e11.nob sp0 hbw hbz (o' + k * 6 + 2)).trans v2
              have x3 := (e11.nob sp0 hbw hbz (o' + k * 6 + 3)).trans v3
              have x4 := (e11.nob sp0 hbw hbz (o' + k * 6 + 4)).trans v4
              have x5 := (e11.nob sp0 hbw hbz (o' + k * 6 + 5)).trans v5
              have FF1 := Lib.hid ((FF.out.below (drew_below wr)).ext e11 sp9)
              have RR1 := Lib.hid ((RR.out.below (drew_below wr)).ext e11 sp9)
              have PP1 := Lib.hid ((PP.out.below (drew_below wr)).ext e11 sp9)
              have EE1 := Lib.hid (EE.out.drew.trans (e11.mono fun t _ h => sb_sp h))
              have QQ1 := Lib.hid pr11
              have w0 := PP1.out.c 0 _ rfl
              have w1' := PP1.out.c 1 _ rfl
              have w6' := FF1.out.c 6 _ rfl
              clear e11 pr11))
          all_goals
            go_wp2
            go_roundw
            case rel => exact ⟨k + 1, G11, _, _, by omega, by go_num, FF1.out, RR1.out, PP1.out, EE1.out, QQ1.out, n0, n1, m1, by show s.it ++ [x] = _; rw [HI.out, HX.out]; simp, HT.out⟩
            case measure => simp [intOf]; omega
        · obtain rfl : k = it.length := by omega
          have HI' : Hid (s.it = it) := Lib.hid (by rw [HI.out]; simp)
          go_wp2_with fail
          clear u6 u7 y0 y1 hlt2
          go_loopw [6] (fun i wr => ∃ k : Nat, ∃ G s m, k ≤ pu.length ∧ i = .int .i64 k ∧ Ob wr G 9 N [.int .i64 f.b, .int .i64 f.g, .int .i64 f.t, .int .i64 f.q, .int .i64 f.y, .bool gr, .slice ai it.length ci, .slice ap pu.length cp, .slice as' st.length cs, .int .i64 ti] ∧ Ob wr G 9 (N + 1) [.pointer none, .pointer none] ∧ Ob wr G 9 w2.heap.size [.pointer (some ⟨B.p, 0, none⟩), .pointer (some ⟨C.p, 0, none⟩)] ∧ Ext SB O0 w G wr ∧ PR wr G B C cfD s m ∧ 0 ≤ s.n ∧ s.n ≤ 1 + 2 * (k : Int) ∧ m ≤ 2 + 2 * k ∧ s.it = it ∧ s.nt = [])
            (fun i _ => pu.length - (intOf i).toNat)
          case atStart => exact ⟨0, G, s, m, Nat.zero_le _, rfl, FF.out, RR.out, PP.out, EE.out, QQ.out, n0, by omega, by omega, HI'.out, HT.out⟩
          case round =>
            clear FF RR PP EE QQ HI HI' HT n0 n1 m1
            obtain ⟨k, G, s, m, hk, rfl, f0, r0, p0, e0, pr0, n0, n1, m1, hit, hnt⟩ := hrel
            have u6 := f0.c 6 _ rfl
            have u7 := f0.c 7 _ rfl
            have u9 := f0.c 9 _ rfl
            have y0 := p0.c 0 _ rfl
            have y1 := p0.c 1 _ rfl
            have hl60 := HF.out.pu1
            dsimp only at hl60
            have FF := Lib.hid f0
            have RR := Lib.hid r0
            have PP := Lib.hid p0
            have EE := Lib.hid e0
            have QQ := Lib.hid pr0
            have HI := Lib.hid hit
            have HT := Lib.hid hnt
            clear f0 r0 p0 e0 pr0 hit hnt
            by_cases hgo : k < pu.length ∧ 0 < it.length
            · obtain ⟨hkp, hip⟩ := hgo
              obtain ⟨b', o', c', he, hcp', hmx, hbl, hx⟩ := HF.out.pu.open (by dsimp only; omega) (by omega)
              cases he
              obtain ⟨x, hxe⟩ : ∃ x, x = pu[k] := ⟨_, rfl⟩
              have hr : ∀ j, j < 3 → (rowOf putc pu)[k * 3 + j]? = (putc x)[j]? := fun j hj => by rw [hxe]; exact rowOf_get (f := putc) (k := 3) (fun a => rfl) pu k j hkp hj
              have hxb := HF.out.pub x (by rw [hxe]; exact List.getElem_mem _)
              have v0 : wr.cell? ⟨b', o' + k * 3, none⟩ = some (.int .u8 x.1) := (EE.out.cell (p := ⟨b', o' + k * 3, none⟩) hbl sb0).trans (hx _ _ (hr 0 (by omega)))
              have v1 : wr.cell? ⟨b', o' + k * 3 + 1, none⟩ = some (.int .u8 x.2.1) := (EE.out.cell (p := ⟨b', o' + k * 3 + 1, none⟩) hbl sb0).trans (hx _ _ (hr 1 (by omega)))
              have v2 : wr.cell? ⟨b', o' + k * 3 + 2, none⟩ = some (.int .u8 x.2.2) := (EE.out.cell (p := ⟨b', o' + k * 3 + 2, none⟩) hbl sb0).trans (hx _ _ (hr 2 (by omega)))
              have hbz : G b' = 0 := EE.out.lo b' hbl
              have hbw : b' < wr.heap.size := Nat.lt_of_lt_of_le hbl EE.out.size
              have HL := Lib.hid HF.out.it1
              have HKy := Lib.hid HF.out.key
              have hip' : 0 < s.it.length := by rw [HI.out]; exact hip
              have hil : s.it.length ≤ 1000 := by rw [HI.out]; have := HL.out; dsimp only at this; omega
              have HKs := Lib.hid (show ∀ x ∈ s.it, x.key.size ≤ 400 from fun x hx => HKy.out x (by rw [← HI.out]; exact hx))
              have HIl := Lib.hid (show (it.length : Int) = s.it.length by rw [HI.out])
              clear hx hr hxe
              go_wp2_with fail
              go_region_held3 (fun w' => w'.cell? ⟨w2.heap.size, 0, none⟩ = some (.pointer (some ⟨B.p, 0, none⟩)) ∧ w'.cell? ⟨w2.heap.size, 1, none⟩ = some (.pointer (some ⟨C.p, 0, none⟩)) ∧ w'.cell? ⟨N, 6, none⟩ = some (.slice ai it.length ci) ∧ w'.cell? ⟨N, 7, none⟩ = some (.slice (some ⟨b', o', none⟩) pu.length cp) ∧ w'.cell? ⟨b', o' + k * 3, none⟩ = some (.int .u8 x.1) ∧ w'.cell? ⟨b', o' + k * 3 + 1, none⟩ = some (.int .u8 x.2.1) ∧ w'.cell? ⟨b', o' + k * 3 + 2, none⟩ = some (.int .u8 x.2.2)) (go_keep)
                ((go_at_call 43
                  refine (c_PPut (w := wr.drew) x.1 x.2.1 x.2.2 it.length (QQ.out.below EE.out.hi (drew_below wr)) EE.out.hi HIl.out hip' HKs.out hil (by omega) n0 (by omega) hxb.1.1 hxb.1.2 hxb.2.1.1 hxb.2.1.2 hxb.2.2.1 hxb.2.2.2).mono ?_
                  rintro e w11 ⟨rfl, G11, e11, s2, pr11, sn, si, sx⟩
                  have x0 := (e11.nob sp0 hbw hbz (o' + k * 3)).trans v0
                  have x1 := (e11.nob sp0 hbw hbz (o' + k * 3 + 1)).trans v1
                  have x2 := (e11.nob sp0 hbw hbz (o' + k * 3 + 2)).trans v2
                  have FF1 := Lib.hid ((FF.out.below (drew_below wr)).ext e11 sp9)
                  have RR1 := Lib.hid ((RR.out.below (drew_below wr)).ext e11 sp9)
                  have PP1 := Lib.hid ((PP.out.below (drew_below wr)).ext e11 sp9)
                  have EE1 := Lib.hid (EE.out.drew.trans (e11.mono fun t _ h => sb_sp h))
                  have QQ1 := Lib.hid pr11
                  have SI1 := Lib.hid si
                  have SX1 := Lib.hid sx
                  have w0 := PP1.out.c 0 _ rfl
                  have w1' := PP1.out.c 1 _ rfl
                  have w6' := FF1.out.c 6 _ rfl
                  have w7' := FF1.out.c 7 _ rfl
                  clear e11 pr11 si sx))
              all_goals
                go_wp2
                go_roundw
                case rel => exact ⟨k + 1, G11, s2, _, by omega, by go_num, FF1.out, RR1.out, PP1.out, EE1.out, QQ1.out, by omega, by omega, by omega, by rw [SI1.out, HI.out], by rw [SX1.out, HT.out]⟩
                case measure => simp [intOf]; omega
            · go_upto_region 16 with fail
              go_cut [78] (fun s wx => s = .bool false ∧ wx = wr)
              case first =>
                by_cases hg1 : k < pu.length
                · have hg2 : ¬ (0 < it.length) := by omega
                  clear hgo
                  go_wp2_with fail
                  go_meet
                  exact ⟨rfl, rfl⟩
                · clear hgo
                  go_wp2_with fail
                  go_meet
                  exact ⟨rfl, rfl⟩
              case rest =>
              obtain ⟨rfl, rfl⟩ := hcut
              go_wp2_with fail
              clear u6 u7 u9 y0 y1 hgo
              go_loopw [7] (fun i wr => ∃ k : Nat, ∃ G s m, k ≤ 40 ∧ i = .int .i64 k ∧ Ob wr G 9 N [.int .i64 f.b, .int .i64 f.g, .int .i64 f.t, .int .i64 f.q, .int .i64 f.y, .bool gr, .slice ai it.length ci, .slice ap pu.length cp, .slice as' st.length cs, .int .i64 ti] ∧ Ob wr G 9 (N + 1) [.pointer none, .pointer none] ∧ Ob wr G 9 w2.heap.size [.pointer (some ⟨B.p, 0, none⟩), .pointer (some ⟨C.p, 0, none⟩)] ∧ Ext SB O0 w G wr ∧ PR wr G B C cfD s m ∧ 0 ≤ s.n ∧ s.n ≤ 200 + (k : Int) ∧ m ≤ 200 + k ∧ s.it = it ∧ s.nt = [])
                (fun i _ => 40 - (intOf i).toNat)
              case atStart => exact ⟨0, G, s, m, Nat.zero_le _, rfl, FF.out, RR.out, PP.out, EE.out, QQ.out, n0, by omega, by omega, HI.out, HT.out⟩
              case round =>
                clear FF RR PP EE QQ HI HT n0 n1 m1 hk
                obtain ⟨k, G, s, m, hk, rfl, f0, r0, p0, e0, pr0, n0, n1, m1, hit, hnt⟩ := hrel
                have u9 := f0.c 9 _ rfl
                have y0 := p0.c 0 _ rfl
                have y1 := p0.c 1 _ rfl
                have FF := Lib.hid f0
                have RR := Lib.hid r0
                have PP := Lib.hid p0
                have EE := Lib.hid e0
                have QQ := Lib.hid pr0
                have HI := Lib.hid hit
                have HT := Lib.hid hnt
                clear f0 r0 p0 e0 pr0 hit hnt
                have hti0 := HF.out.ti0
                have hti1 := HF.out.ti1
                dsimp only at hti0 hti1
                by_cases hgo : (k : Int) < ti ∧ k < 40
                · obtain ⟨hg1, hg2⟩ := hgo
                  go_wp2_with fail
                  refine (c_PTick QQ.out EE.out.hi (by omega) n0 (by omega)).mono ?_
                  rintro e w11 ⟨rfl, G11, e11, pr11⟩
                  have FF1 := Lib.hid (FF.out.ext e11 sp9)
                  have RR1 := Lib.hid (RR.out.ext e11 sp9)
                  have PP1 := Lib.hid (PP.out.ext e11 sp9)
                  have EE1 := Lib.hid (EE.out.trans (e11.mono fun t _ h => sb_sp h))
                  have QQ1 := Lib.hid pr11
                  clear e11 pr11
                  go_wp2
                  go_roundw
                  case rel => exact ⟨k + 1, G11, _, _, by omega, by go_num, FF1.out, RR1.out, PP1.out, EE1.out, QQ1.out, by show 0 ≤ s.n + 1; omega, by show s.n + 1 ≤ _; omega, by omega, HI.out, HT.out⟩
                  case measure => simp [intOf]; omega
                · go_upto_region 20 with fail
                  go_cut [98] (fun s wx => s = .bool false ∧ wx = wr)
                  case first =>
                    by_cases hg1 : (k : Int) < ti
                    · have hg2 : ¬ (k < 40) := by omega
                      clear hgo
                      go_wp2_with fail
                      go_meet
                      exact ⟨by simp; omega, rfl⟩
                    · clear hgo
                      go_wp2_with fail
                      go_meet
                      exact ⟨rfl, rfl⟩
                  case rest =>
                    obtain ⟨rfl, rfl⟩ := hcut
                    go_wp2_with fail
                    clear u9 y0 y1 hgo hti0 hti1
                    go_loopw [8] (fun i wr => ∃ k : Nat, ∃ G s m, k ≤ st.length ∧ i = .int .i64 k ∧ Ob wr G 9 N [.int .i64 f.b, .int .i64 f.g, .int .i64 f.t, .int .i64 f.q, .int .i64 f.y, .bool gr, .slice ai it.length ci, .slice ap pu.length cp, .slice as' st.length cs, .int .i64 ti] ∧ Ob wr G 9 (N + 1) [.pointer none, .pointer none] ∧ Ob wr G 9 w2.heap.size [.pointer (some ⟨B.p, 0, none⟩), .pointer (some ⟨C.p, 0, none⟩)] ∧ Ext SB O0 w G wr ∧ PR wr G B C cfD s m ∧ 0 ≤ s.n ∧ s.n ≤ 300 + (k : Int) ∧ m ≤ 300 + k ∧ s.it = it ∧ s.nt = [])
                      (fun i _ => st.length - (intOf i).toNat)
                    case atStart => exact ⟨0, G, s, m, Nat.zero_le _, rfl, FF.out, RR.out, PP.out, EE.out, QQ.out, n0, by omega, by omega, HI.out, HT.out⟩
                    case round =>
                      clear FF RR PP EE QQ HI HT n0 n1 m1 hk
                      obtain ⟨k, G, s, m, hk, rfl, f0, r0, p0, e0, pr0, n0, n1, m1, hit, hnt⟩ := hrel
                      have u8 := f0.c 8 _ rfl
                      have y0 := p0.c 0 _ rfl
                      have y1 := p0.c 1 _ rfl
                      have hl60 := HF.out.st1
                      dsimp only at hl60
                      have FF := Lib.hid f0
                      have RR := Lib.hid r0
                      have PP := Lib.hid p0
                      have EE := Lib.hid e0
                      have QQ := Lib.hid pr0
                      have HI := Lib.hid hit
                      have HT := Lib.hid hnt
                      clear f0 r0 p0 e0 pr0 hit hnt
                      by_cases hlt2 : k < st.length
                      · obtain ⟨b', o', c', he, hcp, hmx, hbl, hx⟩ := HF.out.st.open (by dsimp only; omega) (by omega)
                        cases he
                        obtain ⟨x, hxe⟩ : ∃ x, x = st[k] := ⟨_, rfl⟩
                        have hr : ∀ j, j < 2 → (rowOf stoc st)[k * 2 + j]? = (stoc x)[j]? := fun j hj => by rw [hxe]; exact rowOf_get (f := stoc) (k := 2) (fun a => rfl) st k j hlt2 hj
                        have hxb := HF.out.stb x (by rw [hxe]; exact List.getElem_mem _)
                        have v0 : wr.cell? ⟨b', o' + k * 2, none⟩ = some (.int .u64 x.1) := (EE.out.cell (p := ⟨b', o' + k * 2, none⟩) hbl sb0).trans (hx _ _ (hr 0 (by omega)))
                        have v1 : wr.cell? ⟨b', o' + k * 2 + 1, none⟩ = some (.int .u64 x.2) := (EE.out.cell (p := ⟨b', o' + k * 2 + 1, none⟩) hbl sb0).trans (hx _ _ (hr 1 (by omega)))
                        have hbz : G b' = 0 := EE.out.lo b' hbl
                        have hbw : b' < wr.heap.size := Nat.lt_of_lt_of_le hbl EE.out.size
                        clear hx hr hxe
                        go_wp2_with fail
                        go_region_held3 (fun w' => w'.cell? ⟨w2.heap.size, 0, none⟩ = some (.pointer (some ⟨B.p, 0, none⟩)) ∧ w'.cell? ⟨w2.heap.size, 1, none⟩ = some (.pointer (some ⟨C.p, 0, none⟩)) ∧ w'.cell? ⟨N, 8, none⟩ = some (.slice (some ⟨b', o', none⟩) st.length cs) ∧ w'.cell? ⟨b', o' + k * 2, none⟩ = some (.int .u64 x.1) ∧ w'.cell? ⟨b', o' + k * 2 + 1, none⟩ = some (.int .u64 x.2)) (go_keep)
                          ((go_at_call 13
                            refine (c_PStore (w := wr.drew) x.1 x.2 (QQ.out.below EE.out.hi (drew_below wr)) EE.out.hi (by omega) hxb.1.1 hxb.1.2 hxb.2.1 hxb.2.2 n0 (by omega)).mono ?_
                            rintro e w11 ⟨rfl, G11, e11, pr11⟩
                            have x0 := (e11.nob sp0 hbw hbz (o' + k * 2)).trans v0
                            have x1 := (e11.nob sp0 hbw hbz (o' + k * 2 + 1)).trans v1
                            have FF1 := Lib.hid ((FF.out.below (drew_below wr)).ext e11 sp9)
                            have RR1 := Lib.hid ((RR.out.below (drew_below wr)).ext e11 sp9)
                            have PP1 := Lib.hid ((PP.out.below (drew_below wr)).ext e11 sp9)
                            have EE1 := Lib.hid (EE.out.drew.trans (e11.mono fun t _ h => sb_sp h))
                            have QQ1 := Lib.hid pr11
                            have w0 := PP1.out.c 0 _ rfl
                            have w1' := PP1.out.c 1 _ rfl
                            have w8' := FF1.out.c 8 _ rfl
                            clear e11 pr11))
                        all_goals
                          go_wp2
                          go_roundw
                          case rel => exact ⟨k + 1, G11, _, _, by omega, by go_num, FF1.out, RR1.out, PP1.out, EE1.out, QQ1.out, by show 0 ≤ s.n + 1; omega, by show s.n + 1 ≤ _; omega, by omega, HI.out, HT.out⟩
                          case measure => simp [intOf]; omega
                      · have q0 := RR.out.c 0 _ rfl
                        have q1 := RR.out.c 1 _ rfl
                        have z0 := RR.out.f 0
                        have z1 := RR.out.f 1
                        have R2 := RR.out.set 0 (.pointer (some ⟨B.p, 0, none⟩)) (by simp)
                        have E2 := Ob.set9 EE.out RR.out sb9 0 (.pointer (some ⟨B.p, 0, none⟩))
                        have E3 := Lib.hid (Ob.set9 E2 R2 sb9 1 (.pointer (some ⟨C.p, 0, none⟩)))
                        have P3 := Lib.hid (PR.mk ((QQ.out.p.set9 EE.out.hi RR.out.o (j := 0) (v := .pointer (some ⟨B.p, 0, none⟩))).set9 E2.hi R2.o (j := 1) (v := .pointer (some ⟨C.p, 0, none⟩))) ((QQ.out.r.set9 EE.out.hi RR.out.o (j := 0) (v := .pointer (some ⟨B.p, 0, none⟩))).set9 E2.hi R2.o (j := 1) (v := .pointer (some ⟨C.p, 0, none⟩))))
                        clear R2 E2
                        go_wp2_with fail
                        all_goals exact bodyPost_ret (v := .agg #[.pointer (some ⟨B.p, 0, none⟩), .pointer (some ⟨C.p, 0, none⟩)]) (by simp [results, Tryz.results9, go_sem, q0, q1, z0, z1]) rfl ⟨B, C, rfl, G, E3.out, s, m, by rw [← HG.out]; exact P3.out, n0, by omega, by omega, HI.out, HT.out⟩
  · have hgD : g = f := by rw [hg]; unfold cfOf; rw [hcf]; rfl
    subst hgD
    have HG := Lib.hid hg
    clear hg hcf
    go_wp2_with fail
    obtain ⟨W3, hW3⟩ : ∃ W3, W3 = w2 := ⟨_, rfl⟩
    have FF3 := FF2
    have RR3 := RR2
    have KK3 := KK2
    have EE3 := EE2
    have hM : w2.heap.size = W3.heap.size := by rw [hW3]
    rw [← hW3] at FF3 RR3 KK3 EE3
    rw [show w2.alloc (.cells #[.pointer none, .pointer none] 34) = W3.alloc (.cells #[.pointer none, .pointer none] 34) by rw [hW3]]
    clear hW3 FF2 RR2 KK2 EE2 c0 c1 c2 c3 c4 z0 z1 z2 z3 z4
    obtain ⟨G4, e4, p4, k4⟩ := alloc_ob EE3.out.hi 9 #[.pointer none, .pointer none] 34 w2.heap.size hM
    obtain ⟨W4, hW4⟩ : ∃ W4, W4 = W3.alloc (.cells #[.pointer none, .pointer none] 34) := ⟨_, rfl⟩
    have f4 := k4 _ _ _ FF3.out
    have r4 := k4 _ _ _ RR3.out
    have q4 := k4 _ _ _ KK3.out
    rw [← hW4] at e4 p4 f4 r4 q4 ⊢
    have FF4 := Lib.hid f4
    have RR4 := Lib.hid r4
    have KK4 := Lib.hid q4
    have PP4 := Lib.hid p4
    have EE4 := Lib.hid (EE3.out.trans (e4.mono fun t _ h => by subst h; exact ⟨by decide, by decide⟩))
    clear e4 p4 f4 r4 q4 k4 hW4 FF3 RR3 KK3 EE3 hM
    refine (c_Other g W4).mono ?_
    rintro e w5 ⟨rfl, hb5⟩
    have FF5 := Lib.hid (FF4.out.below hb5)
    have RR5 := Lib.hid (RR4.out.below hb5)
    have KK5 := Lib.hid (KK4.out.below hb5)
    have PP5 := Lib.hid (PP4.out.below hb5)
    have EE5 := Lib.hid (EE4.out.below hb5)
    clear hb5 FF4 RR4 KK4 PP4 EE4
    go_wp2_with fail
    refine (c_RNew10 g w5 G4 hgm EE5.out.hi).mono ?_
    rintro e w6 ⟨C, rfl, G6, e6, rw6⟩
    have FF6 := Lib.hid (FF5.out.ext e6 sr9)
    have RR6 := Lib.hid (RR5.out.ext e6 sr9)
    have KK6 := Lib.hid (KK5.out.ext e6 sr9)
    have PP6 := Lib.hid (PP5.out.ext e6 sr9)
    have EE6 := Lib.hid (EE5.out.trans (e6.mono fun t _ h => sb_sp (sp_sr h)))
    have RW6 := Lib.hid rw6
    clear e6 rw6 FF5 RR5 KK5 PP5 EE5
    have d0 := KK6.out.c 0 _ rfl
    have d1 := KK6.out.c 1 _ rfl
    have d2 := KK6.out.c 2 _ rfl
    have d3 := KK6.out.c 3 _ rfl
    have d4 := KK6.out.c 4 _ rfl
    have y0 := PP6.out.c 0 _ rfl
    have y1 := PP6.out.c 1 _ rfl
    have g0 := PP6.out.f 0
    have g1 := PP6.out.f 1
    go_wp2_with fail
    obtain ⟨W7, hW7⟩ : ∃ W7, W7 = w6.setCell ⟨w2.heap.size, 1, none⟩ (.pointer (some ⟨C.p, 0, none⟩)) := ⟨_, rfl⟩
    have FF7 : Hid (Ob W7 G6 9 N [.int .i64 g.b, .int .i64 g.g, .int .i64 g.t, .int .i64 g.q, .int .i64 g.y, .bool gr, .slice ai it.length ci, .slice ap pu.length cp, .slice as' st.length cs, .int .i64 ti]) := Lib.hid (by rw [hW7]; exact FF6.out.other hp0)
    have RR7 : Hid (Ob W7 G6 9 (N + 1) [.pointer none, .pointer none]) := Lib.hid (by rw [hW7]; exact RR6.out.other hp1)
    have KK7 : Hid (Ob W7 G6 9 (N + 1 + 1) [.int .i64 g.b, .int .i64 g.g, .int .i64 g.t, .int .i64 g.q, .int .i64 g.y]) := Lib.hid (by rw [hW7]; exact KK6.out.other hp2)
    have PP7 : Hid (Ob W7 G6 9 w2.heap.size [.pointer none, .pointer (some ⟨C.p, 0, none⟩)]) := Lib.hid (by rw [hW7]; exact PP6.out.set 1 _ (by simp))
    have EE7 : Hid (Ext SB O0 w G6 W7) := Lib.hid (by rw [hW7]; exact Ob.set9 EE6.out PP6.out sb9 1 _)
    have RW7 : Hid (RW W7 G6 C g (aw0 g.b) 1) := Lib.hid (by rw [hW7]; exact RW6.out.set9 EE6.out.hi PP6.out.o)
    rw [← hW7]
    clear hW7 FF6 RR6 KK6 PP6 EE6 RW6 d0 d1 d2 d3 d4 y0 y1 g0 g1
    refine (c_WNewQ g W7 hgm).mono ?_
    intro e w8 hw8
    obtain ⟨B, rfl, G8, e8, pw8⟩ := hw8.rp EE7.out.hi
    have FF8 := Lib.hid (FF7.out.ext e8 sw9)
    have RR8 := Lib.hid (RR7.out.ext e8 sw9)
    have KK8 := Lib.hid (KK7.out.ext e8 sw9)
    have PP8 := Lib.hid (PP7.out.ext e8 sw9)
    have EE8 := Lib.hid (EE7.out.trans (e8.mono fun t _ h => sb_sp (sp_sw h)))
    have PR8 := Lib.hid (PR.mk pw8 (RW7.out.sw e8))
    clear hw8 e8 pw8 FF7 RR7 KK7 PP7 EE7 RW7
    have d0 := KK8.out.c 0 _ rfl
    have d1 := KK8.out.c 1 _ rfl
    have d2 := KK8.out.c 2 _ rfl
    have d3 := KK8.out.c 3 _ rfl
    have d4 := KK8.out.c 4 _ rfl
    have u5 := FF8.out.c 5 _ rfl
    have u6 := FF8.out.c 6 _ rfl
    have y0 := PP8.out.c 0 _ rfl
    have y1 := PP8.out.c 1 _ rfl
    have g0 := PP8.out.f 0
    have g1 := PP8.out.f 1
    have hgb0 := hgm.b0
    have hgb1 := hgm.b1
    go_wp2_with fail
    all_goals
      obtain ⟨W9, hW9⟩ : ∃ W9, W9 = w8.setCell ⟨w2.heap.size, 0, none⟩ (.pointer (some ⟨B.p, 0, none⟩)) := ⟨_, rfl⟩
      have FF9 : Hid (Ob W9 G8 9 N _) := Lib.hid (by rw [hW9]; exact FF8.out.other hp0)
      have RR9 : Hid (Ob W9 G8 9 (N + 1) [.pointer none, .pointer none]) := Lib.hid (by rw [hW9]; exact RR8.out.other hp1)
      have PP9 : Hid (Ob W9 G8 9 w2.heap.size [.pointer (some ⟨B.p, 0, none⟩), .pointer (some ⟨C.p, 0, none⟩)]) := Lib.hid (by rw [hW9]; exact PP8.out.set 0 _ (by simp))
      have EE9 : Hid (Ext SB O0 w G8 W9) := Lib.hid (by rw [hW9]; exact Ob.set9 EE8.out PP8.out sb9 0 _)
      have PR9 : Hid (PR W9 G8 B C g (aw0 g.b) 1) := Lib.hid (by rw [hW9]; exact ⟨PR8.out.p.set9 EE8.out.hi PP8.out.o, PR8.out.r.set9 EE8.out.hi PP8.out.o⟩)
      rw [← hW9]
      clear hW9 FF8 RR8 KK8 PP8 EE8 PR8 d0 d1 d2 d3 d4 u5 u6 y0 y1 g0 g1
    all_goals first
      | (refine (c_PStore _ _ PR9.out EE9.out.hi (by decide) (by decide) (by decide) (by first | decide | omega) (by first | decide | omega) (by show (0 : Int) ≤ 0; decide) (by show (0 : Int) ≤ 4611686018427387904; decide)).mono ?_
         rintro e w10 ⟨rfl, G10, e10, pr10⟩
         have FF10 := Lib.hid (FF9.out.ext e10 sp9)
         have RR10 := Lib.hid (RR9.out.ext e10 sp9)
         have PP10 := Lib.hid (PP9.out.ext e10 sp9)
         have EE10 := Lib.hid (EE9.out.trans (e10.mono fun t _ h => sb_sp h))
         have PR10 : Hid (∃ s m, PR w10 G10 B C g s m ∧ 0 ≤ s.n ∧ s.n ≤ 1 ∧ m ≤ 2 ∧ s.it = [] ∧ s.nt = []) := Lib.hid ⟨_, _, pr10, by show (0 : Int) ≤ 0 + 1; decide, by show (0 : Int) + 1 ≤ 1; decide, by decide, rfl, rfl⟩
         clear e10 pr10 FF9 RR9 PP9 EE9 PR9
         go_wp2_with fail)
      | (obtain ⟨w10, hw10⟩ : ∃ w10, w10 = W9 := ⟨_, rfl⟩
         obtain ⟨G10, hG10⟩ : ∃ G10, G10 = G8 := ⟨_, rfl⟩
         have PR10 : Hid (∃ s m, PR W9 G8 B C g s m ∧ 0 ≤ s.n ∧ s.n ≤ 1 ∧ m ≤ 2 ∧ s.it = [] ∧ s.nt = []) := Lib.hid ⟨_, _, PR9.out, by show (0 : Int) ≤ 0; decide, by show (0 : Int) ≤ 1; decide, by decide, rfl, rfl⟩
         have FF10 := FF9
         have RR10 := RR9
         have PP10 := PP9
         have EE10 := EE9
         rw [← hw10, ← hG10] at FF10 RR10 PP10 EE10 PR10
         rw [← hw10]
         clear hw10 hG10 FF9 RR9 PP9 EE9 PR9)
    all_goals
      go_loopw [5] (fun i wr => ∃ k : Nat, ∃ G s m, k ≤ it.length ∧ i = .int .i64 k ∧ Ob wr G 9 N [.int .i64 g.b, .int .i64 g.g, .int .i64 g.t, .int .i64 g.q, .int .i64 g.y, .bool gr, .slice ai it.length ci, .slice ap pu.length cp, .slice as' st.length cs, .int .i64 ti] ∧ Ob wr G 9 (N + 1) [.pointer none, .pointer none] ∧ Ob wr G 9 w2.heap.size [.pointer (some ⟨B.p, 0, none⟩), .pointer (some ⟨C.p, 0, none⟩)] ∧ Ext SB O0 w G wr ∧ PR wr G B C g s m ∧ 0 ≤ s.n ∧ s.n ≤ 1 ∧ m ≤ 2 ∧ s.it = it.take k ∧ s.nt = [])
        (fun i _ => it.length - (intOf i).toNat)
      case atStart =>
        obtain ⟨s, m, h1, h2, h3, h4, h5, h6⟩ := PR10.out
        exact ⟨0, G10, s, m, Nat.zero_le _, rfl, FF10.out, RR10.out, PP10.out, EE10.out, h1, h2, h3, h4, by simpa using h5, h6⟩
      case round =>
        clear FF10 RR10 PP10 EE10 PR10
        obtain ⟨k, G, s, m, hk, rfl, f0, r0, p0, e0, pr0, n0, n1, m1, hit, hnt⟩ := hrel
        have u6 := f0.c 6 _ rfl
        have u7 := f0.c 7 _ rfl
        have y0 := p0.c 0 _ rfl
        have y1 := p0.c 1 _ rfl
        have hl40 := HF.out.it1
        dsimp only at hl40
        have FF := Lib.hid f0
        have RR := Lib.hid r0
        have PP := Lib.hid p0
        have EE := Lib.hid e0
        have QQ := Lib.hid pr0
        have HI := Lib.hid hit
        have HT := Lib.hid hnt
        clear f0 r0 p0 e0 pr0 hit hnt
        by_cases hlt2 : k < it.length
        · obtain ⟨b', o', c', he, hcp, hmx, hbl, hx⟩ := HF.out.it.open (by dsimp only; omega) (by omega)
          cases he
          obtain ⟨x, hxe⟩ : ∃ x, x = it[k] := ⟨_, rfl⟩
          have hr : ∀ j, j < 6 → (rowOf itc it)[k * 6 + j]? = (itc x)[j]? := fun j hj => by rw [hxe]; exact rowOf_get itc_len it k j hlt2 hj
          have v0 : wr.cell? ⟨b', o' + k * 6, none⟩ = some (.string x.key) := (EE.out.cell (p := ⟨b', o' + k * 6, none⟩) hbl sb0).trans (hx _ _ (hr 0 (by omega)))
          have v1 : wr.cell? ⟨b', o' + k * 6 + 1, none⟩ = some (.string x.val) := (EE.out.cell (p := ⟨b', o' + k * 6 + 1, none⟩) hbl sb0).trans (hx _ _ (hr 1 (by omega)))
          have v2 : wr.cell? ⟨b', o' + k * 6 + 2, none⟩ = some (.int .u32 x.fl) := (EE.out.cell (p := ⟨b', o' + k * 6 + 2, none⟩) hbl sb0).trans (hx _ _ (hr 2 (by omega)))
          have v3 : wr.cell? ⟨b', o' + k * 6 + 3, none⟩ = some (.int .u64 x.id) := (EE.out.cell (p := ⟨b', o' + k * 6 + 3, none⟩) hbl sb0).trans (hx _ _ (hr 3 (by omega)))
          have v4 : wr.cell? ⟨b', o' + k * 6 + 4, none⟩ = some (.int .i64 x.dies) := (EE.out.cell (p := ⟨b', o' + k * 6 + 4, none⟩) hbl sb0).trans (hx _ _ (hr 4 (by omega)))
          have v5 : wr.cell? ⟨b', o' + k * 6 + 5, none⟩ = some (.int .i64 x.gen) := (EE.out.cell (p := ⟨b', o' + k * 6 + 5, none⟩) hbl sb0).trans (hx _ _ (hr 5 (by omega)))
          have HX := Lib.hid hxe
          have hbz : G b' = 0 := EE.out.lo b' hbl
          have hbw : b' < wr.heap.size := Nat.lt_of_lt_of_le hbl EE.out.size
          clear hx hr hxe
          go_wp2_with fail
          go_region_held3 (fun w' => w'.cell? ⟨w2.heap.size, 0, none⟩ = some (.pointer (some ⟨B.p, 0, none⟩)) ∧ w'.cell? ⟨w2.heap.size, 1, none⟩ = some (.pointer (some ⟨C.p, 0, none⟩)) ∧ w'.cell? ⟨N, 6, none⟩ = some (.slice (some ⟨b', o', none⟩) it.length ci) ∧ w'.cell? ⟨b', o' + k * 6, none⟩ = some (.string x.key) ∧ w'.cell? ⟨b', o' + k * 6 + 1, none⟩ = some (.string x.val) ∧ w'.cell? ⟨b', o' + k * 6 + 2, none⟩ = some (.int .u32 x.fl) ∧ w'.cell? ⟨b', o' + k * 6 + 3, none⟩ = some (.int .u64 x.id) ∧ w'.cell? ⟨b', o' + k * 6 + 4, none⟩ = some (.int .i64 x.dies) ∧ w'.cell? ⟨b', o' + k * 6 + 5, none⟩ = some (.int .i64 x.gen)) (go_keep)
            ((go_at_call 42
              refine (c_PItem (w := wr.drew) x (QQ.out.below EE.out.hi (drew_below wr)) EE.out.hi (by rw [HI.out]; simp; omega)).mono ?_
              rintro e w11 ⟨rfl, G11, e11, pr11⟩
              have x0 := (e11.nob sp0 hbw hbz (o' + k * 6)).trans v0
              have x1 := (e11.nob sp0 hbw hbz (o' + k * 6 + 1)).trans v1
              have x2 := (e11.nob sp0 hbw hbz (o' + k * 6 + 2)).trans v2
              have x3 := (e11.nob sp0 hbw hbz (o' + k * 6 + 3)).trans v3
              have x4 := (e11.nob sp0 hbw hbz (o' + k * 6 + 4)).trans v4
              have x5 := (e11.nob sp0 hbw hbz (o' + k * 6 + 5)).trans v5
              have FF1 := Lib.hid ((FF.out.below (drew_below wr)).ext e11 sp9)
              have RR1 := Lib.hid ((RR.out.below (drew_below wr)).ext e11 sp9)
              have PP1 := Lib.hid ((PP.out.below (drew_below wr)).ext e11 sp9)
              have EE1 := Lib.hid (EE.out.drew.trans (e11.mono fun t _ h => sb_sp h))
              have QQ1 := Lib.hid pr11
              have w0 := PP1.out.c 0 _ rfl
              have w1' := PP1.out.c 1 _ rfl
              have w6' := FF1.out.c 6 _ rfl
              clear e11 pr11))
          all_goals
            go_wp2
            go_roundw
            case rel => exact ⟨k + 1, G11, _, _, by omega, by go_num, FF1.out, RR1.out, PP1.out, EE1.out, QQ1.out, n0, n1, m1, by show s.it ++ [x] = _; rw [HI.out, HX.out]; simp, HT.out⟩
            case measure => simp [intOf]; omega
        · obtain rfl : k = it.length := by omega
          have HI' : Hid (s.it = it) := Lib.hid (by rw [HI.out]; simp)
          go_wp2_with fail
          clear u6 u7 y0 y1 hlt2
          go_loopw [6] (fun i wr => ∃ k : Nat, ∃ G s m, k ≤ pu.length ∧ i = .int .i64 k ∧ Ob wr G 9 N [.int .i64 g.b, .int .i64 g.g, .int .i64 g.t, .int .i64 g.q, .int .i64 g.y, .bool gr, .slice ai it.length ci, .slice ap pu.length cp, .slice as' st.length cs, .int .i64 ti] ∧ Ob wr G 9 (N + 1) [.pointer none, .pointer none] ∧ Ob wr G 9 w2.heap.size [.pointer (some ⟨B.p, 0, none⟩), .pointer (some ⟨C.p, 0, none⟩)] ∧ Ext SB O0 w G wr ∧ PR wr G B C g s m ∧ 0 ≤ s.n ∧ s.n ≤ 1 + 2 * (k : Int) ∧ m ≤ 2 + 2 * k ∧ s.it = it ∧ s.nt = [])
            (fun i _ => pu.length - (intOf i).toNat)
          case atStart => exact ⟨0, G, s, m, Nat.zero_le _, rfl, FF.out, RR.out, PP.out, EE.out, QQ.out, n0, by omega, by omega, HI'.out, HT.out⟩
          case round =>
            clear FF RR PP EE QQ HI HI' HT n0 n1 m1
            obtain ⟨k, G, s, m, hk, rfl, f0, r0, p0, e0, pr0, n0, n1, m1, hit, hnt⟩ := hrel
            have u6 := f0.c 6 _ rfl
            have u7 := f0.c 7 _ rfl
            have u9 := f0.c 9 _ rfl
            have y0 := p0.c 0 _ rfl
            have y1 := p0.c 1 _ rfl
            have hl60 := HF.out.pu1
            dsimp only at hl60
            have FF := Lib.hid f0
            have RR := Lib.hid r0
            have PP := Lib.hid p0
            have EE := Lib.hid e0
            have QQ := Lib.hid pr0
            have HI := Lib.hid hit
            have HT := Lib.hid hnt
            clear f0 r0 p0 e0 pr0 hit hnt
            by_cases hgo : k < pu.length ∧ 0 < it.length
            · obtain ⟨hkp, hip⟩ := hgo
              obtain ⟨b', o', c', he, hcp', hmx, hbl, hx⟩ := HF.out.pu.open (by dsimp only; omega) (by omega)
              cases he
              obtain ⟨x, hxe⟩ : ∃ x, x = pu[k] := ⟨_, rfl⟩
              have hr : ∀ j, j < 3 → (rowOf putc pu)[k * 3 + j]? = (putc x)[j]? := fun j hj => by rw [hxe]; exact rowOf_get (f := putc) (k := 3) (fun a => rfl) pu k j hkp hj
              have hxb := HF.out.pub x (by rw [hxe]; exact List.getElem_mem _)
              have v0 : wr.cell? ⟨b', o' + k * 3, none⟩ = some (.int .u8 x.1) := (EE.out.cell (p := ⟨b', o' + k * 3, none⟩) hbl sb0).trans (hx _ _ (hr 0 (by omega)))
              have v1 : wr.cell? ⟨b', o' + k * 3 + 1, none⟩ = some (.int .u8 x.2.1) := (EE.out.cell (p := ⟨b', o' + k * 3 + 1, none⟩) hbl sb0).trans (hx _ _ (hr 1 (by omega)))
              have v2 : wr.cell? ⟨b', o' + k * 3 + 2, none⟩ = some (.int .u8 x.2.2) := (EE.out.cell (p := ⟨b', o' + k * 3 + 2, none⟩) hbl sb0).trans (hx _ _ (hr 2 (by omega)))
              have hbz : G b' = 0 := EE.out.lo b' hbl
              have hbw : b' < wr.heap.size := Nat.lt_of_lt_of_le hbl EE.out.size
              have HL := Lib.hid HF.out.it1
              have HKy := Lib.hid HF.out.key
              have hip' : 0 < s.it.length := by rw [HI.out]; exact hip
              have hil : s.it.length ≤ 1000 := by rw [HI.out]; have := HL.out; dsimp only at this; omega
              have HKs := Lib.hid (show ∀ x ∈ s.it, x.key.size ≤ 400 from fun x hx => HKy.out x (by rw [← HI.out]; exact hx))
              have HIl := Lib.hid (show (it.length : Int) = s.it.length by rw [HI.out])
              clear hx hr hxe
              go_wp2_with fail
              go_region_held3 (fun w' => w'.cell? ⟨w2.heap.size, 0, none⟩ = some (.pointer (some ⟨B.p, 0, none⟩)) ∧ w'.cell? ⟨w2.heap.size, 1, none⟩ = some (.pointer (some ⟨C.p, 0, none⟩)) ∧ w'.cell? ⟨N, 6, none⟩ = some (.slice ai it.length ci) ∧ w'.cell? ⟨N, 7, none⟩ = some (.slice (some ⟨b', o', none⟩) pu.length cp) ∧ w'.cell? ⟨b', o' + k * 3, none⟩ = some (.int .u8 x.1) ∧ w'.cell? ⟨b', o' + k * 3 + 1, none⟩ = some (.int .u8 x.2.1) ∧ w'.cell? ⟨b', o' + k * 3 + 2, none⟩ = some (.int .u8 x.2.2)) (go_keep)
                ((go_at_call 43
                  refine (c_PPut (w := wr.drew) x.1 x.2.1 x.2.2 it.length (QQ.out.below EE.out.hi (drew_below wr)) EE.out.hi HIl.out hip' HKs.out hil (by omega) n0 (by omega) hxb.1.1 hxb.1.2 hxb.2.1.1 hxb.2.1.2 hxb.2.2.1 hxb.2.2.2).mono ?_
                  rintro e w11 ⟨rfl, G11, e11, s2, pr11, sn, si, sx⟩
                  have x0 := (e11.nob sp0 hbw hbz (o' + k * 3)).trans v0
                  have x1 := (e11.nob sp0 hbw hbz (o' + k * 3 + 1)).trans v1
                  have x2 := (e11.nob sp0 hbw hbz (o' + k * 3 + 2)).trans v2
                  have FF1 := Lib.hid ((FF.out.below (drew_below wr)).ext e11 sp9)
                  have RR1 := Lib.hid ((RR.out.below (drew_below wr)).ext e11 sp9)
                  have PP1 := Lib.hid ((PP.out.below (drew_below wr)).ext e11 sp9)
                  have EE1 := Lib.hid (EE.out.drew.trans (e11.mono fun t _ h => sb_sp h))
                  have QQ1 := Lib.hid pr11
                  have SI1 := Lib.hid si
                  have SX1 := Lib.hid sx
                  have w0 := PP1.out.c 0 _ rfl
                  have w1' := PP1.out.c 1 _ rfl
                  have w6' := FF1.out.c 6 _ rfl
                  have w7' := FF1.out.c 7 _ rfl
                  clear e11 pr11 si sx))
              all_goals
                go_wp2
                go_roundw
                case rel => exact ⟨k + 1, G11, s2, _, by omega, by go_num, FF1.out, RR1.out, PP1.out, EE1.out, QQ1.out, by omega, by omega, by omega, by rw [SI1.out, HI.out], by rw [SX1.out, HT.out]⟩
                case measure => simp [intOf]; omega
            · go_upto_region 16 with fail
              go_cut [78] (fun s wx => s = .bool false ∧ wx = wr)
              case first =>
                by_cases hg1 : k < pu.length
                · have hg2 : ¬ (0 < it.length) := by omega
                  clear hgo
                  go_wp2_with fail
                  go_meet
                  exact ⟨rfl, rfl⟩
                · clear hgo
                  go_wp2_with fail
                  go_meet
                  exact ⟨rfl, rfl⟩
              case rest =>
              obtain ⟨rfl, rfl⟩ := hcut
              go_wp2_with fail
              clear u6 u7 u9 y0 y1 hgo
              go_loopw [7] (fun i wr => ∃ k : Nat, ∃ G s m, k ≤ 40 ∧ i = .int .i64 k ∧ Ob wr G 9 N [.int .i64 g.b, .int .i64 g.g, .int .i64 g.t, .int .i64 g.q, .int .i64 g.y, .bool gr, .slice ai it.length ci, .slice ap pu.length cp, .slice as' st.length cs, .int .i64 ti] ∧ Ob wr G 9 (N + 1) [.pointer none, .pointer none] ∧ Ob wr G 9 w2.heap.size [.pointer (some ⟨B.p, 0, none⟩), .pointer (some ⟨C.p, 0, none⟩)] ∧ Ext SB O0 w G wr ∧ PR wr G B C g s m ∧ 0 ≤ s.n ∧ s.n ≤ 200 + (k : Int) ∧ m ≤ 200 + k ∧ s.it = it ∧ s.nt = [])
                (fun i _ => 40 - (intOf i).toNat)
              case atStart => exact ⟨0, G, s, m, Nat.zero_le _, rfl, FF.out, RR.out, PP.out, EE.out, QQ.out, n0, by omega, by omega, HI.out, HT.out⟩
              case round =>
                clear FF RR PP EE QQ HI HT n0 n1 m1 hk
                obtain ⟨k, G, s, m, hk, rfl, f0, r0, p0, e0, pr0, n0, n1, m1, hit, hnt⟩ := hrel
                have u9 := f0.c 9 _ rfl
                have y0 := p0.c 0 _ rfl
                have y1 := p0.c 1 _ rfl
                have FF := Lib.hid f0
                have RR := Lib.hid r0
                have PP := Lib.hid p0
                have EE := Lib.hid e0
                have QQ := Lib.hid pr0
                have HI := Lib.hid hit
                have HT := Lib.hid hnt
                clear f0 r0 p0 e0 pr0 hit hnt
                have hti0 := HF.out.ti0
                have hti1 := HF.out.ti1
                dsimp only at hti0 hti1
                by_cases hgo : (k : Int) < ti ∧ k < 40
                · obtain ⟨hg1, hg2⟩ := hgo
                  go_wp2_with fail
                  refine (c_PTick QQ.out EE.out.hi (by omega) n0 (by omega)).mono ?_
                  rintro e w11 ⟨rfl, G11, e11, pr11⟩
                  have FF1 := Lib.hid (FF.out.ext e11 sp9)
                  have RR1 := Lib.hid (RR.out.ext e11 sp9)
                  have PP1 := Lib.hid (PP.out.ext e11 sp9)
                  have EE1 := Lib.hid (EE.out.trans (e11.mono fun t _ h => sb_sp h))
                  have QQ1 := Lib.hid pr11
                  clear e11 pr11
                  go_wp2
                  go_roundw
                  case rel => exact ⟨k + 1, G11, _, _, by omega, by go_num, FF1.out, RR1.out, PP1.out, EE1.out, QQ1.out, by show 0 ≤ s.n + 1; omega, by show s.n + 1 ≤ _; omega, by omega, HI.out, HT.out⟩
                  case measure => simp [intOf]; omega
                · go_upto_region 20 with fail
                  go_cut [98] (fun s wx => s = .bool false ∧ wx = wr)
                  case first =>
                    by_cases hg1 : (k : Int) < ti
                    · have hg2 : ¬ (k < 40) := by omega
                      clear hgo
                      go_wp2_with fail
                      go_meet
                      exact ⟨by simp; omega, rfl⟩
                    · clear hgo
                      go_wp2_with fail
                      go_meet
                      exact ⟨rfl, rfl⟩
                  case rest =>
                    obtain ⟨rfl, rfl⟩ := hcut
                    go_wp2_with fail
                    clear u9 y0 y1 hgo hti0 hti1
                    go_loopw [8] (fun i wr => ∃ k : Nat, ∃ G s m, k ≤ st.length ∧ i = .int .i64 k ∧ Ob wr G 9 N [.int .i64 g.b, .int .i64 g.g, .int .i64 g.t, .int .i64 g.q, .int .i64 g.y, .bool gr, .slice ai it.length ci, .slice ap pu.length cp, .slice as' st.length cs, .int .i64 ti] ∧ Ob wr G 9 (N + 1) [.pointer none, .pointer none] ∧ Ob wr G 9 w2.heap.size [.pointer (some ⟨B.p, 0, none⟩), .pointer (some ⟨C.p, 0, none⟩)] ∧ Ext SB O0 w G wr ∧ PR wr G B C g s m ∧ 0 ≤ s.n ∧ s.n ≤ 300 + (k : Int) ∧ m ≤ 300 + k ∧ s.it = it ∧ s.nt = [])
                      (fun i _ => st.length - (intOf i).toNat)
                    case atStart => exact ⟨0, G, s, m, Nat.zero_le _, rfl, FF.out, RR.out, PP.out, EE.out, QQ.out, n0, by omega, by omega, HI.out, HT.out⟩
                    case round =>
                      clear FF RR PP EE QQ HI HT n0 n1 m1 hk
                      obtain ⟨k, G, s, m, hk, rfl, f0, r0, p0, e0, pr0, n0, n1, m1, hit, hnt⟩ := hrel
                      have u8 := f0.c 8 _ rfl
                      have y0 := p0.c 0 _ rfl
                      have y1 := p0.c 1 _ rfl
                      have hl60 := HF.out.st1
                      dsimp only at hl60
                      have FF := Lib.hid f0
                      have RR := Lib.hid r0
                      have PP := Lib.hid p0
                      have EE := Lib.hid e0
                      have QQ := Lib.hid pr0
                      have HI := Lib.hid hit
                      have HT := Lib.hid hnt
                      clear f0 r0 p0 e0 pr0 hit hnt
                      by_cases hlt2 : k < st.length
                      · obtain ⟨b', o', c', he, hcp, hmx, hbl, hx⟩ := HF.out.st.open (by dsimp only; omega) (by omega)
                        cases he
                        obtain ⟨x, hxe⟩ : ∃ x, x = st[k] := ⟨_, rfl⟩
                        have hr : ∀ j, j < 2 → (rowOf stoc st)[k * 2 + j]? = (stoc x)[j]? := fun j hj => by rw [hxe]; exact rowOf_get (f := stoc) (k := 2) (fun a => rfl) st k j hlt2 hj
                        have hxb := HF.out.stb x (by rw [hxe]; exact List.getElem_mem _)
                        have v0 : wr.cell? ⟨b', o' + k * 2, none⟩ = some (.int .u64 x.1) := (EE.out.cell (p := ⟨b', o' + k * 2, none⟩) hbl sb0).trans (hx _ _ (hr 0 (by omega)))
                        have v1 : wr.cell? ⟨b', o' + k * 2 + 1, none⟩ = some (.int .u64 x.2) := (EE.out.cell (p := ⟨b', o' + k * 2 + 1, none⟩) hbl sb0).trans (hx _ _ (hr 1 (by omega)))
                        have hbz : G b' = 0 := EE.out.lo b' hbl
                        have hbw : b' < wr.heap.size := Nat.lt_of_lt_of_le hbl EE.out.size
                        clear hx hr hxe
                        go_wp2_with fail
                        go_region_held3 (fun w' => w'.cell? ⟨w2.heap.size, 0, none⟩ = some (.pointer (some ⟨B.p, 0, none⟩)) ∧ w'.cell? ⟨w2.heap.size, 1, none⟩ = some (.pointer (some ⟨C.p, 0, none⟩)) ∧ w'.cell? ⟨N, 8, none⟩ = some (.slice (some ⟨b', o', none⟩) st.length cs) ∧ w'.cell? ⟨b', o' + k * 2, none⟩ = some (.int .u64 x.1) ∧ w'.cell? ⟨b', o' + k * 2 + 1, none⟩ = some (.int .u64 x.2)) (go_keep)
                          ((go_at_call 13
                            refine (c_PStore (w := wr.drew) x.1 x.2 (QQ.out.below EE.out.hi (drew_below wr)) EE.out.hi (by omega) hxb.1.1 hxb.1.2 hxb.2.1 hxb.2.2 n0 (by omega)).mono ?_
                            rintro e w11 ⟨rfl, G11, e11, pr11⟩
                            have x0 := (e11.nob sp0 hbw hbz (o' + k * 2)).trans v0
                            have x1 := (e11.nob sp0 hbw hbz (o' + k * 2 + 1)).trans v1
                            have FF1 := Lib.hid ((FF.out.below (drew_below wr)).ext e11 sp9)
                            have RR1 := Lib.hid ((RR.out.below (drew_below wr)).ext e11 sp9)
                            have PP1 := Lib.hid ((PP.out.below (drew_below wr)).ext e11 sp9)
                            have EE1 := Lib.hid (EE.out.drew.trans (e11.mono fun t _ h => sb_sp h))
                            have QQ1 := Lib.hid pr11
                            have w0 := PP1.out.c 0 _ rfl
                            have w1' := PP1.out.c 1 _ rfl
                            have w8' := FF1.out.c 8 _ rfl
                            clear e11 pr11))
                        all_goals
                          go_wp2
                          go_roundw
                          case rel => exact ⟨k + 1, G11, _, _, by omega, by go_num, FF1.out, RR1.out, PP1.out, EE1.out, QQ1.out, by show 0 ≤ s.n + 1; omega, by show s.n + 1 ≤ _; omega, by omega, HI.out, HT.out⟩
                          case measure => simp [intOf]; omega
                      · have q0 := RR.out.c 0 _ rfl
                        have q1 := RR.out.c 1 _ rfl
                        have z0 := RR.out.f 0
                        have z1 := RR.out.f 1
                        have R2 := RR.out.set 0 (.pointer (some ⟨B.p, 0, none⟩)) (by simp)
                        have E2 := Ob.set9 EE.out RR.out sb9 0 (.pointer (some ⟨B.p, 0, none⟩))
                        have E3 := Lib.hid (Ob.set9 E2 R2 sb9 1 (.pointer (some ⟨C.p, 0, none⟩)))
                        have P3 := Lib.hid (PR.mk ((QQ.out.p.set9 EE.out.hi RR.out.o (j := 0) (v := .pointer (some ⟨B.p, 0, none⟩))).set9 E2.hi R2.o (j := 1) (v := .pointer (some ⟨C.p, 0, none⟩))) ((QQ.out.r.set9 EE.out.hi RR.out.o (j := 0) (v := .pointer (some ⟨B.p, 0, none⟩))).set9 E2.hi R2.o (j := 1) (v := .pointer (some ⟨C.p, 0, none⟩))))
                        clear R2 E2
                        go_wp2_with fail
                        all_goals exact bodyPost_ret (v := .agg #[.pointer (some ⟨B.p, 0, none⟩), .pointer (some ⟨C.p, 0, none⟩)]) (by simp [results, Tryz.results9, go_sem, q0, q1, z0, z1]) rfl ⟨B, C, rfl, G, E3.out, s, m, by rw [← HG.out]; exact P3.out, n0, by omega, by omega, HI.out, HT.out⟩
end Go.Proofs.YtijifjiehldcaaaGreat
