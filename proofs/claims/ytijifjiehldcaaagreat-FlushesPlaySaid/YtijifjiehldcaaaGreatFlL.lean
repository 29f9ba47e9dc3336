/- Layer 27: a Flush by itself; the chapter's examples. -/
import Derived.Test.YtijifjiehldcaaaGreatFlN
import Derived.Test.YtijifjiehldcaaaGreatRun
namespace Go.Proofs.YtijifjiehldcaaaGreat
set_option linter.unusedSimpArgs false
open Go.RowKit
set_option linter.unusedVariables false

theorem m_FOver (a : Addr) (w : World) : (method 380 63 (.pointer (some a)) "Over").run Tryz.prog w = .ok (31, .pointer (some a)) w := by kernel_rfl
theorem m_FStep (a : Addr) (w : World) : (method 380 63 (.pointer (some a)) "Step").run Tryz.prog w = .ok (29, .pointer (some a)) w := by kernel_rfl
def flOv (y : Flm) : Bool := decide (y.ln = 0)
def flRun (t : Nat) (d : Int) (m : Nat) (s : AW) : Nat × (AW × Flm) := runN flOv (fun z => flStep t d z.1 z.2) m (s, flNew)
theorem tkStep_n (t : Nat) (s : AW) (x : Tkm) : (tkStep t s x).1.n ≤ s.n + 1 ∧ s.n ≤ (tkStep t s x).1.n := by
  unfold tkStep
  split
  · exact ⟨Int.le_refl _, by show s.n ≤ s.n + 1; omega⟩
  · split
    · split
      · exact ⟨Int.le_refl _, by show s.n ≤ s.n + 1; omega⟩
      · exact ⟨Int.le_refl _, by show s.n ≤ s.n + 1; omega⟩
    · exact ⟨by dsimp only; omega, Int.le_refl _⟩
theorem flStep_n (t : Nat) (d : Int) (s : AW) (y : Flm) : (flStep t d s y).1.n ≤ s.n + 1 ∧ s.n ≤ (flStep t d s y).1.n := by
  unfold flStep
  split
  · exact tkStep_n t s y.tk
  · split
    · have := awFlush_n d s; dsimp only; omega
    · split
      · exact ⟨Int.le_refl _, by show s.n ≤ s.n + 1; omega⟩
      · exact ⟨by dsimp only; omega, Int.le_refl _⟩
/-- A new block that nobody is told to own. -/
theorem alloc_nb {O : Om} {w : World} {S : Nat → Prop} (hhi : ∀ j, O j ≠ 0 → j < w.heap.size) (cs : Array Value) (ty : TypeId) (n : Nat) (hn : n = w.heap.size) :
    Ext S O w O (w.alloc (.cells cs ty)) ∧ Ob (w.alloc (.cells cs ty)) O 0 n cs.toList ∧ ∀ g' b' ds, Ob w O g' b' ds → Ob (w.alloc (.cells cs ty)) O g' b' ds := by
  subst hn
  refine ⟨Ext.of_below hhi ((Below.refl _ _).alloc (Nat.le_refl _) _), ⟨?_, by simp, fun j u hu => cell_newA w cs ty _ rfl j u (by simpa using hu), fun j => frozen_newA w cs ty _ rfl j⟩, fun g' b' ds h => h.below ((Below.refl _ _).alloc (Nat.le_refl _) _)⟩
  by_cases h : O w.heap.size = 0
  · exact h
  · exact absurd (hhi _ h) (by omega)
theorem c_FRun (w : World) (O : Om) (B : Wb) (f : Cf) (k t : Nat) (b : FB) (d : Int) (m : Nat) (s : AW) (hP : PW w O B f s) (hX : FAt w O k b t d flNew) (hk : 10 ≤ k) (ht : t < 64) (hhi : ∀ j, O j ≠ 0 → j < w.heap.size) (n0 : 0 ≤ s.n) (n1 : s.n + m ≤ 4611686018427387904) (d0 : -9223372036854775808 ≤ d) (d1 : d ≤ 9223372036854775807) :
    Calls Tryz.prog 34 #[.pointer (some ⟨B.p, 0, none⟩), .iface 63 (.pointer (some ⟨b.X, 0, none⟩)), .int .i64 m] w (RP (SX k (k + 3)) w O (.int .i64 (flRun t d m s).1) fun W G => PW W G B f (flRun t d m s).2.1 ∧ FAt W G k b t d (flRun t d m s).2.2) := by
  refine (c_RunG flOv (fun z => flStep t d z.1 z.2) (SX k (k + 3)) (fun W G z => PW W G B f z.1 ∧ FAt W G k b t d z.2 ∧ z.2.ok) B.p b.X 63 31 29 (m_FOver _) (m_FStep _)
    (run_enter Tryz.func31 (by kernel_rfl) (by kernel_rfl)) (run_enter Tryz.func29 (by kernel_rfl) (by kernel_rfl)) ?_ ?_ (fun z => flStep_n t d z.1 z.2) w O m (s, flNew) ⟨hP, hX, (by show 1 ≤ 3; decide), fun _ => .inl rfl⟩ hhi n0 n1).mono ?_
  · rintro W G ⟨s1, y⟩ ⟨h1, h2, h3⟩
    exact c_FOver b.X _ W (h2.x.c 0 _ rfl) _ (flOver b h3.1)
  · rintro W G ⟨s1, y⟩ ⟨h1, h2, h3⟩ ho hh q0 q1
    refine (c_FStep y h1 h2 h3 hk ht hh q0 q1 d0 d1).mono ?_
    intro e w' hp
    exact ⟨_, hp.mono (fun _ _ h => h) fun W1 G1 h => ⟨h.1, h.2, flStep_ok h3⟩⟩
  · intro e w' hp
    exact hp.mono (fun _ _ h => h) fun W1 G1 h => ⟨h.1, h.2.1⟩
set_option maxHeartbeats 1000000 in
set_option maxRecDepth 100000 in
theorem c_does27 (w : World) (O : Om) (B : Wb) (f : Cf) (k t : Nat) (d : Int) (s : AW) (hP : PW w O B f s) (hk : 10 ≤ k) (ht : t < 64) (hhi : ∀ j, O j ≠ 0 → j < w.heap.size) (n0 : 0 ≤ s.n) (n1 : s.n + 99 ≤ 4611686018427387904) (d0 : -9223372036854775808 ≤ d) (d1 : d ≤ 9223372036854775807) (hov : (flRun t d 99 s).2.2.ln = 0) :
    Calls Tryz.prog 60 #[.pointer (some ⟨B.p, 0, none⟩), .int .i64 t, .int .i64 d] w (RP (SX k (k + 4)) w O (.tuple #[anV (flRun t d 99 s).2.2.an, .int .u64 (flRun t d 99 s).2.2.ep, .int .i64 (flRun t d 99 s).1]) fun W G => PW W G B f (flRun t d 99 s).2.1) := by
  have HP := Lib.hid hP
  have HH := Lib.hid hhi
  obtain ⟨z, hz⟩ : ∃ z, z = flRun t d 99 s := ⟨_, rfl⟩
  rw [← hz] at hov ⊢
  have HOV := Lib.hid hov
  have HZ := Lib.hid hz
  clear hP hhi hov hz
  obtain ⟨O0, e0, r0, -⟩ := alloc_ob HH.out (k + 4) #[.int .u8 0, .int .u64 0, .string ⟨#[]⟩, .string ⟨#[]⟩, .int .u32 0, .int .u64 0, .int .i64 0, .int .i64 0] 77 _ rfl
  go_enter Tryz.func60, Tryz.ntmps60
  go_wp2_with fail
  refine (c_NewFlush _ O0 k t d hk ht e0.hi).mono ?_
  rintro e w1 ⟨b, rfl, O1, E1, X1⟩
  have P1 := (HP.out.ext e0 (by omega) (by omega) (by omega) (by omega)).ext E1 (by omega) (by omega) (by omega) (by omega)
  have r1 := r0.ext E1 (by omega)
  have E01 : Ext (SX k (k + 4)) O w O1 w1 := (e0.mono fun t _ h => .inr (by omega)).trans (E1.mono fun t _ h => .inr (by omega))
  have HE := Lib.hid E01
  have HR := Lib.hid r1
  have HF := Lib.hid (c_FRun w1 O1 B f k t b d 99 s P1 X1 hk ht E1.hi n0 n1 d0 d1)
  rw [← HZ.out] at HF
  clear e0 r0 P1 r1 E01 E1 X1
  go_wp2_with fail
  refine (HF.out).mono ?_
  rintro e w2 ⟨rfl, O2, E2, P2, X2⟩
  have HE2 := Lib.hid (HE.out.trans (E2.mono fun t _ h => SX.mono (by omega) (by omega) h))
  have R2 := Lib.hid (HR.out.ext E2 (SX.not (by omega) (by omega)))
  have HP2 := Lib.hid P2
  have hx : Ob w2 O2 k b.X (flCs .nilFunc z.2.2.an z.2.2.ep z.2.2.pt) := by
    have := X2.x
    rw [HOV.out] at this
    exact this
  have HG := Lib.hid (c_FGot w2 O2 k b.X _ _ _ hx)
  clear E2 P2 X2 hx HF HE HR
  go_wp2_with fail
  refine (HG.out).mono ?_
  rintro e w3 ⟨rfl, hb3⟩
  have HE3 := Lib.hid (HE2.out.below hb3)
  have R3 := Lib.hid (R2.out.below hb3)
  have HP3 := Lib.hid (HP2.out.below HE2.out.hi hb3)
  obtain ⟨e4, n4, k4⟩ := alloc_nb (S := SX k (k + 4)) HE3.out.hi #[.int .u8 z.2.2.an, .int .u64 0, .string ⟨#[]⟩, .string ⟨#[]⟩, .int .u32 0, .int .u64 0, .int .i64 0, .int .i64 0] 77 _ rfl
  have R4 := Lib.hid (k4 _ _ _ R3.out)
  have g0 := R4.out.c 0 _ rfl
  have g1 := R4.out.c 1 _ rfl
  have g2 := R4.out.c 2 _ rfl
  have g3 := R4.out.c 3 _ rfl
  have g4 := R4.out.c 4 _ rfl
  have g5 := R4.out.c 5 _ rfl
  have g6 := R4.out.c 6 _ rfl
  have g7 := R4.out.c 7 _ rfl
  have gf := R4.out.f
  have hE4 := Lib.hid (HE3.out.trans e4)
  have hP4 := Lib.hid (HP3.out.below HE3.out.hi ((Below.refl _ _).alloc (Nat.le_refl _) (.cells #[.int .u8 z.2.2.an, .int .u64 0, .string ⟨#[]⟩, .string ⟨#[]⟩, .int .u32 0, .int .u64 0, .int .i64 0, .int .i64 0] 77)))
  unfold anV
  clear e4 n4 k4 hb3 HG HE2 R2 HP2 HE3 R3 HP3 
  go_wp2
  have R5 := (((((((R4.out.set 0 (.int .u8 z.2.2.an) (by simp)).set 1 (.int .u64 0) (by simp)).set 2 (.string ⟨#[]⟩) (by simp)).set 3 (.string ⟨#[]⟩) (by simp)).set 4 (.int .u32 0) (by simp)).set 5 (.int .u64 0) (by simp)).set 6 (.int .i64 0) (by simp)).set 7 (.int .i64 0) (by simp)
  have y0 := R5.c 0 _ rfl
  have y1 := R5.c 1 _ rfl
  have y2 := R5.c 2 _ rfl
  have y3 := R5.c 3 _ rfl
  have y4 := R5.c 4 _ rfl
  have y5 := R5.c 5 _ rfl
  have y6 := R5.c 6 _ rfl
  have y7 := R5.c 7 _ rfl
  have hb : ∀ (W : World) (j : Nat) (v : Value) (cs : List Value), j < cs.length → Me k (k + 4) w O W O2 B f z.2.1 (k + 4) w.heap.size cs → Me k (k + 4) w O (W.setCell ⟨w.heap.size, j, none⟩ v) O2 B f z.2.1 (k + 4) w.heap.size (cs.set j v) :=
    fun W j v cs hj h => h.set (by omega) (by omega) (by omega) j v hj
  have m0 : Me k (k + 4) w O _ O2 B f z.2.1 (k + 4) w.heap.size _ := ⟨hE4.out, hP4.out, R4.out⟩
  have m8 := hb _ 7 (.int .i64 0) _ (by simp) (hb _ 6 (.int .i64 0) _ (by simp) (hb _ 5 (.int .u64 0) _ (by simp) (hb _ 4 (.int .u32 0) _ (by simp) (hb _ 3 (.string ⟨#[]⟩) _ (by simp) (hb _ 2 (.string ⟨#[]⟩) _ (by simp) (hb _ 1 (.int .u64 0) _ (by simp) (hb _ 0 (.int .u8 z.2.2.an) _ (by simp) m0)))))))
  refine bodyPost_ret (v := .tuple #[anV z.2.2.an, .int .u64 z.2.2.ep, .int .i64 z.1]) (by simp [results, Tryz.results60, go_sem, anV, y0, y1, y2, y3, y4, y5, y6, y7]) rfl ⟨rfl, O2, m8.e, m8.p⟩
def l27a : Nat × (AW × Flm) := flRun 3 0 99 (aw0 2)
def l27b : Nat × (AW × Flm) := flRun 3 3 99 l27a.2.1
def l27t (n : Nat) : AW := Nat.rec l27b.2.1 (fun _ s => awTick s) n
def l27s : AW := awStore 8 (epPut 5 0 65535) (l27t 3)
def l27c : Nat × (AW × Flm) := flRun 3 0 99 l27s
theorem l27_ov : l27a.2.2.ln = 0 ∧ l27b.2.2.ln = 0 ∧ l27c.2.2.ln = 0 := by decide
theorem l27_f : l27a.1 = 4 ∧ l27a.2.2.an = 10 ∧ l27a.2.1.M 8 = 281474976710656 ∧ l27b.2.2.an = 10 ∧ epAt (l27b.2.1.M 8) = 3 ∧ epGen ((l27t 3).M 8) = 2 ∧ l27c.2.2.an = 5 ∧ l27c.2.2.ep = epPut 5 0 65535 ∧ l27c.1 = 4 := by decide
theorem l27_n : (0 ≤ l27a.2.1.n ∧ l27a.2.1.n ≤ 1000) ∧ (0 ≤ l27b.2.1.n ∧ l27b.2.1.n ≤ 1000) ∧ (∀ k, k ≤ 3 → 0 ≤ (l27t k).n ∧ (l27t k).n ≤ 1000) ∧ (0 ≤ l27s.n ∧ l27s.n ≤ 1000) := by decide
theorem c_does27E (w : World) (O : Om) (B : Wb) (f : Cf) (k t : Nat) (d : Int) (s : AW) (n : Nat) (s' : AW) (an ep : Int) (h : (flRun t d 99 s).1 = n ∧ (flRun t d 99 s).2.1 = s' ∧ (flRun t d 99 s).2.2.an = an ∧ (flRun t d 99 s).2.2.ep = ep ∧ (flRun t d 99 s).2.2.ln = 0) (hP : PW w O B f s) (hk : 10 ≤ k) (ht : t < 64) (hhi : ∀ j, O j ≠ 0 → j < w.heap.size) (n0 : 0 ≤ s.n) (n1 : s.n + 99 ≤ 4611686018427387904) (d0 : -9223372036854775808 ≤ d) (d1 : d ≤ 9223372036854775807) :
    Calls Tryz.prog 60 #[.pointer (some ⟨B.p, 0, none⟩), .int .i64 t, .int .i64 d] w (RP (SX k (k + 4)) w O (.tuple #[.agg #[.int .u8 an, .int .u64 0, .string ⟨#[]⟩, .string ⟨#[]⟩, .int .u32 0, .int .u64 0, .int .i64 0, .int .i64 0], .int .u64 ep, .int .i64 n]) fun W G => PW W G B f s') := by
  obtain ⟨rfl, rfl, rfl, rfl, h5⟩ := h
  exact c_does27 w O B f k t d s hP hk ht hhi n0 n1 d0 d1 h5
def AnOb (w : World) (O : Om) (b : Nat) (an : Int) : Prop := Ob w O 0 b [.int .u8 an, .int .u64 0, .string ⟨#[]⟩, .string ⟨#[]⟩, .int .u32 0, .int .u64 0, .int .i64 0, .int .i64 0]
theorem AnOb.ext {S : Nat → Prop} {O O' : Om} {w w' : World} {b : Nat} {an : Int} (h : AnOb w O b an) (e : Ext S O w O' w') (hs : ¬ S 0) : AnOb w' O' b an := Ob.ext h e hs
theorem AnOb.new {S : Nat → Prop} {O : Om} {w : World} (hhi : ∀ j, O j ≠ 0 → j < w.heap.size) (an : Int) (ty : TypeId) :
    Ext S O w O (w.alloc (.cells #[.int .u8 an, .int .u64 0, .string ⟨#[]⟩, .string ⟨#[]⟩, .int .u32 0, .int .u64 0, .int .i64 0, .int .i64 0] ty)) ∧ AnOb (w.alloc (.cells #[.int .u8 an, .int .u64 0, .string ⟨#[]⟩, .string ⟨#[]⟩, .int .u32 0, .int .u64 0, .int .i64 0, .int .i64 0] ty)) O w.heap.size an := by
  obtain ⟨e3, n3, -⟩ := alloc_nb (S := S) hhi #[.int .u8 an, .int .u64 0, .string ⟨#[]⟩, .string ⟨#[]⟩, .int .u32 0, .int .u64 0, .int .i64 0, .int .i64 0] ty w.heap.size rfl
  exact ⟨e3, n3⟩
theorem sw0 : ¬ SW 0 := fun h => absurd h.1 (by decide)
theorem sx0 {a b : Nat} (h : 10 ≤ a) : ¬ SX a b 0 := fun k => by unfold SX at k; omega
set_option maxHeartbeats 4000000 in
set_option maxRecDepth 100000 in
theorem c_lives27 (w : World) : Calls Tryz.prog 23 #[] w fun e w' => e = .returned (.bool true) ∧ Below w.heap.size w w' := by
  have OV := Lib.hid l27_ov
  have FF := Lib.hid l27_f
  have NN := Lib.hid l27_n
  go_enter Tryz.func23, Tryz.ntmps23
  go_wp2_with fail
  refine (c_WorldP 2 w (by decide) (by decide)).mono ?_
  rintro e w1 ⟨B, O1, rfl, hP, hE⟩
  have P1 := Lib.hid hP
  have E1 := Lib.hid hE
  clear hP hE
  go_wp2_with fail
  refine (c_does27E w1 O1 B _ 10 3 0 (aw0 2) 4 l27a.2.1 10 l27a.2.2.ep ⟨FF.out.1, rfl, FF.out.2.1, rfl, OV.out.1⟩ P1.out (by decide) (by decide) E1.out.hi (by decide) (by decide) (by decide) (by decide)).mono ?_
  rintro e w2 ⟨rfl, O2, e2, p2⟩
  obtain ⟨e3, n3⟩ := AnOb.new (S := SX 10 14) e2.hi 10 77
  have E3 := Lib.hid (E1.out.ext (e2.trans e3))
  have P3 := Lib.hid (p2.below e2.hi ((Below.refl _ _).alloc (Nat.le_refl _) (.cells #[.int .u8 10, .int .u64 0, .string ⟨#[]⟩, .string ⟨#[]⟩, .int .u32 0, .int .u64 0, .int .i64 0, .int .i64 0] 77)))
  have A3 := Lib.hid n3
  have hp2 := p2.wo.c0
  have hpl := p2.wo.lt
  have HK3 := Lib.hid (c_Peek 8 P3.out.ce (by decide) (by decide))
  clear e2 p2 e3 n3
  go_wp2_with fail
  refine (HK3.out).mono ?_
  rintro e w' ⟨rfl, rfl⟩
  clear HK3
  go_wp2_with fail
  refine (c_does27E _ O2 B _ 10 3 3 l27a.2.1 4 l27b.2.1 10 l27b.2.2.ep ⟨by decide, rfl, FF.out.2.2.2.1, rfl, OV.out.2.1⟩ P3.out (by decide) (by decide) E3.out.hi NN.out.1.1 (by have := NN.out.1.2; omega) (by decide) (by decide)).mono ?_
  rintro e w4 ⟨rfl, O4, e4, p4⟩
  have A4 := Lib.hid (A3.out.ext e4 (sx0 (by decide)))
  obtain ⟨e5, n5⟩ := AnOb.new (S := SX 10 14) e4.hi 10 77
  have E5 := Lib.hid (E3.out.ext (e4.trans e5))
  have P5 := Lib.hid (p4.below e4.hi ((Below.refl _ _).alloc (Nat.le_refl _) (.cells #[.int .u8 10, .int .u64 0, .string ⟨#[]⟩, .string ⟨#[]⟩, .int .u32 0, .int .u64 0, .int .i64 0, .int .i64 0] 77)))
  have A5 := Lib.hid (A4.out.ext e5 (sx0 (by decide)))
  have B5 := Lib.hid n5
  have hp5 := P5.out.wo.c0
  have hb5 := P5.out.bd 8
  have HK5 := Lib.hid (c_Peek 8 P5.out.ce (by decide) (by decide))
  clear e4 p4 e5 n5 hp2 hpl A3 A4
  go_wp2_with fail
  refine (HK5.out).mono ?_
  rintro e w' ⟨rfl, rfl⟩
  go_wp2_with fail
  refine (c_At _ _ hb5.1 (by omega)).mono ?_
  rintro e w6 ⟨rfl, hb6⟩
  rw [FF.out.2.2.2.2.1]
  have E6 := Lib.hid (E5.out.ext (Ext.of_below (S := SW) E5.out.hi hb6))
  have P6 := Lib.hid (P5.out.below E5.out.hi hb6)
  have A6 := Lib.hid (A5.out.ext (Ext.of_below (S := SW) E5.out.hi hb6) sw0)
  have B6 := Lib.hid (B5.out.ext (Ext.of_below (S := SW) E5.out.hi hb6) sw0)
  clear hb6 hp5 hb5 HK5
  go_wp2_with fail
  go_loopw [10] (fun i wr => ∃ (k : Nat) (G : Om), k ≤ 3 ∧ i = .int .i64 k ∧ Env w G wr ∧ PW wr G B ⟨2, 8, 3, 1, 16⟩ (l27t k) ∧ AnOb wr G w2.heap.size 10 ∧ AnOb wr G w4.heap.size 10) (fun i _ => 3 - (intOf i).toNat)
  case atStart => exact ⟨0, O4, by omega, rfl, E6.out, P6.out, A6.out, B6.out⟩
  case round =>
    obtain ⟨k, G, hk, rfl, hE, hP, hA, hB⟩ := hrel
    have HE := Lib.hid hE
    have HP := Lib.hid hP
    have HA := Lib.hid hA
    have HB := Lib.hid hB
    clear hE hP hA hB
    by_cases hk2 : k < 3
    · have hn := NN.out.2.2.1 k (by omega)
      go_wp2_with fail
      refine (c_WTick wr G B _ (l27t k) HP.out HE.out.hi hn.1 (by omega)).mono ?_
      rintro e w7 ⟨rfl, O7, e7, p7⟩
      have H7 : Hid (Env w O7 w7 ∧ PW w7 O7 B ⟨2, 8, 3, 1, 16⟩ (l27t (k + 1)) ∧ AnOb w7 O7 w2.heap.size 10 ∧ AnOb w7 O7 w4.heap.size 10) := Lib.hid ⟨HE.out.ext e7, p7, HA.out.ext e7 sw0, HB.out.ext e7 sw0⟩
      clear e7 p7 hn
      go_wp2
      go_roundw
      case rel => exact ⟨k + 1, O7, by omega, by go_num, H7.out⟩
      case measure => simp [intOf]; omega
    · obtain rfl : k = 3 := by omega
      have hp0 := HP.out.wo.c0
      have hb8 := HP.out.bd 8
      have hn := NN.out.2.2.1 3 (by omega)
      have HK8 := Lib.hid (c_Peek 8 HP.out.ce (by decide) (by decide))
      go_wp2_with fail
      refine (HK8.out).mono ?_
      rintro e w' ⟨rfl, rfl⟩
      go_wp2_with fail
      refine (c_Gen _ _ hb8.1 (by omega)).mono ?_
      rintro e w8 ⟨rfl, hb8'⟩
      rw [FF.out.2.2.2.2.2.1]
      have E8 := Lib.hid (HE.out.ext (Ext.of_below (S := SW) HE.out.hi hb8'))
      have P8 := Lib.hid (HP.out.below HE.out.hi hb8')
      have A8 := Lib.hid (HA.out.ext (Ext.of_below (S := SW) HE.out.hi hb8') sw0)
      have B8 := Lib.hid (HB.out.ext (Ext.of_below (S := SW) HE.out.hi hb8') sw0)
      clear hp0 hb8 hb8' HK8
      have hp0 := P8.out.wo.c0
      have hpl := P8.out.wo.lt
      obtain ⟨eput, hep⟩ : ∃ eput, eput = epPut 5 0 65535 := ⟨_, rfl⟩
      have heb := epPut_bd 5 0 65535
      have HEP := Lib.hid hep
      rw [← hep] at heb
      clear hep
      go_wp2_with fail
      go_region_held3 (fun w' => w'.cell? ⟨B.p, 0, none⟩ = some (.pointer (some ⟨B.c, 0, none⟩))) (go_keep)
        (first
          | (go_at_call 64; refine (c_Put 5 0 65535 _ (by decide) (by decide) (by decide) (by decide) (by decide) (by decide)).mono ?_; rintro e w9 ⟨rfl, hb9⟩
             rw [← HEP.out]
             have hbx := (Below.refl _ _).drew.trans hb9
             have E9 := Lib.hid (E8.out.ext (Ext.of_below (S := SW) E8.out.hi hbx))
             have P9 := Lib.hid (P8.out.below E8.out.hi hbx)
             have A9 := Lib.hid (A8.out.ext (Ext.of_below (S := SW) E8.out.hi hbx) sw0)
             have B9 := Lib.hid (B8.out.ext (Ext.of_below (S := SW) E8.out.hi hbx) sw0)
             have r9 := P9.out.wo.c0
             clear hb9 hbx)
          | (go_at_call 36
             refine (c_StoreP 8 eput P9.out E9.out.hi (by decide) (by decide) heb.1 (by omega) hn.1 (by omega)).mono ?_
             rintro e w10 ⟨rfl, O10, e10, p10⟩
             have E10 := Lib.hid (E9.out.ext e10)
             have A10 := Lib.hid (A9.out.ext e10 sw0)
             have B10 := Lib.hid (B9.out.ext e10 sw0)
             have P10 : Hid (PW w10 O10 B ⟨2, 8, 3, 1, 16⟩ l27s) := Lib.hid (by rw [HEP.out] at p10; exact p10)
             have r10 := P10.out.wo.c0
             clear e10 p10))
      all_goals
        clear r10 r9 hp0
        go_wp2_with fail
        refine (c_does27E _ O10 B _ 10 3 0 l27s 4 l27c.2.1 5 eput ⟨FF.out.2.2.2.2.2.2.2.2, rfl, FF.out.2.2.2.2.2.2.1, by rw [HEP.out]; exact FF.out.2.2.2.2.2.2.2.1, OV.out.2.2⟩ P10.out (by decide) (by decide) E10.out.hi NN.out.2.2.2.1 (by have := NN.out.2.2.2.2; omega) (by decide) (by decide)).mono ?_
        rintro e w11 ⟨rfl, O11, e11, p11⟩
        obtain ⟨e12, n12⟩ := AnOb.new (S := SX 10 14) e11.hi 5 77
        have E12 := Lib.hid (E10.out.ext (e11.trans e12))
        have a12 := ((A10.out.ext e11 (sx0 (by decide))).ext e12 (sx0 (by decide))).c 0 _ rfl
        have b12 := ((B10.out.ext e11 (sx0 (by decide))).ext e12 (sx0 (by decide))).c 0 _ rfl
        have d12 := n12.c 0 _ rfl
        have HFF := Lib.hid FF.out.2.2.1
        clear e11 p11 e12 n12
        rw [HFF.out]
        go_wp2_with fail
        refine (c_Put 5 0 65535 _ (by decide) (by decide) (by decide) (by decide) (by decide) (by decide)).mono ?_
        rintro e w13 ⟨rfl, hb13⟩
        rw [← HEP.out]
        have HB := Lib.hid (E12.out.bel.trans (hb13.mono E12.out.bel.size))
        clear hb13 a12 b12 d12
        go_wp2
        go_ret
        exact ⟨rfl, HB.out⟩
end Go.Proofs.YtijifjiehldcaaaGreat
