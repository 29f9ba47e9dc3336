/- Layer 11: the document's lock. Layer 27: the document's Flush. Layer 27: what both Flushes tell. -/
import Derived.Test.YtijifjiehldcaaaGreatRd1
import Derived.Test.YtijifjiehldcaaaGreatTk
import Derived.Test.YtijifjiehldcaaaGreatFlN
import Derived.Test.YtijifjiehldcaaaGreatEpR2
import Derived.BigQuiet
import Derived.Deep.QuietTactic
import Derived.Deep.RegionHeld3
import Derived.Laws.StructEq
import Derived.ChangeKeysEq
namespace Go.Proofs.YtijifjiehldcaaaGreat
set_option linter.unusedSimpArgs false
section
open Go.RowKit
set_option linter.unusedVariables false

section
variable {O : Om} {w : World} {B : Wb} {f : Cf} {s : AW} {m : Nat}
theorem RW.setTk (h : RW w O B f s m) (hhi : ∀ j, O j ≠ 0 → j < w.heap.size) (j : Nat) (hj : j < 64) (v : Int) : RW (w.setCell ⟨B.p, 8 + j, none⟩ (.int .u64 v)) O B f ⟨s.M, s.n, s.la, updN s.tk j v, s.ho, s.it, s.nt⟩ m ∧ Ext (fun t => t = 5) O w O (w.setCell ⟨B.p, 8 + j, none⟩ (.int .u64 v)) := by
  have e : Ext (fun t => t = 5) O w O (w.setCell ⟨B.p, 8 + j, none⟩ (.int .u64 v)) := Ext.of_set hhi h.o (by decide) rfl
  have hc : ∀ i, i ≠ 8 + j → (w.setCell ⟨B.p, 8 + j, none⟩ (.int .u64 v)).cell? ⟨B.p, i, none⟩ = w.cell? ⟨B.p, i, none⟩ := fun i hi => World.cell?_setCell_other _ _ _ _ (by simp; try omega)
  have k := h.wo
  refine ⟨⟨h.o, ⟨(hc 0 (by omega)).trans k.c0, (hc 1 (by omega)).trans k.c1, (hc 2 (by omega)).trans k.c2, (hc 3 (by omega)).trans k.c3, (hc 4 (by omega)).trans k.c4, (hc 5 (by omega)).trans k.c5, (hc 6 (by omega)).trans k.c6, (hc 7 (by omega)).trans k.c7, fun i hi => ?_, (hc 72 (by omega)).trans k.ho, fun i => (World.frozen?_setCell _ _ _ _).trans (k.fr i), by simpa using k.lt⟩, h.ce.ext e (by decide), h.ar.ext e (by decide), h.no.ext e (by decide)⟩, e⟩
  by_cases hij : i = j
  · subst hij
    show _ = some (Value.int .u64 (if i = i then v else s.tk i))
    rw [if_pos rfl]
    exact World.cell?_setCell_same _ _ _ (k.tk i hi)
  · show _ = some (Value.int .u64 (if i = j then v else s.tk i))
    rw [if_neg hij]
    exact (hc _ (by omega)).trans (k.tk i hi)
theorem RW.setHo (h : RW w O B f s m) (hhi : ∀ j, O j ≠ 0 → j < w.heap.size) (v : Int) : RW (w.setCell ⟨B.p, 72, none⟩ (.int .i64 v)) O B f ⟨s.M, s.n, s.la, s.tk, v, s.it, s.nt⟩ m ∧ Ext (fun t => t = 5) O w O (w.setCell ⟨B.p, 72, none⟩ (.int .i64 v)) := by
  have e : Ext (fun t => t = 5) O w O (w.setCell ⟨B.p, 72, none⟩ (.int .i64 v)) := Ext.of_set hhi h.o (by decide) rfl
  have hc : ∀ i, i ≠ 72 → (w.setCell ⟨B.p, 72, none⟩ (.int .i64 v)).cell? ⟨B.p, i, none⟩ = w.cell? ⟨B.p, i, none⟩ := fun i hi => World.cell?_setCell_other _ _ _ _ (by simp; try omega)
  have k := h.wo
  exact ⟨⟨h.o, ⟨(hc 0 (by omega)).trans k.c0, (hc 1 (by omega)).trans k.c1, (hc 2 (by omega)).trans k.c2, (hc 3 (by omega)).trans k.c3, (hc 4 (by omega)).trans k.c4, (hc 5 (by omega)).trans k.c5, (hc 6 (by omega)).trans k.c6, (hc 7 (by omega)).trans k.c7, fun i hi => (hc _ (by omega)).trans (k.tk i hi), World.cell?_setCell_same _ _ _ k.ho, fun i => (World.frozen?_setCell _ _ _ _).trans (k.fr i), by simpa using k.lt⟩, h.ce.ext e (by decide), h.ar.ext e (by decide), h.no.ext e (by decide)⟩, e⟩
end
/-- The document's world's owners, and those from a to b. -/
def SD (a b t : Nat) : Prop := SR t ∨ (a ≤ t ∧ t ≤ b)
theorem SD.not {a b t : Nat} (h : 9 ≤ t) (h2 : t < a ∨ b < t) : ¬ SD a b t := fun k => by unfold SD SR at k; omega
theorem SD.mono {a b c d t : Nat} (h1 : c ≤ a) (h2 : b ≤ d) (h : SD a b t) : SD c d t := by unfold SD SR at h ⊢; omega
/-- The document's world and an object that a method is at. -/
structure Md (a b : Nat) (w0 : World) (O0 : Om) (w : World) (O : Om) (B : Wb) (f : Cf) (s : AW) (m k T : Nat) (cs : List Value) : Prop where
  e : Ext (SD a b) O0 w0 O w
  p : RW w O B f s m
  t : Ob w O k T cs
section
variable {a b k T m m1 : Nat} {cs : List Value} {O O0 O1 : Om} {w w1 w0 : World} {B : Wb} {f : Cf} {s s1 : AW}
theorem Md.start (hhi : ∀ j, O j ≠ 0 → j < w.heap.size) (hp : RW w O B f s m) (ht : Ob w O k T cs) : Md a b w O w O B f s m k T cs := ⟨Ext.refl hhi, hp, ht⟩
theorem Md.set (h : Md a b w0 O0 w O B f s m k T cs) (hk : 10 ≤ k) (ha : a ≤ k) (hb : k ≤ b) (j : Nat) (v : Value) (hj : j < cs.length) : Md a b w0 O0 (w.setCell ⟨T, j, none⟩ v) O B f s m k T (cs.set j v) := by
  have e : Ext (fun t => t = k) O w O (w.setCell ⟨T, j, none⟩ v) := Ext.of_set h.e.hi h.t.o (by omega) rfl
  exact ⟨h.e.trans (e.mono fun t _ ht => .inr (by omega)), h.p.ext e (by omega) (by omega) (by omega) (by omega), h.t.set j v hj⟩
theorem Md.drew (h : Md a b w0 O0 w O B f s m k T cs) : Md a b w0 O0 w.drew O B f s m k T cs := ⟨h.e.drew, h.p.below h.e.hi (drew_below w), h.t.below (drew_below w)⟩
theorem Md.below (h : Md a b w0 O0 w O B f s m k T cs) (hb : Below w.heap.size w w1) : Md a b w0 O0 w1 O B f s m k T cs := ⟨h.e.below hb, h.p.below h.e.hi hb, h.t.below hb⟩
theorem Md.world (h : Md a b w0 O0 w O B f s m k T cs) (hk : 10 ≤ k) (e : Ext SR O w O1 w1) (hp : RW w1 O1 B f s1 m1) : Md a b w0 O0 w1 O1 B f s1 m1 k T cs := ⟨h.e.trans (e.mono fun t _ ht => .inl ht), hp, h.t.ext e fun h => by have := h.2; omega⟩
theorem Md.setTk (h : Md a b w0 O0 w O B f s m k T cs) (hk : 10 ≤ k) (j : Nat) (hj : j < 64) (v : Int) : Md a b w0 O0 (w.setCell ⟨B.p, 8 + j, none⟩ (.int .u64 v)) O B f ⟨s.M, s.n, s.la, updN s.tk j v, s.ho, s.it, s.nt⟩ m k T cs := by
  obtain ⟨p1, e1⟩ := h.p.setTk h.e.hi j hj v
  exact ⟨h.e.trans (e1.mono fun t _ ht => .inl (by unfold SR; omega)), p1, h.t.ext e1 (by omega)⟩
theorem Md.setHo (h : Md a b w0 O0 w O B f s m k T cs) (hk : 10 ≤ k) (v : Int) : Md a b w0 O0 (w.setCell ⟨B.p, 72, none⟩ (.int .i64 v)) O B f ⟨s.M, s.n, s.la, s.tk, v, s.it, s.nt⟩ m k T cs := by
  obtain ⟨p1, e1⟩ := h.p.setHo h.e.hi v
  exact ⟨h.e.trans (e1.mono fun t _ ht => .inl (by unfold SR; omega)), p1, h.t.ext e1 (by omega)⟩
theorem Md.call {c d : Nat} (h : Md a b w0 O0 w O B f s m k T cs) (hk : 10 ≤ k) (hkc : k < c ∨ d < k) (ha : a ≤ c) (hb : d ≤ b) (e : Ext (SD c d) O w O1 w1) (hp : RW w1 O1 B f s1 m1) : Md a b w0 O0 w1 O1 B f s1 m1 k T cs :=
  ⟨h.e.trans (e.mono fun t _ ht => SD.mono ha hb ht), hp, h.t.ext e (SD.not (by omega) hkc)⟩
theorem Md.rp {v : Value} (h : Md a b w0 O0 w O B f s m k T cs) : RP (SD a b) w0 O0 v (fun W G => RW W G B f s m ∧ Ob W G k T cs) (.returned v) w := ⟨rfl, O, h.e, h.p, h.t⟩
end
/-- The document's Take in memory. -/
def rkCs (t : Int) (x : Tkm) : List Value := [.int .i64 x.ln, .int .u64 x.tick, .bool x.dr, .int .i64 t]
theorem c_rNewTake (t : Int) {w : World} {O : Om} (k : Nat) (hhi : ∀ j, O j ≠ 0 → j < w.heap.size) (t0 : 0 ≤ t) (t1 : t < 64) :
    Calls Tryz.prog 74 #[.int .i64 t] w (RP (fun j => j = k) w O (.pointer (some ⟨w.heap.size, 0, none⟩)) fun W G => Ob W G k w.heap.size (rkCs t ⟨1, 0, false⟩)) := by
  have d0 : decide (t < 0) = false := by simp; omega
  have d1 : decide (63 < t) = false := by simp; omega
  obtain ⟨O1, e1, x1, -⟩ := alloc_ob hhi k (rkCs t ⟨1, 0, false⟩).toArray 156 w.heap.size rfl
  clear t0 t1
  go_enter Tryz.func74, Tryz.ntmps74
  go_wp2
  go_ret
  exact ⟨rfl, O1, e1, x1⟩
set_option maxHeartbeats 2000000 in
set_option maxRecDepth 100000 in
theorem c_rTakeStep {R : Nat} {t : Nat} {x : Tkm} {w : World} {O : Om} {C : Wb} {f : Cf} {s : AW} {m : Nat} (k : Nat) (h : RW w O C f s m) (hR : Ob w O k R (rkCs t x)) (hx : x.ln = 1 ∨ x.ln = 2) (ht : t < 64) (hm : m ≤ 900000) (hk : 10 ≤ k) (hhi : ∀ j, O j ≠ 0 → j < w.heap.size) (n0 : 0 ≤ s.n) (n1 : s.n ≤ 4611686018427387904) :
    Calls Tryz.prog 77 #[.pointer (some ⟨R, 0, none⟩), .pointer (some ⟨C.p, 0, none⟩)] w (RP (SD k k) w O (.tuple #[]) fun W G => RW W G C f (tkStep t s x).1 (m + 1) ∧ Ob W G k R (rkCs t (tkStep t s x).2)) := by
  have HM : Hid (Md k k w O w O C f s m k R (rkCs t x)) := Lib.hid (Md.start hhi h hR)
  obtain ⟨ln, tick, dr⟩ := x
  dsimp only at hx
  have c0 := hR.c 0 _ rfl
  dsimp only at c0
  have hb := h.bd 0
  rcases hx with rfl | rfl
  · have hst : tkStep t s ⟨1, tick, dr⟩ = (awDraw t s, ⟨2, s.M 0, true⟩) := by unfold tkStep; rw [if_pos rfl]
    rw [hst]
    have HA := Lib.hid (c_rwAdd 0 1 h (by omega) (by decide) (by decide) (by decide) (by decide) hhi n0 n1)
    clear h hR hhi hst
    go_enter Tryz.func77, Tryz.ntmps77
    go_wp2_with fail
    refine HA.out.mono ?_
    rintro e w1 ⟨rfl, O1, E1, P1⟩
    have M1 := HM.out.world hk E1 P1
    have M2 := M1.set hk (Nat.le_refl _) (Nat.le_refl _) 1 (.int .u64 (s.M 0)) (by simp [rkCs])
    have M3 := Lib.hid (M2.set hk (Nat.le_refl _) (Nat.le_refl _) 2 (.bool true) (by simp [rkCs]))
    have q1 := M1.t.c 1 _ rfl
    have q2 := M1.t.c 2 _ rfl
    have qf := M1.t.f 1
    have qf2 := M1.t.f 2
    have q3 := M2.t.c 2 _ rfl
    have q4 := M2.t.f 2
    obtain ⟨w2, hw2⟩ : ∃ w2, w2 = (w1.setCell ⟨R, 1, none⟩ (.int .u64 (s.M 0))).setCell ⟨R, 2, none⟩ (.bool true) := ⟨_, rfl⟩
    clear M1 M2 E1 P1 HA
    go_wp2_with fail
    rw [← hw2] at M3 ⊢
    clear q1 q2 qf qf2 q3 q4 hw2 c0
    have q3 := M3.out.t.c 3 _ rfl
    have q1 := M3.out.t.c 1 _ rfl
    have p8 := M3.out.p.wo.tk t ht
    have pf := M3.out.p.wo.fr (8 + t)
    have hw0 : IntKind.u64.wrap (s.M 0 + 1) = (s.M 0 + 1) % 18446744073709551616 := by rw [IntKind.wrap_u64]
    go_region
    all_goals
      have q0 := M3.out.t.c 0 _ rfl
      have qf := M3.out.t.f 0
      go_wp2
      go_end0
      exact (((M3.out.setTk hk t ht _).set hk (Nat.le_refl _) (Nat.le_refl _) 0 (.int .i64 2) (by simp [rkCs])).drew).rp
  · have c1 := hR.c 1 _ rfl
    have hRl := hR.lt
    have HL := Lib.hid (c_rwLoad 1 (w := w.drew) (h.below hhi (drew_below w)) (by omega) (by decide) (by decide) HM.out.drew.e.hi n0 n1)
    clear h hR hhi
    by_cases hn : (s.M 1 == tick) = true
    · have hst : tkStep t s ⟨2, tick, dr⟩ = (awServed t (awLoad 1 s), ⟨0, tick, dr⟩) := by unfold tkStep; rw [if_neg (by simp), if_pos rfl, if_pos hn]
      rw [hst]
      clear hst
      go_enter Tryz.func77, Tryz.ntmps77
      go_upto_region 7 with fail
      go_region_held3 (fun w' => w'.cell? ⟨R, 1, none⟩ = some (.int .u64 tick)) ((first | assumption | exact (((drew_below w).cell (p := ⟨R, 1, none⟩) hRl).trans c1) | go_keep))
        ((go_at_call 46
          refine HL.out.mono ?_
          rintro e w1 ⟨rfl, O1, E1, P1⟩
          have M1 := HM.out.drew.world hk E1 P1
          have r1 := M1.t.c 1 _ rfl
          dsimp only at r1
          have HM1 := Lib.hid M1
          clear M1 E1 P1))
      all_goals
        clear c0 c1 r1
        have q3 := HM1.out.t.c 3 _ rfl
        have p8 := HM1.out.p.wo.tk t ht
        have pf := HM1.out.p.wo.fr (8 + t)
        try dsimp only at q3
        go_upto_region 8 with fail
        go_region
        all_goals
          go_upto_region 9 with fail
          have M2 := (HM1.out.setTk hk t ht 0).drew
          obtain ⟨w3, hw3⟩ : ∃ w3, w3 = (w1.setCell ⟨C.p, 8 + t, none⟩ (.int .u64 0)).drew := ⟨_, rfl⟩
          rw [← hw3] at M2 ⊢
          have r3 := M2.t.c 3 _ rfl
          have p72 := M2.p.wo.ho
          have pf72 := M2.p.wo.fr 72
          have M3 := M2.setHo hk t
          have r0 := M3.t.c 0 _ rfl
          have f0 := M3.t.f 0
          have HM3 := Lib.hid M3
          clear q3 p8 pf M2 M3 hw3
          go_wp2
          go_end0
          exact (HM3.out.set hk (Nat.le_refl _) (Nat.le_refl _) 0 (.int .i64 0) (by simp [rkCs])).rp
    · have hn : (s.M 1 == tick) = false := by simpa using hn
      have hst : tkStep t s ⟨2, tick, dr⟩ = (awLoad 1 s, ⟨2, tick, dr⟩) := by unfold tkStep; rw [if_neg (by simp), if_pos rfl, if_neg (by simp [hn])]
      rw [hst]
      clear hst
      go_enter Tryz.func77, Tryz.ntmps77
      go_upto_region 7 with fail
      go_region_held3 (fun w' => w'.cell? ⟨R, 1, none⟩ = some (.int .u64 tick)) ((first | assumption | exact (((drew_below w).cell (p := ⟨R, 1, none⟩) hRl).trans c1) | go_keep))
        ((go_at_call 46
          refine HL.out.mono ?_
          rintro e w1 ⟨rfl, O1, E1, P1⟩
          have M1 := HM.out.drew.world hk E1 P1
          have r1 := M1.t.c 1 _ rfl
          dsimp only at r1
          have HM1 := Lib.hid M1
          clear M1 E1 P1))
      all_goals
        clear c0 c1 r1
        go_wp2
        go_end0
        exact ⟨rfl, O1, (HM1.out.e), HM1.out.p, HM1.out.t⟩
/-- The document's Give. -/
theorem c_rNewGive {w : World} {O : Om} (k : Nat) (hhi : ∀ j, O j ≠ 0 → j < w.heap.size) :
    Calls Tryz.prog 79 #[] w (RP (fun j => j = k) w O (.pointer (some ⟨w.heap.size, 0, none⟩)) fun W G => Ob W G k w.heap.size [.int .i64 1]) := by
  obtain ⟨O1, e1, x1, -⟩ := alloc_ob hhi k #[.int .i64 1] 205 w.heap.size rfl
  go_enter Tryz.func79, Tryz.ntmps79
  go_wp2
  go_ret
  exact ⟨rfl, O1, e1, x1⟩
set_option maxHeartbeats 1000000 in
set_option maxRecDepth 100000 in
theorem c_rGiveStep {R : Nat} {w : World} {O : Om} {C : Wb} {f : Cf} {s : AW} {m : Nat} (k : Nat) (h : RW w O C f s m) (hR : Ob w O k R [.int .i64 1]) (hm : m ≤ 900000) (hk : 10 ≤ k) (hhi : ∀ j, O j ≠ 0 → j < w.heap.size) (n0 : 0 ≤ s.n) (n1 : s.n ≤ 4611686018427387904) :
    Calls Tryz.prog 80 #[.pointer (some ⟨R, 0, none⟩), .pointer (some ⟨C.p, 0, none⟩)] w (RP (SD k k) w O (.tuple #[]) fun W G => RW W G C f (awGive s) (m + 1)) := by
  have HM : Hid (Md k k w O w O C f s m k R [.int .i64 1]) := Lib.hid (Md.start hhi h hR)
  have c0 := hR.c 0 _ rfl
  have HA := Lib.hid (c_rwAdd 1 1 h (by omega) (by decide) (by decide) (by decide) (by decide) hhi n0 n1)
  clear h hR hhi
  go_enter Tryz.func80, Tryz.ntmps80
  go_wp2_with fail
  refine HA.out.mono ?_
  rintro e w1 ⟨rfl, O1, E1, P1⟩
  have M1 := HM.out.world hk E1 P1
  have p72 := M1.p.wo.ho
  have pf72 := M1.p.wo.fr 72
  have M2 := M1.setHo hk (-1)
  have r0 := M2.t.c 0 _ rfl
  have f0 := M2.t.f 0
  have HM2 := Lib.hid M2
  clear c0 M1 M2 E1 P1
  go_wp2
  go_end0
  have M3 := HM2.out.set hk (Nat.le_refl _) (Nat.le_refl _) 0 (.int .i64 0) (by simp)
  exact ⟨rfl, O1, M3.e, M3.p⟩
end
section
open Go.RowKit
set_option linter.unusedVariables false

theorem below_dn (w : World) (n : Nat) : Below w.heap.size w (w.drewN n) := by
  have h := Below.refl w.heap.size w
  exact ⟨h.os, h.tape, h.output, h.size, h.block⟩
/-- The document's Flush in memory. -/
def fdCs (ln : Int) (an ep pt d : Int) (T : Nat) : List Value := [.int .i64 ln, .int .u8 an, .int .u64 0, .string ⟨#[]⟩, .string ⟨#[]⟩, .int .u32 0, .int .u64 0, .int .i64 0, .int .i64 0, .int .u64 ep, .int .i64 pt, .int .i64 d, .pointer (some ⟨T, 0, none⟩)]
structure FdAt (w : World) (O : Om) (k R T t : Nat) (d : Int) (y : Flm) : Prop where
  x : Ob w O k R (fdCs y.ln y.an y.ep y.pt d T)
  tk : Ob w O (k + 1) T (rkCs t y.tk)
set_option maxHeartbeats 1000000 in
set_option maxRecDepth 100000 in
theorem c_rFNew (w : World) (O : Om) (k t : Nat) (d : Int) (hk : 10 ≤ k) (ht : t < 64) (hhi : ∀ j, O j ≠ 0 → j < w.heap.size) :
    Calls Tryz.prog 25 #[.int .i64 t, .int .i64 d] w fun e w' => ∃ R T, RP (fun j => k ≤ j ∧ j ≤ k + 1) w O (.pointer (some ⟨R, 0, none⟩)) (fun W G => FdAt W G k R T t d flNew) e w' := by
  have HH := Lib.hid hhi
  have HT := Lib.hid (c_rNewTake t (k + 1) hhi (by omega) (by omega))
  clear hhi
  go_enter Tryz.func25, Tryz.ntmps25
  go_wp2_with fail
  refine HT.out.mono ?_
  rintro e w1 ⟨rfl, O1, e1, t1⟩
  obtain ⟨O2, e2, x2, k2⟩ := alloc_ob e1.hi k (fdCs 0 0 0 0 d w.heap.size).toArray 80 w1.heap.size rfl
  have E2 : Hid (Ext (fun j => k ≤ j ∧ j ≤ k + 1) O w O2 _) := Lib.hid ((e1.mono fun t _ h => by omega).trans (e2.mono fun t _ h => by omega))
  have T2 := k2 _ _ _ t1
  have q0 : (w1.alloc (.cells (fdCs 0 0 0 0 d w.heap.size).toArray 80)).cell? ⟨w.heap.size, 0, none⟩ = some (.int .i64 1) := T2.c 0 _ rfl
  have x0 := x2.c 0 _ rfl
  have f0 := x2.f 0
  have xt := x2.c 12 _ rfl
  have HX := Lib.hid x2
  have HT2 := Lib.hid T2
  have z : ∀ v, (w1.alloc (.cells (fdCs 0 0 0 0 d w.heap.size).toArray 80)) = v → v = w1.alloc (.cells #[.int .i64 0, .int .u8 0, .int .u64 0, .string ⟨#[]⟩, .string ⟨#[]⟩, .int .u32 0, .int .u64 0, .int .i64 0, .int .i64 0, .int .u64 0, .int .i64 0, .int .i64 d, .pointer (some ⟨w.heap.size, 0, none⟩)] 80) := fun v h => h.symm
  obtain ⟨w2, hw2⟩ : ∃ w2, w1.alloc (.cells (fdCs 0 0 0 0 d w.heap.size).toArray 80) = w2 := ⟨_, rfl⟩
  have hz := z w2 hw2
  rw [hw2] at E2 HX HT2 q0 x0 f0 xt
  clear e1 t1 e2 x2 k2 T2 HT z hw2
  go_upto_region 2 with fail
  rw [← hz]
  clear hz
  have hd : decide ((0 : Int) < 1) = true := by decide
  go_wp2
  go_ret
  have s8 := ext_set (j := 0) (v := .int .i64 1) E2.out.hi HX.out hk
  exact ⟨_, w.heap.size, rfl, O2, E2.out.trans (s8.mono fun t _ h => by omega), HX.out.set 0 _ (by simp [fdCs]), HT2.out.ext s8 (by omega)⟩
theorem FdAt.ext {S : Nat → Prop} {O O' : Om} {w w' : World} {k R T t : Nat} {d : Int} {y : Flm} (h : FdAt w O k R T t d y) (e : Ext S O w O' w') (h1 : ¬ S k) (h2 : ¬ S (k + 1)) : FdAt w' O' k R T t d y := ⟨h.x.ext e h1, h.tk.ext e h2⟩
theorem FdAt.below {O : Om} {w w' : World} {k R T t : Nat} {d : Int} {y : Flm} (h : FdAt w O k R T t d y) (e : Below w.heap.size w w') : FdAt w' O k R T t d y := ⟨h.x.below e, h.tk.below e⟩
def FdPost (w : World) (O : Om) (C : Wb) (f : Cf) (m k R T t : Nat) (d : Int) (z : AW × Flm) (v : Value) (e : Ending) (w' : World) : Prop :=
  RP (SD k (k + 2)) w O v (fun W G => RW W G C f z.1 (m + 1) ∧ FdAt W G k R T t d z.2) e w'
section
variable {w : World} {O : Om} {C : Wb} {f : Cf} {s : AW} {k t R T m : Nat} {d : Int}
set_option maxHeartbeats 1000000 in
set_option maxRecDepth 100000 in
theorem c_rFStep1 (tk : Tkm) (an ep pt : Int) (hP : RW w O C f s m) (hX : FdAt w O k R T t d ⟨1, tk, an, ep, pt⟩) (hx : tk.ln = 1 ∨ tk.ln = 2) (hm : m ≤ 900000) (hk : 10 ≤ k) (ht : t < 64) (hhi : ∀ j, O j ≠ 0 → j < w.heap.size) (n0 : 0 ≤ s.n) (n1 : s.n ≤ 4611686018427387904) :
    Calls Tryz.prog 28 #[.pointer (some ⟨R, 0, none⟩), .pointer (some ⟨C.p, 0, none⟩)] w
      (FdPost w O C f m k R T t d (flStep t d s ⟨1, tk, an, ep, pt⟩) (.tuple #[])) := by
  have HC := Lib.hid (c_rTakeStep (k + 1) hP hX.tk hx ht hm (by omega) hhi n0 n1)
  have HX := Lib.hid hX
  have x0 : w.cell? ⟨R, 0, none⟩ = some (.int .i64 1) := hX.x.c 0 _ rfl
  have xt := hX.x.c 12 _ rfl
  have hst : flStep t d s ⟨1, tk, an, ep, pt⟩ = ((tkStep t s tk).1, ⟨if (tkStep t s tk).2.ln = 0 then 2 else 1, (tkStep t s tk).2, an, ep, pt⟩) := by unfold flStep; rw [if_pos rfl]
  rw [hst]
  obtain ⟨z, hz⟩ : ∃ z, z = tkStep t s tk := ⟨_, rfl⟩
  rw [← hz] at HC ⊢
  clear hP hX hhi hst hz
  obtain ⟨s1, x1⟩ := z
  by_cases h0 : x1.ln = 0
  · dsimp only at HC ⊢
    rw [if_pos h0]
    have hd : ((x1.ln : Int) == 0) = true := by simp [h0]
    have H0 := Lib.hid h0
    clear h0
    go_enter Tryz.func28, Tryz.ntmps28
    go_wp2_with fail
    refine (HC.out).mono ?_
    rintro e w1 ⟨rfl, O1, E1, P1, T1⟩
    have X1 := HX.out.x.ext E1 (SD.not (by omega) (by omega))
    have M1 : Md k (k + 2) w O w1 O1 C f s1 (m + 1) k R _ := ⟨E1.mono fun t _ h => SD.mono (by omega) (by omega) h, P1, X1⟩
    have q0 := M1.t.c 0 _ rfl
    have f0 := M1.t.f 0
    have qt := M1.t.c 12 _ rfl
    have t0 := T1.c 0 _ rfl
    have HM := Lib.hid M1
    have HT := Lib.hid T1
    clear E1 P1 T1 X1 M1 x0 xt
    go_wp2
    go_end0
    have M2 := HM.out.set hk (Nat.le_refl _) (by omega) 0 (.int .i64 2) (by simp [fdCs])
    exact ⟨rfl, O1, M2.e, M2.p, M2.t, HT.out.ext (ext_set HM.out.e.hi HM.out.t hk) (by omega)⟩
  · dsimp only at HC ⊢
    rw [if_neg h0]
    have hd : ((x1.ln : Int) == 0) = false := by rw [beq_eq_false_iff_ne]; omega
    clear h0
    go_enter Tryz.func28, Tryz.ntmps28
    go_wp2_with fail
    refine (HC.out).mono ?_
    rintro e w1 ⟨rfl, O1, E1, P1, T1⟩
    have X1 := HX.out.x.ext E1 (SD.not (by omega) (by omega))
    have M1 : Md k (k + 2) w O w1 O1 C f s1 (m + 1) k R _ := ⟨E1.mono fun t _ h => SD.mono (by omega) (by omega) h, P1, X1⟩
    have q0 := M1.t.c 0 _ rfl
    have qt := M1.t.c 12 _ rfl
    have t0 := T1.c 0 _ rfl
    have HM := Lib.hid M1
    have HT := Lib.hid T1
    clear E1 P1 T1 X1 M1 x0 xt
    go_wp2
    go_end0
    exact ⟨rfl, O1, HM.out.e, HM.out.p, HM.out.t, HT.out⟩
set_option maxHeartbeats 2000000 in
set_option maxRecDepth 100000 in
theorem c_rFStep2 (tk : Tkm) (an ep pt : Int) (hP : RW w O C f s m) (hX : FdAt w O k R T t d ⟨2, tk, an, ep, pt⟩) (hm : m ≤ 900000) (hk : 10 ≤ k) (hhi : ∀ j, O j ≠ 0 → j < w.heap.size) (n0 : 0 ≤ s.n) (n1 : s.n ≤ 4611686018427387904) (d0 : -9223372036854775808 ≤ d) (d1 : d ≤ 9223372036854775807) :
    Calls Tryz.prog 28 #[.pointer (some ⟨R, 0, none⟩), .pointer (some ⟨C.p, 0, none⟩)] w
      (FdPost w O C f m k R T t d (flStep t d s ⟨2, tk, an, ep, pt⟩) (.tuple #[])) := by
  have HM : Hid (Md k (k + 2) w O w O C f s m k R (fdCs 2 an ep pt d T)) := Lib.hid (Md.start hhi hP hX.x)
  have HT := Lib.hid hX.tk
  have x0 : w.cell? ⟨R, 0, none⟩ = some (.int .i64 2) := hX.x.c 0 _ rfl
  have x9 := hX.x.c 9 _ rfl
  have f9 := hX.x.f 9
  have hb := hP.bd 8
  have hfb := epFlush_bd d hb.1 (by omega : s.M 8 ≤ 18446744073709551615)
  have hst : flStep t d s ⟨2, tk, an, ep, pt⟩ = (awFlush d s, ⟨3, tk, anFlush (s.M 8), s.M 8, s.n + 1⟩) := by unfold flStep; rw [if_neg (by simp), if_pos rfl]
  rw [hst]
  have HK := Lib.hid (c_rwPeek 8 hP (by omega))
  clear hP hX hhi hst
  by_cases hok : epFlushOk (s.M 8) = true
  · have hst : awFlush d s = ⟨upd s.M 8 (epFlush (s.M 8) d), s.n + 1, ⟨3, 8, s.M 8, epFlush (s.M 8) d⟩, s.tk, s.ho, s.it, s.nt⟩ := by unfold awFlush; rw [if_pos hok]
    have han : anFlush (s.M 8) = 10 := by unfold anFlush; rw [if_pos hok]
    rw [hst, han]
    have HF := fun W => c_rFlush (s.M 8) d W hb.1 (by omega) d0 d1
    rw [hok] at HF
    have HF := Lib.hid HF
    clear hst han hok
    go_enter Tryz.func28, Tryz.ntmps28
    go_wp2_with fail
    refine (HK.out).mono ?_
    rintro e w' ⟨rfl, rfl⟩
    have M1 := HM.out.set hk (Nat.le_refl _) (by omega) 9 (.int .u64 (s.M 8)) (by simp [fdCs])
    have r9 := M1.t.c 9 _ rfl
    have r11 := M1.t.c 11 _ rfl
    have r1 := M1.t.c 1 _ rfl
    have f1 := M1.t.f 1
    have HT1 := Lib.hid (HT.out.ext (ext_set HM.out.e.hi HM.out.t hk (j := 9) (v := .int .u64 (s.M 8))) (by omega))
    have HM1 := Lib.hid M1
    obtain ⟨w1, hw1⟩ : ∃ w1, w1 = w.setCell ⟨R, 9, none⟩ (.int .u64 (s.M 8)) := ⟨_, rfl⟩
    clear M1 HK HM HT
    go_upto_region 7 with fail
    rw [← hw1] at HM1 HT1 r9 r11 r1 f1 ⊢
    clear hw1 x0 x9 f9
    go_quiet ((go_at_call 78; exact quietS (HF.out _)))
    obtain ⟨w2, hw2⟩ : ∃ w2, w2 = w1.drewN nq := ⟨_, rfl⟩
    have hb2 : Below w1.heap.size w1 w2 := by rw [hw2]; exact below_dn w1 nq
    have M2 := HM1.out.below hb2
    have HT2 := HT1.out.below hb2
    rw [← hw2]
    clear hw2 hb2 r9 r11 r1 f1
    have f1 := M2.t.f 1
    have r1 := M2.t.c 1 _ rfl
    have M3 := M2.set hk (Nat.le_refl _) (by omega) 1 (.int .u8 5) (by simp [fdCs])
    have HT3 := Lib.hid (HT2.ext (ext_set M2.e.hi M2.t hk (j := 1) (v := .int .u8 5)) (by omega))
    have HM3 := Lib.hid M3
    have r9 := M3.t.c 9 _ rfl
    obtain ⟨w3, hw3⟩ : ∃ w3, w3 = w2.setCell ⟨R, 1, none⟩ (.int .u8 5) := ⟨_, rfl⟩
    clear M2 M3 HT2 HT1 HM1
    go_upto_region 10 with fail
    rw [← hw3] at HM3 HT3 r9 ⊢
    clear hw3 r1 f1
    have HC := c_rwCAS 8 (s.M 8) (epFlush (s.M 8) d) HM3.out.p (by omega) (by decide) (by decide) hfb.1 (by omega) HM3.out.e.hi n0 n1
    rw [if_pos rfl] at HC
    have HC := Lib.hid HC
    go_wp2_with fail
    refine HC.out.mono ?_
    rintro e w4 ⟨rfl, O4, E4, P4⟩
    have M4 := HM3.out.world hk E4 P4
    have HT4 := HT3.out.ext E4 (fun h => by have := h.2; omega)
    clear E4 P4 HC HM3 HT3 r9
    have q1 := M4.t.c 1 _ rfl
    have f1 := M4.t.f 1
    have M5 := M4.set hk (Nat.le_refl _) (by omega) 1 (.int .u8 10) (by simp [fdCs])
    have HT5 := Lib.hid (HT4.ext (ext_set M4.e.hi M4.t hk (j := 1) (v := .int .u8 10)) (by omega))
    have HM5 := Lib.hid M5
    obtain ⟨w5, hw5⟩ : ∃ w5, w5 = w4.setCell ⟨R, 1, none⟩ (.int .u8 10) := ⟨_, rfl⟩
    clear M4 M5 HT4
    go_upto_region 13 with fail
    rw [← hw5] at HM5 HT5 ⊢
    clear hw5 q1 f1
    have q10 := HM5.out.t.c 10 _ rfl
    have f10 := HM5.out.t.f 10
    have M6 := HM5.out.set hk (Nat.le_refl _) (by omega) 10 (.int .i64 (s.n + 1)) (by simp [fdCs])
    have q0 := M6.t.c 0 _ rfl
    have f0 := M6.t.f 0
    have HT6 := Lib.hid (HT5.out.ext (ext_set HM5.out.e.hi HM5.out.t hk (j := 10) (v := .int .i64 (s.n + 1))) (by omega))
    have HS : Hid (Calls Tryz.prog 51 #[.pointer (some ⟨C.p, 0, none⟩)] w5 fun e w' => e = .returned (.int .i64 (s.n + 1)) ∧ w5 = w') := Lib.hid (c_rwSteps HM5.out.p)
    have HM6 := Lib.hid M6
    clear M6
    go_wp2_with fail
    refine HS.out.mono ?_
    rintro e w' ⟨rfl, rfl⟩
    go_wp2
    go_end0
    have M7 := HM6.out.set hk (Nat.le_refl _) (by omega) 0 (.int .i64 3) (by simp [fdCs])
    exact ⟨rfl, O4, M7.e, M7.p, M7.t, HT6.out.ext (ext_set HM6.out.e.hi HM6.out.t hk) (by omega)⟩
  · have hok : epFlushOk (s.M 8) = false := by simpa using hok
    have hst : awFlush d s = awLoad 8 s := by unfold awFlush; rw [if_neg (by simp [hok])]
    have han : anFlush (s.M 8) = 5 := by unfold anFlush; rw [if_neg (by simp [hok])]
    rw [hst, han]
    have HF := fun W => c_rFlush (s.M 8) d W hb.1 (by omega) d0 d1
    rw [hok] at HF
    have HF := Lib.hid HF
    clear hst han hok
    go_enter Tryz.func28, Tryz.ntmps28
    go_wp2_with fail
    refine (HK.out).mono ?_
    rintro e w' ⟨rfl, rfl⟩
    have M1 := HM.out.set hk (Nat.le_refl _) (by omega) 9 (.int .u64 (s.M 8)) (by simp [fdCs])
    have r9 := M1.t.c 9 _ rfl
    have r11 := M1.t.c 11 _ rfl
    have r1 := M1.t.c 1 _ rfl
    have f1 := M1.t.f 1
    have HT1 := Lib.hid (HT.out.ext (ext_set HM.out.e.hi HM.out.t hk (j := 9) (v := .int .u64 (s.M 8))) (by omega))
    have HM1 := Lib.hid M1
    obtain ⟨w1, hw1⟩ : ∃ w1, w1 = w.setCell ⟨R, 9, none⟩ (.int .u64 (s.M 8)) := ⟨_, rfl⟩
    clear M1 HK HM HT
    go_upto_region 7 with fail
    rw [← hw1] at HM1 HT1 r9 r11 r1 f1 ⊢
    clear hw1 x0 x9 f9
    go_quiet ((go_at_call 78; exact quietS (HF.out _)))
    obtain ⟨w2, hw2⟩ : ∃ w2, w2 = w1.drewN nq := ⟨_, rfl⟩
    have hb2 : Below w1.heap.size w1 w2 := by rw [hw2]; exact below_dn w1 nq
    have M2 := HM1.out.below hb2
    have HT2 := HT1.out.below hb2
    rw [← hw2]
    clear hw2 hb2 r9 r11 r1 f1
    have f1 := M2.t.f 1
    have r1 := M2.t.c 1 _ rfl
    have M3 := M2.set hk (Nat.le_refl _) (by omega) 1 (.int .u8 5) (by simp [fdCs])
    have HT3 := Lib.hid (HT2.ext (ext_set M2.e.hi M2.t hk (j := 1) (v := .int .u8 5)) (by omega))
    have HM3 := Lib.hid M3
    have r9 := M3.t.c 9 _ rfl
    obtain ⟨w3, hw3⟩ : ∃ w3, w3 = w2.setCell ⟨R, 1, none⟩ (.int .u8 5) := ⟨_, rfl⟩
    clear M2 M3 HT2 HT1 HM1
    go_upto_region 12 with fail
    rw [← hw3] at HM3 HT3 r9 ⊢
    clear hw3 r1 f1
    have HC := Lib.hid (c_rwLoad 8 HM3.out.p (by omega) (by decide) (by decide) HM3.out.e.hi n0 n1)
    go_wp2_with fail
    refine HC.out.mono ?_
    rintro e w5 ⟨rfl, O4, E4, P4⟩
    have HM5 := Lib.hid (HM3.out.world hk E4 P4)
    have HT5 := Lib.hid (HT3.out.ext E4 (fun h => by have := h.2; omega))
    clear E4 P4 HC HM3 HT3 r9
    have q10 := HM5.out.t.c 10 _ rfl
    have f10 := HM5.out.t.f 10
    have M6 := HM5.out.set hk (Nat.le_refl _) (by omega) 10 (.int .i64 (s.n + 1)) (by simp [fdCs])
    have q0 := M6.t.c 0 _ rfl
    have f0 := M6.t.f 0
    have HT6 := Lib.hid (HT5.out.ext (ext_set HM5.out.e.hi HM5.out.t hk (j := 10) (v := .int .i64 (s.n + 1))) (by omega))
    have HS : Hid (Calls Tryz.prog 51 #[.pointer (some ⟨C.p, 0, none⟩)] w5 fun e w' => e = .returned (.int .i64 (s.n + 1)) ∧ w5 = w') := Lib.hid (c_rwSteps HM5.out.p)
    have HM6 := Lib.hid M6
    clear M6
    go_wp2_with fail
    refine HS.out.mono ?_
    rintro e w' ⟨rfl, rfl⟩
    go_wp2
    go_end0
    have M7 := HM6.out.set hk (Nat.le_refl _) (by omega) 0 (.int .i64 3) (by simp [fdCs])
    exact ⟨rfl, O4, M7.e, M7.p, M7.t, HT6.out.ext (ext_set HM6.out.e.hi HM6.out.t hk) (by omega)⟩
set_option maxHeartbeats 1000000 in
set_option maxRecDepth 100000 in
theorem c_rFStep3 (tk : Tkm) (an ep pt : Int) (hP : RW w O C f s m) (hX : FdAt w O k R T t d ⟨3, tk, an, ep, pt⟩) (hm : m ≤ 900000) (hk : 10 ≤ k) (hhi : ∀ j, O j ≠ 0 → j < w.heap.size) (n0 : 0 ≤ s.n) (n1 : s.n ≤ 4611686018427387904) :
    Calls Tryz.prog 28 #[.pointer (some ⟨R, 0, none⟩), .pointer (some ⟨C.p, 0, none⟩)] w
      (FdPost w O C f m k R T t d (flStep t d s ⟨3, tk, an, ep, pt⟩) (.tuple #[])) := by
  have hst : flStep t d s ⟨3, tk, an, ep, pt⟩ = (awGive s, ⟨0, tk, an, ep, pt⟩) := by unfold flStep; rw [if_neg (by simp), if_neg (by simp), if_pos rfl]
  rw [hst]
  have HP := Lib.hid hP
  have HX := Lib.hid hX
  have HN := Lib.hid (c_rNewGive (k + 2) hhi)
  have x0 : w.cell? ⟨R, 0, none⟩ = some (.int .i64 3) := hX.x.c 0 _ rfl
  clear hP hX hhi hst
  go_enter Tryz.func28, Tryz.ntmps28
  go_wp2_with fail
  refine HN.out.mono ?_
  rintro e w1 ⟨rfl, O1, E1, g1⟩
  have P1 := HP.out.ext E1 (by omega) (by omega) (by omega) (by omega)
  have X1 := Lib.hid (HX.out.ext E1 (by omega) (by omega))
  have HG := Lib.hid (c_rGiveStep (k + 2) P1 g1 hm (by omega) E1.hi n0 n1)
  have HE1 := Lib.hid (E1.mono (T := SD k (k + 2)) fun t _ h => .inr (by omega))
  clear E1 g1 P1 HP HX HN
  go_wp2_with fail
  refine HG.out.mono ?_
  rintro e w2 ⟨rfl, O2, E2, P2⟩
  have X2 := X1.out.ext E2 (SD.not (by omega) (by omega)) (SD.not (by omega) (by omega))
  have M2 : Md k (k + 2) w O w2 O2 C f _ (m + 1) k R _ := ⟨HE1.out.trans (E2.mono fun t _ h => SD.mono (by omega) (by omega) h), P2, X2.x⟩
  have q0 := M2.t.c 0 _ rfl
  have f0 := M2.t.f 0
  have HM2 := Lib.hid M2
  have HX2 := Lib.hid X2
  clear E2 P2 X2 M2 X1 HE1 HG x0
  go_wp2
  go_end0
  have M3 := HM2.out.set hk (Nat.le_refl _) (by omega) 0 (.int .i64 0) (by simp [fdCs])
  exact ⟨rfl, O2, M3.e, M3.p, M3.t, HX2.out.tk.ext (ext_set HM2.out.e.hi HM2.out.t hk) (by omega)⟩
theorem c_rFStep (y : Flm) (hP : RW w O C f s m) (hX : FdAt w O k R T t d y) (hy : y.ok) (hm : m ≤ 900000) (hk : 10 ≤ k) (ht : t < 64) (hhi : ∀ j, O j ≠ 0 → j < w.heap.size) (n0 : 0 ≤ s.n) (n1 : s.n ≤ 4611686018427387904) (d0 : -9223372036854775808 ≤ d) (d1 : d ≤ 9223372036854775807) :
    Calls Tryz.prog 28 #[.pointer (some ⟨R, 0, none⟩), .pointer (some ⟨C.p, 0, none⟩)] w
      (FdPost w O C f m k R T t d (flStep t d s y) (.tuple #[])) := by
  obtain ⟨ln, tk, an, ep, pt⟩ := y
  have h3 : ln ≤ 3 := hy.1
  rcases (show ln = 0 ∨ ln = 1 ∨ ln = 2 ∨ ln = 3 by omega) with h | h | h | h
  · subst h
    have hst : flStep t d s ⟨0, tk, an, ep, pt⟩ = (s, ⟨0, tk, an, ep, pt⟩) := rfl
    rw [hst]
    have HP := Lib.hid hP
    have HX := Lib.hid hX
    have HH := Lib.hid hhi
    have x0 : w.cell? ⟨R, 0, none⟩ = some (.int .i64 0) := hX.x.c 0 _ rfl
    clear hP hX hhi hst hy
    go_enter Tryz.func28, Tryz.ntmps28
    go_wp2
    go_end0
    exact ⟨rfl, O, Ext.refl HH.out, HP.out.up (Nat.le_succ m), HX.out⟩
  · subst h
    exact c_rFStep1 tk an ep pt hP hX (hy.2 rfl) hm hk ht hhi n0 n1
  · subst h
    exact c_rFStep2 tk an ep pt hP hX hm hk hhi n0 n1 d0 d1
  · subst h
    exact c_rFStep3 tk an ep pt hP hX hm hk hhi n0 n1
end
end
section
open Go.RowKit
set_option linter.unusedVariables false

/-- What a Flush tells. -/
def gAn (y : Flm) : Int := if y.ln = 0 then y.an else 0
def gEp (y : Flm) : Int := if y.ln = 0 then y.ep else 0
def gPt (y : Flm) : Int := if y.ln = 0 then y.pt else 0
set_option maxHeartbeats 1000000 in
set_option maxRecDepth 100000 in
theorem c_FGotNo (X : Nat) (f : Fn) (a c : Array Value) (w : World) (h : w.cell? ⟨X, 0, none⟩ = some (.func f a c)) (hl : X < w.heap.size) :
    Calls Tryz.prog 30 #[.pointer (some ⟨X, 0, none⟩)] w fun e w' => e = .returned (.tuple #[anV 0, .int .u64 0, .int .i64 0]) ∧ Below w.heap.size w w' := by
  go_enter Tryz.func30, Tryz.ntmps30
  go_wp2
  exact bodyPost_ret (v := .tuple #[anV 0, .int .u64 0, .int .i64 0]) (by simp [results, Tryz.results30, go_sem, anV]) rfl ⟨rfl, by first | exact ((Below.refl _ _).alloc (Nat.le_refl _) _) | (repeat (first | (with_reducible exact Below.refl _ _) | (with_reducible refine below_alloc ?_ _) | (with_reducible refine below_setCell ?_ (by simp) _ _)))⟩
theorem c_FGotY {w : World} {O : Om} {k t : Nat} {b : FB} {d : Int} {y : Flm} (h : FAt w O k b t d y) (hy : y.ok) :
    Calls Tryz.prog 30 #[.pointer (some ⟨b.X, 0, none⟩)] w fun e w' => e = .returned (.tuple #[anV (gAn y), .int .u64 (gEp y), .int .i64 (gPt y)]) ∧ Below w.heap.size w w' := by
  unfold gAn gEp gPt
  by_cases h0 : y.ln = 0
  · rw [if_pos h0, if_pos h0, if_pos h0]
    have hx := h.x
    rw [h0] at hx
    exact c_FGot w O k b.X y.an y.ep y.pt hx
  · rw [if_neg h0, if_neg h0, if_neg h0]
    have h3 := hy.1
    obtain ⟨f, a, c, hv⟩ := flV_some (b := b) (show y.ln = 1 ∨ y.ln = 2 ∨ y.ln = 3 by omega)
    exact c_FGotNo b.X f a c w (by rw [← hv]; exact h.x.c 0 _ rfl) h.x.lt
set_option maxHeartbeats 1000000 in
set_option maxRecDepth 100000 in
theorem c_rFGot {w : World} {O : Om} {k R T t : Nat} {d : Int} {y : Flm} (h : FdAt w O k R T t d y) :
    Calls Tryz.prog 75 #[.pointer (some ⟨R, 0, none⟩)] w fun e w' => e = .returned (.tuple #[anV (gAn y), .int .u64 (gEp y), .int .i64 (gPt y)]) ∧ Below w.heap.size w w' := by
  unfold gAn gEp gPt
  have q0 := h.x.c 0 _ rfl
  have q1 := h.x.c 1 _ rfl
  have q2 := h.x.c 2 _ rfl
  have q3 := h.x.c 3 _ rfl
  have q4 := h.x.c 4 _ rfl
  have q5 := h.x.c 5 _ rfl
  have q6 := h.x.c 6 _ rfl
  have q7 := h.x.c 7 _ rfl
  have q8 := h.x.c 8 _ rfl
  have q9 := h.x.c 9 _ rfl
  have q10 := h.x.c 10 _ rfl
  have hl := h.x.lt
  clear h
  by_cases h0 : y.ln = 0
  · rw [if_pos h0, if_pos h0, if_pos h0]
    rw [h0] at q0
    have q0 : w.cell? ⟨R, 0, none⟩ = some (.int .i64 0) := q0
    clear h0
    go_enter Tryz.func75, Tryz.ntmps75
    go_wp2_with fail
    go_region
    all_goals
      go_wp2
      exact bodyPost_ret (v := .tuple #[anV y.an, .int .u64 y.ep, .int .i64 y.pt]) (by simp [results, Tryz.results75, go_sem, anV]) rfl ⟨rfl, by first | exact ((Below.refl _ _).alloc (Nat.le_refl _) _).drew | exact (((Below.refl _ _).alloc (Nat.le_refl _) _).setCell (by simp) _).drew⟩
  · rw [if_neg h0, if_neg h0, if_neg h0]
    have hd : ((y.ln : Int) != 0) = true := by simp [h0]
    clear h0
    go_enter Tryz.func75, Tryz.ntmps75
    go_wp2
    exact bodyPost_ret (v := .tuple #[anV 0, .int .u64 0, .int .i64 0]) (by simp [results, Tryz.results75, go_sem, anV]) rfl ⟨rfl, by first | exact ((Below.refl _ _).alloc (Nat.le_refl _) _) | (repeat (first | (with_reducible exact Below.refl _ _) | (with_reducible refine below_alloc ?_ _) | (with_reducible refine below_setCell ?_ (by simp) _ _)))⟩
theorem FAt.below {O : Om} {w w' : World} {k t : Nat} {b : FB} {d : Int} {y : Flm} (h : FAt w O k b t d y) (hb : Below w.heap.size w w') : FAt w' O k b t d y := ⟨h.x.below hb, h.r.below hb⟩
theorem FAt.ext {S : Nat → Prop} {O O' : Om} {w w' : World} {k t : Nat} {b : FB} {d : Int} {y : Flm} (h : FAt w O k b t d y) (e : Ext S O w O' w') (h0 : ¬ S k) (h1 : ¬ S (k + 1)) (h2 : ¬ S (k + 2)) (h3 : ¬ S (k + 3)) : FAt w' O' k b t d y := ⟨h.x.ext e h0, h.r.ext e h1 h2 h3⟩
set_option maxHeartbeats 2000000 in
set_option maxRecDepth 100000 in
theorem c_same27 {w : World} {O : Om} {k kr t R T : Nat} {b : FB} {d : Int} {y : Flm} (hF : FAt w O k b t d y) (hR : FdAt w O kr R T t d y) (hy : y.ok) :
    Calls Tryz.prog 26 #[.agg #[.pointer (some ⟨b.X, 0, none⟩), .pointer (some ⟨R, 0, none⟩)]] w fun e w' => e = .returned (.bool true) ∧ Below w.heap.size w w' := by
  obtain ⟨an, han⟩ : ∃ z, z = gAn y := ⟨_, rfl⟩
  obtain ⟨ep, hep⟩ : ∃ z, z = gEp y := ⟨_, rfl⟩
  obtain ⟨pt, hpt⟩ : ∃ z, z = gPt y := ⟨_, rfl⟩
  obtain ⟨X, hX⟩ : ∃ X, X = b.X := ⟨_, rfl⟩
  have HG : Hid (∀ W, Below w.heap.size w W → Calls Tryz.prog 30 #[.pointer (some ⟨X, 0, none⟩)] W fun e w' => e = .returned (.tuple #[anV an, .int .u64 ep, .int .i64 pt]) ∧ Below W.heap.size W w') := Lib.hid fun W hb => by rw [han, hep, hpt, hX]; exact c_FGotY (hF.below hb) hy
  have HR : Hid (∀ W, Below w.heap.size w W → Calls Tryz.prog 75 #[.pointer (some ⟨R, 0, none⟩)] W fun e w' => e = .returned (.tuple #[anV an, .int .u64 ep, .int .i64 pt]) ∧ Below W.heap.size W w') := Lib.hid fun W hb => by rw [han, hep, hpt]; exact c_rFGot (hR.below hb)
  obtain ⟨ov, hov⟩ : ∃ z, z = decide (y.ln = 0) := ⟨_, rfl⟩
  obtain ⟨ln, hln⟩ : ∃ z, z = (y.ln : Int) := ⟨_, rfl⟩
  have HO : Hid (∀ W, Below w.heap.size w W → Calls Tryz.prog 31 #[.pointer (some ⟨X, 0, none⟩)] W fun e w' => e = .returned (.bool ov) ∧ W = w') := Lib.hid fun W hb => by rw [hX, hov]; exact c_FOver b.X _ W ((hF.below hb).x.c 0 _ rfl) _ (flOver b hy.1)
  have r0 : w.cell? ⟨R, 0, none⟩ = some (.int .i64 ln) := by rw [hln]; exact hR.x.c 0 _ rfl
  have hRl := hR.x.lt
  have hd : (ln == 0) = ov := by
    rw [hov, hln, Bool.eq_iff_iff, beq_iff_eq, decide_eq_true_iff]; omega
  rw [← hX]
  clear hF hR hy han hep hpt hX hov hln
  go_enter Tryz.func26, Tryz.ntmps26
  go_wp2_with fail
  obtain ⟨W1, hW1⟩ : ∃ W1, W1 = w.alloc (.cells #[.pointer (some ⟨X, 0, none⟩), .pointer (some ⟨R, 0, none⟩)] 66) := ⟨_, rfl⟩
  have y0 : W1.cell? ⟨w.heap.size, 0, none⟩ = some (.pointer (some ⟨X, 0, none⟩)) := by rw [hW1]; simp
  have y1 : W1.cell? ⟨w.heap.size, 1, none⟩ = some (.pointer (some ⟨R, 0, none⟩)) := by rw [hW1]; simp
  have hl1 : w.heap.size < W1.heap.size := by rw [hW1]; simp
  have b1 : Below w.heap.size w W1 := by rw [hW1]; exact (Below.refl _ _).alloc (Nat.le_refl _) _
  rw [← hW1]
  clear hW1
  have HB1 := Lib.hid b1
  clear b1
  refine (HG.out W1 HB1.out).mono ?_
  rintro e W2 ⟨rfl, hb2⟩
  have HB2 := Lib.hid (HB1.out.trans (hb2.mono HB1.out.size))
  have z1 := (hb2.cell (p := ⟨w.heap.size, 1, none⟩) hl1).trans y1
  have z0 := (hb2.cell (p := ⟨w.heap.size, 0, none⟩) hl1).trans y0
  have hl2 : w.heap.size < W2.heap.size := Nat.lt_of_lt_of_le hl1 hb2.size
  clear hb2 y0 y1 HB1
  unfold anV
  go_wp2_with fail
  obtain ⟨W3, hW3⟩ : ∃ W3, W3 = W2.alloc (.cells #[.int .u8 an, .int .u64 0, .string ⟨#[]⟩, .string ⟨#[]⟩, .int .u32 0, .int .u64 0, .int .i64 0, .int .i64 0] 77) := ⟨_, rfl⟩
  have hc := fun j u hu => cell_newA W2 #[.int .u8 an, .int .u64 0, .string ⟨#[]⟩, .string ⟨#[]⟩, .int .u32 0, .int .u64 0, .int .i64 0, .int .i64 0] 77 _ rfl j u hu
  rw [← hW3] at hc
  have b3 : Below W2.heap.size W2 W3 := by rw [hW3]; exact (Below.refl _ _).alloc (Nat.le_refl _) _
  have y0 := (b3.cell (p := ⟨w.heap.size, 0, none⟩) hl2).trans z0
  have y1 := (b3.cell (p := ⟨w.heap.size, 1, none⟩) hl2).trans z1
  have a0 := hc 0 _ rfl
  have a1 := hc 1 _ rfl
  have a2 := hc 2 _ rfl
  have a3 := hc 3 _ rfl
  have a4 := hc 4 _ rfl
  have a5 := hc 5 _ rfl
  have a6 := hc 6 _ rfl
  have a7 := hc 7 _ rfl
  have hl3 : w.heap.size < W3.heap.size := Nat.lt_of_lt_of_le hl2 b3.size
  have hn2 : W2.heap.size < W3.heap.size := by rw [hW3]; simp
  have HB3 := Lib.hid (HB2.out.trans (b3.mono HB2.out.size))
  rw [← hW3]
  clear hW3 hc b3 z0 z1 HB2
  obtain ⟨n2, hn⟩ : ∃ n, n = W2.heap.size := ⟨_, rfl⟩
  rw [← hn] at a0 a1 a2 a3 a4 a5 a6 a7 hn2 ⊢
  have Hn := Lib.hid hn
  clear hn
  refine (HR.out W3 HB3.out).mono ?_
  rintro e W4 ⟨rfl, hb4⟩
  have c := fun j => hb4.cell (p := ⟨n2, j, none⟩) hn2
  have d0 := (c 0).trans a0
  have d1 := (c 1).trans a1
  have d2 := (c 2).trans a2
  have d3 := (c 3).trans a3
  have d4 := (c 4).trans a4
  have d5 := (c 5).trans a5
  have d6 := (c 6).trans a6
  have d7 := (c 7).trans a7
  have z0 := (hb4.cell (p := ⟨w.heap.size, 0, none⟩) hl3).trans y0
  have z1 := (hb4.cell (p := ⟨w.heap.size, 1, none⟩) hl3).trans y1
  have hl4 : w.heap.size < W4.heap.size := Nat.lt_of_lt_of_le hl3 hb4.size
  have hn4 : n2 < W4.heap.size := Nat.lt_of_lt_of_le hn2 hb4.size
  have HB4 := Lib.hid (HB3.out.trans (hb4.mono HB3.out.size))
  clear c hb4 a0 a1 a2 a3 a4 a5 a6 a7 y0 y1 HB3 HR HG
  unfold anV
  go_upto_region 3 with fail
  obtain ⟨W5, hW5⟩ : ∃ W5, W5 = W4.alloc (.cells #[.int .u8 an, .int .u64 0, .string ⟨#[]⟩, .string ⟨#[]⟩, .int .u32 0, .int .u64 0, .int .i64 0, .int .i64 0] 77) := ⟨_, rfl⟩
  have hc := fun j u hu => cell_newA W4 #[.int .u8 an, .int .u64 0, .string ⟨#[]⟩, .string ⟨#[]⟩, .int .u32 0, .int .u64 0, .int .i64 0, .int .i64 0] 77 _ rfl j u hu
  rw [← hW5] at hc
  have b5 : Below W4.heap.size W4 W5 := by rw [hW5]; exact (Below.refl _ _).alloc (Nat.le_refl _) _
  have c := fun j => b5.cell (p := ⟨n2, j, none⟩) hn4
  have e0 := (c 0).trans d0
  have e1 := (c 1).trans d1
  have e2 := (c 2).trans d2
  have e3 := (c 3).trans d3
  have e4 := (c 4).trans d4
  have e5 := (c 5).trans d5
  have e6 := (c 6).trans d6
  have e7 := (c 7).trans d7
  have g0 := hc 0 _ rfl
  have g1 := hc 1 _ rfl
  have g2 := hc 2 _ rfl
  have g3 := hc 3 _ rfl
  have g4 := hc 4 _ rfl
  have g5 := hc 5 _ rfl
  have g6 := hc 6 _ rfl
  have g7 := hc 7 _ rfl
  have y0 := (b5.cell (p := ⟨w.heap.size, 0, none⟩) hl4).trans z0
  have y1 := (b5.cell (p := ⟨w.heap.size, 1, none⟩) hl4).trans z1
  have HB5 := Lib.hid (HB4.out.trans (b5.mono HB4.out.size))
  have x0 := (HB5.out.cell (p := ⟨R, 0, none⟩) hRl).trans r0
  rw [← hW5]
  clear hW5 hc c b5 z0 z1 d0 d1 d2 d3 d4 d5 d6 d7 HB4 r0
  have HOQ := Lib.hid (fun W (h : ∃ n, W = W5.drewN n) => HO.out W (by obtain ⟨n, rfl⟩ := h; exact HB5.out.trans ((below_dn W5 n).mono HB5.out.size)))
  go_quiet ((go_at_call 31; exact quietS (HOQ.out _ ⟨_, rfl⟩)))
  go_wp2
  go_ret
  exact ⟨rfl, HB5.out.trans ((below_dn W5 nq).mono HB5.out.size)⟩
end
end Go.Proofs.YtijifjiehldcaaaGreat
