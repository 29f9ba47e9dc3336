/- Layer 21: a Turn, while all that it moves is empty. Layer 21: a Turn's other lines; its step. Layer 21: Turns run; the chapter's examples. Layer 21: the chapter's examples. -/
import Derived.Test.YtkamcgcpfnkodaaGreatTnA
import Derived.Test.YtkamcgcpfnkodaaGreatRun
import Derived.Test.YtkamcgcpfnkodaaGreatWn
namespace Go.Proofs.YtkamcgcpfnkodaaGreat
set_option linter.unusedSimpArgs false
section
open Go.RowKit Go.Shelf
set_option linter.unusedVariables false

structure Tz where
  ln : Int
  t : Int
  c : Int
  n : Int
  k : Int
def tnCs (ln t c n : Int) (sw mv : Value) : List Value := [.int .i64 ln, .int .u64 t, .int .u64 c, .int .i64 n, sw, mv]
/-- A Turn in block X. -/
structure TnAt (W : World) (G : Om) (X : Nat) (z : Tz) : Prop where
  ex : ∃ sw mv : Option Addr, Ob W G 10 X (tnCs z.ln z.t z.c z.n (.pointer sw) (.pointer mv)) ∧ (z.ln = 4 → ∃ Y, mv = some ⟨Y, 0, none⟩ ∧ MvAt W G Y (plNow z.t) (plOld z.t) z.c z.k) ∧ (z.ln = 3 → ∃ Z, sw = some ⟨Z, 0, none⟩ ∧ SwAt W G Z (plWord (plNow z.t) 0) (plNow z.t))
def tzNew : Tz := ⟨1, 0, 0, 0, 0⟩
def tzOver (z : Tz) : Bool := z.ln == 0
def tnStep (q : Int) (z : AW × Tz) : AW × Tz :=
  if z.2.ln = 1 then (awLoad 2 z.1, ⟨if plNow (z.1.M 2) = 0 then 0 else 2, z.1.M 2, z.2.c, z.2.n, z.2.k⟩)
  else if z.2.ln = 2 then (awLoad 3 z.1, ⟨if fnvSize (plOld z.2.t) ≤ z.1.M 3 then 3 else 4, z.2.t, z.1.M 3, z.2.n, 0⟩)
  else if z.2.ln = 4 then (awLoad (plTags (plOld z.2.t) z.2.c) z.1, ⟨if z.2.k = 3 then 5 else 4, z.2.t, z.2.c, z.2.n, z.2.k + 1⟩)
  else if z.2.ln = 5 then (awStore 3 (z.2.c + 1) z.1, ⟨if z.2.n + 1 < q then 1 else 0, z.2.t, z.2.c, z.2.n + 1, z.2.k⟩)
  else (awNote 5 0 0 0 0 (plNow z.2.t) (awStore 2 (plWord (plNow z.2.t) 0) z.1), ⟨0, z.2.t, z.2.c, z.2.n, z.2.k⟩)
/-- What it wants: all tags are 0. -/
structure TzOk (s : AW) (z : Tz) : Prop where
  em : ∀ a, 4096 ≤ a → s.M a = 0
  bd : Bd s.M
  ln : z.ln = 0 ∨ z.ln = 1 ∨ z.ln = 2 ∨ z.ln = 3 ∨ z.ln = 4 ∨ z.ln = 5
  t0 : 0 ≤ z.t
  t1 : z.t < 18446744073709551616
  c0 : 0 ≤ z.c
  c1 : z.c < 18446744073709551616
  n0 : 0 ≤ z.n
  n1 : z.n ≤ s.n
  nw : z.ln = 2 ∨ z.ln = 3 ∨ z.ln = 4 → plNow z.t ≠ 0
  lt : z.ln = 4 → z.c < fnvSize (plOld z.t)
  c5 : z.ln = 5 → z.c < 4096
  k0 : z.ln = 4 → 0 ≤ z.k ∧ z.k < 4
theorem c_TOver {X : Nat} {ln : Int} {w : World} (h : w.cell? ⟨X, 0, none⟩ = some (.int .i64 ln)) : Calls Tryz.prog 24 #[.pointer (some ⟨X, 0, none⟩)] w fun e w' => e = .returned (.bool (ln == 0)) ∧ w = w' := by
  go_enter Tryz.func24, Tryz.ntmps24
  go_wp2
  go_ret
  exact ⟨rfl, rfl⟩
theorem c_NewTurn {w : World} {O : Om} (hhi : ∀ j, O j ≠ 0 → j < w.heap.size) : Calls Tryz.prog 13 #[] w fun e w' => ∃ X, RP (fun t => t = 10) w O (.pointer (some ⟨X, 0, none⟩)) (fun W G => TnAt W G X tzNew) e w' := by
  obtain ⟨O1, e1, x1, -⟩ := alloc_ob hhi 10 (tnCs 1 0 0 0 (.pointer none) (.pointer none)).toArray 75 w.heap.size rfl
  go_enter Tryz.func13, Tryz.ntmps13
  go_wp2
  go_ret
  exact ⟨w.heap.size, rfl, O1, e1, ⟨none, none, x1, fun h => absurd h (by decide), fun h => absurd h (by decide)⟩⟩
set_option maxHeartbeats 4000000 in
set_option maxRecDepth 100000 in
/-- Line 1. -/
theorem c_TStep1 {X : Nat} {z : Tz} {w : World} {O : Om} {B : Wb} {f : Cf} {s : AW} (hP : PW w O B f s) (hX : TnAt w O X z) (hhi : ∀ j, O j ≠ 0 → j < w.heap.size) (hl : z.ln = 1) (t0 : 0 ≤ z.t) (t1 : z.t < 18446744073709551616) (n0 : 0 ≤ s.n) (n1 : s.n ≤ 4611686018427387904) :
    Calls Tryz.prog 14 #[.pointer (some ⟨X, 0, none⟩), .pointer (some ⟨B.p, 0, none⟩)] w (RP (SX 10 10) w O (.bool (tzOver (tnStep f.q (s, z)).2)) fun W G => PW W G B f (tnStep f.q (s, z)).1 ∧ TnAt W G X (tnStep f.q (s, z)).2) := by
  obtain ⟨ln, t, c, n, k⟩ := z
  dsimp only at hl t0 t1
  subst hl
  obtain ⟨sw, mv, hx, -, -⟩ := hX.ex
  dsimp only at hx
  have HM : Hid (Me 10 10 w O w O B f s 10 X (tnCs 1 t c n (.pointer sw) (.pointer mv))) := Lib.hid (Me.start hhi hP hx)
  have x0 := hx.c 0 _ rfl
  have x1 := hx.c 1 _ rfl
  have p0 := hP.wo.c0
  have hbd := Lib.hid (hP.bd 2)
  have HA := Lib.hid (fun W => c_As t W t0 t1)
  have HA2 := Lib.hid (fun W => c_As (s.M 2) W hbd.out.1 hbd.out.2)
  have HL := Lib.hid (c_LoadP 2 hP hhi (by decide) (by decide) n0 n1)
  have hst : Hid (tnStep f.q (s, ⟨1, t, c, n, k⟩) = (awLoad 2 s, ⟨if plNow (s.M 2) = 0 then 0 else 2, s.M 2, c, n, k⟩)) := Lib.hid (by unfold tnStep; rw [if_pos rfl])
  rw [hst.out]
  clear hP hX hx hhi
  go_enter Tryz.func14, Tryz.ntmps14
  go_wp2_with fail
  refine (c_TOver x0).mono ?_
  rintro e w' ⟨rfl, rfl⟩
  go_wp2_with fail
  refine (HA.out _).mono ?_
  rintro e w' ⟨rfl, rfl⟩
  go_wp2_with fail
  refine HL.out.mono ?_
  rintro e w2 ⟨rfl, G2, e2, P2⟩
  have M2 := HM.out.world (by decide) e2 P2
  have q1 := M2.t.c 1 _ rfl
  have f1 := M2.t.f 1
  have M3 := Lib.hid (M2.set (by decide) (by decide) (by decide) 1 (.int .u64 (s.M 2)) (by simp [tnCs]))
  obtain ⟨w3, hw3⟩ : ∃ w3, w3 = w2.setCell ⟨X, 1, none⟩ (.int .u64 (s.M 2)) := ⟨_, rfl⟩
  clear HL e2 P2 M2 x0 x1 p0 HM
  go_wp2_with fail
  rw [← hw3] at M3 ⊢
  clear q1 f1 hw3
  have q0 := M3.out.t.c 0 _ rfl
  have q1 := M3.out.t.c 1 _ rfl
  have f0 := M3.out.t.f 0
  go_wp2_with fail
  refine (HA2.out _).mono ?_
  rintro e w' ⟨rfl, rfl⟩
  by_cases hz : plNow (s.M 2) = 0
  · have dz : (plNow (s.M 2) == 0) = true := by simp [hz]
    have M4 := Lib.hid (M3.out.set (by decide) (by decide) (by decide) 0 (.int .i64 0) (by simp [tnCs]))
    have r0 := M4.out.t.c 0 _ rfl
    go_wp2_with fail
    refine (c_TOver r0).mono ?_
    rintro e w' ⟨rfl, rfl⟩
    go_wp2_with fail
    go_ret
    try rw [if_pos hz]
    exact ⟨rfl, _, M4.out.e, M4.out.p, ⟨sw, mv, M4.out.t, fun h => absurd (show (0 : Int) = 4 from h) (by decide), fun h => absurd (show (0 : Int) = 3 from h) (by decide)⟩⟩
  · have dz : (plNow (s.M 2) == 0) = false := by simp [hz]
    have M4 := Lib.hid (M3.out.set (by decide) (by decide) (by decide) 0 (.int .i64 2) (by simp [tnCs]))
    have r0 := M4.out.t.c 0 _ rfl
    go_wp2_with fail
    refine (c_TOver r0).mono ?_
    rintro e w' ⟨rfl, rfl⟩
    go_wp2_with fail
    go_ret
    try rw [if_neg hz]
    exact ⟨rfl, _, M4.out.e, M4.out.p, ⟨sw, mv, M4.out.t, fun h => absurd (show (2 : Int) = 4 from h) (by decide), fun h => absurd (show (2 : Int) = 3 from h) (by decide)⟩⟩
theorem fnvSize_le (b : Int) : 0 ≤ fnvSize b ∧ fnvSize b ≤ 4096 := fnvSize_bd b
set_option maxHeartbeats 4000000 in
set_option maxRecDepth 100000 in
/-- Line 2. -/
theorem c_TStep2 {X : Nat} {z : Tz} {w : World} {O : Om} {B : Wb} {f : Cf} {s : AW} (hP : PW w O B f s) (hX : TnAt w O X z) (hhi : ∀ j, O j ≠ 0 → j < w.heap.size) (hl : z.ln = 2) (t0 : 0 ≤ z.t) (t1 : z.t < 18446744073709551616) (hn : plNow z.t ≠ 0) (n0 : 0 ≤ s.n) (n1 : s.n ≤ 4611686018427387904) :
    Calls Tryz.prog 14 #[.pointer (some ⟨X, 0, none⟩), .pointer (some ⟨B.p, 0, none⟩)] w (RP (SX 10 15) w O (.bool (tzOver (tnStep f.q (s, z)).2)) fun W G => PW W G B f (tnStep f.q (s, z)).1 ∧ TnAt W G X (tnStep f.q (s, z)).2) := by
  obtain ⟨ln, t, c, n, k⟩ := z
  dsimp only at hl t0 t1 hn
  subst hl
  obtain ⟨sw, mv, hx, -, -⟩ := hX.ex
  dsimp only at hx
  have HM : Hid (Me 10 15 w O w O B f s 10 X (tnCs 2 t c n (.pointer sw) (.pointer mv))) := Lib.hid (Me.start hhi hP hx)
  have x0 := hx.c 0 _ rfl
  have x1 := hx.c 1 _ rfl
  have p0 := hP.wo.c0
  have hbd := Lib.hid (hP.bd 3)
  obtain ⟨o, ho⟩ : ∃ o, o = plOld t := ⟨_, rfl⟩
  obtain ⟨nw, hnw⟩ : ∃ nw, nw = plNow t := ⟨_, rfl⟩
  have hob : -9223372036854775808 ≤ o ∧ o ≤ 9223372036854775807 := by rw [ho]; unfold plOld; split <;> omega
  have HOB := Lib.hid hob
  have HA := Lib.hid (fun W => c_As t W t0 t1)
  rw [← ho, ← hnw] at HA
  have HL := Lib.hid (c_LoadP 3 hP hhi (by decide) (by decide) n0 n1)
  obtain ⟨c', hc'⟩ : ∃ c', c' = s.M 3 := ⟨_, rfl⟩
  rw [← hc'] at HL hbd
  obtain ⟨sz, hsz⟩ : ∃ sz, sz = fnvSize o := ⟨_, rfl⟩
  have hszb : 0 ≤ sz ∧ sz ≤ 4096 := by rw [hsz]; exact fnvSize_le o
  have hst : Hid (tnStep f.q (s, ⟨2, t, c, n, k⟩) = (awLoad 3 s, ⟨if sz ≤ c' then 3 else 4, t, c', n, 0⟩)) := Lib.hid (by unfold tnStep; rw [if_neg (show ¬ ((2 : Int) = 1) by decide), if_pos rfl, hsz, ho, hc'])
  have HSZ := Lib.hid (fun W => c_Size o W hob.1 hob.2)
  rw [← hsz] at HSZ
  have HSZ2 := Lib.hid hsz
  have HO := Lib.hid ho
  have HNW := Lib.hid hnw
  have HN := Lib.hid hn
  rw [hst.out]
  have hw1 : IntKind.u64.wrap sz = sz := by rw [IntKind.wrap_u64]; omega
  clear hP hX hx hhi hob ho hnw hc' hsz hn
  go_enter Tryz.func14, Tryz.ntmps14
  go_wp2_with fail
  refine (c_TOver x0).mono ?_
  rintro e w' ⟨rfl, rfl⟩
  go_wp2_with fail
  refine (HA.out _).mono ?_
  rintro e w' ⟨rfl, rfl⟩
  go_wp2_with fail
  refine HL.out.mono ?_
  rintro e w2 ⟨rfl, G2, e2, P2⟩
  have M2 := HM.out.world (by decide) e2 P2
  have q2 := M2.t.c 2 _ rfl
  have f2 := M2.t.f 2
  have M3 := Lib.hid (M2.set (by decide) (by decide) (by decide) 2 (.int .u64 c') (by simp [tnCs]))
  obtain ⟨w3, hw3⟩ : ∃ w3, w3 = w2.setCell ⟨X, 2, none⟩ (.int .u64 c') := ⟨_, rfl⟩
  clear HL e2 P2 M2 x0 x1 p0 HM
  go_wp2_with fail
  rw [← hw3] at M3 ⊢
  clear q2 f2 hw3
  have q0 := M3.out.t.c 0 _ rfl
  have q1 := M3.out.t.c 1 _ rfl
  have q2 := M3.out.t.c 2 _ rfl
  have q4 := M3.out.t.c 4 _ rfl
  have q5 := M3.out.t.c 5 _ rfl
  have f0 := M3.out.t.f 0
  have f4 := M3.out.t.f 4
  have f5 := M3.out.t.f 5
  have hXl := M3.out.t.lt
  by_cases hz : sz ≤ c'
  · have dz : decide (sz ≤ c') = true := by simp [hz]
    go_quiet ((go_at_call 37; exact quietS (HSZ.out _)))
    have MW : Hid (Me 10 15 w O (w3.drewN nq) G2 B f (awLoad 3 s) 10 X ((tnCs 2 t c n (.pointer sw) (.pointer mv)).set 2 (.int .u64 c'))) := Lib.hid (M3.out.below ⟨rfl, rfl, rfl, Nat.le_refl _, fun _ _ => rfl⟩)
    obtain ⟨w4, hw4⟩ : ∃ w4, w4 = w3.drewN nq := ⟨_, rfl⟩
    rw [← hw4] at MW ⊢
    clear hw4 q0 q1 q2 q4 q5 f0 f4 f5 M3 hXl
    have q1 := MW.out.t.c 1 _ rfl
    go_wp2_with fail
    refine (c_NewSwap t MW.out.e.hi t0 t1 HN.out).mono ?_
    rintro e w5 ⟨Z, rfl, G5, e5, sw5⟩
    have M5 : Me 10 15 w O w5 G5 B f (awLoad 3 s) 10 X _ := ⟨MW.out.e.trans (e5.mono fun t _ h => .inr ⟨by have := h.1; omega, h.2⟩), MW.out.p.ext e5 (fun h => absurd h.1 (by decide)) (fun h => absurd h.1 (by decide)) (fun h => absurd h.1 (by decide)) (fun h => absurd h.1 (by decide)), MW.out.t.ext e5 (fun h => absurd h.1 (by decide))⟩
    have r0 := M5.t.c 0 _ rfl
    have r4 := M5.t.c 4 _ rfl
    have g0 := M5.t.f 0
    have g4 := M5.t.f 4
    have hl5 := M5.t.lt
    have s1 := ext_set (j := 4) (v := .pointer (some ⟨Z, 0, none⟩)) M5.e.hi M5.t (by decide)
    have M6 := M5.set (by decide) (by decide) (by decide) 4 (.pointer (some ⟨Z, 0, none⟩)) (by simp [tnCs])
    have s2 := ext_set (j := 0) (v := .int .i64 3) M6.e.hi M6.t (by decide)
    have M7 := Lib.hid (M6.set (by decide) (by decide) (by decide) 0 (.int .i64 3) (by simp [tnCs]))
    have SW7 := Lib.hid ((sw5.ext s1 (by decide) (by decide)).ext s2 (by decide) (by decide))
    have z0 := M7.out.t.c 0 _ rfl
    clear e5 sw5 M5 s1 M6 s2 q1
    go_wp2_with fail
    refine (c_TOver z0).mono ?_
    rintro e w' ⟨rfl, rfl⟩
    go_wp2_with fail
    go_ret
    try rw [if_pos hz]
    exact ⟨rfl, _, M7.out.e, M7.out.p, ⟨some ⟨Z, 0, none⟩, mv, M7.out.t, fun h => absurd (show (3 : Int) = 4 from h) (by decide), fun _ => ⟨Z, rfl, SW7.out⟩⟩⟩
  · have dz : decide (sz ≤ c') = false := by simp; omega
    have hcb := hbd.out
    have h64 : wrap64 c' = c' := by unfold wrap64; omega
    have hi64 : IntKind.i64.wrap c' = c' := by simp [IntKind.wrap, IntKind.bits, IntKind.signed]; omega
    have hlt : c' < fnvSize (plOld t) := by rw [← HO.out]; have := HSZ2.out; omega
    have HLT := Lib.hid hlt
    go_quiet ((go_at_call 37; exact quietS (HSZ.out _)))
    have MW : Hid (Me 10 15 w O (w3.drewN nq) G2 B f (awLoad 3 s) 10 X ((tnCs 2 t c n (.pointer sw) (.pointer mv)).set 2 (.int .u64 c'))) := Lib.hid (M3.out.below ⟨rfl, rfl, rfl, Nat.le_refl _, fun _ _ => rfl⟩)
    obtain ⟨w4, hw4⟩ : ∃ w4, w4 = w3.drewN nq := ⟨_, rfl⟩
    rw [← hw4] at MW ⊢
    clear hw4 q0 q1 q2 q4 q5 f0 f4 f5 M3 hXl hcb hlt
    have q1 := MW.out.t.c 1 _ rfl
    have q2 := MW.out.t.c 2 _ rfl
    go_wp2_with fail
    go_region_held3 (fun w' => w'.cell? ⟨X, 1, none⟩ = some (.int .u64 t) ∧ w'.cell? ⟨X, 2, none⟩ = some (.int .u64 c')) (go_keep)
      ((go_at_call 17
        refine (c_NewMove t c' (w := w4.drew) MW.out.drew.e.hi t0 t1 HN.out hbd.out.1 HLT.out).mono ?_
        rintro e w5 ⟨Y, rfl, G5, e5, mv5⟩
        have M5 : Me 10 15 w O w5 G5 B f (awLoad 3 s) 10 X _ := ⟨MW.out.drew.e.trans (e5.mono fun t _ h => .inr ⟨by have := h.1; omega, by have := h.2; omega⟩), MW.out.drew.p.ext e5 (fun h => absurd h.1 (by decide)) (fun h => absurd h.1 (by decide)) (fun h => absurd h.1 (by decide)) (fun h => absurd h.1 (by decide)), MW.out.drew.t.ext e5 (fun h => absurd h.1 (by decide))⟩
        have r0 := M5.t.c 0 _ rfl
        have r5 := M5.t.c 5 _ rfl
        have r1 := M5.t.c 1 _ rfl
        have r2 := M5.t.c 2 _ rfl
        have g0 := M5.t.f 0
        have g5 := M5.t.f 5
        have hl5 := M5.t.lt
        have s1 := ext_set (j := 5) (v := .pointer (some ⟨Y, 0, none⟩)) M5.e.hi M5.t (by decide)
        have M6 := M5.set (by decide) (by decide) (by decide) 5 (.pointer (some ⟨Y, 0, none⟩)) (by simp [tnCs])
        have r16 := M6.t.c 1 _ rfl
        have r26 := M6.t.c 2 _ rfl
        have r06 := M6.t.c 0 _ rfl
        have g06 := M6.t.f 0
        have s2 := ext_set (j := 0) (v := .int .i64 4) M6.e.hi M6.t (by decide)
        have M7 := Lib.hid (M6.set (by decide) (by decide) (by decide) 0 (.int .i64 4) (by simp [tnCs]))
        have r17 := M7.out.t.c 1 _ rfl
        have r27 := M7.out.t.c 2 _ rfl
        have MV7 := Lib.hid ((mv5.ext s1 (by decide) (by decide) (by decide)).ext s2 (by decide) (by decide) (by decide))
        clear e5 mv5 M5 s1 M6 s2))
    all_goals
      have z0 := M7.out.t.c 0 _ rfl
      go_wp2_with fail
      refine (c_TOver z0).mono ?_
      rintro e w' ⟨rfl, rfl⟩
      go_wp2_with fail
      go_ret
      try rw [if_neg hz]
      exact ⟨rfl, _, M7.out.e, M7.out.p, ⟨sw, some ⟨Y, 0, none⟩, M7.out.t, fun _ => ⟨Y, rfl, MV7.out⟩, fun h => absurd (show (4 : Int) = 3 from h) (by decide)⟩⟩
end
section
open Go.RowKit Go.Shelf
set_option linter.unusedVariables false

set_option maxHeartbeats 4000000 in
set_option maxRecDepth 100000 in
/-- Line 4. -/
theorem c_TStep4 {X : Nat} {z : Tz} {w : World} {O : Om} {B : Wb} {f : Cf} {s : AW} (hP : PW w O B f s) (hX : TnAt w O X z) (hhi : ∀ j, O j ≠ 0 → j < w.heap.size) (hl : z.ln = 4) (t0 : 0 ≤ z.t) (t1 : z.t < 18446744073709551616) (c0 : 0 ≤ z.c) (cl : z.c < fnvSize (plOld z.t)) (k0 : 0 ≤ z.k) (k1 : z.k < 4) (hz : ∀ a, 4096 ≤ a → s.M a = 0) (n0 : 0 ≤ s.n) (n1 : s.n ≤ 4611686018427387904) :
    Calls Tryz.prog 14 #[.pointer (some ⟨X, 0, none⟩), .pointer (some ⟨B.p, 0, none⟩)] w (RP (SX 10 15) w O (.bool (tzOver (tnStep f.q (s, z)).2)) fun W G => PW W G B f (tnStep f.q (s, z)).1 ∧ TnAt W G X (tnStep f.q (s, z)).2) := by
  obtain ⟨ln, t, c, n, k⟩ := z
  dsimp only at hl t0 t1 c0 cl k0 k1
  subst hl
  obtain ⟨sw, mv, hx, hmv, -⟩ := hX.ex
  obtain ⟨Y, rfl, hm⟩ := hmv rfl
  dsimp only at hx hm
  have HM : Hid (Me 10 15 w O w O B f s 10 X (tnCs 4 t c n (.pointer sw) (.pointer (some ⟨Y, 0, none⟩)))) := Lib.hid (Me.start hhi hP hx)
  have x0 := hx.c 0 _ rfl
  have x1 := hx.c 1 _ rfl
  have x5 := hx.c 5 _ rfl
  have HA := Lib.hid (fun W => c_As t W t0 t1)
  have hsb := fnvSize_le (plOld t)
  have hpt : plTags (plOld t) c = 4096 + 8 * (fnvSize (plOld t) + c) := by unfold plTags; rw [if_pos ⟨c0, cl⟩]
  have hob : -9223372036854775808 ≤ plOld t ∧ plOld t ≤ 9223372036854775807 := by unfold plOld; split <;> omega
  have HL := Lib.hid (c_MStep hP hm hhi hob.1 hob.2 (by omega) (by omega) k0 k1 (hz _ (by rw [hpt]; omega)) (by rw [hpt]; omega) (by rw [hpt]; omega) n0 n1)
  have hst : Hid (tnStep f.q (s, ⟨4, t, c, n, k⟩) = (awLoad (plTags (plOld t) c) s, ⟨if k = 3 then 5 else 4, t, c, n, k + 1⟩)) := Lib.hid (by unfold tnStep; rw [if_neg (show ¬ ((4 : Int) = 1) by decide), if_neg (show ¬ ((4 : Int) = 2) by decide), if_pos rfl])
  rw [hst.out]
  clear hP hX hx hhi hmv hm hsb hpt hob hz cl
  go_enter Tryz.func14, Tryz.ntmps14
  go_wp2_with fail
  refine (c_TOver x0).mono ?_
  rintro e w' ⟨rfl, rfl⟩
  go_wp2_with fail
  refine (HA.out _).mono ?_
  rintro e w' ⟨rfl, rfl⟩
  go_wp2_with fail
  refine HL.out.mono ?_
  rintro e w2 ⟨rfl, G2, e2, P2, hk2⟩
  have M2 : Hid (Me 10 15 w O w2 G2 B f (awLoad (plTags (plOld t) c) s) 10 X (tnCs 4 t c n (.pointer sw) (.pointer (some ⟨Y, 0, none⟩)))) := Lib.hid ⟨HM.out.e.trans (e2.mono fun t _ h => by unfold SX at h ⊢; omega), P2, HM.out.t.ext e2 (by unfold SX; omega)⟩
  have HK := Lib.hid hk2
  clear HL e2 P2 x0 x1 x5 HM hk2
  have q0 := M2.out.t.c 0 _ rfl
  have f0 := M2.out.t.f 0
  by_cases h3 : k = 3
  · have d3 : decide (k = 3) = true := by simp [h3]
    rw [d3]
    have M3 := Lib.hid (M2.out.set (by decide) (by decide) (by decide) 0 (.int .i64 5) (by simp [tnCs]))
    have r0 := M3.out.t.c 0 _ rfl
    go_wp2_with fail
    refine (c_TOver r0).mono ?_
    rintro e w' ⟨rfl, rfl⟩
    go_wp2_with fail
    go_ret
    try rw [if_pos h3]
    exact ⟨rfl, _, M3.out.e, M3.out.p, ⟨sw, _, M3.out.t, fun h => absurd (show (5 : Int) = 4 from h) (by decide), fun h => absurd (show (5 : Int) = 3 from h) (by decide)⟩⟩
  · have d3 : decide (k = 3) = false := by simp [h3]
    rw [d3]
    go_wp2_with fail
    refine (c_TOver q0).mono ?_
    rintro e w' ⟨rfl, rfl⟩
    go_wp2_with fail
    go_ret
    try rw [if_neg h3]
    exact ⟨rfl, _, M2.out.e, M2.out.p, ⟨sw, _, M2.out.t, fun _ => ⟨Y, rfl, HK.out (by omega)⟩, fun h => absurd (show (4 : Int) = 3 from h) (by decide)⟩⟩
set_option maxHeartbeats 4000000 in
set_option maxRecDepth 100000 in
/-- Line 3. -/
theorem c_TStep3 {X : Nat} {z : Tz} {w : World} {O : Om} {B : Wb} {f : Cf} {s : AW} (hP : PW w O B f s) (hX : TnAt w O X z) (hhi : ∀ j, O j ≠ 0 → j < w.heap.size) (hl : z.ln = 3) (t0 : 0 ≤ z.t) (t1 : z.t < 18446744073709551616) (n0 : 0 ≤ s.n) (n1 : s.n ≤ 4611686018427387904) :
    Calls Tryz.prog 14 #[.pointer (some ⟨X, 0, none⟩), .pointer (some ⟨B.p, 0, none⟩)] w (RP (SX 10 15) w O (.bool (tzOver (tnStep f.q (s, z)).2)) fun W G => PW W G B f (tnStep f.q (s, z)).1 ∧ TnAt W G X (tnStep f.q (s, z)).2) := by
  obtain ⟨ln, t, c, n, k⟩ := z
  dsimp only at hl t0 t1
  subst hl
  obtain ⟨sw, mv, hx, -, hsw⟩ := hX.ex
  obtain ⟨Z, rfl, hm⟩ := hsw rfl
  dsimp only at hx hm
  have HM : Hid (Me 10 15 w O w O B f s 10 X (tnCs 3 t c n (.pointer (some ⟨Z, 0, none⟩)) (.pointer mv))) := Lib.hid (Me.start hhi hP hx)
  have x0 := hx.c 0 _ rfl
  have x1 := hx.c 1 _ rfl
  have x4 := hx.c 4 _ rfl
  have HA := Lib.hid (fun W => c_As t W t0 t1)
  have hwb : 0 ≤ plWord (plNow t) 0 ∧ plWord (plNow t) 0 < 18446744073709551616 := by unfold plWord; omega
  have HL := Lib.hid (c_SwStep hP hm hhi hwb.1 hwb.2 n0 n1)
  have hst : Hid (tnStep f.q (s, ⟨3, t, c, n, k⟩) = (awNote 5 0 0 0 0 (plNow t) (awStore 2 (plWord (plNow t) 0) s), ⟨0, t, c, n, k⟩)) := Lib.hid (by unfold tnStep; rw [if_neg (show ¬ ((3 : Int) = 1) by decide), if_neg (show ¬ ((3 : Int) = 2) by decide), if_neg (show ¬ ((3 : Int) = 4) by decide), if_neg (show ¬ ((3 : Int) = 5) by decide)])
  rw [hst.out]
  clear hP hX hx hhi hsw hm hwb
  go_enter Tryz.func14, Tryz.ntmps14
  go_wp2_with fail
  refine (c_TOver x0).mono ?_
  rintro e w' ⟨rfl, rfl⟩
  go_wp2_with fail
  refine (HA.out _).mono ?_
  rintro e w' ⟨rfl, rfl⟩
  go_wp2_with fail
  refine HL.out.mono ?_
  rintro e w2 ⟨rfl, G2, e2, P2⟩
  have M2 : Hid (Me 10 15 w O w2 G2 B f (awNote 5 0 0 0 0 (plNow t) (awStore 2 (plWord (plNow t) 0) s)) 10 X (tnCs 3 t c n (.pointer (some ⟨Z, 0, none⟩)) (.pointer mv))) := Lib.hid ⟨HM.out.e.trans (e2.mono fun t _ h => by unfold SX at h ⊢; omega), P2, HM.out.t.ext e2 (by unfold SX; omega)⟩
  clear HL e2 P2 x0 x1 x4 HM
  have q0 := M2.out.t.c 0 _ rfl
  have f0 := M2.out.t.f 0
  have M3 := Lib.hid (M2.out.set (by decide) (by decide) (by decide) 0 (.int .i64 0) (by simp [tnCs]))
  have r0 := M3.out.t.c 0 _ rfl
  go_wp2_with fail
  refine (c_TOver r0).mono ?_
  rintro e w' ⟨rfl, rfl⟩
  go_wp2_with fail
  go_ret
  exact ⟨rfl, _, M3.out.e, M3.out.p, ⟨_, mv, M3.out.t, fun h => absurd (show (0 : Int) = 4 from h) (by decide), fun h => absurd (show (0 : Int) = 3 from h) (by decide)⟩⟩
set_option maxHeartbeats 4000000 in
set_option maxRecDepth 100000 in
/-- Line 5. -/
theorem c_TStep5 {X : Nat} {z : Tz} {w : World} {O : Om} {B : Wb} {f : Cf} {s : AW} (hP : PW w O B f s) (hX : TnAt w O X z) (hhi : ∀ j, O j ≠ 0 → j < w.heap.size) (hl : z.ln = 5) (t0 : 0 ≤ z.t) (t1 : z.t < 18446744073709551616) (c0 : 0 ≤ z.c) (c1 : z.c < 4096) (m0 : 0 ≤ z.n) (m1 : z.n ≤ 4611686018427387904) (n0 : 0 ≤ s.n) (n1 : s.n ≤ 4611686018427387904) :
    Calls Tryz.prog 14 #[.pointer (some ⟨X, 0, none⟩), .pointer (some ⟨B.p, 0, none⟩)] w (RP (SX 10 15) w O (.bool (tzOver (tnStep f.q (s, z)).2)) fun W G => PW W G B f (tnStep f.q (s, z)).1 ∧ TnAt W G X (tnStep f.q (s, z)).2) := by
  obtain ⟨ln, t, c, n, k⟩ := z
  dsimp only at hl t0 t1 c0 c1 m0 m1
  subst hl
  obtain ⟨sw, mv, hx, -, -⟩ := hX.ex
  dsimp only at hx
  have HM : Hid (Me 10 15 w O w O B f s 10 X (tnCs 5 t c n (.pointer sw) (.pointer mv))) := Lib.hid (Me.start hhi hP hx)
  have x0 := hx.c 0 _ rfl
  have x1 := hx.c 1 _ rfl
  have x2 := hx.c 2 _ rfl
  have p0 := hP.wo.c0
  have HA := Lib.hid (fun W => c_As t W t0 t1)
  have hw1 : IntKind.u64.wrap (c + 1) = c + 1 := by rw [IntKind.wrap_u64]; omega
  have hw2 : wrap64 (n + 1) = n + 1 := by unfold wrap64; omega
  have hw3 : IntKind.i64.wrap (n + 1) = n + 1 := by simp [IntKind.wrap, IntKind.bits, IntKind.signed]; omega
  obtain ⟨q, hq⟩ : ∃ q, q = f.q := ⟨_, rfl⟩
  have hst : Hid (tnStep f.q (s, ⟨5, t, c, n, k⟩) = (awStore 3 (c + 1) s, ⟨if n + 1 < q then 1 else 0, t, c, n + 1, k⟩)) := Lib.hid (by unfold tnStep; rw [if_neg (show ¬ ((5 : Int) = 1) by decide), if_neg (show ¬ ((5 : Int) = 2) by decide), if_neg (show ¬ ((5 : Int) = 4) by decide), if_pos rfl, hq])
  have HQ := Lib.hid hq
  rw [hst.out]
  clear hP hX hx hhi hq
  go_enter Tryz.func14, Tryz.ntmps14
  go_wp2_with fail
  refine (c_TOver x0).mono ?_
  rintro e w' ⟨rfl, rfl⟩
  go_wp2_with fail
  refine (HA.out _).mono ?_
  rintro e w' ⟨rfl, rfl⟩
  go_wp2_with fail
  go_region_held3 (fun w' => w'.cell? ⟨B.p, 0, none⟩ = some (.pointer (some ⟨B.c, 0, none⟩)) ∧ w'.cell? ⟨X, 2, none⟩ = some (.int .u64 c)) (go_keep)
    ((go_at_call 27
      refine (c_StoreP 3 (c + 1) (w := w.drew) HM.out.drew.p HM.out.drew.e.hi (by decide) (by decide) (by omega) (by omega) n0 n1).mono ?_
      rintro e w2 ⟨rfl, G2, e2, P2⟩
      have M2 := Lib.hid (HM.out.drew.world (by decide) e2 P2)
      have p02 := M2.out.p.wo.c0
      have q22 := M2.out.t.c 2 _ rfl
      clear e2 P2))
  all_goals
    clear x0 x1 x2 p0 HM
    have q3 := M2.out.t.c 3 _ rfl
    have f3 := M2.out.t.f 3
    have M3 := Lib.hid (M2.out.set (by decide) (by decide) (by decide) 3 (.int .i64 (n + 1)) (by simp [tnCs]))
    go_wp2_with fail
    obtain ⟨w3, hw⟩ : ∃ w3, w3 = w2.setCell ⟨X, 3, none⟩ (.int .i64 (n + 1)) := ⟨_, rfl⟩
    rw [← hw] at M3 ⊢
    clear hw q3 f3 p02 q22
    have r3 := M3.out.t.c 3 _ rfl
    have p6 := M3.out.p.wo.c6
    rw [← HQ.out] at p6
    by_cases hlt : n + 1 < q
    · have d : decide (n + 1 < q) = true := by simp [hlt]
      go_quiet (fail)
      have MW : Hid (Me 10 15 w O (w3.drewN nq) G2 B f (awStore 3 (c + 1) s) 10 X _) := Lib.hid (M3.out.below ⟨rfl, rfl, rfl, Nat.le_refl _, fun _ _ => rfl⟩)
      obtain ⟨w4, hw4⟩ : ∃ w4, w4 = w3.drewN nq := ⟨_, rfl⟩
      rw [← hw4] at MW ⊢
      clear hw4 r3 p6 M3
      have q0 := MW.out.t.c 0 _ rfl
      have f0 := MW.out.t.f 0
      have M5 := Lib.hid (MW.out.set (by decide) (by decide) (by decide) 0 (.int .i64 1) (by simp [tnCs]))
      have r0 := M5.out.t.c 0 _ rfl
      go_wp2_with fail
      refine (c_TOver r0).mono ?_
      rintro e w' ⟨rfl, rfl⟩
      go_wp2_with fail
      go_ret
      try rw [if_pos hlt]
      exact ⟨rfl, _, M5.out.e, M5.out.p, ⟨sw, mv, M5.out.t, fun h => absurd (show (1 : Int) = 4 from h) (by decide), fun h => absurd (show (1 : Int) = 3 from h) (by decide)⟩⟩
    · have d : decide (n + 1 < q) = false := by simp; omega
      go_quiet (fail)
      have MW : Hid (Me 10 15 w O (w3.drewN nq) G2 B f (awStore 3 (c + 1) s) 10 X _) := Lib.hid (M3.out.below ⟨rfl, rfl, rfl, Nat.le_refl _, fun _ _ => rfl⟩)
      obtain ⟨w4, hw4⟩ : ∃ w4, w4 = w3.drewN nq := ⟨_, rfl⟩
      rw [← hw4] at MW ⊢
      clear hw4 r3 p6 M3
      have q0 := MW.out.t.c 0 _ rfl
      have f0 := MW.out.t.f 0
      have M5 := Lib.hid (MW.out.set (by decide) (by decide) (by decide) 0 (.int .i64 0) (by simp [tnCs]))
      have r0 := M5.out.t.c 0 _ rfl
      go_wp2_with fail
      refine (c_TOver r0).mono ?_
      rintro e w' ⟨rfl, rfl⟩
      go_wp2_with fail
      go_ret
      try rw [if_neg hlt]
      exact ⟨rfl, _, M5.out.e, M5.out.p, ⟨sw, mv, M5.out.t, fun h => absurd (show (0 : Int) = 4 from h) (by decide), fun h => absurd (show (0 : Int) = 3 from h) (by decide)⟩⟩
end
section
open Go.RowKit Go.Shelf
set_option linter.unusedVariables false

theorem upd_bd {M : Int → Int} {a v : Int} (h : Bd M) (v0 : 0 ≤ v) (v1 : v < 18446744073709551616) : Bd (upd M a v) := by
  intro x
  unfold upd
  split
  · exact ⟨v0, v1⟩
  · exact h x
theorem upd_far {M : Int → Int} {b v : Int} (h : ∀ a, 4096 ≤ a → M a = 0) (hb : b < 4096) : ∀ a, 4096 ≤ a → upd M b v a = 0 := by
  intro a ha
  unfold upd
  rw [if_neg (by omega)]
  exact h a ha
theorem TzOk.step {q : Int} {s : AW} {z : Tz} (h : TzOk s z) (ho : tzOver z = false) : TzOk (tnStep q (s, z)).1 (tnStep q (s, z)).2 := by
  obtain ⟨ln, t, c, n, k⟩ := z
  obtain ⟨em, bd, hl, t0, t1, c0, c1, n0, n1, nw, lt, c5, k0⟩ := h
  have hne : ln ≠ 0 := by unfold tzOver at ho; simpa using ho
  dsimp only at hl t0 t1 c0 c1 n0 n1 nw lt c5 k0
  have hs := fnvSize_le (plOld t)
  have b2 := bd 2
  have b3 := bd 3
  rcases hl with rfl | rfl | rfl | rfl | rfl | rfl
  · exact absurd rfl hne
  · have e : tnStep q (s, ⟨1, t, c, n, k⟩) = (awLoad 2 s, ⟨if plNow (s.M 2) = 0 then 0 else 2, s.M 2, c, n, k⟩) := by unfold tnStep; rw [if_pos rfl]
    rw [e]
    by_cases hz : plNow (s.M 2) = 0
    · rw [if_pos hz]
      exact ⟨em, bd, .inl rfl, b2.1, b2.2, c0, c1, n0, by show n ≤ s.n + 1; omega, fun h => by simp at h, fun h => by simp at h, fun h => by simp at h, fun h => by simp at h⟩
    · rw [if_neg hz]
      exact ⟨em, bd, .inr (.inr (.inl rfl)), b2.1, b2.2, c0, c1, n0, by show n ≤ s.n + 1; omega, fun _ => hz, fun h => by simp at h, fun h => by simp at h, fun h => by simp at h⟩
  · have e : tnStep q (s, ⟨2, t, c, n, k⟩) = (awLoad 3 s, ⟨if fnvSize (plOld t) ≤ s.M 3 then 3 else 4, t, s.M 3, n, 0⟩) := by unfold tnStep; rw [if_neg (show ¬ ((2 : Int) = 1) by decide), if_pos rfl]
    rw [e]
    have hnw := nw (.inl rfl)
    by_cases hz : fnvSize (plOld t) ≤ s.M 3
    · rw [if_pos hz]
      exact ⟨em, bd, .inr (.inr (.inr (.inl rfl))), t0, t1, b3.1, b3.2, n0, by show n ≤ s.n + 1; omega, fun _ => hnw, fun h => by simp at h, fun h => by simp at h, fun h => by simp at h⟩
    · rw [if_neg hz]
      exact ⟨em, bd, .inr (.inr (.inr (.inr (.inl rfl)))), t0, t1, b3.1, b3.2, n0, by show n ≤ s.n + 1; omega, fun _ => hnw, fun _ => by show s.M 3 < fnvSize (plOld t); omega, fun h => by simp at h, fun _ => ⟨by show (0 : Int) ≤ 0; decide, by show (0 : Int) < 4; decide⟩⟩
  · have e : tnStep q (s, ⟨3, t, c, n, k⟩) = (awNote 5 0 0 0 0 (plNow t) (awStore 2 (plWord (plNow t) 0) s), ⟨0, t, c, n, k⟩) := by unfold tnStep; rw [if_neg (show ¬ ((3 : Int) = 1) by decide), if_neg (show ¬ ((3 : Int) = 2) by decide), if_neg (show ¬ ((3 : Int) = 4) by decide), if_neg (show ¬ ((3 : Int) = 5) by decide)]
    rw [e]
    have hwb : 0 ≤ plWord (plNow t) 0 ∧ plWord (plNow t) 0 < 18446744073709551616 := by unfold plWord; omega
    exact ⟨upd_far em (by decide), upd_bd bd hwb.1 hwb.2, .inl rfl, t0, t1, c0, c1, n0, by show n ≤ s.n + 1; omega, fun h => by simp at h, fun h => by simp at h, fun h => by simp at h, fun h => by simp at h⟩
  · have e : tnStep q (s, ⟨4, t, c, n, k⟩) = (awLoad (plTags (plOld t) c) s, ⟨if k = 3 then 5 else 4, t, c, n, k + 1⟩) := by unfold tnStep; rw [if_neg (show ¬ ((4 : Int) = 1) by decide), if_neg (show ¬ ((4 : Int) = 2) by decide), if_pos rfl]
    rw [e]
    have hnw := nw (.inr (.inr rfl))
    have hlt := lt rfl
    have hk := k0 rfl
    by_cases hz : k = 3
    · rw [if_pos hz]
      exact ⟨em, bd, .inr (.inr (.inr (.inr (.inr rfl)))), t0, t1, c0, c1, n0, by show n ≤ s.n + 1; omega, fun h => by simp at h, fun h => by simp at h, fun _ => by show c < 4096; omega, fun h => by simp at h⟩
    · rw [if_neg hz]
      exact ⟨em, bd, .inr (.inr (.inr (.inr (.inl rfl)))), t0, t1, c0, c1, n0, by show n ≤ s.n + 1; omega, fun _ => hnw, fun _ => hlt, fun h => by simp at h, fun _ => ⟨by show 0 ≤ k + 1; omega, by show k + 1 < 4; omega⟩⟩
  · have e : tnStep q (s, ⟨5, t, c, n, k⟩) = (awStore 3 (c + 1) s, ⟨if n + 1 < q then 1 else 0, t, c, n + 1, k⟩) := by unfold tnStep; rw [if_neg (show ¬ ((5 : Int) = 1) by decide), if_neg (show ¬ ((5 : Int) = 2) by decide), if_neg (show ¬ ((5 : Int) = 4) by decide), if_pos rfl]
    rw [e]
    have hc5 := c5 rfl
    by_cases hz : n + 1 < q
    · rw [if_pos hz]
      exact ⟨upd_far em (by decide), upd_bd bd (by omega) (by omega), .inr (.inl rfl), t0, t1, c0, c1, by show 0 ≤ n + 1; omega, by show n + 1 ≤ s.n + 1; omega, fun h => by simp at h, fun h => by simp at h, fun h => by simp at h, fun h => by simp at h⟩
    · rw [if_neg hz]
      exact ⟨upd_far em (by decide), upd_bd bd (by omega) (by omega), .inl rfl, t0, t1, c0, c1, by show 0 ≤ n + 1; omega, by show n + 1 ≤ s.n + 1; omega, fun h => by simp at h, fun h => by simp at h, fun h => by simp at h, fun h => by simp at h⟩
theorem tnStep_n (q : Int) (z : AW × Tz) : (tnStep q z).1.n ≤ z.1.n + 1 ∧ z.1.n ≤ (tnStep q z).1.n := by
  unfold tnStep
  split
  · exact ⟨Int.le_refl _, by show z.1.n ≤ z.1.n + 1; omega⟩
  · split
    · exact ⟨Int.le_refl _, by show z.1.n ≤ z.1.n + 1; omega⟩
    · split
      · exact ⟨Int.le_refl _, by show z.1.n ≤ z.1.n + 1; omega⟩
      · split
        · exact ⟨Int.le_refl _, by show z.1.n ≤ z.1.n + 1; omega⟩
        · exact ⟨Int.le_refl _, by show z.1.n ≤ z.1.n + 1; omega⟩
theorem TzOk.start {s : AW} (em : ∀ a, 4096 ≤ a → s.M a = 0) (bd : Bd s.M) (n0 : 0 ≤ s.n) : TzOk s tzNew :=
  ⟨em, bd, .inr (.inl rfl), by decide, by decide, by decide, by decide, by decide, n0, fun h => absurd h (by decide), fun h => absurd h (by decide), fun h => absurd h (by decide), fun h => absurd h (by decide)⟩
theorem m_TOver (X : Nat) : ∀ W, (method 454 47 (.pointer (some ⟨X, 0, none⟩)) "Over").run Tryz.prog W = .ok (24, .pointer (some ⟨X, 0, none⟩)) W := fun W => by kernel_rfl
theorem m_TStep (X : Nat) : ∀ W, (method 454 47 (.pointer (some ⟨X, 0, none⟩)) "Step").run Tryz.prog W = .ok (14, .pointer (some ⟨X, 0, none⟩)) W := fun W => by kernel_rfl
theorem c_TStep {X : Nat} {z : Tz} {w : World} {O : Om} {B : Wb} {f : Cf} {s : AW} (hP : PW w O B f s) (hX : TnAt w O X z) (hz : TzOk s z) (ho : tzOver z = false) (hhi : ∀ j, O j ≠ 0 → j < w.heap.size) (n0 : 0 ≤ s.n) (n1 : s.n ≤ 4611686018427387904) :
    Calls Tryz.prog 14 #[.pointer (some ⟨X, 0, none⟩), .pointer (some ⟨B.p, 0, none⟩)] w (RP (SX 10 15) w O (.bool (tzOver (tnStep f.q (s, z)).2)) fun W G => PW W G B f (tnStep f.q (s, z)).1 ∧ TnAt W G X (tnStep f.q (s, z)).2) := by
  rcases hz.ln with h | h | h | h | h | h
  · exfalso; unfold tzOver at ho; rw [h] at ho; simp at ho
  · exact (c_TStep1 hP hX hhi h hz.t0 hz.t1 n0 n1).mono fun e w' hp => hp.mono (fun t _ k => SX.mono (Nat.le_refl _) (by decide) k) fun _ _ k => k
  · exact c_TStep2 hP hX hhi h hz.t0 hz.t1 (hz.nw (.inl h)) n0 n1
  · exact c_TStep3 hP hX hhi h hz.t0 hz.t1 n0 n1
  · exact c_TStep4 hP hX hhi h hz.t0 hz.t1 hz.c0 (hz.lt h) (hz.k0 h).1 (hz.k0 h).2 hz.em n0 n1
  · exact c_TStep5 hP hX hhi h hz.t0 hz.t1 hz.c0 (hz.c5 h) hz.n0 (by have := hz.n1; omega) n0 n1
def tnRun (q : Int) (m : Nat) (s : AW) : Nat × (AW × Tz) := runN tzOver (tnStep q) m (s, tzNew)
set_option maxHeartbeats 1000000 in
set_option maxRecDepth 100000 in
theorem c_TRun {X : Nat} {w : World} {O : Om} {B : Wb} {f : Cf} {s : AW} (m : Nat) (hP : PW w O B f s) (hX : TnAt w O X tzNew) (hz : TzOk s tzNew) (hhi : ∀ j, O j ≠ 0 → j < w.heap.size) (n0 : 0 ≤ s.n) (n1 : s.n + m ≤ 4611686018427387904) :
    Calls Tryz.prog 26 #[.pointer (some ⟨B.p, 0, none⟩), .iface 47 (.pointer (some ⟨X, 0, none⟩)), .int .i64 m] w (RP (SX 10 15) w O (.int .i64 (tnRun f.q m s).1) fun W G => PW W G B f (tnRun f.q m s).2.1 ∧ TzOk (tnRun f.q m s).2.1 (tnRun f.q m s).2.2) := by
  refine (c_RunG tzOver (tnStep f.q) (SX 10 15) (fun W G z => PW W G B f z.1 ∧ TnAt W G X z.2 ∧ TzOk z.1 z.2) B.p X 47 24 14 (m_TOver _) (m_TStep _)
    (run_enter Tryz.func24 (by kernel_rfl) (by kernel_rfl)) (run_enter Tryz.func14 (by kernel_rfl) (by kernel_rfl)) ?_ ?_ (fun z => tnStep_n f.q z) w O m (s, tzNew) ⟨hP, hX, hz⟩ hhi n0 n1).mono ?_
  · rintro W G ⟨s1, y⟩ ⟨h1, h2, h3⟩
    obtain ⟨sw, mv, hx, -, -⟩ := h2.ex
    exact c_TOver (hx.c 0 _ rfl)
  · rintro W G ⟨s1, y⟩ ⟨h1, h2, h3⟩ ho hh q0 q1
    refine (c_TStep h1 h2 h3 ho hh q0 q1).mono ?_
    intro e w' hp
    exact ⟨_, hp.mono (fun _ _ h => h) fun W1 G1 h => ⟨h.1, h.2, TzOk.step h3 ho⟩⟩
  · intro e w' hp
    exact hp.mono (fun _ _ h => h) fun W1 G1 h => ⟨h.1, h.2.2⟩
def q1 : Nat × (AW × Tz) := tnRun 1 99 (aw0 1)
def q2 : Nat × (AW × Tz) := tnRun 1 99 (awStore 2 (plWord 1 2) q1.2.1)
def q3 : Nat × (AW × Tz) := tnRun 1 99 q2.2.1
def q4 : Nat × (AW × Tz) := tnRun 1 99 q3.2.1
theorem q_num : q1.1 = 1 ∧ q2.1 = 7 ∧ q3.1 = 7 ∧ q4.1 = 3 := by decide
theorem q_M : q2.2.1.M 3 = 1 ∧ q3.2.1.M 3 = 2 ∧ q4.2.1.M 2 = 2 := by decide
theorem q_n : (0 ≤ q1.2.1.n ∧ q1.2.1.n ≤ 1000) ∧ (0 ≤ q2.2.1.n ∧ q2.2.1.n ≤ 1000) ∧ (0 ≤ q3.2.1.n ∧ q3.2.1.n ≤ 1000) := by decide
end
section
open Go.RowKit Go.Shelf
set_option linter.unusedVariables false

theorem aw0_em : ∀ a, 4096 ≤ a → (aw0 1).M a = 0 := upd_far (fun _ _ => rfl) (by decide)
/-- What stands between two Turns. -/
structure Lv (w0 w : World) (O : Om) (B : Wb) (s : AW) : Prop where
  en : Env w0 O w
  p : PW w O B ⟨1, 8, 3, 1, 16⟩ s
  em : ∀ a, 4096 ≤ a → s.M a = 0
  n0 : 0 ≤ s.n
  n1 : s.n ≤ 1000
set_option maxHeartbeats 1000000 in
set_option maxRecDepth 100000 in
theorem Lv.turn {w0 w : World} {O : Om} {B : Wb} {s : AW} (h : Lv w0 w O B s) : Calls Tryz.prog 13 #[] w fun e w' => ∃ X G, e = .returned (.pointer (some ⟨X, 0, none⟩)) ∧ Lv w0 w' G B s ∧ TnAt w' G X tzNew := by
  refine (c_NewTurn h.en.hi).mono ?_
  rintro e w' ⟨X, rfl, G, e1, t1⟩
  exact ⟨X, G, rfl, ⟨h.en.ext e1, h.p.ext e1 (by decide) (by decide) (by decide) (by decide), h.em, h.n0, h.n1⟩, t1⟩
theorem Lv.run {w0 w : World} {O : Om} {B : Wb} {s s' : AW} {X n : Nat} (h : Lv w0 w O B s) (t : TnAt w O X tzNew) (hr : (tnRun 1 99 s).1 = n) (hs : (tnRun 1 99 s).2.1 = s') (q0 : 0 ≤ s'.n) (q1 : s'.n ≤ 1000) :
    Calls Tryz.prog 26 #[.pointer (some ⟨B.p, 0, none⟩), .iface 47 (.pointer (some ⟨X, 0, none⟩)), .int .i64 99] w fun e w' => ∃ G, e = .returned (.int .i64 n) ∧ Lv w0 w' G B s' := by
  subst hr hs
  refine (c_TRun 99 h.p t (TzOk.start h.em h.p.bd h.n0) h.en.hi h.n0 (by have := h.n1; omega)).mono ?_
  rintro e w' ⟨rfl, G, e1, p1, z1⟩
  exact ⟨G, rfl, ⟨h.en.ext e1, p1, z1.em, q0, q1⟩⟩
set_option maxHeartbeats 4000000 in
set_option maxRecDepth 100000 in
theorem c_lives21 (w : World) : Calls Tryz.prog 7 #[] w fun e w' => e = .returned (.bool true) ∧ Below w.heap.size w w' := by
  have HQ := Lib.hid q_num
  have HM := Lib.hid q_M
  have HN := Lib.hid q_n
  go_enter Tryz.func7, Tryz.ntmps7
  go_wp2_with fail
  refine (c_WorldP 1 w (by decide) (by decide)).mono ?_
  rintro e w1 ⟨B, O1, rfl, hP, hE⟩
  have L1 : Hid (Lv w w1 O1 B (aw0 1)) := Lib.hid ⟨hE, hP, aw0_em, by decide, by decide⟩
  clear hP hE
  go_wp2_with fail
  refine L1.out.turn.mono ?_
  rintro e w2 ⟨X2, O2, rfl, l2, t2⟩
  have R2 := Lib.hid (l2.run t2 (n := 1) (s' := q1.2.1) HQ.out.1 rfl HN.out.1.1 HN.out.1.2)
  clear l2 t2
  go_wp2_with fail
  refine R2.out.mono ?_
  rintro e w3 ⟨O3, rfl, l3⟩
  have L3 := Lib.hid l3
  have p0 := l3.p.wo.c0
  clear l3 R2
  go_wp2_with fail
  go_region_held3 (fun w' => w'.cell? ⟨B.p, 0, none⟩ = some (.pointer (some ⟨B.c, 0, none⟩))) (go_keep)
    ((first
      | (go_at_call 28
         refine (c_Word 1 2 _).mono ?_
         rintro e w' ⟨rfl, rfl⟩)
      | (go_at_call 27
         refine (c_StoreP 2 (plWord 1 2) (w := w3.drew) (L3.out.p.below L3.out.en.hi (drew_below w3)) L3.out.en.hi (by decide) (by decide) (by decide) (by decide) L3.out.n0 (by have := L3.out.n1; omega)).mono ?_
         rintro e w4 ⟨rfl, O4, e4, p4⟩
         have L4 : Hid (Lv w w4 O4 B (awStore 2 (plWord 1 2) q1.2.1)) := Lib.hid ⟨(L3.out.en.ext (Ext.refl (S := SW) L3.out.en.hi).drew).ext e4, p4, upd_far L3.out.em (by decide), by have := HN.out.1.1; show 0 ≤ q1.2.1.n + 1; omega, by show q1.2.1.n + 1 ≤ 1000; decide⟩
         have p04 := L4.out.p.wo.c0
         clear e4 p4)))
  all_goals
    clear p0 p04
    go_wp2_with fail
    refine L4.out.turn.mono ?_
    rintro e w5 ⟨X5, O5, rfl, l5, t5⟩
    have R5 := Lib.hid (l5.run t5 (n := 7) (s' := q2.2.1) HQ.out.2.1 rfl HN.out.2.1.1 HN.out.2.1.2)
    clear l5 t5
    go_wp2_with fail
    refine R5.out.mono ?_
    rintro e w6 ⟨O6, rfl, l6⟩
    have L6 := Lib.hid l6
    have p6 := l6.p.wo.c0
    clear l6 R5
    go_wp2_with fail
    refine (c_Peek (F := fun j => O6 j = 2) 3 L6.out.p.ce (by decide) (by decide)).mono ?_
    rintro e w' ⟨rfl, rfl⟩
    rw [HM.out.1]
    go_wp2_with fail
    refine L6.out.turn.mono ?_
    rintro e w7 ⟨X7, O7, rfl, l7, t7⟩
    have R7 := Lib.hid (l7.run t7 (n := 7) (s' := q3.2.1) HQ.out.2.2.1 rfl HN.out.2.2.1 HN.out.2.2.2)
    clear l7 t7 p6
    go_wp2_with fail
    refine R7.out.mono ?_
    rintro e w8 ⟨O8, rfl, l8⟩
    have L8 := Lib.hid l8
    have p8 := l8.p.wo.c0
    clear l8 R7
    go_wp2_with fail
    refine (c_Peek (F := fun j => O8 j = 2) 3 L8.out.p.ce (by decide) (by decide)).mono ?_
    rintro e w' ⟨rfl, rfl⟩
    rw [HM.out.2.1]
    go_wp2_with fail
    refine L8.out.turn.mono ?_
    rintro e w9 ⟨X9, O9, rfl, l9, t9⟩
    have R9 := Lib.hid (l9.run t9 (n := 3) (s' := q4.2.1) HQ.out.2.2.2 rfl (by decide) (by decide))
    clear l9 t9 p8
    go_wp2_with fail
    refine R9.out.mono ?_
    rintro e w10 ⟨O10, rfl, l10⟩
    have L10 := Lib.hid l10
    have p10 := l10.p.wo.c0
    clear l10 R9
    go_wp2_with fail
    refine (c_Peek (F := fun j => O10 j = 2) 2 L10.out.p.ce (by decide) (by decide)).mono ?_
    rintro e w' ⟨rfl, rfl⟩
    rw [HM.out.2.2]
    go_wp2_with fail
    go_ret
    exact ⟨rfl, L10.out.en.bel⟩
end
end Go.Proofs.YtkamcgcpfnkodaaGreat
