/- Layer 21: a Turn, while all that it moves is empty. -/
import Derived.Test.YtkamcgcpfnkodaaGreatTn4
namespace Go.Proofs.YtkamcgcpfnkodaaGreat
open Go.RowKit Go.Shelf
set_option linter.unusedVariables false

structure Tz where
  ln : Int
  t : Int
  c : Int
  n : Int
  k : Int
def tnCs (ln t c n : Int) (sw mv : Value) : List Value := [.int .i64 ln, .int .u64 t, .int .u64 c, .int .i64 n, sw, mv]
/-- A Turn in block X. -/
structure TnAt (W : World) (G : Om) (X : Nat) (z : Tz) : Prop where
  ex : ∃ sw mv : Option Addr, Ob W G 10 X (tnCs z.ln z.t z.c z.n (.pointer sw) (.pointer mv)) ∧ (z.ln = 4 → ∃ Y, mv = some ⟨Y, 0, none⟩ ∧ MvAt W G Y (plNow z.t) (plOld z.t) z.c z.k) ∧ (z.ln = 3 → ∃ Z, sw = some ⟨Z, 0, none⟩ ∧ SwAt W G Z (plWord (plNow z.t) 0) (plNow z.t))
def tzNew : Tz := ⟨1, 0, 0, 0, 0⟩
def tzOver (z : Tz) : Bool := z.ln == 0
def tnStep (q : Int) (z : AW × Tz) : AW × Tz :=
  if z.2.ln = 1 then (awLoad 2 z.1, ⟨if plNow (z.1.M 2) = 0 then 0 else 2, z.1.M 2, z.2.c, z.2.n, z.2.k⟩)
  else if z.2.ln = 2 then (awLoad 3 z.1, ⟨if fnvSize (plOld z.2.t) ≤ z.1.M 3 then 3 else 4, z.2.t, z.1.M 3, z.2.n, 0⟩)
  else if z.2.ln = 4 then (awLoad (plTags (plOld z.2.t) z.2.c) z.1, ⟨if z.2.k = 3 then 5 else 4, z.2.t, z.2.c, z.2.n, z.2.k + 1⟩)
  else if z.2.ln = 5 then (awStore 3 (z.2.c + 1) z.1, ⟨if z.2.n + 1 < q then 1 else 0, z.2.t, z.2.c, z.2.n + 1, z.2.k⟩)
  else (awNote 5 0 0 0 0 (plNow z.2.t) (awStore 2 (plWord (plNow z.2.t) 0) z.1), ⟨0, z.2.t, z.2.c, z.2.n, z.2.k⟩)
/-- What it wants: all tags are 0. -/
structure TzOk (s : AW) (z : Tz) : Prop where
  em : ∀ a, 4096 ≤ a → s.M a = 0
  bd : Bd s.M
  ln : z.ln = 0 ∨ z.ln = 1 ∨ z.ln = 2 ∨ z.ln = 3 ∨ z.ln = 4 ∨ z.ln = 5
  t0 : 0 ≤ z.t
  t1 : z.t < 18446744073709551616
  c0 : 0 ≤ z.c
  c1 : z.c < 18446744073709551616
  n0 : 0 ≤ z.n
  n1 : z.n ≤ s.n
  nw : z.ln = 2 ∨ z.ln = 3 ∨ z.ln = 4 → plNow z.t ≠ 0
  lt : z.ln = 4 → z.c < fnvSize (plOld z.t)
  c5 : z.ln = 5 → z.c < 4096
  k0 : z.ln = 4 → 0 ≤ z.k ∧ z.k < 4
theorem c_TOver {X : Nat} {ln : Int} {w : World} (h : w.cell? ⟨X, 0, none⟩ = some (.int .i64 ln)) : Calls Tryz.prog 24 #[.pointer (some ⟨X, 0, none⟩)] w fun e w' => e = .returned (.bool (ln == 0)) ∧ w = w' := by
  go_enter Tryz.func24, Tryz.ntmps24
  go_wp2
  go_ret
  exact ⟨rfl, rfl⟩
theorem c_NewTurn {w : World} {O : Om} (hhi : ∀ j, O j ≠ 0 → j < w.heap.size) : Calls Tryz.prog 13 #[] w fun e w' => ∃ X, RP (fun t => t = 10) w O (.pointer (some ⟨X, 0, none⟩)) (fun W G => TnAt W G X tzNew) e w' := by
  obtain ⟨O1, e1, x1, -⟩ := alloc_ob hhi 10 (tnCs 1 0 0 0 (.pointer none) (.pointer none)).toArray 75 w.heap.size rfl
  go_enter Tryz.func13, Tryz.ntmps13
  go_wp2
  go_ret
  exact ⟨w.heap.size, rfl, O1, e1, ⟨none, none, x1, fun h => absurd h (by decide), fun h => absurd h (by decide)⟩⟩
set_option maxHeartbeats 4000000 in
set_option maxRecDepth 100000 in
/-- Line 1. -/
theorem c_TStep1 {X : Nat} {z : Tz} {w : World} {O : Om} {B : Wb} {f : Cf} {s : AW} (hP : PW w O B f s) (hX : TnAt w O X z) (hhi : ∀ j, O j ≠ 0 → j < w.heap.size) (hl : z.ln = 1) (t0 : 0 ≤ z.t) (t1 : z.t < 18446744073709551616) (n0 : 0 ≤ s.n) (n1 : s.n ≤ 4611686018427387904) :
    Calls Tryz.prog 14 #[.pointer (some ⟨X, 0, none⟩), .pointer (some ⟨B.p, 0, none⟩)] w (RP (SX 10 10) w O (.bool (tzOver (tnStep f.q (s, z)).2)) fun W G => PW W G B f (tnStep f.q (s, z)).1 ∧ TnAt W G X (tnStep f.q (s, z)).2) := by
  obtain ⟨ln, t, c, n, k⟩ := z
  dsimp only at hl t0 t1
  subst hl
  obtain ⟨sw, mv, hx, -, -⟩ := hX.ex
  dsimp only at hx
  have HM : Hid (Me 10 10 w O w O B f s 10 X (tnCs 1 t c n (.pointer sw) (.pointer mv))) := Lib.hid (Me.start hhi hP hx)
  have x0 := hx.c 0 _ rfl
  have x1 := hx.c 1 _ rfl
  have p0 := hP.wo.c0
  have hbd := Lib.hid (hP.bd 2)
  have HA := Lib.hid (fun W => c_As t W t0 t1)
  have HA2 := Lib.hid (fun W => c_As (s.M 2) W hbd.out.1 hbd.out.2)
  have HL := Lib.hid (c_LoadP 2 hP hhi (by decide) (by decide) n0 n1)
  have hst : Hid (tnStep f.q (s, ⟨1, t, c, n, k⟩) = (awLoad 2 s, ⟨if plNow (s.M 2) = 0 then 0 else 2, s.M 2, c, n, k⟩)) := Lib.hid (by unfold tnStep; rw [if_pos rfl])
  rw [hst.out]
  clear hP hX hx hhi
  go_enter Tryz.func14, Tryz.ntmps14
  go_wp2_with fail
  refine (c_TOver x0).mono ?_
  rintro e w' ⟨rfl, rfl⟩
  go_wp2_with fail
  refine (HA.out _).mono ?_
  rintro e w' ⟨rfl, rfl⟩
  go_wp2_with fail
  refine HL.out.mono ?_
  rintro e w2 ⟨rfl, G2, e2, P2⟩
  have M2 := HM.out.world (by decide) e2 P2
  have q1 := M2.t.c 1 _ rfl
  have f1 := M2.t.f 1
  have M3 := Lib.hid (M2.set (by decide) (by decide) (by decide) 1 (.int .u64 (s.M 2)) (by simp [tnCs]))
  obtain ⟨w3, hw3⟩ : ∃ w3, w3 = w2.setCell ⟨X, 1, none⟩ (.int .u64 (s.M 2)) := ⟨_, rfl⟩
  clear HL e2 P2 M2 x0 x1 p0 HM
  go_wp2_with fail
  rw [← hw3] at M3 ⊢
  clear q1 f1 hw3
  have q0 := M3.out.t.c 0 _ rfl
  have q1 := M3.out.t.c 1 _ rfl
  have f0 := M3.out.t.f 0
  go_wp2_with fail
  refine (HA2.out _).mono ?_
  rintro e w' ⟨rfl, rfl⟩
  by_cases hz : plNow (s.M 2) = 0
  · have dz : (plNow (s.M 2) == 0) = true := by simp [hz]
    have M4 := Lib.hid (M3.out.set (by decide) (by decide) (by decide) 0 (.int .i64 0) (by simp [tnCs]))
    have r0 := M4.out.t.c 0 _ rfl
    go_wp2_with fail
    refine (c_TOver r0).mono ?_
    rintro e w' ⟨rfl, rfl⟩
    go_wp2_with fail
    go_ret
    try rw [if_pos hz]
    exact ⟨rfl, _, M4.out.e, M4.out.p, ⟨sw, mv, M4.out.t, fun h => absurd (show (0 : Int) = 4 from h) (by decide), fun h => absurd (show (0 : Int) = 3 from h) (by decide)⟩⟩
  · have dz : (plNow (s.M 2) == 0) = false := by simp [hz]
    have M4 := Lib.hid (M3.out.set (by decide) (by decide) (by decide) 0 (.int .i64 2) (by simp [tnCs]))
    have r0 := M4.out.t.c 0 _ rfl
    go_wp2_with fail
    refine (c_TOver r0).mono ?_
    rintro e w' ⟨rfl, rfl⟩
    go_wp2_with fail
    go_ret
    try rw [if_neg hz]
    exact ⟨rfl, _, M4.out.e, M4.out.p, ⟨sw, mv, M4.out.t, fun h => absurd (show (2 : Int) = 4 from h) (by decide), fun h => absurd (show (2 : Int) = 3 from h) (by decide)⟩⟩
theorem fnvSize_le (b : Int) : 0 ≤ fnvSize b ∧ fnvSize b ≤ 4096 := fnvSize_bd b
set_option maxHeartbeats 4000000 in
set_option maxRecDepth 100000 in
/-- Line 2. -/
theorem c_TStep2 {X : Nat} {z : Tz} {w : World} {O : Om} {B : Wb} {f : Cf} {s : AW} (hP : PW w O B f s) (hX : TnAt w O X z) (hhi : ∀ j, O j ≠ 0 → j < w.heap.size) (hl : z.ln = 2) (t0 : 0 ≤ z.t) (t1 : z.t < 18446744073709551616) (hn : plNow z.t ≠ 0) (n0 : 0 ≤ s.n) (n1 : s.n ≤ 4611686018427387904) :
    Calls Tryz.prog 14 #[.pointer (some ⟨X, 0, none⟩), .pointer (some ⟨B.p, 0, none⟩)] w (RP (SX 10 15) w O (.bool (tzOver (tnStep f.q (s, z)).2)) fun W G => PW W G B f (tnStep f.q (s, z)).1 ∧ TnAt W G X (tnStep f.q (s, z)).2) := by
  obtain ⟨ln, t, c, n, k⟩ := z
  dsimp only at hl t0 t1 hn
  subst hl
  obtain ⟨sw, mv, hx, -, -⟩ := hX.ex
  dsimp only at hx
  have HM : Hid (Me 10 15 w O w O B f s 10 X (tnCs 2 t c n (.pointer sw) (.pointer mv))) := Lib.hid (Me.start hhi hP hx)
  have x0 := hx.c 0 _ rfl
  have x1 := hx.c 1 _ rfl
  have p0 := hP.wo.c0
  have hbd := Lib.hid (hP.bd 3)
  obtain ⟨o, ho⟩ : ∃ o, o = plOld t := ⟨_, rfl⟩
  obtain ⟨nw, hnw⟩ : ∃ nw, nw = plNow t := ⟨_, rfl⟩
  have hob : -9223372036854775808 ≤ o ∧ o ≤ 9223372036854775807 := by rw [ho]; unfold plOld; split <;> omega
  have HOB := Lib.hid hob
  have HA := Lib.hid (fun W => c_As t W t0 t1)
  rw [← ho, ← hnw] at HA
  have HL := Lib.hid (c_LoadP 3 hP hhi (by decide) (by decide) n0 n1)
  obtain ⟨c', hc'⟩ : ∃ c', c' = s.M 3 := ⟨_, rfl⟩
  rw [← hc'] at HL hbd
  obtain ⟨sz, hsz⟩ : ∃ sz, sz = fnvSize o := ⟨_, rfl⟩
  have hszb : 0 ≤ sz ∧ sz ≤ 4096 := by rw [hsz]; exact fnvSize_le o
  have hst : Hid (tnStep f.q (s, ⟨2, t, c, n, k⟩) = (awLoad 3 s, ⟨if sz ≤ c' then 3 else 4, t, c', n, 0⟩)) := Lib.hid (by unfold tnStep; rw [if_neg (show ¬ ((2 : Int) = 1) by decide), if_pos rfl, hsz, ho, hc'])
  have HSZ := Lib.hid (fun W => c_Size o W hob.1 hob.2)
  rw [← hsz] at HSZ
  have HSZ2 := Lib.hid hsz
  have HO := Lib.hid ho
  have HNW := Lib.hid hnw
  have HN := Lib.hid hn
  rw [hst.out]
  have hw1 : IntKind.u64.wrap sz = sz := by rw [IntKind.wrap_u64]; omega
  clear hP hX hx hhi hob ho hnw hc' hsz hn
  go_enter Tryz.func14, Tryz.ntmps14
  go_wp2_with fail
  refine (c_TOver x0).mono ?_
  rintro e w' ⟨rfl, rfl⟩
  go_wp2_with fail
  refine (HA.out _).mono ?_
  rintro e w' ⟨rfl, rfl⟩
  go_wp2_with fail
  refine HL.out.mono ?_
  rintro e w2 ⟨rfl, G2, e2, P2⟩
  have M2 := HM.out.world (by decide) e2 P2
  have q2 := M2.t.c 2 _ rfl
  have f2 := M2.t.f 2
  have M3 := Lib.hid (M2.set (by decide) (by decide) (by decide) 2 (.int .u64 c') (by simp [tnCs]))
  obtain ⟨w3, hw3⟩ : ∃ w3, w3 = w2.setCell ⟨X, 2, none⟩ (.int .u64 c') := ⟨_, rfl⟩
  clear HL e2 P2 M2 x0 x1 p0 HM
  go_wp2_with fail
  rw [← hw3] at M3 ⊢
  clear q2 f2 hw3
  have q0 := M3.out.t.c 0 _ rfl
  have q1 := M3.out.t.c 1 _ rfl
  have q2 := M3.out.t.c 2 _ rfl
  have q4 := M3.out.t.c 4 _ rfl
  have q5 := M3.out.t.c 5 _ rfl
  have f0 := M3.out.t.f 0
  have f4 := M3.out.t.f 4
  have f5 := M3.out.t.f 5
  have hXl := M3.out.t.lt
  by_cases hz : sz ≤ c'
  · have dz : decide (sz ≤ c') = true := by simp [hz]
    go_quiet ((go_at_call 37; exact quietS (HSZ.out _)))
    have MW : Hid (Me 10 15 w O (w3.drewN nq) G2 B f (awLoad 3 s) 10 X ((tnCs 2 t c n (.pointer sw) (.pointer mv)).set 2 (.int .u64 c'))) := Lib.hid (M3.out.below ⟨rfl, rfl, rfl, Nat.le_refl _, fun _ _ => rfl⟩)
    obtain ⟨w4, hw4⟩ : ∃ w4, w4 = w3.drewN nq := ⟨_, rfl⟩
    rw [← hw4] at MW ⊢
    clear hw4 q0 q1 q2 q4 q5 f0 f4 f5 M3 hXl
    have q1 := MW.out.t.c 1 _ rfl
    go_wp2_with fail
    refine (c_NewSwap t MW.out.e.hi t0 t1 HN.out).mono ?_
    rintro e w5 ⟨Z, rfl, G5, e5, sw5⟩
    have M5 : Me 10 15 w O w5 G5 B f (awLoad 3 s) 10 X _ := ⟨MW.out.e.trans (e5.mono fun t _ h => .inr ⟨by have := h.1; omega, h.2⟩), MW.out.p.ext e5 (fun h => absurd h.1 (by decide)) (fun h => absurd h.1 (by decide)) (fun h => absurd h.1 (by decide)) (fun h => absurd h.1 (by decide)), MW.out.t.ext e5 (fun h => absurd h.1 (by decide))⟩
    have r0 := M5.t.c 0 _ rfl
    have r4 := M5.t.c 4 _ rfl
    have g0 := M5.t.f 0
    have g4 := M5.t.f 4
    have hl5 := M5.t.lt
    have s1 := ext_set (j := 4) (v := .pointer (some ⟨Z, 0, none⟩)) M5.e.hi M5.t (by decide)
    have M6 := M5.set (by decide) (by decide) (by decide) 4 (.pointer (some ⟨Z, 0, none⟩)) (by simp [tnCs])
    have s2 := ext_set (j := 0) (v := .int .i64 3) M6.e.hi M6.t (by decide)
    have M7 := Lib.hid (M6.set (by decide) (by decide) (by decide) 0 (.int .i64 3) (by simp [tnCs]))
    have SW7 := Lib.hid ((sw5.ext s1 (by decide) (by decide)).ext s2 (by decide) (by decide))
    have z0 := M7.out.t.c 0 _ rfl
    clear e5 sw5 M5 s1 M6 s2 q1
    go_wp2_with fail
    refine (c_TOver z0).mono ?_
    rintro e w' ⟨rfl, rfl⟩
    go_wp2_with fail
    go_ret
    try rw [if_pos hz]
    exact ⟨rfl, _, M7.out.e, M7.out.p, ⟨some ⟨Z, 0, none⟩, mv, M7.out.t, fun h => absurd (show (3 : Int) = 4 from h) (by decide), fun _ => ⟨Z, rfl, SW7.out⟩⟩⟩
  · have dz : decide (sz ≤ c') = false := by simp; omega
    have hcb := hbd.out
    have h64 : wrap64 c' = c' := by unfold wrap64; omega
    have hi64 : IntKind.i64.wrap c' = c' := by simp [IntKind.wrap, IntKind.bits, IntKind.signed]; omega
    have hlt : c' < fnvSize (plOld t) := by rw [← HO.out]; have := HSZ2.out; omega
    have HLT := Lib.hid hlt
    go_quiet ((go_at_call 37; exact quietS (HSZ.out _)))
    have MW : Hid (Me 10 15 w O (w3.drewN nq) G2 B f (awLoad 3 s) 10 X ((tnCs 2 t c n (.pointer sw) (.pointer mv)).set 2 (.int .u64 c'))) := Lib.hid (M3.out.below ⟨rfl, rfl, rfl, Nat.le_refl _, fun _ _ => rfl⟩)
    obtain ⟨w4, hw4⟩ : ∃ w4, w4 = w3.drewN nq := ⟨_, rfl⟩
    rw [← hw4] at MW ⊢
    clear hw4 q0 q1 q2 q4 q5 f0 f4 f5 M3 hXl hcb hlt
    have q1 := MW.out.t.c 1 _ rfl
    have q2 := MW.out.t.c 2 _ rfl
    go_wp2_with fail
    go_region_held3 (fun w' => w'.cell? ⟨X, 1, none⟩ = some (.int .u64 t) ∧ w'.cell? ⟨X, 2, none⟩ = some (.int .u64 c')) (go_keep)
      ((go_at_call 17
        refine (c_NewMove t c' (w := w4.drew) MW.out.drew.e.hi t0 t1 HN.out hbd.out.1 HLT.out).mono ?_
        rintro e w5 ⟨Y, rfl, G5, e5, mv5⟩
        have M5 : Me 10 15 w O w5 G5 B f (awLoad 3 s) 10 X _ := ⟨MW.out.drew.e.trans (e5.mono fun t _ h => .inr ⟨by have := h.1; omega, by have := h.2; omega⟩), MW.out.drew.p.ext e5 (fun h => absurd h.1 (by decide)) (fun h => absurd h.1 (by decide)) (fun h => absurd h.1 (by decide)) (fun h => absurd h.1 (by decide)), MW.out.drew.t.ext e5 (fun h => absurd h.1 (by decide))⟩
        have r0 := M5.t.c 0 _ rfl
        have r5 := M5.t.c 5 _ rfl
        have r1 := M5.t.c 1 _ rfl
        have r2 := M5.t.c 2 _ rfl
        have g0 := M5.t.f 0
        have g5 := M5.t.f 5
        have hl5 := M5.t.lt
        have s1 := ext_set (j := 5) (v := .pointer (some ⟨Y, 0, none⟩)) M5.e.hi M5.t (by decide)
        have M6 := M5.set (by decide) (by decide) (by decide) 5 (.pointer (some ⟨Y, 0, none⟩)) (by simp [tnCs])
        have r16 := M6.t.c 1 _ rfl
        have r26 := M6.t.c 2 _ rfl
        have r06 := M6.t.c 0 _ rfl
        have g06 := M6.t.f 0
        have s2 := ext_set (j := 0) (v := .int .i64 4) M6.e.hi M6.t (by decide)
        have M7 := Lib.hid (M6.set (by decide) (by decide) (by decide) 0 (.int .i64 4) (by simp [tnCs]))
        have r17 := M7.out.t.c 1 _ rfl
        have r27 := M7.out.t.c 2 _ rfl
        have MV7 := Lib.hid ((mv5.ext s1 (by decide) (by decide) (by decide)).ext s2 (by decide) (by decide) (by decide))
        clear e5 mv5 M5 s1 M6 s2))
    all_goals
      have z0 := M7.out.t.c 0 _ rfl
      go_wp2_with fail
      refine (c_TOver z0).mono ?_
      rintro e w' ⟨rfl, rfl⟩
      go_wp2_with fail
      go_ret
      try rw [if_neg hz]
      exact ⟨rfl, _, M7.out.e, M7.out.p, ⟨sw, some ⟨Y, 0, none⟩, M7.out.t, fun _ => ⟨Y, rfl, MV7.out⟩, fun h => absurd (show (4 : Int) = 3 from h) (by decide)⟩⟩
end Go.Proofs.YtkamcgcpfnkodaaGreat
