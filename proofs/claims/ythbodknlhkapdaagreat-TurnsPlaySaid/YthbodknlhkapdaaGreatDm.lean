/- Parts of the walk. -/
import Derived.Test.YthbodknlhkapdaaGreatD2
import Derived.Test.YthbodknlhkapdaaGreatG6
import Derived.Test.YthbodknlhkapdaaGreatMt
import Derived.Test.YthbodknlhkapdaaGreatBaI
namespace Go.Proofs.YthbodknlhkapdaaGreat
set_option linter.unusedVariables false
set_option linter.unusedSimpArgs false
set_option maxHeartbeats 4000000
set_option maxRecDepth 100000
section
open Go.RowKit Go.Shelf
def Bbz (k X : Nat) (lost now : Int) (p : Spt) (tag ref : Int) (rv : Value) (d : Spt) (mv ov uv : Value) (w : World) (O : Om) (e : Ending) (w' : World) : Prop :=
 RP (fun t => k ≤ t ∧ t ≤ k + 17) w O (.tuple #[]) (fun W G => Ob W G k X (Ach (if p.s + 1 = 4 then 0 else 1) lost now ⟨p.b, p.q, p.s + 1⟩ tag ref rv d mv ov uv)) e w'
def Az1 (n : Int) (l : List Int) (k X : Nat) (lost now : Int) (p : Spt) (tag ref : Int) (rv : Value) (d : Spt) (ov uv : Value) (w : World) (O : Om) (e : Ending) (w' : World) : Prop :=
 RP (fun t => k ≤ t ∧ t ≤ k + 17) w O (.tuple #[]) (fun W G => ∃ m', Ob W G k X (Ach n lost now p tag ref rv d (.pointer (some ⟨m', 0, none⟩)) ov uv) ∧ Ajd W G (k + 14) m' l) e w'
def Bb3 (n : Int) (k X : Nat) (lost now : Int) (p : Spt) (tag ref : Int) (rv : Value) (d : Spt) (mv uv : Value) (w : World) (O : Om) (e : Ending) (w' : World) : Prop :=
 RP (fun t => k ≤ t ∧ t ≤ k + 17) w O (.tuple #[]) (fun W G => ∃ u, Ob W G k X (Ach n lost now p tag ref rv d mv (.pointer (some ⟨u, 0, none⟩)) uv) ∧ Ajc W G (k + 16) u p ⟨0, 0⟩) e w'
def DmTp (k X : Nat) (lost now : Int) (p : Spt) (tag ref : Int) (rv : Value) (d : Spt) (mv ov : Value) (w : World) (O : Om) (e : Ending) (w' : World) : Prop :=
 RP (fun t => k ≤ t ∧ t ≤ k + 17) w O (.tuple #[]) (fun W G => (Aa7 (Abe tag ref) = false → ∃ u, Ob W G k X (Ach 6 lost now p tag ref rv d mv ov (.pointer (some ⟨u, 0, none⟩))) ∧ Ai5 W G (k + 17) u d tag ref (Abe tag ref)) ∧ (Aa7 (Abe tag ref) = true → ∃ m' uv, Ob W G k X (Ach 7 lost now p tag ref rv d (.pointer (some ⟨m', 0, none⟩)) ov uv) ∧ Ajd W G (k + 14) m' (mk2 p d))) e w'
def DmT0 (n : Int) (k X : Nat) (lost now : Int) (p : Spt) (tag ref : Int) (rv : Value) (d : Spt) (mv ov uv : Value) (w : World) (O : Om) (e : Ending) (w' : World) : Prop :=
 RP (fun t => k ≤ t ∧ t ≤ k + 17) w O (.tuple #[]) (fun W G => Ob W G k X (Ach n lost now p tag ref rv d mv ov uv)) e w'
section
variable {X : Nat} {w : World} {O : Om} {C : Wb} {f : Cf} {s : AW} {m k : Nat}
theorem Ak2 {ln lost now tag ref : Int} {p d : Spt} {rv mv ov uv : Value} (hx : Ob w O k X (Ach ln lost now p tag ref rv d mv ov uv)) (hs0 : 0 ≤ p.s) (hs1 : p.s ≤ 3) (hk : 10 ≤ k) (hhi : Hh O w) :
 C1 78 X w (Bbz k X lost now p tag ref rv d mv ov uv w O) := by
 obtain ⟨x0, -, -, -, -, x5⟩ := hx.c6
 have f0 := hx.f 0
 have f5 := hx.f 5
 have HX := hQd (aN hx hhi)
 have hc : p.s + 1 = 4 ∨ p.s + 1 ≠ 4 := by omega
 obtain ⟨ps, hps⟩ := exq p.s
 rw [← hps] at x5 hs0 hs1 hc
 have HP := hQd hps
 clear hx hhi hps
 rcases hc with c | c
 · have d4 : (ps + 1 == 4) = true := by simp [c]
   have HC := hQd c
   clear c
   go_enter Tryz.func78, Tryz.ntmps78
   go_wp2_with fail
   go_end0
   obtain ⟨e1, y1⟩ := Aal HX.out.1 hk HX.out.2 5 (.int .i64 (ps + 1)) (by simp [Ach])
   obtain ⟨e2, y2⟩ := Aal y1 hk e1.hi 0 (.int .i64 1) (by simp [Ach])
   obtain ⟨e3, y3⟩ := Aal y2 hk e2.hi 0 (.int .i64 0) (by simp [Ach])
   have hp4 : p.s + 1 = 4 := by rw [← HP.out]; exact HC.out
   unfold Bbz
   rw [if_pos hp4, ← HP.out]
   exact ⟨rfl, O, ((e1.trans e2).trans e3).mono fun t _ h => by omega, y3⟩
 have d4 : (ps + 1 == 4) = false := by simp [c]
 have HC := hQd c
 clear c
 go_enter Tryz.func78, Tryz.ntmps78
 go_wp2_with fail
 go_end0
 obtain ⟨e1, y1⟩ := Aal HX.out.1 hk HX.out.2 5 (.int .i64 (ps + 1)) (by simp [Ach])
 obtain ⟨e2, y2⟩ := Aal y1 hk e1.hi 0 (.int .i64 1) (by simp [Ach])
 have hp4 : ¬ p.s + 1 = 4 := by rw [← HP.out]; exact HC.out
 unfold Bbz
 rw [if_neg hp4, ← HP.out]
 exact ⟨rfl, O, (e1.trans e2).mono fun t _ h => by omega, y2⟩
theorem Ayy {ln lost now tag ref : Int} {p d : Spt} {rv mv ov uv : Value} (hx : Ob w O k X (Ach ln lost now p tag ref rv d mv ov uv)) (hp : p.ok) (hd : d.ok) (hk : 10 ≤ k) (hhi : Hh O w) :
 Calls Tryz.prog 82 #[.pointer (some ⟨X, 0, none⟩), .int .i64 4] w (Az1 4 (mk2 p d) k X lost now p tag ref rv d ov uv w O) := by
 have x0 := hx.c 0 _ rfl
 have f0 := hx.f 0
 obtain ⟨e1, y1⟩ := Aal hx hk hhi 0 (.int .i64 4) (by simp [Ach])
 have H1 := hQd (aN (e1.mono (T := fun t => k ≤ t ∧ t ≤ k + 17) fun t _ h => by omega) y1)
 obtain ⟨W, hW⟩ := exq (w.setCell ⟨X, 0, none⟩ (.int .i64 4))
 rw [← hW] at H1
 have HPD := hQd (aN hp hd)
 have HMK := hQd (Ag0 hp hd).1
 have hb1 := bal W (.cells #[.int .i64 p.b, .int .i64 p.q, .int .i64 d.b, .int .i64 d.q] 93)
 have hb2 := Aaa (W.alloc (.cells #[.int .i64 p.b, .int .i64 p.q, .int .i64 d.b, .int .i64 d.q] 93))
 have hb3 := hb1.trans (hb2.mono (by simp <;> omega))
 obtain ⟨-, t1⟩ := Aau (S := fun _ => False) H1.out.1.hi #[.int .i64 p.b, .int .i64 p.q, .int .i64 d.b, .int .i64 d.q] 93 W.heap.size rfl
 have HA := hQd (aN (H1.out.1.below hb3) (aN (H1.out.2.below hb3) (t1.below hb2)))
 clear hx hp hd hhi e1 y1 hb1 hb2 hb3 t1
 go_enter Tryz.func82, Tryz.ntmps82
 go_upto_region 5 with fail
 rw [← hW]
 clear hW x0 f0
 obtain ⟨-, -, -, z3, z4, -, -, -, -, z9⟩ := H1.out.2.c10
 have z10 := H1.out.2.c 10 _ rfl
 have hXl : X < W.heap.size := H1.out.2.lt
 go_region_held3 (fun w' => w'.cell? ⟨X, 3, none⟩ = some (.int .i64 p.b) ∧ w'.cell? ⟨X, 4, none⟩ = some (.int .i64 p.q) ∧ w'.cell? ⟨X, 9, none⟩ = some (.int .i64 d.b) ∧ w'.cell? ⟨X, 10, none⟩ = some (.int .i64 d.q)) (go_keep)
  ((go_at_call 119
    refine (Aec (w := (W.alloc (.cells #[.int .i64 p.b, .int .i64 p.q, .int .i64 d.b, .int .i64 d.q] 93)).drew) p d HPD.out.1 HPD.out.2 (k + 14) (by omega) (by rw [HA.out.2.2.o]; omega) ⟨Nat.le_refl _, by unfold maxLen; decide⟩ HA.out.2.2.lt (HA.out.2.2.c 0 _ rfl) (HA.out.2.2.c 1 _ rfl) (HA.out.2.2.c 2 _ rfl) (HA.out.2.2.c 3 _ rfl) HA.out.1.hi).mono ?_
    rintro e w2 ⟨m', rfl, G2, e2, r2⟩
    have X2 := HA.out.2.1.ext e2
    have H2 := hQd (aN (HA.out.1.trans (e2.mono (T := fun t => k ≤ t ∧ t ≤ k + 17) fun t _ h => by omega)) (aN X2 r2))
    have x12 := X2.c 12 _ rfl
    have f12 := X2.f 12
    obtain ⟨-, -, -, q3, q4, -, -, -, -, q9⟩ := X2.c10
    have q10 := X2.c 10 _ rfl
    obtain ⟨ee, yy⟩ := Aal X2 hk e2.hi 12 (.pointer (some ⟨m', 0, none⟩)) (by simp [Ach])
    obtain ⟨-, -, -, r3, r4, -, -, -, -, r9⟩ := yy.c10
    have r10 := yy.c 10 _ rfl
    clear e2 r2 X2 ee yy))
 all_goals
  clear z3 z4 z9 z10 hXl q3 q4 q9 q10 r3 r4 r9 r10
  obtain ⟨e3, X3⟩ := Aal H2.out.2.1 hk H2.out.1.hi 12 (.pointer (some ⟨m', 0, none⟩)) (by simp [Ach])
  have H3 := hQd (aN (H2.out.1.trans (e3.mono (T := fun t => k ≤ t ∧ t ≤ k + 17) fun t _ h => by omega)) (aN X3 (H2.out.2.2.ext e3)))
  obtain ⟨w3, hw3⟩ := exq (w2.setCell ⟨X, 12, none⟩ (.pointer (some ⟨m', 0, none⟩)))
  rw [← hw3] at H3
  clear e3 X3 H2 HA H1
  go_upto_region 6 with fail
  rw [← hw3]
  clear hw3 x12 f12
  have x12 := H3.out.2.1.c 12 _ rfl
  have c0 := H3.out.2.2.cell
  rw [if_neg HMK.out] at c0
  go_wp2_with fail
  go_end0
  exact ⟨rfl, G2, H3.out.1, m', H3.out.2.1, H3.out.2.2⟩
theorem Ayv {ln lost now tag ref : Int} {p d : Spt} {rv mv ov uv : Value} (hx : Ob w O k X (Ach ln lost now p tag ref rv d mv ov uv)) (hp : p.ok) (hd : d.ok) (hk : 10 ≤ k) (hhi : Hh O w) :
 Calls Tryz.prog 82 #[.pointer (some ⟨X, 0, none⟩), .int .i64 7] w (Az1 7 (mk2 p d) k X lost now p tag ref rv d ov uv w O) := by
 have x0 := hx.c 0 _ rfl
 have f0 := hx.f 0
 obtain ⟨e1, y1⟩ := Aal hx hk hhi 0 (.int .i64 7) (by simp [Ach])
 have H1 := hQd (aN (e1.mono (T := fun t => k ≤ t ∧ t ≤ k + 17) fun t _ h => by omega) y1)
 obtain ⟨W, hW⟩ := exq (w.setCell ⟨X, 0, none⟩ (.int .i64 7))
 rw [← hW] at H1
 have HPD := hQd (aN hp hd)
 have HMK := hQd (Ag0 hp hd).1
 have hb1 := bal W (.cells #[.int .i64 p.b, .int .i64 p.q, .int .i64 d.b, .int .i64 d.q] 93)
 have hb2 := Aaa (W.alloc (.cells #[.int .i64 p.b, .int .i64 p.q, .int .i64 d.b, .int .i64 d.q] 93))
 have hb3 := hb1.trans (hb2.mono (by simp <;> omega))
 obtain ⟨-, t1⟩ := Aau (S := fun _ => False) H1.out.1.hi #[.int .i64 p.b, .int .i64 p.q, .int .i64 d.b, .int .i64 d.q] 93 W.heap.size rfl
 have HA := hQd (aN (H1.out.1.below hb3) (aN (H1.out.2.below hb3) (t1.below hb2)))
 clear hx hp hd hhi e1 y1 hb1 hb2 hb3 t1
 go_enter Tryz.func82, Tryz.ntmps82
 go_upto_region 5 with fail
 rw [← hW]
 clear hW x0 f0
 obtain ⟨-, -, -, z3, z4, -, -, -, -, z9⟩ := H1.out.2.c10
 have z10 := H1.out.2.c 10 _ rfl
 have hXl : X < W.heap.size := H1.out.2.lt
 go_region_held3 (fun w' => w'.cell? ⟨X, 3, none⟩ = some (.int .i64 p.b) ∧ w'.cell? ⟨X, 4, none⟩ = some (.int .i64 p.q) ∧ w'.cell? ⟨X, 9, none⟩ = some (.int .i64 d.b) ∧ w'.cell? ⟨X, 10, none⟩ = some (.int .i64 d.q)) (go_keep)
  ((go_at_call 119
    refine (Aec (w := (W.alloc (.cells #[.int .i64 p.b, .int .i64 p.q, .int .i64 d.b, .int .i64 d.q] 93)).drew) p d HPD.out.1 HPD.out.2 (k + 14) (by omega) (by rw [HA.out.2.2.o]; omega) ⟨Nat.le_refl _, by unfold maxLen; decide⟩ HA.out.2.2.lt (HA.out.2.2.c 0 _ rfl) (HA.out.2.2.c 1 _ rfl) (HA.out.2.2.c 2 _ rfl) (HA.out.2.2.c 3 _ rfl) HA.out.1.hi).mono ?_
    rintro e w2 ⟨m', rfl, G2, e2, r2⟩
    have X2 := HA.out.2.1.ext e2
    have H2 := hQd (aN (HA.out.1.trans (e2.mono (T := fun t => k ≤ t ∧ t ≤ k + 17) fun t _ h => by omega)) (aN X2 r2))
    have x12 := X2.c 12 _ rfl
    have f12 := X2.f 12
    obtain ⟨-, -, -, q3, q4, -, -, -, -, q9⟩ := X2.c10
    have q10 := X2.c 10 _ rfl
    obtain ⟨ee, yy⟩ := Aal X2 hk e2.hi 12 (.pointer (some ⟨m', 0, none⟩)) (by simp [Ach])
    obtain ⟨-, -, -, r3, r4, -, -, -, -, r9⟩ := yy.c10
    have r10 := yy.c 10 _ rfl
    clear e2 r2 X2 ee yy))
 all_goals
  clear z3 z4 z9 z10 hXl q3 q4 q9 q10 r3 r4 r9 r10
  obtain ⟨e3, X3⟩ := Aal H2.out.2.1 hk H2.out.1.hi 12 (.pointer (some ⟨m', 0, none⟩)) (by simp [Ach])
  have H3 := hQd (aN (H2.out.1.trans (e3.mono (T := fun t => k ≤ t ∧ t ≤ k + 17) fun t _ h => by omega)) (aN X3 (H2.out.2.2.ext e3)))
  obtain ⟨w3, hw3⟩ := exq (w2.setCell ⟨X, 12, none⟩ (.pointer (some ⟨m', 0, none⟩)))
  rw [← hw3] at H3
  clear e3 X3 H2 HA H1
  go_upto_region 6 with fail
  rw [← hw3]
  clear hw3 x12 f12
  have x12 := H3.out.2.1.c 12 _ rfl
  have c0 := H3.out.2.2.cell
  rw [if_neg HMK.out] at c0
  go_wp2_with fail
  go_end0
  exact ⟨rfl, G2, H3.out.1, m', H3.out.2.1, H3.out.2.2⟩
theorem Ayx {ln lost now tag ref : Int} {p d : Spt} {rv mv ov uv : Value} (hx : Ob w O k X (Ach ln lost now p tag ref rv d mv ov uv)) (hp : p.ok) (hk : 10 ≤ k) (hhi : Hh O w) :
 Calls Tryz.prog 82 #[.pointer (some ⟨X, 0, none⟩), .int .i64 5] w (Bb3 5 k X lost now p tag ref rv d mv uv w O) := by
 have x0 := hx.c 0 _ rfl
 have f0 := hx.f 0
 obtain ⟨e1, y1⟩ := Aal hx hk hhi 0 (.int .i64 5) (by simp [Ach])
 have H1 := hQd (aN (e1.mono (T := fun t => k ≤ t ∧ t ≤ k + 17) fun t _ h => by omega) y1)
 obtain ⟨W, hW⟩ := exq (w.setCell ⟨X, 0, none⟩ (.int .i64 5))
 rw [← hW] at H1
 have HPD := hQd hp
 clear hx hp hhi e1 y1
 go_enter Tryz.func82, Tryz.ntmps82
 go_upto_region 9 with fail
 rw [← hW]
 clear hW x0 f0
 obtain ⟨-, -, -, z3, z4, z5⟩ := H1.out.2.c6
 go_wp2_with fail
 refine (Ain (k := k + 16) HPD.out (by omega) H1.out.1.hi).mono ?_
 rintro e w2 ⟨u, rfl, G2, e2, r2⟩
 have X2 := H1.out.2.ext e2
 have H2 := hQd (aN (H1.out.1.trans (e2.mono (T := fun t => k ≤ t ∧ t ≤ k + 17) fun t _ h => by omega)) (aN X2 r2))
 have x13 := X2.c 13 _ rfl
 have f13 := X2.f 13
 clear e2 r2 X2 z3 z4 z5
 obtain ⟨e3, X3⟩ := Aal H2.out.2.1 hk H2.out.1.hi 13 (.pointer (some ⟨u, 0, none⟩)) (by simp [Ach])
 have H3 := hQd (aN (H2.out.1.trans (e3.mono (T := fun t => k ≤ t ∧ t ≤ k + 17) fun t _ h => by omega)) (aN X3 (H2.out.2.2.ext e3)))
 obtain ⟨w3, hw3⟩ := exq (w2.setCell ⟨X, 13, none⟩ (.pointer (some ⟨u, 0, none⟩)))
 rw [← hw3] at H3
 clear e3 X3 H2 H1
 go_upto_region 10 with fail
 rw [← hw3]
 clear hw3 x13 f13
 have x13 := H3.out.2.1.c 13 _ rfl
 have c0 : w3.cell? ⟨u, 0, none⟩ = some (.int .i64 1) := H3.out.2.2.ob.c 0 _ rfl
 go_wp2_with fail
 go_end0
 exact ⟨rfl, G2, H3.out.1, u, H3.out.2.1, H3.out.2.2⟩
theorem Ayt {ln lost now tag ref : Int} {p d : Spt} {rv mv ov uv : Value} (hx : Ob w O k X (Ach ln lost now p tag ref rv d mv ov uv)) (hp : p.ok) (hk : 10 ≤ k) (hhi : Hh O w) :
 Calls Tryz.prog 82 #[.pointer (some ⟨X, 0, none⟩), .int .i64 9] w (Bb3 9 k X lost now p tag ref rv d mv uv w O) := by
 have x0 := hx.c 0 _ rfl
 have f0 := hx.f 0
 obtain ⟨e1, y1⟩ := Aal hx hk hhi 0 (.int .i64 9) (by simp [Ach])
 have H1 := hQd (aN (e1.mono (T := fun t => k ≤ t ∧ t ≤ k + 17) fun t _ h => by omega) y1)
 obtain ⟨W, hW⟩ := exq (w.setCell ⟨X, 0, none⟩ (.int .i64 9))
 rw [← hW] at H1
 have HPD := hQd hp
 clear hx hp hhi e1 y1
 go_enter Tryz.func82, Tryz.ntmps82
 go_upto_region 9 with fail
 rw [← hW]
 clear hW x0 f0
 obtain ⟨-, -, -, z3, z4, z5⟩ := H1.out.2.c6
 go_wp2_with fail
 refine (Ain (k := k + 16) HPD.out (by omega) H1.out.1.hi).mono ?_
 rintro e w2 ⟨u, rfl, G2, e2, r2⟩
 have X2 := H1.out.2.ext e2
 have H2 := hQd (aN (H1.out.1.trans (e2.mono (T := fun t => k ≤ t ∧ t ≤ k + 17) fun t _ h => by omega)) (aN X2 r2))
 have x13 := X2.c 13 _ rfl
 have f13 := X2.f 13
 clear e2 r2 X2 z3 z4 z5
 obtain ⟨e3, X3⟩ := Aal H2.out.2.1 hk H2.out.1.hi 13 (.pointer (some ⟨u, 0, none⟩)) (by simp [Ach])
 have H3 := hQd (aN (H2.out.1.trans (e3.mono (T := fun t => k ≤ t ∧ t ≤ k + 17) fun t _ h => by omega)) (aN X3 (H2.out.2.2.ext e3)))
 obtain ⟨w3, hw3⟩ := exq (w2.setCell ⟨X, 13, none⟩ (.pointer (some ⟨u, 0, none⟩)))
 rw [← hw3] at H3
 clear e3 X3 H2 H1
 go_upto_region 10 with fail
 rw [← hw3]
 clear hw3 x13 f13
 have x13 := H3.out.2.1.c 13 _ rfl
 have c0 : w3.cell? ⟨u, 0, none⟩ = some (.int .i64 1) := H3.out.2.2.ob.c 0 _ rfl
 go_wp2_with fail
 go_end0
 exact ⟨rfl, G2, H3.out.1, u, H3.out.2.1, H3.out.2.2⟩
theorem Ayu {ln lost now tag ref : Int} {p d : Spt} {rv mv ov uv : Value} (hx : Ob w O k X (Ach ln lost now p tag ref rv d mv ov uv)) (hp : p.ok) (hk : 10 ≤ k) (hhi : Hh O w) :
 Calls Tryz.prog 82 #[.pointer (some ⟨X, 0, none⟩), .int .i64 8] w (Az1 8 [p.ver] k X lost now p tag ref rv d ov uv w O) := by
 have x0 := hx.c 0 _ rfl
 have f0 := hx.f 0
 obtain ⟨e1, y1⟩ := Aal hx hk hhi 0 (.int .i64 8) (by simp [Ach])
 have H1 := hQd (aN (e1.mono (T := fun t => k ≤ t ∧ t ≤ k + 17) fun t _ h => by omega) y1)
 obtain ⟨W, hW⟩ := exq (w.setCell ⟨X, 0, none⟩ (.int .i64 8))
 rw [← hW] at H1
 have HPD := hQd hp
 have HMK := hQd (show [p.ver] ≠ [] by simp)
 have hb1 := bal W (.cells #[.int .i64 p.b, .int .i64 p.q] 93)
 have hb2 := Aaa (W.alloc (.cells #[.int .i64 p.b, .int .i64 p.q] 93))
 have hb3 := hb1.trans (hb2.mono (by simp <;> omega))
 obtain ⟨-, t1⟩ := Aau (S := fun _ => False) H1.out.1.hi #[.int .i64 p.b, .int .i64 p.q] 93 W.heap.size rfl
 have HA := hQd (aN (H1.out.1.below hb1) (aN (H1.out.2.below hb1) t1))
 clear hx hp hhi e1 y1 hb1 hb2 hb3 t1
 go_enter Tryz.func82, Tryz.ntmps82
 go_upto_region 16 with fail
 rw [← hW]
 clear hW x0 f0
 obtain ⟨-, -, -, z3, z4⟩ := H1.out.2.c5
 go_wp2_with fail
 refine (Aio (w := W.alloc (.cells #[.int .i64 p.b, .int .i64 p.q] 93)) p HPD.out (k + 14) (by omega) ⟨Nat.le_refl _, by unfold maxLen; decide⟩ HA.out.2.2.lt (HA.out.2.2.c 0 _ rfl) (HA.out.2.2.c 1 _ rfl) HA.out.1.hi).mono ?_
 rintro e w2 ⟨m', rfl, G2, e2, r2⟩
 have X2 := HA.out.2.1.ext e2
 have H2 := hQd (aN (HA.out.1.trans (e2.mono (T := fun t => k ≤ t ∧ t ≤ k + 17) fun t _ h => by omega)) (aN X2 r2))
 have x12 := X2.c 12 _ rfl
 have f12 := X2.f 12
 clear e2 r2 X2
 all_goals
  clear z3 z4
  obtain ⟨e3, X3⟩ := Aal H2.out.2.1 hk H2.out.1.hi 12 (.pointer (some ⟨m', 0, none⟩)) (by simp [Ach])
  have H3 := hQd (aN (H2.out.1.trans (e3.mono (T := fun t => k ≤ t ∧ t ≤ k + 17) fun t _ h => by omega)) (aN X3 (H2.out.2.2.ext e3)))
  obtain ⟨w3, hw3⟩ := exq (w2.setCell ⟨X, 12, none⟩ (.pointer (some ⟨m', 0, none⟩)))
  rw [← hw3] at H3
  clear e3 X3 H2 HA H1
  go_upto_region 17 with fail
  rw [← hw3]
  clear hw3 x12 f12
  have x12 := H3.out.2.1.c 12 _ rfl
  have c0 := H3.out.2.2.cell
  rw [if_neg HMK.out] at c0
  go_wp2_with fail
  go_end0
  exact ⟨rfl, G2, H3.out.1, m', H3.out.2.1, H3.out.2.2⟩
theorem Avs {ln lost now tag ref : Int} {p d : Spt} {rv mv ov uv : Value} (hx : Ob w O k X (Ach ln lost now p tag ref rv d mv ov uv)) (hp : p.ok) (hk : 10 ≤ k) (hhi : Hh O w) :
 Calls Tryz.prog 82 #[.pointer (some ⟨X, 0, none⟩), .int .i64 10] w (Az1 10 [p.ver] k X lost now p tag ref rv d ov uv w O) := by
 have x0 := hx.c 0 _ rfl
 have f0 := hx.f 0
 obtain ⟨e1, y1⟩ := Aal hx hk hhi 0 (.int .i64 10) (by simp [Ach])
 have H1 := hQd (aN (e1.mono (T := fun t => k ≤ t ∧ t ≤ k + 17) fun t _ h => by omega) y1)
 obtain ⟨W, hW⟩ := exq (w.setCell ⟨X, 0, none⟩ (.int .i64 10))
 rw [← hW] at H1
 have HPD := hQd hp
 have HMK := hQd (show [p.ver] ≠ [] by simp)
 have hb1 := bal W (.cells #[.int .i64 p.b, .int .i64 p.q] 93)
 have hb2 := Aaa (W.alloc (.cells #[.int .i64 p.b, .int .i64 p.q] 93))
 have hb3 := hb1.trans (hb2.mono (by simp <;> omega))
 obtain ⟨-, t1⟩ := Aau (S := fun _ => False) H1.out.1.hi #[.int .i64 p.b, .int .i64 p.q] 93 W.heap.size rfl
 have HA := hQd (aN (H1.out.1.below hb1) (aN (H1.out.2.below hb1) t1))
 clear hx hp hhi e1 y1 hb1 hb2 hb3 t1
 go_enter Tryz.func82, Tryz.ntmps82
 go_upto_region 16 with fail
 rw [← hW]
 clear hW x0 f0
 obtain ⟨-, -, -, z3, z4⟩ := H1.out.2.c5
 go_wp2_with fail
 refine (Aio (w := W.alloc (.cells #[.int .i64 p.b, .int .i64 p.q] 93)) p HPD.out (k + 14) (by omega) ⟨Nat.le_refl _, by unfold maxLen; decide⟩ HA.out.2.2.lt (HA.out.2.2.c 0 _ rfl) (HA.out.2.2.c 1 _ rfl) HA.out.1.hi).mono ?_
 rintro e w2 ⟨m', rfl, G2, e2, r2⟩
 have X2 := HA.out.2.1.ext e2
 have H2 := hQd (aN (HA.out.1.trans (e2.mono (T := fun t => k ≤ t ∧ t ≤ k + 17) fun t _ h => by omega)) (aN X2 r2))
 have x12 := X2.c 12 _ rfl
 have f12 := X2.f 12
 clear e2 r2 X2
 all_goals
  clear z3 z4
  obtain ⟨e3, X3⟩ := Aal H2.out.2.1 hk H2.out.1.hi 12 (.pointer (some ⟨m', 0, none⟩)) (by simp [Ach])
  have H3 := hQd (aN (H2.out.1.trans (e3.mono (T := fun t => k ≤ t ∧ t ≤ k + 17) fun t _ h => by omega)) (aN X3 (H2.out.2.2.ext e3)))
  obtain ⟨w3, hw3⟩ := exq (w2.setCell ⟨X, 12, none⟩ (.pointer (some ⟨m', 0, none⟩)))
  rw [← hw3] at H3
  clear e3 X3 H2 HA H1
  go_upto_region 17 with fail
  rw [← hw3]
  clear hw3 x12 f12
  have x12 := H3.out.2.1.c 12 _ rfl
  have c0 := H3.out.2.2.cell
  rw [if_neg HMK.out] at c0
  go_wp2_with fail
  go_end0
  exact ⟨rfl, G2, H3.out.1, m', H3.out.2.1, H3.out.2.2⟩
theorem Avr {ln lost now tag ref : Int} {p d : Spt} {rv mv ov uv : Value} (hx : Ob w O k X (Ach ln lost now p tag ref rv d mv ov uv)) (hk : 10 ≤ k) (hhi : Hh O w) :
 Calls Tryz.prog 82 #[.pointer (some ⟨X, 0, none⟩), .int .i64 11] w (DmT0 11 k X lost now p tag ref rv d mv ov uv w O) := by
 have x0 := hx.c 0 _ rfl
 have f0 := hx.f 0
 obtain ⟨e1, y1⟩ := Aal hx hk hhi 0 (.int .i64 11) (by simp [Ach])
 have H1 := hQd (aN (e1.mono (T := fun t => k ≤ t ∧ t ≤ k + 17) fun t _ h => by omega) y1)
 clear hx hhi e1 y1
 go_enter Tryz.func82, Tryz.ntmps82
 go_wp2_with fail
 go_end0
 exact ⟨rfl, O, H1.out.1, H1.out.2⟩
theorem An2 {lost now tag ref : Int} {p d : Spt} {rv mv ov uv : Value} (hx : Ob w O k X (Ach 4 lost now p tag ref rv d mv ov uv)) (hp : p.ok) (hk : 10 ≤ k) (hhi : Hh O w) :
 C1 84 X w (Bb3 5 k X lost now p tag ref rv d mv uv w O) := by
 have x0 := hx.c 0 _ rfl
 have HC := hQd (Ayx hx hp hk hhi)
 clear hx hhi
 go_enter Tryz.func84, Tryz.ntmps84
 go_wp2_with fail
 refine HC.out.mono ?_
 intro e w' hq
 have HQ := hQd hq
 obtain ⟨rfl, -⟩ := hq
 clear HC x0
 go_wp2_with fail
 go_end0
 exact HQ.out
theorem Air {lost now tag ref : Int} {p d : Spt} {rv mv ov uv : Value} (hx : Ob w O k X (Ach 6 lost now p tag ref rv d mv ov uv)) (hp : p.ok) (hd : d.ok) (hk : 10 ≤ k) (hhi : Hh O w) :
 C1 84 X w (Az1 7 (mk2 p d) k X lost now p tag ref rv d ov uv w O) := by
 have x0 := hx.c 0 _ rfl
 have HC := hQd (Ayv hx hp hd hk hhi)
 clear hx hhi
 go_enter Tryz.func84, Tryz.ntmps84
 go_wp2_with fail
 refine HC.out.mono ?_
 intro e w' hq
 have HQ := hQd hq
 obtain ⟨rfl, -⟩ := hq
 clear HC x0
 go_wp2_with fail
 go_end0
 exact HQ.out
theorem Ayw {ln lost now tag ref : Int} {p d : Spt} {rv mv ov uv : Value} (hx : Ob w O k X (Ach ln lost now p tag ref rv d mv ov uv)) (hp : p.ok) (hd : d.ok) (hk : 10 ≤ k) (hhi : Hh O w) :
 Calls Tryz.prog 82 #[.pointer (some ⟨X, 0, none⟩), .int .i64 6] w (DmTp k X lost now p tag ref rv d mv ov w O) := by
 have x0 := hx.c 0 _ rfl
 have f0 := hx.f 0
 obtain ⟨e1, y1⟩ := Aal hx hk hhi 0 (.int .i64 6) (by simp [Ach])
 have H1 := hQd (aN (e1.mono (T := fun t => k ≤ t ∧ t ≤ k + 17) fun t _ h => by omega) y1)
 obtain ⟨W, hW⟩ := exq (w.setCell ⟨X, 0, none⟩ (.int .i64 6))
 rw [← hW] at H1
 have HPD := hQd (aN hp hd)
 clear hx hp hd hhi e1 y1
 go_enter Tryz.func82, Tryz.ntmps82
 go_upto_region 12 with fail
 rw [← hW]
 clear hW x0 f0
 obtain ⟨-, -, -, -, -, -, z6, z7, -, z9⟩ := H1.out.2.c10
 have z10 := H1.out.2.c 10 _ rfl
 have z11 := H1.out.2.c 11 _ rfl
 go_region_held3 (fun w' => w'.cell? ⟨X, 6, none⟩ = some (.int .i64 tag) ∧ w'.cell? ⟨X, 7, none⟩ = some (.int .i64 ref) ∧ w'.cell? ⟨X, 9, none⟩ = some (.int .i64 d.b) ∧ w'.cell? ⟨X, 10, none⟩ = some (.int .i64 d.q) ∧ w'.cell? ⟨X, 11, none⟩ = some (.int .i64 d.s)) (go_keep)
  ((go_at_call 121
    refine (Ame (w := W.drew) (k := k + 17) (tg := tag) (rf := ref) HPD.out.2 (by omega) (H1.out.1.below (Aaa W)).hi).mono ?_
    rintro e w2 ⟨u, rfl, G2, e2, r2⟩
    have X2 := (H1.out.2.below (Aaa W)).ext e2
    have H2 := hQd (aN ((H1.out.1.below (Aaa W)).trans (e2.mono (T := fun t => k ≤ t ∧ t ≤ k + 17) fun t _ h => by omega)) (aN X2 r2))
    have x14 := X2.c 14 _ rfl
    have f14 := X2.f 14
    obtain ⟨-, -, -, -, -, -, q6, q7, -, q9⟩ := X2.c10
    have q10 := X2.c 10 _ rfl
    have q11 := X2.c 11 _ rfl
    obtain ⟨ee, yy⟩ := Aal X2 hk e2.hi 14 (.pointer (some ⟨u, 0, none⟩)) (by simp [Ach])
    obtain ⟨-, -, -, -, -, -, r6, r7, -, r9⟩ := yy.c10
    have r10 := yy.c 10 _ rfl
    have r11 := yy.c 11 _ rfl
    clear e2 r2 X2 ee yy))
 all_goals
  clear z6 z7 z9 z10 z11 q6 q7 q9 q10 q11 r6 r7 r9 r10 r11
  obtain ⟨e3, X3⟩ := Aal H2.out.2.1 hk H2.out.1.hi 14 (.pointer (some ⟨u, 0, none⟩)) (by simp [Ach])
  have H3 := hQd (aN (H2.out.1.trans (e3.mono (T := fun t => k ≤ t ∧ t ≤ k + 17) fun t _ h => by omega)) (aN X3 (H2.out.2.2.ext e3)))
  obtain ⟨w3, hw3⟩ := exq (w2.setCell ⟨X, 14, none⟩ (.pointer (some ⟨u, 0, none⟩)))
  rw [← hw3] at H3
  clear e3 X3 H2 H1
  go_upto_region 13 with fail
  rw [← hw3]
  clear hw3 x14 f14
  have x14 := H3.out.2.1.c 14 _ rfl
  have c0 := H3.out.2.2.ob.c 0 _ rfl
  rcases Aea tag ref with g | g
  · have hov : Aa7 (Abe tag ref) = false := by rw [g.1]; rfl
    have hln : (Abe tag ref).ln = 0 := by rw [g.1]
    rw [hln] at c0
    have c0 : w3.cell? ⟨u, 0, none⟩ = some (.int .i64 1) := c0
    have HOV := hQd hov
    clear g hov hln
    go_wp2_with fail
    go_end0
    exact ⟨rfl, G2, H3.out.1, fun _ => ⟨u, H3.out.2.1, H3.out.2.2⟩, fun h => absurd h (by rw [HOV.out]; decide)⟩
  have hov : Aa7 (Abe tag ref) = true := by rw [g]; rfl
  have hln : (Abe tag ref).ln = 3 := by rw [g]
  rw [hln] at c0
  have c0 : w3.cell? ⟨u, 0, none⟩ = some (.int .i64 0) := c0
  have HOV := hQd hov
  have HB := hQd (Air H3.out.2.1 HPD.out.1 HPD.out.2 hk H3.out.1.hi)
  clear g hov hln
  go_wp2_with fail
  refine HB.out.mono ?_
  rintro e w4 ⟨rfl, G4, e4, m', x4, r4⟩
  have H4 := hQd (aN (H3.out.1.trans (e4.mono (T := fun t => k ≤ t ∧ t ≤ k + 17) fun t _ h => h)) (aN x4 r4))
  clear e4 x4 r4 HB x14 c0 H3
  go_wp2_with fail
  go_end0
  exact ⟨rfl, G4, H4.out.1, fun h => absurd h (by rw [HOV.out]; decide), fun _ => ⟨m', _, H4.out.2.1, H4.out.2.2⟩⟩
theorem An1 {lost now tag ref : Int} {p d : Spt} {rv mv ov uv : Value} (hx : Ob w O k X (Ach 5 lost now p tag ref rv d mv ov uv)) (hp : p.ok) (hd : d.ok) (hk : 10 ≤ k) (hhi : Hh O w) :
 C1 84 X w (DmTp k X lost now p tag ref rv d mv ov w O) := by
 have x0 := hx.c 0 _ rfl
 have HC := hQd (Ayw hx hp hd hk hhi)
 clear hx hhi
 go_enter Tryz.func84, Tryz.ntmps84
 go_wp2_with fail
 refine HC.out.mono ?_
 intro e w' hq
 have HQ := hQd hq
 obtain ⟨rfl, -⟩ := hq
 clear HC x0
 go_wp2_with fail
 go_end0
 exact HQ.out
theorem An0 {lost now tag ref : Int} {p d : Spt} {rv mv ov uv : Value} (hx : Ob w O k X (Ach 7 lost now p tag ref rv d mv ov uv)) (hs0 : 0 ≤ p.s) (hs1 : p.s ≤ 3) (hk : 10 ≤ k) (hhi : Hh O w) :
 C1 84 X w (Bbz k X lost now p tag ref rv d mv ov uv w O) := by
 have x0 := hx.c 0 _ rfl
 have HC := hQd (Ak2 hx hs0 hs1 hk hhi)
 clear hx hhi
 go_enter Tryz.func84, Tryz.ntmps84
 go_wp2_with fail
 refine HC.out.mono ?_
 intro e w' hq
 have HQ := hQd hq
 obtain ⟨rfl, -⟩ := hq
 clear HC x0
 go_wp2_with fail
 refine bodyPost_ret (v := .tuple #[]) (results_none (by rfl) _ _ _) rfl ?_
 exact HQ.out
theorem Anz {lost now tag ref : Int} {p d : Spt} {rv mv ov uv : Value} (hx : Ob w O k X (Ach 8 lost now p tag ref rv d mv ov uv)) (hp : p.ok) (hk : 10 ≤ k) (hhi : Hh O w) :
 C1 84 X w (Bb3 9 k X lost now p tag ref rv d mv uv w O) := by
 have x0 := hx.c 0 _ rfl
 have HC := hQd (Ayt hx hp hk hhi)
 clear hx hhi
 go_enter Tryz.func84, Tryz.ntmps84
 go_wp2_with fail
 refine HC.out.mono ?_
 intro e w' hq
 have HQ := hQd hq
 obtain ⟨rfl, -⟩ := hq
 clear HC x0
 go_wp2_with fail
 go_end0
 exact HQ.out
theorem Any {lost now tag ref : Int} {p d : Spt} {rv mv ov uv : Value} (hx : Ob w O k X (Ach 9 lost now p tag ref rv d mv ov uv)) (hp : p.ok) (hk : 10 ≤ k) (hhi : Hh O w) :
 C1 84 X w (Az1 10 [p.ver] k X lost now p tag ref rv d ov uv w O) := by
 have x0 := hx.c 0 _ rfl
 have HC := hQd (Avs hx hp hk hhi)
 clear hx hhi
 go_enter Tryz.func84, Tryz.ntmps84
 go_wp2_with fail
 refine HC.out.mono ?_
 intro e w' hq
 have HQ := hQd hq
 obtain ⟨rfl, -⟩ := hq
 clear HC x0
 go_wp2_with fail
 go_end0
 exact HQ.out
theorem Amk {lost now tag ref : Int} {p d : Spt} {rv mv ov uv : Value} (hx : Ob w O k X (Ach 10 lost now p tag ref rv d mv ov uv)) (hk : 10 ≤ k) (hhi : Hh O w) :
 C1 84 X w (DmT0 11 k X lost now p tag ref rv d mv ov uv w O) := by
 have x0 := hx.c 0 _ rfl
 have HC := hQd (Avr hx hk hhi)
 clear hx hhi
 go_enter Tryz.func84, Tryz.ntmps84
 go_wp2_with fail
 refine HC.out.mono ?_
 intro e w' hq
 have HQ := hQd hq
 obtain ⟨rfl, -⟩ := hq
 clear HC x0
 go_wp2_with fail
 go_end0
 exact HQ.out
theorem Amj {lost now tag ref : Int} {p d : Spt} {rv mv ov uv : Value} (hx : Ob w O k X (Ach 11 lost now p tag ref rv d mv ov uv)) (hs0 : 0 ≤ p.s) (hs1 : p.s ≤ 3) (hk : 10 ≤ k) (hhi : Hh O w) :
 C1 84 X w (Bbz k X lost now p tag ref rv d mv ov uv w O) := by
 have x0 := hx.c 0 _ rfl
 have HC := hQd (Ak2 hx hs0 hs1 hk hhi)
 clear hx hhi
 go_enter Tryz.func84, Tryz.ntmps84
 go_wp2_with fail
 refine HC.out.mono ?_
 intro e w' hq
 have HQ := hQd hq
 obtain ⟨rfl, -⟩ := hq
 clear HC x0
 go_wp2_with fail
 refine bodyPost_ret (v := .tuple #[]) (results_none (by rfl) _ _ _) rfl ?_
 exact HQ.out
end
end
section
open Go.RowKit Go.Shelf
def Ad4 (y : AW × Mvm) (k X : Nat) (C : Wb) (f : Cf) (m : Nat) (w : World) (O : Om) (e : Ending) (w' : World) : Prop :=
 RP (SD k (k + 17)) w O (.tuple #[]) (fun W G => RW W G C f y.1 (m + 1) ∧ Ac2 W G k X y.2) e w'
section
variable {X : Nat} {w : World} {O : Om} {C : Wb} {f : Cf} {s : AW} {m k : Nat}
theorem Asv (r : Int) {t h : Nat} {l : List It} (H : LH w O t 58 6 itc h l) (hl : l.length ≤ 1000000) :
 Calls Tryz.prog 53 #[.pointer (some ⟨h, 0, none⟩), .int .i64 r] w fun e w' => ∃ (b : Bool) (x1 : ByteArray) (x2 x3 x4 x5 : Int), e = .returned (.tuple #[.agg #[.string (Adz l r).key, .string x1, .int .u32 x2, .int .u64 x3, .int .i64 x4, .int .i64 x5], .bool b]) ∧ Below w.heap.size w w' := by
 by_cases hr : 1 ≤ r ∧ r ≤ l.length
 · have hk : (r - 1).toNat < l.length := by omega
   refine (Agr r (r - 1).toNat l[(r - 1).toNat] H hl (List.getElem?_eq_getElem hk) (by omega)).mono ?_
   rintro e w' ⟨rfl, hb⟩
   have e : Adz l r = l[(r - 1).toNat] := by unfold Adz; rw [if_pos hr.1, List.getElem?_eq_getElem hk]; rfl
   exact ⟨true, l[(r - 1).toNat].val, l[(r - 1).toNat].fl, l[(r - 1).toNat].id, l[(r - 1).toNat].dies, l[(r - 1).toNat].gen, by rw [e], hb⟩
 refine (Amg r H hl hr).mono ?_
 rintro e w' ⟨rfl, hb⟩
 have e : (Adz l r).key = ⟨#[]⟩ := by
  unfold Adz
  by_cases h1 : 1 ≤ r
  · rw [if_pos h1, List.getElem?_eq_none (by omega)]
    rfl
  rw [if_neg h1]
  rfl
 exact ⟨false, ⟨#[]⟩, 0, 0, 0, 0, by rw [e], hb⟩
theorem Aqo (r : Int) (h : RW w O C f s m) (hhi : Hh O w) (hl : s.it.length ≤ 1000000) :
 Calls Tryz.prog 65 #[.pointer (some ⟨C.p, 0, none⟩), .int .i64 r] w fun e w' => ∃ (x1 : ByteArray) (x2 x3 x4 x5 : Int), e = .returned (.agg #[.string (Adz s.it r).key, .string x1, .int .u32 x2, .int .u64 x3, .int .i64 x4, .int .i64 x5]) ∧ Below w.heap.size w w' := by
 have hB : Below w.heap.size w (w.alloc (.cells #[.string ⟨#[]⟩, .string ⟨#[]⟩, .int .u32 0, .int .u64 0, .int .i64 0, .int .i64 0] 58)) := bal _ _
 have q0 := hB.cell (p := ⟨C.p, 1, none⟩) h.wo.lt |>.trans h.wo.c1
 have hpl := h.wo.lt
 have HA := hQd (Asv r (h.below hhi hB).ar hl)
 have HB := hQd hB
 have hc0 : ∀ j u, ([.string ⟨#[]⟩, .string ⟨#[]⟩, .int .u32 0, .int .u64 0, .int .i64 0, .int .i64 0] : List Value)[j]? = some u → (w.alloc (.cells #[.string ⟨#[]⟩, .string ⟨#[]⟩, .int .u32 0, .int .u64 0, .int .i64 0, .int .i64 0] 58)).cell? ⟨w.heap.size, j, none⟩ = some u := fun j u hu => Aak w #[.string ⟨#[]⟩, .string ⟨#[]⟩, .int .u32 0, .int .u64 0, .int .i64 0, .int .i64 0] _ _ rfl j u (by simpa using hu)
 have HC0 := hQd hc0
 obtain ⟨ky, hky⟩ := exq ((Adz s.it r).key)
 rw [← hky] at HA ⊢
 clear h hhi hB hc0 hky
 go_enter Tryz.func65, Tryz.ntmps65
 go_wp2_with fail
 refine (HA.out).mono ?_
 rintro e w1 ⟨bb, x1, x2, x3, x4, x5, rfl, hb⟩
 have hz := hb.size
 have HB1 := hQd (HB.out.trans (hb.mono (by simp)))
 simp only [World.heap_size_alloc'] at hz
 have hc1 : ∀ j u, ([.string ⟨#[]⟩, .string ⟨#[]⟩, .int .u32 0, .int .u64 0, .int .i64 0, .int .i64 0] : List Value)[j]? = some u → w1.cell? ⟨w.heap.size, j, none⟩ = some u := fun j u hu => (hb.cell (p := ⟨w.heap.size, j, none⟩) (by simp)).trans (HC0.out j u hu)
 have hf1 : ∀ j, w1.frozen? ⟨w.heap.size, j, none⟩ = false := fun j => (hb.frozen (p := ⟨w.heap.size, j, none⟩) (by simp)).trans (by simp)
 have c0 := hc1 0 _ rfl
 have c1 := hc1 1 _ rfl
 have c2 := hc1 2 _ rfl
 have c3 := hc1 3 _ rfl
 have c4 := hc1 4 _ rfl
 have c5 := hc1 5 _ rfl
 have f0 := hf1 0
 have f1 := hf1 1
 have f2 := hf1 2
 have f3 := hf1 3
 have f4 := hf1 4
 have f5 := hf1 5
 have hz1 : w.heap.size < w1.heap.size := by omega
 have hz2 : ¬ w.heap.size = w1.heap.size := by omega
 clear hb hc1 hf1
 go_wp2
 have HS := Acr HB1.out (Nat.le_refl _) (.string ky) (.string x1) (.int .u32 x2) (.int .u64 x3) (.int .i64 x4) (.int .i64 x5)
 refine bodyPost_ret (v := .agg #[.string ky, .string x1, .int .u32 x2, .int .u64 x3, .int .i64 x4, .int .i64 x5]) ?_ rfl ⟨x1, x2, x3, x4, x5, rfl, HS.alloc HS.size _⟩
 simp [results, Tryz.results65, go_sem, hz1, hz2, c0, c1, c2, c3, c4, c5]
theorem Ac2.open {z : Mvm} (h : Ac2 w O k X z) (hl : z.ln ≠ 0) : ∃ d rv mv ov uv, Ob w O k X (Ach z.ln z.lost z.now z.p z.tag z.ref rv d mv ov uv) ∧ (4 ≤ z.ln → d = z.d) ∧
 (z.ln = 3 → ∃ R, rv = .pointer (some ⟨R, 0, none⟩) ∧ Ai7 w O (k + 1) R z.rm) ∧
 (z.ln = 4 ∨ z.ln = 7 ∨ z.ln = 8 ∨ z.ln = 10 → ∃ m, mv = .pointer (some ⟨m, 0, none⟩) ∧ Ajd w O (k + 14) m z.m) ∧
 (z.ln = 5 ∨ z.ln = 9 → ∃ u, ov = .pointer (some ⟨u, 0, none⟩) ∧ Ajc w O (k + 16) u z.p z.o) ∧
 (z.ln = 6 → ∃ u, uv = .pointer (some ⟨u, 0, none⟩) ∧ Ai5 w O (k + 17) u z.d z.tag z.ref z.u) := by
 obtain ⟨ln, now, p, d, tag, ref, rv, mv, ov, uv, h1, h2, h3, h4, h5, h6, h7, h8⟩ := h.ex
 obtain ⟨q1, q2, q3, q4⟩ := h3 hl
 subst h2 q1 q2 q3 q4
 exact ⟨d, rv, mv, ov, uv, h1, h4, h5, h6, h7, h8⟩
theorem Ac2.raw {z : Mvm} {d : Spt} {rv mv ov uv : Value} (h1 : Ob w O k X (Ach z.ln z.lost z.now z.p z.tag z.ref rv d mv ov uv)) (h4 : 4 ≤ z.ln → d = z.d)
 (h5 : z.ln = 3 → ∃ R, rv = .pointer (some ⟨R, 0, none⟩) ∧ Ai7 w O (k + 1) R z.rm) (h6 : z.ln = 4 ∨ z.ln = 7 ∨ z.ln = 8 ∨ z.ln = 10 → ∃ m, mv = .pointer (some ⟨m, 0, none⟩) ∧ Ajd w O (k + 14) m z.m)
 (h7 : z.ln = 5 ∨ z.ln = 9 → ∃ u, ov = .pointer (some ⟨u, 0, none⟩) ∧ Ajc w O (k + 16) u z.p z.o) (h8 : z.ln = 6 → ∃ u, uv = .pointer (some ⟨u, 0, none⟩) ∧ Ai5 w O (k + 17) u z.d z.tag z.ref z.u) : Ac2 w O k X z :=
 ⟨z.ln, z.now, z.p, d, z.tag, z.ref, rv, mv, ov, uv, h1, rfl, fun _ => ⟨rfl, rfl, rfl, rfl⟩, h4, h5, h6, h7, h8⟩
theorem Ail {z : Mvm} {d : Spt} {rv mv ov uv : Value} (h1 : Ob w O k X (Ach (if z.p.s + 1 = 4 then 0 else 1) z.lost z.now ⟨z.p.b, z.p.q, z.p.s + 1⟩ z.tag z.ref rv d mv ov uv)) : Ac2 w O k X (Abl z) := by
 have hln := Ade z
 exact Ac2.raw (z := Abl z) (d := d) h1 (fun g => by omega) (fun g => by omega) (fun g => by omega) (fun g => by omega) (fun g => by omega)
theorem Atc {z : Mvm} (hz : Afr z) (h : RW w O C f s m) (hM : Ac2 w O k X z) (hl : z.ln = 4) (hk : 10 ≤ k) (hm : m ≤ 900000) (hhi : Hh O w) (n0 : 0 ≤ s.n) (n1 : s.n ≤ 4611686018427387904) :
 C2 34 X C.p w (Ad4 (Aae f.y (s, z)) k X C f m w O) := by
 have hl0 : z.ln ≠ 0 := by omega
 have hp := hz.p hl0
 have HZ := hQd hz
 have HP := hQd hp
 obtain ⟨y, hy⟩ := exq (Aae f.y (s, z))
 have hy2 := hy.trans (Akm f.y s z hl)
 rw [← hy]
 obtain ⟨d, rv, mv, ov, uv, hx, hd, hr, hmk, ho, hu⟩ := hM.open hl0
 rw [hl] at hx
 obtain ⟨b0, rfl, hb⟩ := hmk (by omega)
 have hmo := hz.m (by omega)
 obtain ⟨a, l, hal, ha0, ha1⟩ := hmo.head
 have ho0 := hz.o0 (.inl hl)
 have HO0 := hQd ho0
 have hde := hd (by omega)
 subst hde
 rw [hal] at hb
 have HST := hQd (Ad2 a l h hb (k := k + 14) (by omega) hm hhi ha0 ha1 n0 n1)
 have x0 := hx.c 0 _ rfl
 have x12 := hx.c 12 _ rfl
 have HX := hQd hx
 have HY := hQd (aN hy2 (aN hal trivial))
 have HD := hQd (aN hl hd)
 clear hz hp h hM hl hl0 hy hy2 hx hd hr hmk ho hu hb hal ha0 ha1 hhi hmo ho0
 go_enter Tryz.func34, Tryz.ntmps34
 go_wp2_with fail
 refine HST.out.mono ?_
 rintro e w1 ⟨rfl, G1, e1, P1, r1⟩
 have X1 := HX.out.ext e1 (by unfold SD SR; omega)
 have H1 := hQd (aN (e1.mono (T := SD k (k + 17)) fun t _ h => SD.mono (by omega) (by omega) h) (aN P1 (aN X1 r1)))
 have y12 := X1.c 12 _ rfl
 have c0 := r1.cell
 clear e1 P1 X1 r1 HST HX x0 x12
 by_cases hl0 : l = []
 · have HL := hQd hl0
   rw [if_pos hl0] at c0
   have HB := hQd (An2 (H1.out.2.2.1) HP.out hk H1.out.1.hi)
   clear hl0
   go_wp2_with fail
   refine HB.out.mono ?_
   rintro e w2 ⟨rfl, G2, e2, u, x2, q2⟩
   have P2 := H1.out.2.1.ext e2
   have H2 := hQd (aN (H1.out.1.trans (e2.mono (T := SD k (k + 17)) fun t _ h => .inr h)) (aN P2 (aN x2 q2)))
   clear e2 P2 x2 q2 HB H1 y12 c0
   go_wp2_with fail
   go_end0
   have hyy : y = (Ab0 a 1 s, ⟨5, z.lost, z.now, z.p, z.tag, z.ref, z.rm, z.d, l, z.o, z.u⟩) := by rw [HY.out.1, HY.out.2.1]; simp [HL.out]
   rw [hyy]
   refine ⟨rfl, G2, H2.out.1, H2.out.2.1, Ac2.raw H2.out.2.2.1 (fun _ => rfl) (nnn) (nnn) (fun _ => ⟨u, rfl, ?_⟩) (nnn)⟩
   dsimp only
   rw [HO0.out]
   exact H2.out.2.2.2
 have HL := hQd hl0
 rw [if_neg hl0] at c0
 clear hl0
 go_wp2_with fail
 go_end0
 have hyy : y = (Ab0 a 1 s, ⟨4, z.lost, z.now, z.p, z.tag, z.ref, z.rm, z.d, l, z.o, z.u⟩) := by rw [HY.out.1, HY.out.2.1]; simp [HL.out]
 rw [hyy]
 exact ⟨rfl, G1, H1.out.1, H1.out.2.1, Ac2.raw H1.out.2.2.1 (fun _ => rfl) (nnn) (fun _ => ⟨b0, rfl, H1.out.2.2.2⟩) (nnn) (nnn)⟩
theorem As9 {z : Mvm} (hz : Afr z) (h : RW w O C f s m) (hM : Ac2 w O k X z) (hl : z.ln = 7) (hk : 10 ≤ k) (hm : m ≤ 900000) (hhi : Hh O w) (n0 : 0 ≤ s.n) (n1 : s.n ≤ 4611686018427387904) :
 C2 34 X C.p w (Ad4 (Aae f.y (s, z)) k X C f m w O) := by
 have hl0 : z.ln ≠ 0 := by omega
 have hp := hz.p hl0
 have HZ := hQd hz
 have HP := hQd hp
 obtain ⟨y, hy⟩ := exq (Aae f.y (s, z))
 have hy2 := hy.trans (Akj f.y s z hl)
 rw [← hy]
 obtain ⟨d, rv, mv, ov, uv, hx, hd, hr, hmk, ho, hu⟩ := hM.open hl0
 rw [hl] at hx
 obtain ⟨b0, rfl, hb⟩ := hmk (by omega)
 have hmo := hz.m (by omega)
 obtain ⟨a, l, hal, ha0, ha1⟩ := hmo.head
 rw [hal] at hb
 have HST := hQd (Ad2 a l h hb (k := k + 14) (by omega) hm hhi ha0 ha1 n0 n1)
 have x0 := hx.c 0 _ rfl
 have x12 := hx.c 12 _ rfl
 have HX := hQd hx
 have HY := hQd (aN hy2 (aN hal trivial))
 have HD := hQd (aN hl hd)
 clear hz hp h hM hl hl0 hy hy2 hx hd hr hmk ho hu hb hal ha0 ha1 hhi hmo
 go_enter Tryz.func34, Tryz.ntmps34
 go_wp2_with fail
 refine HST.out.mono ?_
 rintro e w1 ⟨rfl, G1, e1, P1, r1⟩
 have X1 := HX.out.ext e1 (by unfold SD SR; omega)
 have H1 := hQd (aN (e1.mono (T := SD k (k + 17)) fun t _ h => SD.mono (by omega) (by omega) h) (aN P1 (aN X1 r1)))
 have y12 := X1.c 12 _ rfl
 have c0 := r1.cell
 clear e1 P1 X1 r1 HST HX x0 x12
 by_cases hl0 : l = []
 · have HL := hQd hl0
   rw [if_pos hl0] at c0
   have HB := hQd (An0 (H1.out.2.2.1) HP.out.s0 HP.out.s1 hk H1.out.1.hi)
   clear hl0
   go_wp2_with fail
   refine HB.out.mono ?_
   rintro e w2 ⟨rfl, G2, e2, x2⟩
   have P2 := H1.out.2.1.ext e2
   have H2 := hQd (aN (H1.out.1.trans (e2.mono (T := SD k (k + 17)) fun t _ h => .inr h)) (aN P2 x2))
   clear e2 P2 x2 HB H1 y12 c0
   go_wp2_with fail
   go_end0
   have hyy : y = (Ab0 a 1 s, Abl z) := by rw [HY.out.1, HY.out.2.1]; simp [HL.out]
   rw [hyy]
   exact ⟨rfl, G2, H2.out.1, H2.out.2.1, Ail H2.out.2.2⟩
 have HL := hQd hl0
 rw [if_neg hl0] at c0
 clear hl0
 go_wp2_with fail
 go_end0
 have hyy : y = (Ab0 a 1 s, ⟨7, z.lost, z.now, z.p, z.tag, z.ref, z.rm, z.d, l, z.o, z.u⟩) := by rw [HY.out.1, HY.out.2.1]; simp [HL.out]
 rw [hyy]
 exact ⟨rfl, G1, H1.out.1, H1.out.2.1, Ac2.raw H1.out.2.2.1 (fun _ => HD.out.2 (by rw [HD.out.1]; decide)) (nnn) (fun _ => ⟨b0, rfl, H1.out.2.2.2⟩) (nnn) (nnn)⟩
theorem As8 {z : Mvm} (hz : Afr z) (h : RW w O C f s m) (hM : Ac2 w O k X z) (hl : z.ln = 8) (hk : 10 ≤ k) (hm : m ≤ 900000) (hhi : Hh O w) (n0 : 0 ≤ s.n) (n1 : s.n ≤ 4611686018427387904) :
 C2 34 X C.p w (Ad4 (Aae f.y (s, z)) k X C f m w O) := by
 have hl0 : z.ln ≠ 0 := by omega
 have hp := hz.p hl0
 have HZ := hQd hz
 have HP := hQd hp
 obtain ⟨y, hy⟩ := exq (Aae f.y (s, z))
 have hy2 := hy.trans (Aki f.y s z hl)
 rw [← hy]
 obtain ⟨d, rv, mv, ov, uv, hx, hd, hr, hmk, ho, hu⟩ := hM.open hl0
 rw [hl] at hx
 obtain ⟨b0, rfl, hb⟩ := hmk (by omega)
 have hal := hz.m1 (by omega)
 obtain ⟨a, hae⟩ := exq z.p.ver
 obtain ⟨l, hle⟩ : ∃ l : List Int, l = [] := ⟨_, rfl⟩
 have ha0 : 0 ≤ a := by have := hp.ver; omega
 have ha1 : a < 18446744073709551616 := by have := hp.ver; omega
 rw [← hae, ← hle] at hal
 have ho0 := hz.o0 (.inr hl)
 have HO0 := hQd ho0
 rw [hal] at hb
 have HST := hQd (Ad2 a l h hb (k := k + 14) (by omega) hm hhi ha0 ha1 n0 n1)
 have x0 := hx.c 0 _ rfl
 have x12 := hx.c 12 _ rfl
 have HX := hQd hx
 have HY := hQd (aN hy2 (aN hal (aN hae hle)))
 have HD := hQd (aN hl hd)
 clear hz hp h hM hl hl0 hy hy2 hx hd hr hmk ho hu hb hal ha0 ha1 hhi hae hle ho0
 go_enter Tryz.func34, Tryz.ntmps34
 go_wp2_with fail
 refine HST.out.mono ?_
 rintro e w1 ⟨rfl, G1, e1, P1, r1⟩
 have X1 := HX.out.ext e1 (by unfold SD SR; omega)
 have H1 := hQd (aN (e1.mono (T := SD k (k + 17)) fun t _ h => SD.mono (by omega) (by omega) h) (aN P1 (aN X1 r1)))
 have y12 := X1.c 12 _ rfl
 have c0 := r1.cell
 clear e1 P1 X1 r1 HST HX x0 x12
 by_cases hl0 : l = []
 · have HL := hQd hl0
   rw [if_pos hl0] at c0
   have HB := hQd (Anz (H1.out.2.2.1) HP.out hk H1.out.1.hi)
   clear hl0
   go_wp2_with fail
   refine HB.out.mono ?_
   rintro e w2 ⟨rfl, G2, e2, u, x2, q2⟩
   have P2 := H1.out.2.1.ext e2
   have H2 := hQd (aN (H1.out.1.trans (e2.mono (T := SD k (k + 17)) fun t _ h => .inr h)) (aN P2 (aN x2 q2)))
   clear e2 P2 x2 q2 HB H1 y12 c0
   go_wp2_with fail
   go_end0
   have hyy : y = (Ab0 a 1 s, ⟨9, z.lost, z.now, z.p, z.tag, z.ref, z.rm, z.d, [], ⟨0, 0⟩, z.u⟩) := by rw [HY.out.1, HY.out.2.2.1]
   rw [hyy]
   exact ⟨rfl, G2, H2.out.1, H2.out.2.1, Ac2.raw H2.out.2.2.1 (fun _ => HD.out.2 (by rw [HD.out.1]; decide)) (nnn) (nnn) (fun _ => ⟨u, rfl, H2.out.2.2.2⟩) (nnn)⟩
 exact absurd HY.out.2.2.2 hl0
theorem Aqs {z : Mvm} (hz : Afr z) (h : RW w O C f s m) (hM : Ac2 w O k X z) (hl : z.ln = 10) (hk : 10 ≤ k) (hm : m ≤ 900000) (hhi : Hh O w) (n0 : 0 ≤ s.n) (n1 : s.n ≤ 4611686018427387904) :
 C2 34 X C.p w (Ad4 (Aae f.y (s, z)) k X C f m w O) := by
 have hl0 : z.ln ≠ 0 := by omega
 have hp := hz.p hl0
 have HZ := hQd hz
 have HP := hQd hp
 obtain ⟨y, hy⟩ := exq (Aae f.y (s, z))
 have hy2 := hy.trans (Aia f.y s z hl)
 rw [← hy]
 obtain ⟨d, rv, mv, ov, uv, hx, hd, hr, hmk, ho, hu⟩ := hM.open hl0
 rw [hl] at hx
 obtain ⟨b0, rfl, hb⟩ := hmk (by omega)
 have hal := hz.m1 (by omega)
 obtain ⟨a, hae⟩ := exq z.p.ver
 obtain ⟨l, hle⟩ : ∃ l : List Int, l = [] := ⟨_, rfl⟩
 have ha0 : 0 ≤ a := by have := hp.ver; omega
 have ha1 : a < 18446744073709551616 := by have := hp.ver; omega
 rw [← hae, ← hle] at hal
 rw [hal] at hb
 have HST := hQd (Ad2 a l h hb (k := k + 14) (by omega) hm hhi ha0 ha1 n0 n1)
 have x0 := hx.c 0 _ rfl
 have x12 := hx.c 12 _ rfl
 have HX := hQd hx
 have HY := hQd (aN hy2 (aN hal (aN hae hle)))
 have HD := hQd (aN hl hd)
 clear hz hp h hM hl hl0 hy hy2 hx hd hr hmk ho hu hb hal ha0 ha1 hhi hae hle
 go_enter Tryz.func34, Tryz.ntmps34
 go_wp2_with fail
 refine HST.out.mono ?_
 rintro e w1 ⟨rfl, G1, e1, P1, r1⟩
 have X1 := HX.out.ext e1 (by unfold SD SR; omega)
 have H1 := hQd (aN (e1.mono (T := SD k (k + 17)) fun t _ h => SD.mono (by omega) (by omega) h) (aN P1 (aN X1 r1)))
 have y12 := X1.c 12 _ rfl
 have c0 := r1.cell
 clear e1 P1 X1 r1 HST HX x0 x12
 by_cases hl0 : l = []
 · have HL := hQd hl0
   rw [if_pos hl0] at c0
   have HB := hQd (Amk (H1.out.2.2.1) hk H1.out.1.hi)
   clear hl0
   go_wp2_with fail
   refine HB.out.mono ?_
   rintro e w2 ⟨rfl, G2, e2, x2⟩
   have P2 := H1.out.2.1.ext e2
   have H2 := hQd (aN (H1.out.1.trans (e2.mono (T := SD k (k + 17)) fun t _ h => .inr h)) (aN P2 x2))
   clear e2 P2 x2 HB H1 y12 c0
   go_wp2_with fail
   go_end0
   have hyy : y = (Ab0 a 1 s, ⟨11, z.lost, z.now, z.p, z.tag, z.ref, z.rm, z.d, [], z.o, z.u⟩) := by rw [HY.out.1, HY.out.2.2.1]
   rw [hyy]
   exact ⟨rfl, G2, H2.out.1, H2.out.2.1, Ac2.raw H2.out.2.2 (fun _ => HD.out.2 (by rw [HD.out.1]; decide)) (nnn) (nnn) (nnn) (nnn)⟩
 exact absurd HY.out.2.2.2 hl0
theorem Atb {z : Mvm} (hz : Afr z) (h : RW w O C f s m) (hM : Ac2 w O k X z) (hl : z.ln = 5) (hk : 10 ≤ k) (hm : m ≤ 900000) (hhi : Hh O w) (n0 : 0 ≤ s.n) (n1 : s.n ≤ 4611686018427387904) :
 C2 34 X C.p w (Ad4 (Aae f.y (s, z)) k X C f m w O) := by
 have hl0 : z.ln ≠ 0 := by omega
 have hp := hz.p hl0
 have HZ := hQd hz
 have HP := hQd hp
 obtain ⟨y, hy⟩ := exq (Aae f.y (s, z))
 have hy2 := hy.trans (Akl f.y s z hl)
 rw [← hy]
 obtain ⟨d, rv, mv, ov, uv, hx, hd, hr, hmk, ho, hu⟩ := hM.open hl0
 rw [hl] at hx
 obtain ⟨b0, rfl, hb⟩ := ho (by omega)
 have hoo := hz.o (by omega)
 have hu0 := hz.u0 (.inr hl)
 have hde := hd (by omega)
 subst hde
 have hdk := hz.d (by omega) (by omega)
 have HU := hQd (aN hu0 hdk)
 have HOO := hQd hoo
 have hln := Ab5 z.p s z.o hoo.1
 have HST := hQd (Agq z.o h hb (k := k + 16) hp hoo.1 hoo.2.1 hoo.2.2 (by omega) hm hhi n0 n1)
 obtain ⟨s1, o1, hso⟩ : ∃ s1 o1, Aaj z.p s z.o = (s1, o1) := ⟨_, _, rfl⟩
 rw [hso] at HST hln
 dsimp only at HST hln
 have hov := Abt (o := o1) (by have := hoo.1; omega)
 have x0 := hx.c 0 _ rfl
 have x13 := hx.c 13 _ rfl
 have g1 := hb.ob.c 1 _ rfl
 have HX := hQd hx
 have HY := hQd (aN hy2 (aN hso (aN hov hln)))
 have HD := hQd (aN hl hd)
 have hcc : z.o.ln = 0 ∨ z.o.ln = 1 ∨ z.o.ln = 2 := by have := hoo.1; omega
 clear hz hp h hM hl hl0 hy hy2 hx hd hr hmk ho hu hb hhi hoo hso hov hln hu0 hdk
 rcases hcc with q | q | q
 · rw [q] at g1
   have g1 : w.cell? ⟨b0, 1, none⟩ = some (.bool false) := g1
   have HQ := hQd q
   clear q
   go_enter Tryz.func34, Tryz.ntmps34
   go_wp2_with fail
   refine HST.out.mono ?_
   rintro e w1 ⟨rfl, G1, e1, P1, r1⟩
   have X1 := HX.out.ext e1 (by unfold SD SR; omega)
   have H1 := hQd (aN (e1.mono (T := SD k (k + 17)) fun t _ h => SD.mono (by omega) (by omega) h) (aN P1 (aN X1 r1)))
   have hl1 : o1.ln = 1 := by have := HY.out.2.2.2; have := HQ.out; omega
   have y0 := X1.c 0 _ rfl
   have y13 := X1.c 13 _ rfl
   obtain ⟨c0, c1⟩ := r1.ob.c2
   rw [hl1] at c0 c1
   have c0 : w1.cell? ⟨b0, 0, none⟩ = some (.int .i64 2) := c0
   have c1 : w1.cell? ⟨b0, 1, none⟩ = some (.bool false) := c1
   have HL1 := hQd hl1
   clear e1 P1 X1 r1 HST HX x0 x13 g1 hl1
   go_wp2_with fail
   go_end0
   have hov : Aa7 o1 = false := by rw [HY.out.2.2.1, HL1.out]; rfl
   have hyy : y = (s1, ⟨5, z.lost, z.now, z.p, z.tag, z.ref, z.rm, z.d, z.m, o1, z.u⟩) := by rw [HY.out.1, HY.out.2.1]; simp [hov]
   rw [hyy]
   exact ⟨rfl, G1, H1.out.1, H1.out.2.1, Ac2.raw H1.out.2.2.1 (fun _ => rfl) (nnn) (nnn) (fun _ => ⟨b0, rfl, H1.out.2.2.2⟩) (nnn)⟩
 · rw [q] at g1
   have g1 : w.cell? ⟨b0, 1, none⟩ = some (.bool false) := g1
   have HQ := hQd q
   clear q
   go_enter Tryz.func34, Tryz.ntmps34
   go_wp2_with fail
   refine HST.out.mono ?_
   rintro e w1 ⟨rfl, G1, e1, P1, r1⟩
   have X1 := HX.out.ext e1 (by unfold SD SR; omega)
   have H1 := hQd (aN (e1.mono (T := SD k (k + 17)) fun t _ h => SD.mono (by omega) (by omega) h) (aN P1 (aN X1 r1)))
   have hl1 : o1.ln = 2 := by have := HY.out.2.2.2; have := HQ.out; omega
   have y0 := X1.c 0 _ rfl
   have y13 := X1.c 13 _ rfl
   obtain ⟨c0, c1⟩ := r1.ob.c2
   rw [hl1] at c0 c1
   have c0 : w1.cell? ⟨b0, 0, none⟩ = some (.int .i64 3) := c0
   have c1 : w1.cell? ⟨b0, 1, none⟩ = some (.bool true) := c1
   have HL1 := hQd hl1
   clear e1 P1 X1 r1 HST HX x0 x13 g1 hl1
   go_wp2_with fail
   go_end0
   have hov : Aa7 o1 = false := by rw [HY.out.2.2.1, HL1.out]; rfl
   have hyy : y = (s1, ⟨5, z.lost, z.now, z.p, z.tag, z.ref, z.rm, z.d, z.m, o1, z.u⟩) := by rw [HY.out.1, HY.out.2.1]; simp [hov]
   rw [hyy]
   exact ⟨rfl, G1, H1.out.1, H1.out.2.1, Ac2.raw H1.out.2.2.1 (fun _ => rfl) (nnn) (nnn) (fun _ => ⟨b0, rfl, H1.out.2.2.2⟩) (nnn)⟩
 rw [q] at g1
 have g1 : w.cell? ⟨b0, 1, none⟩ = some (.bool true) := g1
 have HQ := hQd q
 clear q
 go_enter Tryz.func34, Tryz.ntmps34
 go_wp2_with fail
 refine HST.out.mono ?_
 rintro e w1 ⟨rfl, G1, e1, P1, r1⟩
 have X1 := HX.out.ext e1 (by unfold SD SR; omega)
 have H1 := hQd (aN (e1.mono (T := SD k (k + 17)) fun t _ h => SD.mono (by omega) (by omega) h) (aN P1 (aN X1 r1)))
 have hl1 : o1.ln = 3 := by have := HY.out.2.2.2; have := HQ.out; omega
 have y0 := X1.c 0 _ rfl
 have y13 := X1.c 13 _ rfl
 obtain ⟨c0, c1⟩ := r1.ob.c2
 rw [hl1] at c0 c1
 have c0 : w1.cell? ⟨b0, 0, none⟩ = some (.int .i64 0) := c0
 have c1 : w1.cell? ⟨b0, 1, none⟩ = some (.bool true) := c1
 have HL1 := hQd hl1
 clear e1 P1 X1 r1 HST HX x0 x13 g1 hl1
 have HB := hQd (An1 H1.out.2.2.1 HP.out HU.out.2 hk H1.out.1.hi)
 go_wp2_with fail
 refine HB.out.mono ?_
 rintro e w2 ⟨rfl, G2, e2, q2, q3⟩
 have P2 := H1.out.2.1.ext e2
 have H2 := hQd (aN (H1.out.1.trans (e2.mono (T := SD k (k + 17)) fun t _ h => .inr h)) (aN P2 (aN q2 q3)))
 clear e2 P2 q2 q3 HB H1 y0 y13 c0 c1
 go_wp2_with fail
 go_end0
 have hov : Aa7 o1 = true := by rw [HY.out.2.2.1, HL1.out]; rfl
 by_cases hou : Aa7 z.u = true
 · have hyy : y = (s1, ⟨7, z.lost, z.now, z.p, z.tag, z.ref, z.rm, z.d, mk2 z.p z.d, o1, z.u⟩) := by rw [HY.out.1, HY.out.2.1]; simp [hov, hou, mv7]
   rw [hyy]
   obtain ⟨mm, uv2, x2, r2⟩ := H2.out.2.2.2 (by rw [← HU.out.1]; exact hou)
   exact ⟨rfl, G2, H2.out.1, H2.out.2.1, Ac2.raw x2 (fun _ => rfl) (nnn) (fun _ => ⟨mm, rfl, r2⟩) (nnn) (nnn)⟩
 have hyy : y = (s1, ⟨6, z.lost, z.now, z.p, z.tag, z.ref, z.rm, z.d, z.m, o1, z.u⟩) := by rw [HY.out.1, HY.out.2.1]; simp [hov, hou]
 rw [hyy]
 obtain ⟨uu, x2, r2⟩ := H2.out.2.2.1 (by rw [← HU.out.1]; simpa using hou)
 refine ⟨rfl, G2, H2.out.1, H2.out.2.1, Ac2.raw x2 (fun _ => rfl) (nnn) (nnn) (nnn) (fun _ => ⟨uu, rfl, ?_⟩)⟩
 dsimp only
 rw [HU.out.1]
 exact r2
theorem As7 {z : Mvm} (hz : Afr z) (h : RW w O C f s m) (hM : Ac2 w O k X z) (hl : z.ln = 9) (hk : 10 ≤ k) (hm : m ≤ 900000) (hhi : Hh O w) (n0 : 0 ≤ s.n) (n1 : s.n ≤ 4611686018427387904) :
 C2 34 X C.p w (Ad4 (Aae f.y (s, z)) k X C f m w O) := by
 have hl0 : z.ln ≠ 0 := by omega
 have hp := hz.p hl0
 have HZ := hQd hz
 have HP := hQd hp
 obtain ⟨y, hy⟩ := exq (Aae f.y (s, z))
 have hy2 := hy.trans (Akh f.y s z hl)
 rw [← hy]
 obtain ⟨d, rv, mv, ov, uv, hx, hd, hr, hmk, ho, hu⟩ := hM.open hl0
 rw [hl] at hx
 obtain ⟨b0, rfl, hb⟩ := ho (by omega)
 have hoo := hz.o (by omega)
 have HOO := hQd hoo
 have hln := Ab5 z.p s z.o hoo.1
 have HST := hQd (Agq z.o h hb (k := k + 16) hp hoo.1 hoo.2.1 hoo.2.2 (by omega) hm hhi n0 n1)
 obtain ⟨s1, o1, hso⟩ : ∃ s1 o1, Aaj z.p s z.o = (s1, o1) := ⟨_, _, rfl⟩
 rw [hso] at HST hln
 dsimp only at HST hln
 have hov := Abt (o := o1) (by have := hoo.1; omega)
 have x0 := hx.c 0 _ rfl
 have x13 := hx.c 13 _ rfl
 have g1 := hb.ob.c 1 _ rfl
 have HX := hQd hx
 have HY := hQd (aN hy2 (aN hso (aN hov hln)))
 have HD := hQd (aN hl hd)
 have hcc : z.o.ln = 0 ∨ z.o.ln = 1 ∨ z.o.ln = 2 := by have := hoo.1; omega
 clear hz hp h hM hl hl0 hy hy2 hx hd hr hmk ho hu hb hhi hoo hso hov hln
 rcases hcc with q | q | q
 · rw [q] at g1
   have g1 : w.cell? ⟨b0, 1, none⟩ = some (.bool false) := g1
   have HQ := hQd q
   clear q
   go_enter Tryz.func34, Tryz.ntmps34
   go_wp2_with fail
   refine HST.out.mono ?_
   rintro e w1 ⟨rfl, G1, e1, P1, r1⟩
   have X1 := HX.out.ext e1 (by unfold SD SR; omega)
   have H1 := hQd (aN (e1.mono (T := SD k (k + 17)) fun t _ h => SD.mono (by omega) (by omega) h) (aN P1 (aN X1 r1)))
   have hl1 : o1.ln = 1 := by have := HY.out.2.2.2; have := HQ.out; omega
   have y0 := X1.c 0 _ rfl
   have y13 := X1.c 13 _ rfl
   obtain ⟨c0, c1⟩ := r1.ob.c2
   rw [hl1] at c0 c1
   have c0 : w1.cell? ⟨b0, 0, none⟩ = some (.int .i64 2) := c0
   have c1 : w1.cell? ⟨b0, 1, none⟩ = some (.bool false) := c1
   have HL1 := hQd hl1
   clear e1 P1 X1 r1 HST HX x0 x13 g1 hl1
   go_wp2_with fail
   go_end0
   have hyy : y = (s1, ⟨9, z.lost, z.now, z.p, z.tag, z.ref, z.rm, z.d, [], o1, z.u⟩) := by rw [HY.out.1, HY.out.2.1]; simp [HQ.out]
   rw [hyy]
   exact ⟨rfl, G1, H1.out.1, H1.out.2.1, Ac2.raw H1.out.2.2.1 (fun _ => HD.out.2 (by rw [HD.out.1]; decide)) (nnn) (nnn) (fun _ => ⟨b0, rfl, H1.out.2.2.2⟩) (nnn)⟩
 · rw [q] at g1
   have g1 : w.cell? ⟨b0, 1, none⟩ = some (.bool false) := g1
   have HQ := hQd q
   clear q
   go_enter Tryz.func34, Tryz.ntmps34
   go_wp2_with fail
   refine HST.out.mono ?_
   rintro e w1 ⟨rfl, G1, e1, P1, r1⟩
   have X1 := HX.out.ext e1 (by unfold SD SR; omega)
   have H1 := hQd (aN (e1.mono (T := SD k (k + 17)) fun t _ h => SD.mono (by omega) (by omega) h) (aN P1 (aN X1 r1)))
   have hl1 : o1.ln = 2 := by have := HY.out.2.2.2; have := HQ.out; omega
   have y0 := X1.c 0 _ rfl
   have y13 := X1.c 13 _ rfl
   obtain ⟨c0, c1⟩ := r1.ob.c2
   rw [hl1] at c0 c1
   have c0 : w1.cell? ⟨b0, 0, none⟩ = some (.int .i64 3) := c0
   have c1 : w1.cell? ⟨b0, 1, none⟩ = some (.bool true) := c1
   have HL1 := hQd hl1
   clear e1 P1 X1 r1 HST HX x0 x13 g1 hl1
   obtain ⟨-, -, -, y3, y4, y5, -, y7⟩ := H1.out.2.2.1.c8
   go_upto_region 30 with fail
   go_region_held3 (fun w' => w'.cell? ⟨X, 3, none⟩ = some (.int .i64 z.p.b) ∧ w'.cell? ⟨X, 4, none⟩ = some (.int .i64 z.p.q) ∧ w'.cell? ⟨X, 5, none⟩ = some (.int .i64 z.p.s) ∧ w'.cell? ⟨X, 7, none⟩ = some (.int .i64 z.ref)) (go_keep)
    ((go_at_call 76
      refine (Aho 1 z.ref z.p.b z.p.q z.p.s 0 (w := w1.drew) (H1.out.2.1.below H1.out.1.hi (Aaa w1)) (H1.out.1.below (Aaa w1)).hi (by decide) (by decide)).mono ?_
      rintro e w2 ⟨rfl, G2, e2, P2⟩
      have X2 := (H1.out.2.2.1.below (Aaa w1)).ext e2 (by unfold SR; omega)
      have H2 := hQd (aN ((H1.out.1.below (Aaa w1)).trans (e2.mono (T := SD k (k + 17)) fun t _ h => .inl h)) (aN P2 (aN X2 ((H1.out.2.2.2.below (Aaa w1)).ext e2 (by unfold SR; omega)))))
      obtain ⟨-, -, -, z3, z4, z5, -, z7⟩ := X2.c8
      clear e2 P2 X2))
   all_goals
    clear y3 y4 y5 y7 z3 z4 z5 z7 y0 y13 c0 c1
    have y13 := H2.out.2.2.1.c 13 _ rfl
    have c0 := H2.out.2.2.2.ob.c 0 _ rfl
    rw [HL1.out] at c0
    have c0 : w2.cell? ⟨b0, 0, none⟩ = some (.int .i64 3) := c0
    clear H1
    go_wp2_with fail
    go_end0
    have hyy : y = (Abr 1 z.ref z.p.b z.p.q z.p.s 0 s1, ⟨9, z.lost, z.now, z.p, z.tag, z.ref, z.rm, z.d, [], o1, z.u⟩) := by rw [HY.out.1, HY.out.2.1]; simp [HQ.out]
    rw [hyy]
    exact ⟨rfl, G2, H2.out.1, H2.out.2.1, Ac2.raw H2.out.2.2.1 (fun _ => HD.out.2 (by rw [HD.out.1]; decide)) (nnn) (nnn) (fun _ => ⟨b0, rfl, H2.out.2.2.2⟩) (nnn)⟩
 rw [q] at g1
 have g1 : w.cell? ⟨b0, 1, none⟩ = some (.bool true) := g1
 have HQ := hQd q
 clear q
 go_enter Tryz.func34, Tryz.ntmps34
 go_wp2_with fail
 refine HST.out.mono ?_
 rintro e w1 ⟨rfl, G1, e1, P1, r1⟩
 have X1 := HX.out.ext e1 (by unfold SD SR; omega)
 have H1 := hQd (aN (e1.mono (T := SD k (k + 17)) fun t _ h => SD.mono (by omega) (by omega) h) (aN P1 (aN X1 r1)))
 have hl1 : o1.ln = 3 := by have := HY.out.2.2.2; have := HQ.out; omega
 have y0 := X1.c 0 _ rfl
 have y13 := X1.c 13 _ rfl
 obtain ⟨c0, c1⟩ := r1.ob.c2
 rw [hl1] at c0 c1
 have c0 : w1.cell? ⟨b0, 0, none⟩ = some (.int .i64 0) := c0
 have c1 : w1.cell? ⟨b0, 1, none⟩ = some (.bool true) := c1
 have HL1 := hQd hl1
 clear e1 P1 X1 r1 HST HX x0 x13 g1 hl1
 have HB := hQd (Any H1.out.2.2.1 HP.out hk H1.out.1.hi)
 go_wp2_with fail
 refine HB.out.mono ?_
 rintro e w2 ⟨rfl, G2, e2, mm, x2, q2⟩
 have P2 := H1.out.2.1.ext e2
 have H2 := hQd (aN (H1.out.1.trans (e2.mono (T := SD k (k + 17)) fun t _ h => .inr h)) (aN P2 (aN x2 q2)))
 clear e2 P2 x2 q2 HB H1 y0 y13 c0 c1
 go_wp2_with fail
 go_end0
 have hyy : y = (s1, ⟨10, z.lost, z.now, z.p, z.tag, z.ref, z.rm, z.d, [z.p.ver], o1, z.u⟩) := by rw [HY.out.1, HY.out.2.1]; simp [HQ.out]
 rw [hyy]
 exact ⟨rfl, G2, H2.out.1, H2.out.2.1, Ac2.raw H2.out.2.2.1 (fun _ => HD.out.2 (by rw [HD.out.1]; decide)) (nnn) (fun _ => ⟨mm, rfl, H2.out.2.2.2⟩) (nnn) (nnn)⟩
theorem Ata {z : Mvm} (hz : Afr z) (h : RW w O C f s m) (hM : Ac2 w O k X z) (hl : z.ln = 6) (hk : 10 ≤ k) (hm : m ≤ 900000) (hhi : Hh O w) (n0 : 0 ≤ s.n) (n1 : s.n ≤ 4611686018427387904) :
 C2 34 X C.p w (Ad4 (Aae f.y (s, z)) k X C f m w O) := by
 have hl0 : z.ln ≠ 0 := by omega
 have hp := hz.p hl0
 have HZ := hQd hz
 have HP := hQd hp
 obtain ⟨y, hy⟩ := exq (Aae f.y (s, z))
 have hy2 := hy.trans (Akk f.y s z hl)
 rw [← hy]
 obtain ⟨d, rv, mv, ov, uv, hx, hd, hr, hmk, ho, hu⟩ := hM.open hl0
 rw [hl] at hx
 obtain ⟨b0, rfl, hb⟩ := hu hl
 have huu := hz.u hl
 have ht0 := hz.t0
 have hrf := hz.rf
 have hde := hd (by omega)
 subst hde
 have hdk := hz.d (by omega) (by omega)
 have hln := Acw z.d z.tag z.ref s z.u huu.1
 have HST := hQd (Ajx z.u h hb (k := k + 17) hdk ⟨huu.2.2.2.1, ht0.2, huu.2.2.2.2, hrf.2⟩ huu.1 huu.2.1 huu.2.2.1 (by omega) hm hhi n0 n1)
 obtain ⟨s1, o1, hso⟩ : ∃ s1 o1, Aap z.d z.tag z.ref s z.u = (s1, o1) := ⟨_, _, rfl⟩
 rw [hso] at HST hln
 dsimp only at HST hln
 have hov := Abt (o := o1) (by have := huu.1; omega)
 have x0 := hx.c 0 _ rfl
 have x14 := hx.c 14 _ rfl
 have HX := hQd hx
 have HY := hQd (aN hy2 (aN hso (aN hov (aN hln huu.1))))
 have HU := hQd hdk
 clear hz hp h hM hl hl0 hy hy2 hx hd hr hmk ho hu hb hhi huu hso hov hln hdk ht0 hrf
 go_enter Tryz.func34, Tryz.ntmps34
 go_wp2_with fail
 refine HST.out.mono ?_
 rintro e w1 ⟨rfl, G1, e1, P1, r1⟩
 have X1 := HX.out.ext e1 (by unfold SD SR; omega)
 have H1 := hQd (aN (e1.mono (T := SD k (k + 17)) fun t _ h => SD.mono (by omega) (by omega) h) (aN P1 (aN X1 r1)))
 have y14 := X1.c 14 _ rfl
 have c0 := r1.ob.c 0 _ rfl
 clear e1 P1 X1 r1 HST HX x0 x14
 by_cases h3 : o1.ln = 3
 · rw [if_pos h3] at c0
   have HL := hQd h3
   have HB := hQd (Air H1.out.2.2.1 HP.out HU.out hk H1.out.1.hi)
   clear h3
   go_wp2_with fail
   refine HB.out.mono ?_
   rintro e w2 ⟨rfl, G2, e2, mm, x2, q2⟩
   have P2 := H1.out.2.1.ext e2
   have H2 := hQd (aN (H1.out.1.trans (e2.mono (T := SD k (k + 17)) fun t _ h => .inr h)) (aN P2 (aN x2 q2)))
   clear e2 P2 x2 q2 HB H1 y14 c0
   go_wp2_with fail
   go_end0
   have hov : Aa7 o1 = true := by rw [HY.out.2.2.1, HL.out]; rfl
   have hyy : y = (s1, ⟨7, z.lost, z.now, z.p, z.tag, z.ref, z.rm, z.d, mk2 z.p z.d, z.o, o1⟩) := by rw [HY.out.1, HY.out.2.1]; simp [hov, mv7]
   rw [hyy]
   exact ⟨rfl, G2, H2.out.1, H2.out.2.1, Ac2.raw H2.out.2.2.1 (fun _ => rfl) (nnn) (fun _ => ⟨mm, rfl, H2.out.2.2.2⟩) (nnn) (nnn)⟩
 rw [if_neg h3] at c0
 have HL := hQd h3
 have d1 : ((o1.ln : Int) + 1 == 0) = false := by simp; omega
 clear h3
 go_wp2_with fail
 go_end0
 have hov : Aa7 o1 = false := by rw [HY.out.2.2.1]; simp [HL.out]
 have hyy : y = (s1, ⟨6, z.lost, z.now, z.p, z.tag, z.ref, z.rm, z.d, z.m, z.o, o1⟩) := by rw [HY.out.1, HY.out.2.1]; simp [hov]
 rw [hyy]
 exact ⟨rfl, G1, H1.out.1, H1.out.2.1, Ac2.raw H1.out.2.2.1 (fun _ => rfl) (nnn) (nnn) (nnn) (fun _ => ⟨b0, rfl, H1.out.2.2.2⟩)⟩
theorem Aqr {z : Mvm} (hlo0 : 0 ≤ z.lost) (hlo1 : z.lost ≤ 1000000) (hz : Afr z) (h : RW w O C f s m) (hM : Ac2 w O k X z) (hl : z.ln = 11) (hk : 10 ≤ k) (hm : m ≤ 900000) (hhi : Hh O w) (n0 : 0 ≤ s.n) (n1 : s.n ≤ 4611686018427387904) :
 C2 34 X C.p w (Ad4 (Aae f.y (s, z)) k X C f m w O) := by
 have hl0 : z.ln ≠ 0 := by omega
 have hp := hz.p hl0
 have HZ := hQd hz
 have HP := hQd hp
 obtain ⟨y, hy⟩ := exq (Aae f.y (s, z))
 have hy2 := hy.trans (Ah9 f.y s z hl)
 rw [← hy]
 obtain ⟨d, rv, mv, ov, uv, hx, hd, hr, hmk, ho, hu⟩ := hM.open hl0
 rw [hl] at hx
 have HST := hQd (Asq 6 18446744073709551615 h (by omega) (by decide) (by decide) (by decide) (by decide) hhi n0 n1)
 have x0 := hx.c 0 _ rfl
 have HX := hQd hx
 have HY := hQd (aN hy2 (aN hl hd))
 clear hz hp h hM hl hl0 hy hy2 hx hd hr hmk ho hu hhi
 go_enter Tryz.func34, Tryz.ntmps34
 go_wp2_with fail
 refine HST.out.mono ?_
 rintro e w1 ⟨rfl, G1, e1, P1⟩
 have X1 := HX.out.ext e1 (by unfold SR; omega)
 have H1 := hQd (aN (e1.mono (T := SD k (k + 17)) fun t _ h => .inl h) (aN P1 X1))
 obtain ⟨-, -, -, y3, y4, y5, -, y7⟩ := X1.c8
 clear e1 P1 X1 HST HX x0
 go_upto_region 39 with fail
 go_region_held3 (fun w' => w'.cell? ⟨X, 3, none⟩ = some (.int .i64 z.p.b) ∧ w'.cell? ⟨X, 4, none⟩ = some (.int .i64 z.p.q) ∧ w'.cell? ⟨X, 5, none⟩ = some (.int .i64 z.p.s) ∧ w'.cell? ⟨X, 7, none⟩ = some (.int .i64 z.ref)) (go_keep)
  ((go_at_call 76
    refine (Aho 2 z.ref z.p.b z.p.q z.p.s 0 (w := w1.drew) (H1.out.2.1.below H1.out.1.hi (Aaa w1)) (H1.out.1.below (Aaa w1)).hi (by decide) (by decide)).mono ?_
    rintro e w2 ⟨rfl, G2, e2, P2⟩
    have X2 := (H1.out.2.2.below (Aaa w1)).ext e2 (by unfold SR; omega)
    have H2 := hQd (aN ((H1.out.1.below (Aaa w1)).trans (e2.mono (T := SD k (k + 17)) fun t _ h => .inl h)) (aN P2 X2))
    obtain ⟨-, -, -, z3, z4, z5, -, z7⟩ := X2.c8
    clear e2 P2 X2))
 all_goals
  clear y3 y4 y5 y7 z3 z4 z5 z7
  have y1 := H2.out.2.2.c 1 _ rfl
  have g1 := H2.out.2.2.f 1
  have hlw : IntKind.i64.wrap (z.lost + 1) = z.lost + 1 := by simp [IntKind.wrap, IntKind.bits, IntKind.signed]; omega
  obtain ⟨e3, X3⟩ := Aal H2.out.2.2 hk H2.out.1.hi 1 (.int .i64 (z.lost + 1)) (by simp [Ach])
  have H3 := hQd (aN (H2.out.1.trans (e3.mono (T := SD k (k + 17)) fun t _ h => .inr (by omega))) (aN (H2.out.2.1.ext e3) X3))
  have HB := hQd (Amj (lost := z.lost + 1) H3.out.2.2 HP.out.s0 HP.out.s1 hk H3.out.1.hi)
  obtain ⟨w3, hw3⟩ := exq (w2.setCell ⟨X, 1, none⟩ (.int .i64 (z.lost + 1)))
  clear e3 X3
  go_wp2_with fail
  rw [← hw3] at H3 HB ⊢
  clear hw3 y1 g1 H1 H2
  refine HB.out.mono ?_
  rintro e w4 ⟨rfl, G4, e4, x4⟩
  have P4 := H3.out.2.1.ext e4
  have H4 := hQd (aN (H3.out.1.trans (e4.mono (T := SD k (k + 17)) fun t _ h => .inr h)) (aN P4 x4))
  clear e4 P4 x4 HB H3
  go_wp2_with fail
  go_end0
  rw [HY.out.1]
  exact ⟨rfl, G4, H4.out.1, H4.out.2.1, Ail (z := ⟨11, z.lost + 1, z.now, z.p, z.tag, z.ref, z.rm, z.d, z.m, z.o, z.u⟩) H4.out.2.2⟩
end
end
section
open Go.RowKit Go.Shelf
section
variable {X : Nat} {w : World} {O : Om} {C : Wb} {f : Cf} {s : AW} {m k : Nat}
theorem Atd {z : Mvm} (hz : Afr z) (h : RW w O C f s m) (hM : Ac2 w O k X z) (hl : z.ln = 3) (hk : 10 ≤ k) (hm : m ≤ 900000) (hhi : Hh O w) (n0 : 0 ≤ s.n) (n1 : s.n ≤ 4611686018427387904) :
 C2 34 X C.p w (Ad4 (Aae f.y (s, z)) k X C f m w O) := by
 have hl0 : z.ln ≠ 0 := by omega
 have hp := hz.p hl0
 have HZ := hQd hz
 have HP := hQd hp
 obtain ⟨y, hy⟩ := exq (Aae f.y (s, z))
 have hy2 := hy.trans (Ahl f.y s z hl)
 rw [← hy]
 obtain ⟨d, rv, mv, ov, uv, hx, hd, hr, hmk, ho, hu⟩ := hM.open hl0
 rw [hl] at hx
 obtain ⟨R, rfl, hR⟩ := hr hl
 have hrr := hz.r hl
 have hrk := hrr.1.step (s := s) f.y h.bd
 have HST := hQd (Avq (k := k + 1) hrr.1 h hR hrr.2 (by omega) hm hhi n0 n1)
 unfold Adj at HST
 obtain ⟨s1, r1, hsr⟩ : ∃ s1 r1, Aaq f.y (s, z.rm) = (s1, r1) := ⟨_, _, rfl⟩
 rw [hsr] at HST hrk
 dsimp only at HST hrk
 obtain ⟨x0, -, -, -, -, -, -, -, x8⟩ := hx.c9
 have HX := hQd hx
 have HY := hQd (aN hy2 (aN hsr hrk))
 clear hz hp h hM hl hl0 hy hy2 hx hd hr hmk ho hu hhi hrr hrk hsr hR
 go_enter Tryz.func34, Tryz.ntmps34
 go_wp2_with fail
 refine HST.out.mono ?_
 rintro e w1 ⟨rfl, G1, e1, P1, q1⟩
 have X1 := HX.out.ext e1 (by unfold SD SR; omega)
 have H1 := hQd (aN (e1.mono (T := SD k (k + 17)) fun t _ h => SD.mono (by omega) (by omega) h) (aN P1 (aN X1 q1)))
 have y8 := X1.c 8 _ rfl
 have c0 := q1.c0
 have HG := hQd (Ays q1)
 clear e1 P1 X1 q1 HST HX x0 x8
 by_cases hr0 : r1.ln = 0
 · rw [hr0] at c0
   have HR0 := hQd hr0
   clear hr0
   by_cases his : r1.is = true
   · have hdk := HY.out.2.2.p (.inr his)
     rw [his] at HG
     simp only [if_true] at HG
     have HI := hQd his
     have HDK := hQd hdk
     obtain ⟨db, hdb⟩ := exq r1.p.b
     obtain ⟨dq, hdq⟩ := exq r1.p.q
     obtain ⟨ds, hds⟩ := exq r1.p.s
     rw [← hdb, ← hdq, ← hds] at HG
     have HDD := hQd (aN hdb (aN hdq hds))
     clear his hdk hdb hdq hds
     go_wp2_with fail
     refine HG.out.mono ?_
     rintro e w2 ⟨rfl, hb2⟩
     have H2 := hQd (aN (H1.out.1.below hb2) (aN (H1.out.2.1.below H1.out.1.hi hb2) (H1.out.2.2.1.below hb2)))
     have hb3 := bal w2 (.cells #[.int .i64 db, .int .i64 dq, .int .i64 ds] 95)
     obtain ⟨-, t3⟩ := Aau (S := fun _ => False) H2.out.1.hi #[.int .i64 db, .int .i64 dq, .int .i64 ds] 95 w2.heap.size rfl
     have H3 := hQd (aN (H2.out.1.below hb3) (aN (H2.out.2.1.below H2.out.1.hi hb3) (aN (H2.out.2.2.below hb3) t3)))
     clear hb2 hb3 t3 y8 c0 HG H1
     go_upto_region 14 with fail
     obtain ⟨w3, hw3⟩ := exq (w2.alloc (.cells #[.int .i64 db, .int .i64 dq, .int .i64 ds] 95))
     rw [← hw3] at H3 ⊢
     obtain ⟨T, hT⟩ := exq w2.heap.size
     rw [← hT] at H3 ⊢
     clear hw3 hT H2
     obtain ⟨t0, t1, t2⟩ := H3.out.2.2.2.c3
     have y9 := H3.out.2.2.1.c 9 _ rfl
     have y10 := H3.out.2.2.1.c 10 _ rfl
     have y11 := H3.out.2.2.1.c 11 _ rfl
     have k9 := H3.out.2.2.1.f 9
     have k10 := H3.out.2.2.1.f 10
     have k11 := H3.out.2.2.1.f 11
     have hXT : ¬ T = X := H3.out.2.2.2.ne H3.out.2.2.1 (by omega)
     have hXT2 : ¬ X = T := fun e => hXT e.symm
     obtain ⟨e4, X4⟩ := Aal H3.out.2.2.1 hk H3.out.1.hi 9 (.int .i64 db) (by simp [Ach])
     obtain ⟨e5, X5⟩ := Aal X4 hk e4.hi 10 (.int .i64 dq) (by simp [Ach])
     obtain ⟨e6, X6⟩ := Aal X5 hk e5.hi 11 (.int .i64 ds) (by simp [Ach])
     have E := (e4.trans e5).trans e6
     have E' : Ext (SD k (k + 17)) O w G1 _ := H3.out.1.trans (E.mono (T := SD k (k + 17)) fun t _ h => .inr (by omega))
     have P6 := H3.out.2.1.ext E
     obtain ⟨w6, hw6⟩ := exq (((w3.setCell ⟨X, 9, none⟩ (.int .i64 db)).setCell ⟨X, 10, none⟩ (.int .i64 dq)).setCell ⟨X, 11, none⟩ (.int .i64 ds))
     rw [← hw6] at E' P6 X6
     have H6 := hQd (aN E' (aN P6 X6))
     clear e4 X4 e5 X5 e6 E E' P6
     have X7 : Ob w6 G1 k X (Ach 3 z.lost z.now z.p z.tag z.ref (.pointer (some ⟨R, 0, none⟩)) r1.p mv ov uv) := by
      have := X6
      rw [HDD.out.1, HDD.out.2.1, HDD.out.2.2] at this
      exact this
     have HB := hQd (Ayy X7 HP.out HDK.out hk H6.out.1.hi)
     clear X6 X7
     go_wp2_with fail
     rw [← hw6]
     clear hw6 t0 t1 t2 y9 y10 y11 k9 k10 k11 hXT hXT2 H3
     refine HB.out.mono ?_
     rintro e w7 ⟨rfl, G7, e7, mm, x7, r7⟩
     have P7 := H6.out.2.1.ext e7
     have H7 := hQd (aN (H6.out.1.trans (e7.mono (T := SD k (k + 17)) fun t _ h => .inr h)) (aN P7 (aN x7 r7)))
     clear e7 P7 x7 r7 HB H6
     go_wp2_with fail
     go_end0
     have hyy : y = (s1, ⟨4, z.lost, z.now, z.p, z.tag, z.ref, r1, r1.p, mk2 z.p r1.p, ⟨0, 0⟩, Abe z.tag z.ref⟩) := by rw [HY.out.1, HY.out.2.1]; simp [HR0.out, HI.out]
     rw [hyy]
     exact ⟨rfl, G7, H7.out.1, H7.out.2.1, Ac2.raw H7.out.2.2.1 (fun _ => rfl) (nnn) (fun _ => ⟨mm, rfl, H7.out.2.2.2⟩) (nnn) (nnn)⟩
   have his : r1.is = false := by simpa using his
   rw [his] at HG
   simp only [Bool.false_eq_true, if_false] at HG
   have HI := hQd his
   clear his
   go_wp2_with fail
   refine HG.out.mono ?_
   rintro e w2 ⟨rfl, hb2⟩
   have H2 := hQd (aN (H1.out.1.below hb2) (aN (H1.out.2.1.below H1.out.1.hi hb2) (H1.out.2.2.1.below hb2)))
   have hb3 := bal w2 (.cells #[.int .i64 0, .int .i64 0, .int .i64 0] 95)
   obtain ⟨-, t3⟩ := Aau (S := fun _ => False) H2.out.1.hi #[.int .i64 0, .int .i64 0, .int .i64 0] 95 w2.heap.size rfl
   have H3 := hQd (aN (H2.out.1.below hb3) (aN (H2.out.2.1.below H2.out.1.hi hb3) (aN (H2.out.2.2.below hb3) t3)))
   clear hb2 hb3 t3 y8 c0 HG H1
   go_upto_region 14 with fail
   obtain ⟨w3, hw3⟩ := exq (w2.alloc (.cells #[.int .i64 0, .int .i64 0, .int .i64 0] 95))
   rw [← hw3] at H3 ⊢
   obtain ⟨T, hT⟩ := exq w2.heap.size
   rw [← hT] at H3 ⊢
   clear hw3 hT H2
   obtain ⟨t0, t1, t2⟩ := H3.out.2.2.2.c3
   have y9 := H3.out.2.2.1.c 9 _ rfl
   have y10 := H3.out.2.2.1.c 10 _ rfl
   have y11 := H3.out.2.2.1.c 11 _ rfl
   have k9 := H3.out.2.2.1.f 9
   have k10 := H3.out.2.2.1.f 10
   have k11 := H3.out.2.2.1.f 11
   have hXT : ¬ T = X := H3.out.2.2.2.ne H3.out.2.2.1 (by omega)
   have hXT2 : ¬ X = T := fun e => hXT e.symm
   obtain ⟨e4, X4⟩ := Aal H3.out.2.2.1 hk H3.out.1.hi 9 (.int .i64 0) (by simp [Ach])
   obtain ⟨e5, X5⟩ := Aal X4 hk e4.hi 10 (.int .i64 0) (by simp [Ach])
   obtain ⟨e6, X6⟩ := Aal X5 hk e5.hi 11 (.int .i64 0) (by simp [Ach])
   have E := (e4.trans e5).trans e6
   have E' : Ext (SD k (k + 17)) O w G1 _ := H3.out.1.trans (E.mono (T := SD k (k + 17)) fun t _ h => .inr (by omega))
   have P6 := H3.out.2.1.ext E
   obtain ⟨w6, hw6⟩ := exq (((w3.setCell ⟨X, 9, none⟩ (.int .i64 0)).setCell ⟨X, 10, none⟩ (.int .i64 0)).setCell ⟨X, 11, none⟩ (.int .i64 0))
   rw [← hw6] at E' P6 X6
   have H6 := hQd (aN E' (aN P6 X6))
   clear e4 X4 e5 X5 e6 E E' P6
   have X7 : Ob w6 G1 k X (Ach 3 z.lost z.now z.p z.tag z.ref (.pointer (some ⟨R, 0, none⟩)) Am0 mv ov uv) := X6
   have HB := hQd (Ayu X7 HP.out hk H6.out.1.hi)
   clear X6 X7
   go_wp2_with fail
   rw [← hw6]
   clear hw6 t0 t1 t2 y9 y10 y11 k9 k10 k11 hXT hXT2 H3
   refine HB.out.mono ?_
   rintro e w7 ⟨rfl, G7, e7, mm, x7, r7⟩
   have P7 := H6.out.2.1.ext e7
   have H7 := hQd (aN (H6.out.1.trans (e7.mono (T := SD k (k + 17)) fun t _ h => .inr h)) (aN P7 (aN x7 r7)))
   clear e7 P7 x7 r7 HB H6
   go_wp2_with fail
   go_end0
   have hyy : y = (s1, ⟨8, z.lost, z.now, z.p, z.tag, z.ref, r1, Am0, [z.p.ver], ⟨0, 0⟩, z.u⟩) := by rw [HY.out.1, HY.out.2.1]; simp [HR0.out, HI.out]
   rw [hyy]
   exact ⟨rfl, G7, H7.out.1, H7.out.2.1, Ac2.raw H7.out.2.2.1 (fun _ => rfl) (nnn) (fun _ => ⟨mm, rfl, H7.out.2.2.2⟩) (nnn) (nnn)⟩
 have d1 : (r1.ln != 0) = true := by simp [hr0]
 have HR0 := hQd hr0
 clear hr0
 go_wp2_with fail
 refine bodyPost_ret (v := .tuple #[]) (results_none (by rfl) _ _ _) rfl ?_
 have hyy : y = (s1, ⟨3, z.lost, z.now, z.p, z.tag, z.ref, r1, z.d, z.m, z.o, z.u⟩) := by rw [HY.out.1, HY.out.2.1]; simp [HR0.out]
 rw [hyy]
 exact ⟨rfl, G1, H1.out.1, H1.out.2.1, Ac2.raw H1.out.2.2.1 (nnn) (fun _ => ⟨R, rfl, H1.out.2.2.2⟩) (nnn) (nnn) (nnn)⟩
theorem Atf {z : Mvm} (hz : Afr z) (h : RW w O C f s m) (hM : Ac2 w O k X z) (hl : z.ln = 1) (hk : 10 ≤ k) (hm : m ≤ 900000) (hhi : Hh O w) (n0 : 0 ≤ s.n) (n1 : s.n ≤ 4611686018427387904) :
 C2 34 X C.p w (Ad4 (Aae f.y (s, z)) k X C f m w O) := by
 have hl0 : z.ln ≠ 0 := by omega
 have hp := hz.p hl0
 have HZ := hQd hz
 have HP := hQd hp
 obtain ⟨y, hy⟩ := exq (Aae f.y (s, z))
 have hy2 := hy.trans (Ako f.y s z hl)
 rw [← hy]
 obtain ⟨d, rv, mv, ov, uv, hx, hd, hr, hmk, ho, hu⟩ := hM.open hl0
 rw [hl] at hx
 have hta2 : Aai z.p.b z.p.q = z.p.tags := rfl
 have HT := hQd (fun W => Ac8 z.p.b z.p.q W (by have := hp.b0; omega) (by have := hp.b1; omega) (by have := hp.q0; omega) (by have := hp.q2; omega))
 rw [hta2] at HT
 have hbt := h.bd z.p.tags
 have HTG := hQd (fun W => Adr (s.M z.p.tags) z.p.s W hbt.1 hbt.2 (by have := hp.s0; omega) (by have := hp.s1; omega))
 have htg := hp.tags
 have hta : 0 ≤ z.p.tags ∧ z.p.tags < 18446744073709551616 := by omega
 obtain ⟨ta, hta3⟩ := exq z.p.tags
 rw [← hta3] at HT HTG hta hy2
 obtain ⟨tg, htg2⟩ := exq (Aay (s.M ta) z.p.s)
 rw [← htg2] at HTG hy2
 have HTA := hQd hta
 have HM : Hid (Md k (k + 17) w O w O C f s m k X (Ach 1 z.lost z.now z.p z.tag z.ref rv d mv ov uv)) := hQd (Md.start hhi h hx)
 obtain ⟨x0, -, -, x3, x4, x5⟩ := hx.c6
 have HY := hQd hy2
 clear hz hp h hM hl hl0 hy hy2 hx hd hr hmk ho hu hhi hta2 hbt htg hta hta3 htg2
 go_enter Tryz.func34, Tryz.ntmps34
 go_upto_region 2 with fail
 go_region_held3 (fun w' => w'.cell? ⟨X, 3, none⟩ = some (.int .i64 z.p.b) ∧ w'.cell? ⟨X, 4, none⟩ = some (.int .i64 z.p.q) ∧ w'.cell? ⟨X, 5, none⟩ = some (.int .i64 z.p.s)) (go_keep)
  ((first
    | (go_at_call 68
       refine (HT.out _).mono ?_
       rintro e w1 ⟨rfl, hb1⟩
       have M1 := hQd (HM.out.drew.below hb1)
       obtain ⟨-, -, -, t01, t11, t21⟩ := M1.out.t.c6
       clear hb1)
    | (go_at_call 28
       refine (Ac1 ta M1.out.p (by omega) HTA.out.1 HTA.out.2 M1.out.e.hi n0 n1).mono ?_
       rintro e w2 ⟨rfl, G2, e2, P2⟩
       have M2 := hQd (M1.out.world hk e2 P2)
       obtain ⟨-, -, -, t02, t12, t22, x26⟩ := M2.out.t.c7
       have f26 := M2.out.t.f 6
       have M3 := hQd (M2.out.set hk (Nat.le_refl _) (by omega) 6 (.int .i64 tg) (by simp [Ach]))
       obtain ⟨-, -, -, t03, t13, t23⟩ := M3.out.t.c6
       clear e2 P2)
    | (go_at_call 77
       refine (HTG.out _).mono ?_
       rintro e w' ⟨rfl, rfl⟩)))
 all_goals
  clear x0 x3 x4 x5 t01 t11 t21 t02 t12 t22 t03 t13 t23 x26 f26 M1 HM HT HTG
  have y0 := M3.out.t.c 0 _ rfl
  have g0 := M3.out.t.f 0
  have M4 := hQd (M3.out.set hk (Nat.le_refl _) (by omega) 0 (.int .i64 2) (by simp [Ach]))
  obtain ⟨w3, hw3⟩ := exq (w2.setCell ⟨X, 6, none⟩ (.int .i64 tg))
  rw [← hw3] at y0 g0 M4
  obtain ⟨w4, hw4⟩ := exq (w3.setCell ⟨X, 0, none⟩ (.int .i64 2))
  rw [← hw4] at M4
  clear M3 M2
  go_upto_region 3 with fail
  rw [← hw3]
  clear hw3
  go_upto_region 4 with fail
  rw [← hw4]
  clear hw4 y0 g0
  have y6 := M4.out.t.c 6 _ rfl
  by_cases ht0 : tg = 0
  · have d1 : (tg == 0) = true := by simp [ht0]
    have HT0 := hQd ht0
    have HB := hQd (Ak2 (p := z.p) (ln := 2) M4.out.t HP.out.s0 HP.out.s1 hk M4.out.e.hi)
    clear ht0
    go_wp2_with fail
    refine HB.out.mono ?_
    rintro e w5 ⟨rfl, G5, e5, x5⟩
    have P5 := M4.out.p.ext e5
    have H5 := hQd (aN (M4.out.e.trans (e5.mono (T := SD k (k + 17)) fun t _ h => .inr h)) (aN P5 x5))
    clear e5 P5 x5 HB M4 y6
    go_wp2_with fail
    go_end0
    have hyy : y = (Aan ta s, Abl ⟨1, z.lost, z.now, z.p, 0, z.ref, z.rm, z.d, z.m, z.o, z.u⟩) := by rw [HY.out]; simp [HT0.out]
    rw [hyy]
    refine ⟨rfl, G5, H5.out.1, H5.out.2.1, Ail (z := ⟨1, z.lost, z.now, z.p, 0, z.ref, z.rm, z.d, z.m, z.o, z.u⟩) (d := d) (rv := rv) (mv := mv) (ov := ov) (uv := uv) ?_⟩
    have := H5.out.2.2
    rw [HT0.out] at this
    exact this
  have d1 : (tg == 0) = false := by simp [ht0]
  have HT0 := hQd ht0
  clear ht0
  go_wp2_with fail
  go_end0
  have hyy : y = (Aan ta s, ⟨2, z.lost, z.now, z.p, tg, z.ref, z.rm, z.d, z.m, z.o, z.u⟩) := by rw [HY.out]; simp [HT0.out]
  rw [hyy]
  exact ⟨rfl, G2, M4.out.e, M4.out.p, Ac2.raw (d := d) (rv := rv) (mv := mv) (ov := ov) (uv := uv) M4.out.t (nnn) (nnn) (nnn) (nnn) (nnn)⟩
theorem Ate {z : Mvm} (hz : Afr z) (h : RW w O C f s m) (hM : Ac2 w O k X z) (hl : z.ln = 2) (hil : s.it.length ≤ 1000000) (hks : (Adz s.it (wrap64 (s.M z.p.item))).key.size ≤ maxLen) (hk : 10 ≤ k) (hm : m ≤ 900000) (hhi : Hh O w) (n0 : 0 ≤ s.n) (n1 : s.n ≤ 4611686018427387904) :
 C2 34 X C.p w (Ad4 (Aae f.y (s, z)) k X C f m w O) := by
 have hl0 : z.ln ≠ 0 := by omega
 have hp := hz.p hl0
 have HZ := hQd hz
 have HP := hQd hp
 obtain ⟨y, hy⟩ := exq (Aae f.y (s, z))
 have hy2 := hy.trans (Akn f.y s z hl)
 rw [← hy]
 obtain ⟨d, rv, mv, ov, uv, hx, hd, hr, hmk, ho, hu⟩ := hM.open hl0
 rw [hl] at hx
 have hn := hz.now hl0
 have hia2 : Aca z.p.b z.p.q z.p.s = z.p.item := rfl
 have HI := hQd (fun W => Adh z.p.b z.p.q z.p.s W (by have := hp.b0; omega) (by have := hp.b1; omega) (by have := hp.q0; omega) (by have := hp.q2; omega) (by have := hp.s0; omega) (by have := hp.s1; omega))
 rw [hia2] at HI
 have hbt := h.bd z.p.item
 have hit := hp.item
 have hia : 0 ≤ z.p.item ∧ z.p.item < 18446744073709551616 := by omega
 obtain ⟨ia, hia3⟩ := exq z.p.item
 rw [← hia3] at HI hia hbt hks hy2
 obtain ⟨rf, hrf⟩ := exq (wrap64 (s.M ia))
 have hrf2 : IntKind.i64.wrap (s.M ia) = rf := by rw [hrf]; unfold wrap64; simp [IntKind.wrap, IntKind.bits, IntKind.signed]; omega
 rw [← hrf] at hks hy2
 have hyk : y = (Aan ia s, ⟨3, z.lost, z.now, z.p, z.tag, rf, Afc z.now (Acn (Adz s.it rf).key.data.toList), z.d, z.m, z.o, z.u⟩) := by rw [hy2, Ao2]
 have HH := hQd (fun W => Asu (Adz s.it rf).key W hks)
 have hhb := Ae8 (Adz s.it rf).key.data.toList
 have HIT := hQd (fun (W : World) (G : Om) (M1 : Md k (k + 17) w O W G C f (Aan ia s) (m + 1) k X (Ach 2 z.lost z.now z.p z.tag rf rv d mv ov uv)) => Aqo rf M1.p M1.e.hi hil)
 have HIT2 : Hid (∀ (W : World) (G : Om), Md k (k + 17) w O W G C f (Aan ia s) (m + 1) k X (Ach 2 z.lost z.now z.p z.tag rf rv d mv ov uv) → Calls Tryz.prog 65 #[.pointer (some ⟨C.p, 0, none⟩), .int .i64 rf] W fun e w' => ∃ (x1 : ByteArray) (x2 x3 x4 x5 : Int), e = .returned (.agg #[.string (Adz s.it rf).key, .string x1, .int .u32 x2, .int .u64 x3, .int .i64 x4, .int .i64 x5]) ∧ Below W.heap.size W w') := HIT
 obtain ⟨ky, hky⟩ := exq ((Adz s.it rf).key)
 rw [← hky] at HH hhb HIT2 hyk
 obtain ⟨hv, hhv⟩ := exq (Acn ky.data.toList)
 rw [← hhv] at HH hhb hyk
 have HNR := hQd (aN hn hhb)
 have HIA := hQd hia
 have HY := hQd hyk
 have HM : Hid (Md k (k + 17) w O w O C f s m k X (Ach 2 z.lost z.now z.p z.tag z.ref rv d mv ov uv)) := hQd (Md.start hhi h hx)
 obtain ⟨x0, -, -, x3, x4, x5⟩ := hx.c6
 clear hz hp h hM hl hl0 hy hy2 hx hd hr hmk ho hu hhi hia2 hbt hit hia hia3 hrf hks hyk hn hhb HIT hky hhv hil
 go_enter Tryz.func34, Tryz.ntmps34
 go_wp2_with fail
 refine (HI.out _).mono ?_
 rintro e w1 ⟨rfl, hb1⟩
 have M1 := hQd (HM.out.below hb1)
 clear hb1 x0 x3 x4 x5 HM HI
 go_wp2_with fail
 refine (Ac1 ia M1.out.p (by omega) HIA.out.1 HIA.out.2 M1.out.e.hi n0 n1).mono ?_
 rintro e w2 ⟨rfl, G2, e2, P2⟩
 have M2 := hQd (M1.out.world hk e2 P2)
 have x7 := M2.out.t.c 7 _ rfl
 have f7 := M2.out.t.f 7
 have M3 := hQd (M2.out.set hk (Nat.le_refl _) (by omega) 7 (.int .i64 rf) (by simp [Ach]))
 obtain ⟨w3, hw3⟩ := exq (w2.setCell ⟨X, 7, none⟩ (.int .i64 rf))
 rw [← hw3] at M3
 clear e2 P2 M1 M2
 go_upto_region 8 with fail
 rw [← hw3]
 clear hw3 x7 f7 hrf2
 obtain ⟨-, -, y2, -, -, -, -, y7⟩ := M3.out.t.c8
 go_region_held3 (fun w' => w'.cell? ⟨X, 2, none⟩ = some (.int .i64 z.now) ∧ w'.cell? ⟨X, 7, none⟩ = some (.int .i64 rf)) (go_keep)
  ((first
    | (go_at_call 65
       refine (HIT2.out _ _ M3.out.drew).mono ?_
       rintro e w4 ⟨k1, k2, k3, k4, k5, rfl, hb4⟩
       have M4 := hQd (M3.out.drew.below hb4)
       obtain ⟨-, -, q2, -, -, -, -, q7⟩ := M4.out.t.c8
       clear hb4)
    | (go_at_call 64
       refine (HH.out _).mono ?_
       rintro e w' ⟨rfl, rfl⟩)
    | (go_at_call 79
       refine (Ayr (k := k + 1) z.now hv HNR.out.1.1 HNR.out.1.2 HNR.out.2.1 HNR.out.2.2 (by omega) M4.out.e.hi).mono ?_
       rintro e w5 ⟨R, rfl, G5, e5, r5⟩
       have M5 := hQd (M4.out.oth hk e5 (by omega))
       have R5 := hQd r5
       obtain ⟨-, -, v2, -, -, -, -, v7, v8⟩ := M5.out.t.c9
       have h8 := M5.out.t.f 8
       have M6 := hQd (M5.out.set hk (Nat.le_refl _) (by omega) 8 (.pointer (some ⟨R, 0, none⟩)) (by simp [Ach]))
       obtain ⟨-, -, z2, -, -, -, -, z7⟩ := M6.out.t.c8
       clear e5 r5)))
 all_goals
  clear y2 y7 q2 q7 v2 v7 v8 h8 z2 z7 M3 M4
  have R6 := hQd (R5.out.ext (Aaf (j := 8) (v := .pointer (some ⟨R, 0, none⟩)) M5.out.e.hi M5.out.t hk) (fun t q1 q2 => by omega))
  obtain ⟨w6, hw6⟩ := exq (w5.setCell ⟨X, 8, none⟩ (.pointer (some ⟨R, 0, none⟩)))
  clear M5 R5
  go_upto_region 9 with fail
  rw [← hw6] at M6 R6 ⊢
  clear hw6
  have y0 := M6.out.t.c 0 _ rfl
  have g0 := M6.out.t.f 0
  go_wp2_with fail
  go_end0
  obtain ⟨e7, x7⟩ := Aal M6.out.t hk M6.out.e.hi 0 (.int .i64 3) (by simp [Ach])
  rw [HY.out]
  exact ⟨rfl, G5, M6.out.e.trans (e7.mono fun t _ h => .inr (by omega)), M6.out.p.ext e7, Ac2.raw (d := d) (mv := mv) (ov := ov) (uv := uv) x7 (nnn) (fun _ => ⟨R, rfl, R6.out.ext e7 (fun t q1 q2 => by omega)⟩) (nnn) (nnn) (nnn)⟩
theorem Avt {z : Mvm} (hz : Afr z) (h : RW w O C f s m) (hM : Ac2 w O k X z) (hl : z.ln ≠ 0) (hlo0 : 0 ≤ z.lost) (hlo1 : z.lost ≤ 1000000) (hil : s.it.length ≤ 1000000) (hks : ∀ r, (Adz s.it r).key.size ≤ maxLen) (hk : 10 ≤ k) (hm : m ≤ 900000) (hhi : Hh O w) (n0 : 0 ≤ s.n) (n1 : s.n ≤ 4611686018427387904) :
 C2 34 X C.p w (Ad4 (Aae f.y (s, z)) k X C f m w O) := by
 have h0 := hz.l0
 have h11 := hz.l11
 have hc : z.ln = 1 ∨ z.ln = 2 ∨ z.ln = 3 ∨ z.ln = 4 ∨ z.ln = 5 ∨ z.ln = 6 ∨ z.ln = 7 ∨ z.ln = 8 ∨ z.ln = 9 ∨ z.ln = 10 ∨ z.ln = 11 := by omega
 rcases hc with e | e | e | e | e | e | e | e | e | e | e
 · exact Atf hz h hM e hk hm hhi n0 n1
 · exact Ate hz h hM e hil (hks _) hk hm hhi n0 n1
 · exact Atd hz h hM e hk hm hhi n0 n1
 · exact Atc hz h hM e hk hm hhi n0 n1
 · exact Atb hz h hM e hk hm hhi n0 n1
 · exact Ata hz h hM e hk hm hhi n0 n1
 · exact As9 hz h hM e hk hm hhi n0 n1
 · exact As8 hz h hM e hk hm hhi n0 n1
 · exact As7 hz h hM e hk hm hhi n0 n1
 · exact Aqs hz h hM e hk hm hhi n0 n1
 exact Aqr hlo0 hlo1 hz h hM e hk hm hhi n0 n1
end
end
end Go.Proofs.YthbodknlhkapdaaGreat
