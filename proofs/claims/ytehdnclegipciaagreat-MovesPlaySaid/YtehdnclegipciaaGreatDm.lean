/- Parts of the walk. -/
import Derived.Test.YtehdnclegipciaaGreatD2
import Derived.Test.YtehdnclegipciaaGreatG6
import Derived.Test.YtehdnclegipciaaGreatMt
import Derived.Test.YtehdnclegipciaaGreatBaI
namespace Go.Proofs.YtehdnclegipciaaGreat
set_option linter.unusedVariables false
set_option linter.unusedSimpArgs false
set_option maxHeartbeats 4000000
set_option maxRecDepth 100000
section
open Go.RowKit Go.Shelf
def Bay (k X : Nat) (lost now : Int) (p : Spt) (tag ref : Int) (rv : Value) (d : Spt) (mv ov uv : Value) (w : World) (O : Om) (e : Ending) (w' : World) : Prop :=
 RP (fun t => k ≤ t ∧ t ≤ k + 17) w O (.tuple #[]) (fun W G => Ob W G k X (Acd (if p.s + 1 = 4 then 0 else 1) lost now ⟨p.b, p.q, p.s + 1⟩ tag ref rv d mv ov uv)) e w'
def Ay1 (n : Int) (l : List Int) (k X : Nat) (lost now : Int) (p : Spt) (tag ref : Int) (rv : Value) (d : Spt) (ov uv : Value) (w : World) (O : Om) (e : Ending) (w' : World) : Prop :=
 RP (fun t => k ≤ t ∧ t ≤ k + 17) w O (.tuple #[]) (fun W G => ∃ m', Ob W G k X (Acd n lost now p tag ref rv d (.pointer (some ⟨m', 0, none⟩)) ov uv) ∧ Ai1 W G (k + 14) m' l) e w'
def Ba1 (n : Int) (k X : Nat) (lost now : Int) (p : Spt) (tag ref : Int) (rv : Value) (d : Spt) (mv uv : Value) (w : World) (O : Om) (e : Ending) (w' : World) : Prop :=
 RP (fun t => k ≤ t ∧ t ≤ k + 17) w O (.tuple #[]) (fun W G => ∃ u, Ob W G k X (Acd n lost now p tag ref rv d mv (.pointer (some ⟨u, 0, none⟩)) uv) ∧ Ai0 W G (k + 16) u p ⟨0, 0⟩) e w'
def DmTp (k X : Nat) (lost now : Int) (p : Spt) (tag ref : Int) (rv : Value) (d : Spt) (mv ov : Value) (w : World) (O : Om) (e : Ending) (w' : World) : Prop :=
 RP (fun t => k ≤ t ∧ t ≤ k + 17) w O (.tuple #[]) (fun W G => (Aa5 (Abd tag ref) = false → ∃ u, Ob W G k X (Acd 6 lost now p tag ref rv d mv ov (.pointer (some ⟨u, 0, none⟩))) ∧ Ait W G (k + 17) u d tag ref (Abd tag ref)) ∧ (Aa5 (Abd tag ref) = true → ∃ m' uv, Ob W G k X (Acd 7 lost now p tag ref rv d (.pointer (some ⟨m', 0, none⟩)) ov uv) ∧ Ai1 W G (k + 14) m' (mk2 p d))) e w'
def DmT0 (n : Int) (k X : Nat) (lost now : Int) (p : Spt) (tag ref : Int) (rv : Value) (d : Spt) (mv ov uv : Value) (w : World) (O : Om) (e : Ending) (w' : World) : Prop :=
 RP (fun t => k ≤ t ∧ t ≤ k + 17) w O (.tuple #[]) (fun W G => Ob W G k X (Acd n lost now p tag ref rv d mv ov uv)) e w'
section
variable {X : Nat} {w : World} {O : Om} {C : Wb} {f : Cf} {s : AW} {m k : Nat}
theorem Akq {ln lost now tag ref : Int} {p d : Spt} {rv mv ov uv : Value} (hx : Ob w O k X (Acd ln lost now p tag ref rv d mv ov uv)) (hs0 : 0 ≤ p.s) (hs1 : p.s ≤ 3) (hk : 10 ≤ k) (hhi : Hh O w) :
 C1 84 X w (Bay k X lost now p tag ref rv d mv ov uv w O) := by
 have x0 := hx.c 0 _ rfl
 have x5 := hx.c 5 _ rfl
 have f0 := hx.f 0
 have f5 := hx.f 5
 have HX := hQd (aN hx hhi)
 have hc : p.s + 1 = 4 ∨ p.s + 1 ≠ 4 := by omega
 obtain ⟨ps, hps⟩ := exq p.s
 rw [← hps] at x5 hs0 hs1 hc
 have HP := hQd hps
 clear hx hhi hps
 rcases hc with c | c
 · have d4 : (ps + 1 == 4) = true := by simp [c]
   have HC := hQd c
   clear c
   go_enter Tryz.func84, Tryz.ntmps84
   go_wp2_with fail
   go_end0
   obtain ⟨e1, y1⟩ := Aap HX.out.1 hk HX.out.2 5 (.int .i64 (ps + 1)) (by simp [Acd])
   obtain ⟨e2, y2⟩ := Aap y1 hk e1.hi 0 (.int .i64 1) (by simp [Acd])
   obtain ⟨e3, y3⟩ := Aap y2 hk e2.hi 0 (.int .i64 0) (by simp [Acd])
   have hp4 : p.s + 1 = 4 := by rw [← HP.out]; exact HC.out
   unfold Bay
   rw [if_pos hp4, ← HP.out]
   exact ⟨rfl, O, ((e1.trans e2).trans e3).mono fun t _ h => by omega, y3⟩
 · have d4 : (ps + 1 == 4) = false := by simp [c]
   have HC := hQd c
   clear c
   go_enter Tryz.func84, Tryz.ntmps84
   go_wp2_with fail
   go_end0
   obtain ⟨e1, y1⟩ := Aap HX.out.1 hk HX.out.2 5 (.int .i64 (ps + 1)) (by simp [Acd])
   obtain ⟨e2, y2⟩ := Aap y1 hk e1.hi 0 (.int .i64 1) (by simp [Acd])
   have hp4 : ¬ p.s + 1 = 4 := by rw [← HP.out]; exact HC.out
   unfold Bay
   rw [if_neg hp4, ← HP.out]
   exact ⟨rfl, O, (e1.trans e2).mono fun t _ h => by omega, y2⟩
theorem Ax3 {ln lost now tag ref : Int} {p d : Spt} {rv mv ov uv : Value} (hx : Ob w O k X (Acd ln lost now p tag ref rv d mv ov uv)) (hp : p.ok) (hd : d.ok) (hk : 10 ≤ k) (hhi : Hh O w) :
 Calls Tryz.prog 91 #[.pointer (some ⟨X, 0, none⟩), .int .i64 4] w (Ay1 4 (mk2 p d) k X lost now p tag ref rv d ov uv w O) := by
 have x0 := hx.c 0 _ rfl
 have f0 := hx.f 0
 obtain ⟨e1, y1⟩ := Aap hx hk hhi 0 (.int .i64 4) (by simp [Acd])
 have H1 := hQd (aN (e1.mono (T := fun t => k ≤ t ∧ t ≤ k + 17) fun t _ h => by omega) y1)
 obtain ⟨W, hW⟩ := exq (w.setCell ⟨X, 0, none⟩ (.int .i64 4))
 rw [← hW] at H1
 have HPD := hQd (aN hp hd)
 have HMK := hQd (Agu hp hd).1
 have hb1 := bal W (.cells #[.int .i64 p.b, .int .i64 p.q, .int .i64 d.b, .int .i64 d.q] 51)
 have hb2 := Aaa (W.alloc (.cells #[.int .i64 p.b, .int .i64 p.q, .int .i64 d.b, .int .i64 d.q] 51))
 have hb3 := hb1.trans (hb2.mono (by simp <;> omega))
 obtain ⟨-, t1⟩ := Aat (S := fun _ => False) H1.out.1.hi #[.int .i64 p.b, .int .i64 p.q, .int .i64 d.b, .int .i64 d.q] 51 W.heap.size rfl
 have HA := hQd (aN (H1.out.1.below hb3) (aN (H1.out.2.below hb3) (t1.below hb2)))
 clear hx hp hd hhi e1 y1 hb1 hb2 hb3 t1
 go_enter Tryz.func91, Tryz.ntmps91
 go_upto_region 5 with fail
 rw [← hW]
 clear hW x0 f0
 have z3 := H1.out.2.c 3 _ rfl
 have z4 := H1.out.2.c 4 _ rfl
 have z9 := H1.out.2.c 9 _ rfl
 have z10 := H1.out.2.c 10 _ rfl
 have hXl : X < W.heap.size := H1.out.2.lt
 go_region_held3 (fun w' => w'.cell? ⟨X, 3, none⟩ = some (.int .i64 p.b) ∧ w'.cell? ⟨X, 4, none⟩ = some (.int .i64 p.q) ∧ w'.cell? ⟨X, 9, none⟩ = some (.int .i64 d.b) ∧ w'.cell? ⟨X, 10, none⟩ = some (.int .i64 d.q)) (go_keep)
  ((go_at_call 148
    refine (Ad6 (w := (W.alloc (.cells #[.int .i64 p.b, .int .i64 p.q, .int .i64 d.b, .int .i64 d.q] 51)).drew) p d HPD.out.1 HPD.out.2 (k + 14) (by omega) (by rw [HA.out.2.2.o]; omega) ⟨Nat.le_refl _, by unfold maxLen; decide⟩ HA.out.2.2.lt (HA.out.2.2.c 0 _ rfl) (HA.out.2.2.c 1 _ rfl) (HA.out.2.2.c 2 _ rfl) (HA.out.2.2.c 3 _ rfl) HA.out.1.hi).mono ?_
    rintro e w2 ⟨m', rfl, G2, e2, r2⟩
    have X2 := HA.out.2.1.ext e2
    have H2 := hQd (aN (HA.out.1.trans (e2.mono (T := fun t => k ≤ t ∧ t ≤ k + 17) fun t _ h => by omega)) (aN X2 r2))
    have x12 := X2.c 12 _ rfl
    have f12 := X2.f 12
    have q3 := X2.c 3 _ rfl
    have q4 := X2.c 4 _ rfl
    have q9 := X2.c 9 _ rfl
    have q10 := X2.c 10 _ rfl
    obtain ⟨ee, yy⟩ := Aap X2 hk e2.hi 12 (.pointer (some ⟨m', 0, none⟩)) (by simp [Acd])
    have r3 := yy.c 3 _ rfl
    have r4 := yy.c 4 _ rfl
    have r9 := yy.c 9 _ rfl
    have r10 := yy.c 10 _ rfl
    clear e2 r2 X2 ee yy))
 all_goals
  clear z3 z4 z9 z10 hXl q3 q4 q9 q10 r3 r4 r9 r10
  obtain ⟨e3, X3⟩ := Aap H2.out.2.1 hk H2.out.1.hi 12 (.pointer (some ⟨m', 0, none⟩)) (by simp [Acd])
  have H3 := hQd (aN (H2.out.1.trans (e3.mono (T := fun t => k ≤ t ∧ t ≤ k + 17) fun t _ h => by omega)) (aN X3 (H2.out.2.2.ext e3)))
  obtain ⟨w3, hw3⟩ := exq (w2.setCell ⟨X, 12, none⟩ (.pointer (some ⟨m', 0, none⟩)))
  rw [← hw3] at H3
  clear e3 X3 H2 HA H1
  go_upto_region 6 with fail
  rw [← hw3]
  clear hw3 x12 f12
  have x12 := H3.out.2.1.c 12 _ rfl
  have c0 := H3.out.2.2.cell
  rw [if_neg HMK.out] at c0
  go_wp2_with fail
  go_end0
  exact ⟨rfl, G2, H3.out.1, m', H3.out.2.1, H3.out.2.2⟩
theorem Ax0 {ln lost now tag ref : Int} {p d : Spt} {rv mv ov uv : Value} (hx : Ob w O k X (Acd ln lost now p tag ref rv d mv ov uv)) (hp : p.ok) (hd : d.ok) (hk : 10 ≤ k) (hhi : Hh O w) :
 Calls Tryz.prog 91 #[.pointer (some ⟨X, 0, none⟩), .int .i64 7] w (Ay1 7 (mk2 p d) k X lost now p tag ref rv d ov uv w O) := by
 have x0 := hx.c 0 _ rfl
 have f0 := hx.f 0
 obtain ⟨e1, y1⟩ := Aap hx hk hhi 0 (.int .i64 7) (by simp [Acd])
 have H1 := hQd (aN (e1.mono (T := fun t => k ≤ t ∧ t ≤ k + 17) fun t _ h => by omega) y1)
 obtain ⟨W, hW⟩ := exq (w.setCell ⟨X, 0, none⟩ (.int .i64 7))
 rw [← hW] at H1
 have HPD := hQd (aN hp hd)
 have HMK := hQd (Agu hp hd).1
 have hb1 := bal W (.cells #[.int .i64 p.b, .int .i64 p.q, .int .i64 d.b, .int .i64 d.q] 51)
 have hb2 := Aaa (W.alloc (.cells #[.int .i64 p.b, .int .i64 p.q, .int .i64 d.b, .int .i64 d.q] 51))
 have hb3 := hb1.trans (hb2.mono (by simp <;> omega))
 obtain ⟨-, t1⟩ := Aat (S := fun _ => False) H1.out.1.hi #[.int .i64 p.b, .int .i64 p.q, .int .i64 d.b, .int .i64 d.q] 51 W.heap.size rfl
 have HA := hQd (aN (H1.out.1.below hb3) (aN (H1.out.2.below hb3) (t1.below hb2)))
 clear hx hp hd hhi e1 y1 hb1 hb2 hb3 t1
 go_enter Tryz.func91, Tryz.ntmps91
 go_upto_region 5 with fail
 rw [← hW]
 clear hW x0 f0
 have z3 := H1.out.2.c 3 _ rfl
 have z4 := H1.out.2.c 4 _ rfl
 have z9 := H1.out.2.c 9 _ rfl
 have z10 := H1.out.2.c 10 _ rfl
 have hXl : X < W.heap.size := H1.out.2.lt
 go_region_held3 (fun w' => w'.cell? ⟨X, 3, none⟩ = some (.int .i64 p.b) ∧ w'.cell? ⟨X, 4, none⟩ = some (.int .i64 p.q) ∧ w'.cell? ⟨X, 9, none⟩ = some (.int .i64 d.b) ∧ w'.cell? ⟨X, 10, none⟩ = some (.int .i64 d.q)) (go_keep)
  ((go_at_call 148
    refine (Ad6 (w := (W.alloc (.cells #[.int .i64 p.b, .int .i64 p.q, .int .i64 d.b, .int .i64 d.q] 51)).drew) p d HPD.out.1 HPD.out.2 (k + 14) (by omega) (by rw [HA.out.2.2.o]; omega) ⟨Nat.le_refl _, by unfold maxLen; decide⟩ HA.out.2.2.lt (HA.out.2.2.c 0 _ rfl) (HA.out.2.2.c 1 _ rfl) (HA.out.2.2.c 2 _ rfl) (HA.out.2.2.c 3 _ rfl) HA.out.1.hi).mono ?_
    rintro e w2 ⟨m', rfl, G2, e2, r2⟩
    have X2 := HA.out.2.1.ext e2
    have H2 := hQd (aN (HA.out.1.trans (e2.mono (T := fun t => k ≤ t ∧ t ≤ k + 17) fun t _ h => by omega)) (aN X2 r2))
    have x12 := X2.c 12 _ rfl
    have f12 := X2.f 12
    have q3 := X2.c 3 _ rfl
    have q4 := X2.c 4 _ rfl
    have q9 := X2.c 9 _ rfl
    have q10 := X2.c 10 _ rfl
    obtain ⟨ee, yy⟩ := Aap X2 hk e2.hi 12 (.pointer (some ⟨m', 0, none⟩)) (by simp [Acd])
    have r3 := yy.c 3 _ rfl
    have r4 := yy.c 4 _ rfl
    have r9 := yy.c 9 _ rfl
    have r10 := yy.c 10 _ rfl
    clear e2 r2 X2 ee yy))
 all_goals
  clear z3 z4 z9 z10 hXl q3 q4 q9 q10 r3 r4 r9 r10
  obtain ⟨e3, X3⟩ := Aap H2.out.2.1 hk H2.out.1.hi 12 (.pointer (some ⟨m', 0, none⟩)) (by simp [Acd])
  have H3 := hQd (aN (H2.out.1.trans (e3.mono (T := fun t => k ≤ t ∧ t ≤ k + 17) fun t _ h => by omega)) (aN X3 (H2.out.2.2.ext e3)))
  obtain ⟨w3, hw3⟩ := exq (w2.setCell ⟨X, 12, none⟩ (.pointer (some ⟨m', 0, none⟩)))
  rw [← hw3] at H3
  clear e3 X3 H2 HA H1
  go_upto_region 6 with fail
  rw [← hw3]
  clear hw3 x12 f12
  have x12 := H3.out.2.1.c 12 _ rfl
  have c0 := H3.out.2.2.cell
  rw [if_neg HMK.out] at c0
  go_wp2_with fail
  go_end0
  exact ⟨rfl, G2, H3.out.1, m', H3.out.2.1, H3.out.2.2⟩
theorem Ax2 {ln lost now tag ref : Int} {p d : Spt} {rv mv ov uv : Value} (hx : Ob w O k X (Acd ln lost now p tag ref rv d mv ov uv)) (hp : p.ok) (hk : 10 ≤ k) (hhi : Hh O w) :
 Calls Tryz.prog 91 #[.pointer (some ⟨X, 0, none⟩), .int .i64 5] w (Ba1 5 k X lost now p tag ref rv d mv uv w O) := by
 have x0 := hx.c 0 _ rfl
 have f0 := hx.f 0
 obtain ⟨e1, y1⟩ := Aap hx hk hhi 0 (.int .i64 5) (by simp [Acd])
 have H1 := hQd (aN (e1.mono (T := fun t => k ≤ t ∧ t ≤ k + 17) fun t _ h => by omega) y1)
 obtain ⟨W, hW⟩ := exq (w.setCell ⟨X, 0, none⟩ (.int .i64 5))
 rw [← hW] at H1
 have HPD := hQd hp
 clear hx hp hhi e1 y1
 go_enter Tryz.func91, Tryz.ntmps91
 go_upto_region 9 with fail
 rw [← hW]
 clear hW x0 f0
 have z3 := H1.out.2.c 3 _ rfl
 have z4 := H1.out.2.c 4 _ rfl
 have z5 := H1.out.2.c 5 _ rfl
 go_wp2_with fail
 refine (Aic (k := k + 16) HPD.out (by omega) H1.out.1.hi).mono ?_
 rintro e w2 ⟨u, rfl, G2, e2, r2⟩
 have X2 := H1.out.2.ext e2
 have H2 := hQd (aN (H1.out.1.trans (e2.mono (T := fun t => k ≤ t ∧ t ≤ k + 17) fun t _ h => by omega)) (aN X2 r2))
 have x13 := X2.c 13 _ rfl
 have f13 := X2.f 13
 clear e2 r2 X2 z3 z4 z5
 obtain ⟨e3, X3⟩ := Aap H2.out.2.1 hk H2.out.1.hi 13 (.pointer (some ⟨u, 0, none⟩)) (by simp [Acd])
 have H3 := hQd (aN (H2.out.1.trans (e3.mono (T := fun t => k ≤ t ∧ t ≤ k + 17) fun t _ h => by omega)) (aN X3 (H2.out.2.2.ext e3)))
 obtain ⟨w3, hw3⟩ := exq (w2.setCell ⟨X, 13, none⟩ (.pointer (some ⟨u, 0, none⟩)))
 rw [← hw3] at H3
 clear e3 X3 H2 H1
 go_upto_region 10 with fail
 rw [← hw3]
 clear hw3 x13 f13
 have x13 := H3.out.2.1.c 13 _ rfl
 have c0 : w3.cell? ⟨u, 0, none⟩ = some (.int .i64 1) := H3.out.2.2.ob.c 0 _ rfl
 go_wp2_with fail
 go_end0
 exact ⟨rfl, G2, H3.out.1, u, H3.out.2.1, H3.out.2.2⟩
theorem Axy {ln lost now tag ref : Int} {p d : Spt} {rv mv ov uv : Value} (hx : Ob w O k X (Acd ln lost now p tag ref rv d mv ov uv)) (hp : p.ok) (hk : 10 ≤ k) (hhi : Hh O w) :
 Calls Tryz.prog 91 #[.pointer (some ⟨X, 0, none⟩), .int .i64 9] w (Ba1 9 k X lost now p tag ref rv d mv uv w O) := by
 have x0 := hx.c 0 _ rfl
 have f0 := hx.f 0
 obtain ⟨e1, y1⟩ := Aap hx hk hhi 0 (.int .i64 9) (by simp [Acd])
 have H1 := hQd (aN (e1.mono (T := fun t => k ≤ t ∧ t ≤ k + 17) fun t _ h => by omega) y1)
 obtain ⟨W, hW⟩ := exq (w.setCell ⟨X, 0, none⟩ (.int .i64 9))
 rw [← hW] at H1
 have HPD := hQd hp
 clear hx hp hhi e1 y1
 go_enter Tryz.func91, Tryz.ntmps91
 go_upto_region 9 with fail
 rw [← hW]
 clear hW x0 f0
 have z3 := H1.out.2.c 3 _ rfl
 have z4 := H1.out.2.c 4 _ rfl
 have z5 := H1.out.2.c 5 _ rfl
 go_wp2_with fail
 refine (Aic (k := k + 16) HPD.out (by omega) H1.out.1.hi).mono ?_
 rintro e w2 ⟨u, rfl, G2, e2, r2⟩
 have X2 := H1.out.2.ext e2
 have H2 := hQd (aN (H1.out.1.trans (e2.mono (T := fun t => k ≤ t ∧ t ≤ k + 17) fun t _ h => by omega)) (aN X2 r2))
 have x13 := X2.c 13 _ rfl
 have f13 := X2.f 13
 clear e2 r2 X2 z3 z4 z5
 obtain ⟨e3, X3⟩ := Aap H2.out.2.1 hk H2.out.1.hi 13 (.pointer (some ⟨u, 0, none⟩)) (by simp [Acd])
 have H3 := hQd (aN (H2.out.1.trans (e3.mono (T := fun t => k ≤ t ∧ t ≤ k + 17) fun t _ h => by omega)) (aN X3 (H2.out.2.2.ext e3)))
 obtain ⟨w3, hw3⟩ := exq (w2.setCell ⟨X, 13, none⟩ (.pointer (some ⟨u, 0, none⟩)))
 rw [← hw3] at H3
 clear e3 X3 H2 H1
 go_upto_region 10 with fail
 rw [← hw3]
 clear hw3 x13 f13
 have x13 := H3.out.2.1.c 13 _ rfl
 have c0 : w3.cell? ⟨u, 0, none⟩ = some (.int .i64 1) := H3.out.2.2.ob.c 0 _ rfl
 go_wp2_with fail
 go_end0
 exact ⟨rfl, G2, H3.out.1, u, H3.out.2.1, H3.out.2.2⟩
theorem Axz {ln lost now tag ref : Int} {p d : Spt} {rv mv ov uv : Value} (hx : Ob w O k X (Acd ln lost now p tag ref rv d mv ov uv)) (hp : p.ok) (hk : 10 ≤ k) (hhi : Hh O w) :
 Calls Tryz.prog 91 #[.pointer (some ⟨X, 0, none⟩), .int .i64 8] w (Ay1 8 [p.ver] k X lost now p tag ref rv d ov uv w O) := by
 have x0 := hx.c 0 _ rfl
 have f0 := hx.f 0
 obtain ⟨e1, y1⟩ := Aap hx hk hhi 0 (.int .i64 8) (by simp [Acd])
 have H1 := hQd (aN (e1.mono (T := fun t => k ≤ t ∧ t ≤ k + 17) fun t _ h => by omega) y1)
 obtain ⟨W, hW⟩ := exq (w.setCell ⟨X, 0, none⟩ (.int .i64 8))
 rw [← hW] at H1
 have HPD := hQd hp
 have HMK := hQd (show [p.ver] ≠ [] by simp)
 have hb1 := bal W (.cells #[.int .i64 p.b, .int .i64 p.q] 51)
 have hb2 := Aaa (W.alloc (.cells #[.int .i64 p.b, .int .i64 p.q] 51))
 have hb3 := hb1.trans (hb2.mono (by simp <;> omega))
 obtain ⟨-, t1⟩ := Aat (S := fun _ => False) H1.out.1.hi #[.int .i64 p.b, .int .i64 p.q] 51 W.heap.size rfl
 have HA := hQd (aN (H1.out.1.below hb1) (aN (H1.out.2.below hb1) t1))
 clear hx hp hhi e1 y1 hb1 hb2 hb3 t1
 go_enter Tryz.func91, Tryz.ntmps91
 go_upto_region 16 with fail
 rw [← hW]
 clear hW x0 f0
 have z3 := H1.out.2.c 3 _ rfl
 have z4 := H1.out.2.c 4 _ rfl
 go_wp2_with fail
 refine (Aid (w := W.alloc (.cells #[.int .i64 p.b, .int .i64 p.q] 51)) p HPD.out (k + 14) (by omega) ⟨Nat.le_refl _, by unfold maxLen; decide⟩ HA.out.2.2.lt (HA.out.2.2.c 0 _ rfl) (HA.out.2.2.c 1 _ rfl) HA.out.1.hi).mono ?_
 rintro e w2 ⟨m', rfl, G2, e2, r2⟩
 have X2 := HA.out.2.1.ext e2
 have H2 := hQd (aN (HA.out.1.trans (e2.mono (T := fun t => k ≤ t ∧ t ≤ k + 17) fun t _ h => by omega)) (aN X2 r2))
 have x12 := X2.c 12 _ rfl
 have f12 := X2.f 12
 clear e2 r2 X2
 all_goals
  clear z3 z4
  obtain ⟨e3, X3⟩ := Aap H2.out.2.1 hk H2.out.1.hi 12 (.pointer (some ⟨m', 0, none⟩)) (by simp [Acd])
  have H3 := hQd (aN (H2.out.1.trans (e3.mono (T := fun t => k ≤ t ∧ t ≤ k + 17) fun t _ h => by omega)) (aN X3 (H2.out.2.2.ext e3)))
  obtain ⟨w3, hw3⟩ := exq (w2.setCell ⟨X, 12, none⟩ (.pointer (some ⟨m', 0, none⟩)))
  rw [← hw3] at H3
  clear e3 X3 H2 HA H1
  go_upto_region 17 with fail
  rw [← hw3]
  clear hw3 x12 f12
  have x12 := H3.out.2.1.c 12 _ rfl
  have c0 := H3.out.2.2.cell
  rw [if_neg HMK.out] at c0
  go_wp2_with fail
  go_end0
  exact ⟨rfl, G2, H3.out.1, m', H3.out.2.1, H3.out.2.2⟩
theorem Au1 {ln lost now tag ref : Int} {p d : Spt} {rv mv ov uv : Value} (hx : Ob w O k X (Acd ln lost now p tag ref rv d mv ov uv)) (hp : p.ok) (hk : 10 ≤ k) (hhi : Hh O w) :
 Calls Tryz.prog 91 #[.pointer (some ⟨X, 0, none⟩), .int .i64 10] w (Ay1 10 [p.ver] k X lost now p tag ref rv d ov uv w O) := by
 have x0 := hx.c 0 _ rfl
 have f0 := hx.f 0
 obtain ⟨e1, y1⟩ := Aap hx hk hhi 0 (.int .i64 10) (by simp [Acd])
 have H1 := hQd (aN (e1.mono (T := fun t => k ≤ t ∧ t ≤ k + 17) fun t _ h => by omega) y1)
 obtain ⟨W, hW⟩ := exq (w.setCell ⟨X, 0, none⟩ (.int .i64 10))
 rw [← hW] at H1
 have HPD := hQd hp
 have HMK := hQd (show [p.ver] ≠ [] by simp)
 have hb1 := bal W (.cells #[.int .i64 p.b, .int .i64 p.q] 51)
 have hb2 := Aaa (W.alloc (.cells #[.int .i64 p.b, .int .i64 p.q] 51))
 have hb3 := hb1.trans (hb2.mono (by simp <;> omega))
 obtain ⟨-, t1⟩ := Aat (S := fun _ => False) H1.out.1.hi #[.int .i64 p.b, .int .i64 p.q] 51 W.heap.size rfl
 have HA := hQd (aN (H1.out.1.below hb1) (aN (H1.out.2.below hb1) t1))
 clear hx hp hhi e1 y1 hb1 hb2 hb3 t1
 go_enter Tryz.func91, Tryz.ntmps91
 go_upto_region 16 with fail
 rw [← hW]
 clear hW x0 f0
 have z3 := H1.out.2.c 3 _ rfl
 have z4 := H1.out.2.c 4 _ rfl
 go_wp2_with fail
 refine (Aid (w := W.alloc (.cells #[.int .i64 p.b, .int .i64 p.q] 51)) p HPD.out (k + 14) (by omega) ⟨Nat.le_refl _, by unfold maxLen; decide⟩ HA.out.2.2.lt (HA.out.2.2.c 0 _ rfl) (HA.out.2.2.c 1 _ rfl) HA.out.1.hi).mono ?_
 rintro e w2 ⟨m', rfl, G2, e2, r2⟩
 have X2 := HA.out.2.1.ext e2
 have H2 := hQd (aN (HA.out.1.trans (e2.mono (T := fun t => k ≤ t ∧ t ≤ k + 17) fun t _ h => by omega)) (aN X2 r2))
 have x12 := X2.c 12 _ rfl
 have f12 := X2.f 12
 clear e2 r2 X2
 all_goals
  clear z3 z4
  obtain ⟨e3, X3⟩ := Aap H2.out.2.1 hk H2.out.1.hi 12 (.pointer (some ⟨m', 0, none⟩)) (by simp [Acd])
  have H3 := hQd (aN (H2.out.1.trans (e3.mono (T := fun t => k ≤ t ∧ t ≤ k + 17) fun t _ h => by omega)) (aN X3 (H2.out.2.2.ext e3)))
  obtain ⟨w3, hw3⟩ := exq (w2.setCell ⟨X, 12, none⟩ (.pointer (some ⟨m', 0, none⟩)))
  rw [← hw3] at H3
  clear e3 X3 H2 HA H1
  go_upto_region 17 with fail
  rw [← hw3]
  clear hw3 x12 f12
  have x12 := H3.out.2.1.c 12 _ rfl
  have c0 := H3.out.2.2.cell
  rw [if_neg HMK.out] at c0
  go_wp2_with fail
  go_end0
  exact ⟨rfl, G2, H3.out.1, m', H3.out.2.1, H3.out.2.2⟩
theorem Au0 {ln lost now tag ref : Int} {p d : Spt} {rv mv ov uv : Value} (hx : Ob w O k X (Acd ln lost now p tag ref rv d mv ov uv)) (hk : 10 ≤ k) (hhi : Hh O w) :
 Calls Tryz.prog 91 #[.pointer (some ⟨X, 0, none⟩), .int .i64 11] w (DmT0 11 k X lost now p tag ref rv d mv ov uv w O) := by
 have x0 := hx.c 0 _ rfl
 have f0 := hx.f 0
 obtain ⟨e1, y1⟩ := Aap hx hk hhi 0 (.int .i64 11) (by simp [Acd])
 have H1 := hQd (aN (e1.mono (T := fun t => k ≤ t ∧ t ≤ k + 17) fun t _ h => by omega) y1)
 clear hx hhi e1 y1
 go_enter Tryz.func91, Tryz.ntmps91
 go_wp2_with fail
 go_end0
 exact ⟨rfl, O, H1.out.1, H1.out.2⟩
theorem Ang {lost now tag ref : Int} {p d : Spt} {rv mv ov uv : Value} (hx : Ob w O k X (Acd 4 lost now p tag ref rv d mv ov uv)) (hp : p.ok) (hk : 10 ≤ k) (hhi : Hh O w) :
 C1 93 X w (Ba1 5 k X lost now p tag ref rv d mv uv w O) := by
 have x0 := hx.c 0 _ rfl
 have HC := hQd (Ax2 hx hp hk hhi)
 clear hx hhi
 go_enter Tryz.func93, Tryz.ntmps93
 go_wp2_with fail
 refine HC.out.mono ?_
 intro e w' hq
 have HQ := hQd hq
 obtain ⟨rfl, -⟩ := hq
 clear HC x0
 go_wp2_with fail
 go_end0
 exact HQ.out
theorem Aig {lost now tag ref : Int} {p d : Spt} {rv mv ov uv : Value} (hx : Ob w O k X (Acd 6 lost now p tag ref rv d mv ov uv)) (hp : p.ok) (hd : d.ok) (hk : 10 ≤ k) (hhi : Hh O w) :
 C1 93 X w (Ay1 7 (mk2 p d) k X lost now p tag ref rv d ov uv w O) := by
 have x0 := hx.c 0 _ rfl
 have HC := hQd (Ax0 hx hp hd hk hhi)
 clear hx hhi
 go_enter Tryz.func93, Tryz.ntmps93
 go_wp2_with fail
 refine HC.out.mono ?_
 intro e w' hq
 have HQ := hQd hq
 obtain ⟨rfl, -⟩ := hq
 clear HC x0
 go_wp2_with fail
 go_end0
 exact HQ.out
theorem Ax1 {ln lost now tag ref : Int} {p d : Spt} {rv mv ov uv : Value} (hx : Ob w O k X (Acd ln lost now p tag ref rv d mv ov uv)) (hp : p.ok) (hd : d.ok) (hk : 10 ≤ k) (hhi : Hh O w) :
 Calls Tryz.prog 91 #[.pointer (some ⟨X, 0, none⟩), .int .i64 6] w (DmTp k X lost now p tag ref rv d mv ov w O) := by
 have x0 := hx.c 0 _ rfl
 have f0 := hx.f 0
 obtain ⟨e1, y1⟩ := Aap hx hk hhi 0 (.int .i64 6) (by simp [Acd])
 have H1 := hQd (aN (e1.mono (T := fun t => k ≤ t ∧ t ≤ k + 17) fun t _ h => by omega) y1)
 obtain ⟨W, hW⟩ := exq (w.setCell ⟨X, 0, none⟩ (.int .i64 6))
 rw [← hW] at H1
 have HPD := hQd (aN hp hd)
 clear hx hp hd hhi e1 y1
 go_enter Tryz.func91, Tryz.ntmps91
 go_upto_region 12 with fail
 rw [← hW]
 clear hW x0 f0
 have z6 := H1.out.2.c 6 _ rfl
 have z7 := H1.out.2.c 7 _ rfl
 have z9 := H1.out.2.c 9 _ rfl
 have z10 := H1.out.2.c 10 _ rfl
 have z11 := H1.out.2.c 11 _ rfl
 go_region_held3 (fun w' => w'.cell? ⟨X, 6, none⟩ = some (.int .i64 tag) ∧ w'.cell? ⟨X, 7, none⟩ = some (.int .i64 ref) ∧ w'.cell? ⟨X, 9, none⟩ = some (.int .i64 d.b) ∧ w'.cell? ⟨X, 10, none⟩ = some (.int .i64 d.q) ∧ w'.cell? ⟨X, 11, none⟩ = some (.int .i64 d.s)) (go_keep)
  ((go_at_call 150
    refine (Al1 (w := W.drew) (k := k + 17) (tg := tag) (rf := ref) HPD.out.2 (by omega) (H1.out.1.below (Aaa W)).hi).mono ?_
    rintro e w2 ⟨u, rfl, G2, e2, r2⟩
    have X2 := (H1.out.2.below (Aaa W)).ext e2
    have H2 := hQd (aN ((H1.out.1.below (Aaa W)).trans (e2.mono (T := fun t => k ≤ t ∧ t ≤ k + 17) fun t _ h => by omega)) (aN X2 r2))
    have x14 := X2.c 14 _ rfl
    have f14 := X2.f 14
    have q6 := X2.c 6 _ rfl
    have q7 := X2.c 7 _ rfl
    have q9 := X2.c 9 _ rfl
    have q10 := X2.c 10 _ rfl
    have q11 := X2.c 11 _ rfl
    obtain ⟨ee, yy⟩ := Aap X2 hk e2.hi 14 (.pointer (some ⟨u, 0, none⟩)) (by simp [Acd])
    have r6 := yy.c 6 _ rfl
    have r7 := yy.c 7 _ rfl
    have r9 := yy.c 9 _ rfl
    have r10 := yy.c 10 _ rfl
    have r11 := yy.c 11 _ rfl
    clear e2 r2 X2 ee yy))
 all_goals
  clear z6 z7 z9 z10 z11 q6 q7 q9 q10 q11 r6 r7 r9 r10 r11
  obtain ⟨e3, X3⟩ := Aap H2.out.2.1 hk H2.out.1.hi 14 (.pointer (some ⟨u, 0, none⟩)) (by simp [Acd])
  have H3 := hQd (aN (H2.out.1.trans (e3.mono (T := fun t => k ≤ t ∧ t ≤ k + 17) fun t _ h => by omega)) (aN X3 (H2.out.2.2.ext e3)))
  obtain ⟨w3, hw3⟩ := exq (w2.setCell ⟨X, 14, none⟩ (.pointer (some ⟨u, 0, none⟩)))
  rw [← hw3] at H3
  clear e3 X3 H2 H1
  go_upto_region 13 with fail
  rw [← hw3]
  clear hw3 x14 f14
  have x14 := H3.out.2.1.c 14 _ rfl
  have c0 := H3.out.2.2.ob.c 0 _ rfl
  rcases Ad3 tag ref with g | g
  · have hov : Aa5 (Abd tag ref) = false := by rw [g.1]; rfl
    have hln : (Abd tag ref).ln = 0 := by rw [g.1]
    rw [hln] at c0
    have c0 : w3.cell? ⟨u, 0, none⟩ = some (.int .i64 1) := c0
    have HOV := hQd hov
    clear g hov hln
    go_wp2_with fail
    go_end0
    exact ⟨rfl, G2, H3.out.1, fun _ => ⟨u, H3.out.2.1, H3.out.2.2⟩, fun h => absurd h (by rw [HOV.out]; decide)⟩
  · have hov : Aa5 (Abd tag ref) = true := by rw [g]; rfl
    have hln : (Abd tag ref).ln = 3 := by rw [g]
    rw [hln] at c0
    have c0 : w3.cell? ⟨u, 0, none⟩ = some (.int .i64 0) := c0
    have HOV := hQd hov
    have HB := hQd (Aig H3.out.2.1 HPD.out.1 HPD.out.2 hk H3.out.1.hi)
    clear g hov hln
    go_wp2_with fail
    refine HB.out.mono ?_
    rintro e w4 ⟨rfl, G4, e4, m', x4, r4⟩
    have H4 := hQd (aN (H3.out.1.trans (e4.mono (T := fun t => k ≤ t ∧ t ≤ k + 17) fun t _ h => h)) (aN x4 r4))
    clear e4 x4 r4 HB x14 c0 H3
    go_wp2_with fail
    go_end0
    exact ⟨rfl, G4, H4.out.1, fun h => absurd h (by rw [HOV.out]; decide), fun _ => ⟨m', _, H4.out.2.1, H4.out.2.2⟩⟩
theorem Anf {lost now tag ref : Int} {p d : Spt} {rv mv ov uv : Value} (hx : Ob w O k X (Acd 5 lost now p tag ref rv d mv ov uv)) (hp : p.ok) (hd : d.ok) (hk : 10 ≤ k) (hhi : Hh O w) :
 C1 93 X w (DmTp k X lost now p tag ref rv d mv ov w O) := by
 have x0 := hx.c 0 _ rfl
 have HC := hQd (Ax1 hx hp hd hk hhi)
 clear hx hhi
 go_enter Tryz.func93, Tryz.ntmps93
 go_wp2_with fail
 refine HC.out.mono ?_
 intro e w' hq
 have HQ := hQd hq
 obtain ⟨rfl, -⟩ := hq
 clear HC x0
 go_wp2_with fail
 go_end0
 exact HQ.out
theorem Ane {lost now tag ref : Int} {p d : Spt} {rv mv ov uv : Value} (hx : Ob w O k X (Acd 7 lost now p tag ref rv d mv ov uv)) (hs0 : 0 ≤ p.s) (hs1 : p.s ≤ 3) (hk : 10 ≤ k) (hhi : Hh O w) :
 C1 93 X w (Bay k X lost now p tag ref rv d mv ov uv w O) := by
 have x0 := hx.c 0 _ rfl
 have HC := hQd (Akq hx hs0 hs1 hk hhi)
 clear hx hhi
 go_enter Tryz.func93, Tryz.ntmps93
 go_wp2_with fail
 refine HC.out.mono ?_
 intro e w' hq
 have HQ := hQd hq
 obtain ⟨rfl, -⟩ := hq
 clear HC x0
 go_wp2_with fail
 refine bodyPost_ret (v := .tuple #[]) (results_none (by rfl) _ _ _) rfl ?_
 exact HQ.out
theorem And {lost now tag ref : Int} {p d : Spt} {rv mv ov uv : Value} (hx : Ob w O k X (Acd 8 lost now p tag ref rv d mv ov uv)) (hp : p.ok) (hk : 10 ≤ k) (hhi : Hh O w) :
 C1 93 X w (Ba1 9 k X lost now p tag ref rv d mv uv w O) := by
 have x0 := hx.c 0 _ rfl
 have HC := hQd (Axy hx hp hk hhi)
 clear hx hhi
 go_enter Tryz.func93, Tryz.ntmps93
 go_wp2_with fail
 refine HC.out.mono ?_
 intro e w' hq
 have HQ := hQd hq
 obtain ⟨rfl, -⟩ := hq
 clear HC x0
 go_wp2_with fail
 go_end0
 exact HQ.out
theorem Anc {lost now tag ref : Int} {p d : Spt} {rv mv ov uv : Value} (hx : Ob w O k X (Acd 9 lost now p tag ref rv d mv ov uv)) (hp : p.ok) (hk : 10 ≤ k) (hhi : Hh O w) :
 C1 93 X w (Ay1 10 [p.ver] k X lost now p tag ref rv d ov uv w O) := by
 have x0 := hx.c 0 _ rfl
 have HC := hQd (Au1 hx hp hk hhi)
 clear hx hhi
 go_enter Tryz.func93, Tryz.ntmps93
 go_wp2_with fail
 refine HC.out.mono ?_
 intro e w' hq
 have HQ := hQd hq
 obtain ⟨rfl, -⟩ := hq
 clear HC x0
 go_wp2_with fail
 go_end0
 exact HQ.out
theorem Al8 {lost now tag ref : Int} {p d : Spt} {rv mv ov uv : Value} (hx : Ob w O k X (Acd 10 lost now p tag ref rv d mv ov uv)) (hk : 10 ≤ k) (hhi : Hh O w) :
 C1 93 X w (DmT0 11 k X lost now p tag ref rv d mv ov uv w O) := by
 have x0 := hx.c 0 _ rfl
 have HC := hQd (Au0 hx hk hhi)
 clear hx hhi
 go_enter Tryz.func93, Tryz.ntmps93
 go_wp2_with fail
 refine HC.out.mono ?_
 intro e w' hq
 have HQ := hQd hq
 obtain ⟨rfl, -⟩ := hq
 clear HC x0
 go_wp2_with fail
 go_end0
 exact HQ.out
theorem Al7 {lost now tag ref : Int} {p d : Spt} {rv mv ov uv : Value} (hx : Ob w O k X (Acd 11 lost now p tag ref rv d mv ov uv)) (hs0 : 0 ≤ p.s) (hs1 : p.s ≤ 3) (hk : 10 ≤ k) (hhi : Hh O w) :
 C1 93 X w (Bay k X lost now p tag ref rv d mv ov uv w O) := by
 have x0 := hx.c 0 _ rfl
 have HC := hQd (Akq hx hs0 hs1 hk hhi)
 clear hx hhi
 go_enter Tryz.func93, Tryz.ntmps93
 go_wp2_with fail
 refine HC.out.mono ?_
 intro e w' hq
 have HQ := hQd hq
 obtain ⟨rfl, -⟩ := hq
 clear HC x0
 go_wp2_with fail
 refine bodyPost_ret (v := .tuple #[]) (results_none (by rfl) _ _ _) rfl ?_
 exact HQ.out
end
end
section
open Go.RowKit Go.Shelf
def Adk (y : AW × Mvm) (k X : Nat) (C : Wb) (f : Cf) (m : Nat) (w : World) (O : Om) (e : Ending) (w' : World) : Prop :=
 RP (SD k (k + 17)) w O (.tuple #[]) (fun W G => RW W G C f y.1 (m + 1) ∧ Acg W G k X y.2) e w'
section
variable {X : Nat} {w : World} {O : Om} {C : Wb} {f : Cf} {s : AW} {m k : Nat}
theorem Asc (r : Int) {t h : Nat} {l : List It} (H : LH w O t 122 6 itc h l) (hl : l.length ≤ 1000000) :
 Calls Tryz.prog 105 #[.pointer (some ⟨h, 0, none⟩), .int .i64 r] w fun e w' => ∃ (b : Bool) (x1 : ByteArray) (x2 x3 x4 x5 : Int), e = .returned (.tuple #[.agg #[.string (Aen l r).key, .string x1, .int .u32 x2, .int .u64 x3, .int .i64 x4, .int .i64 x5], .bool b]) ∧ Below w.heap.size w w' := by
 by_cases hr : 1 ≤ r ∧ r ≤ l.length
 · have hk : (r - 1).toNat < l.length := by omega
   refine (Agl r (r - 1).toNat l[(r - 1).toNat] H hl (List.getElem?_eq_getElem hk) (by omega)).mono ?_
   rintro e w' ⟨rfl, hb⟩
   have e : Aen l r = l[(r - 1).toNat] := by unfold Aen; rw [if_pos hr.1, List.getElem?_eq_getElem hk]; rfl
   exact ⟨true, l[(r - 1).toNat].val, l[(r - 1).toNat].fl, l[(r - 1).toNat].id, l[(r - 1).toNat].dies, l[(r - 1).toNat].gen, by rw [e], hb⟩
 · refine (Al3 r H hl hr).mono ?_
   rintro e w' ⟨rfl, hb⟩
   have e : (Aen l r).key = ⟨#[]⟩ := by
    unfold Aen
    by_cases h1 : 1 ≤ r
    · rw [if_pos h1, List.getElem?_eq_none (by omega)]
      rfl
    · rw [if_neg h1]
      rfl
   exact ⟨false, ⟨#[]⟩, 0, 0, 0, 0, by rw [e], hb⟩
theorem Ap4 (r : Int) (h : RW w O C f s m) (hhi : Hh O w) (hl : s.it.length ≤ 1000000) :
 Calls Tryz.prog 88 #[.pointer (some ⟨C.p, 0, none⟩), .int .i64 r] w fun e w' => ∃ (x1 : ByteArray) (x2 x3 x4 x5 : Int), e = .returned (.agg #[.string (Aen s.it r).key, .string x1, .int .u32 x2, .int .u64 x3, .int .i64 x4, .int .i64 x5]) ∧ Below w.heap.size w w' := by
 have hB : Below w.heap.size w (w.alloc (.cells #[.string ⟨#[]⟩, .string ⟨#[]⟩, .int .u32 0, .int .u64 0, .int .i64 0, .int .i64 0] 122)) := bal _ _
 have q0 := hB.cell (p := ⟨C.p, 1, none⟩) h.wo.lt |>.trans h.wo.c1
 have hpl := h.wo.lt
 have HA := hQd (Asc r (h.below hhi hB).ar hl)
 have HB := hQd hB
 have hc0 : ∀ j u, ([.string ⟨#[]⟩, .string ⟨#[]⟩, .int .u32 0, .int .u64 0, .int .i64 0, .int .i64 0] : List Value)[j]? = some u → (w.alloc (.cells #[.string ⟨#[]⟩, .string ⟨#[]⟩, .int .u32 0, .int .u64 0, .int .i64 0, .int .i64 0] 122)).cell? ⟨w.heap.size, j, none⟩ = some u := fun j u hu => Aak w #[.string ⟨#[]⟩, .string ⟨#[]⟩, .int .u32 0, .int .u64 0, .int .i64 0, .int .i64 0] _ _ rfl j u (by simpa using hu)
 have HC0 := hQd hc0
 obtain ⟨ky, hky⟩ := exq ((Aen s.it r).key)
 rw [← hky] at HA ⊢
 clear h hhi hB hc0 hky
 go_enter Tryz.func88, Tryz.ntmps88
 go_wp2_with fail
 refine (HA.out).mono ?_
 rintro e w1 ⟨bb, x1, x2, x3, x4, x5, rfl, hb⟩
 have hz := hb.size
 have HB1 := hQd (HB.out.trans (hb.mono (by simp)))
 simp only [World.heap_size_alloc'] at hz
 have hc1 : ∀ j u, ([.string ⟨#[]⟩, .string ⟨#[]⟩, .int .u32 0, .int .u64 0, .int .i64 0, .int .i64 0] : List Value)[j]? = some u → w1.cell? ⟨w.heap.size, j, none⟩ = some u := fun j u hu => (hb.cell (p := ⟨w.heap.size, j, none⟩) (by simp)).trans (HC0.out j u hu)
 have hf1 : ∀ j, w1.frozen? ⟨w.heap.size, j, none⟩ = false := fun j => (hb.frozen (p := ⟨w.heap.size, j, none⟩) (by simp)).trans (by simp)
 have c0 := hc1 0 _ rfl
 have c1 := hc1 1 _ rfl
 have c2 := hc1 2 _ rfl
 have c3 := hc1 3 _ rfl
 have c4 := hc1 4 _ rfl
 have c5 := hc1 5 _ rfl
 have f0 := hf1 0
 have f1 := hf1 1
 have f2 := hf1 2
 have f3 := hf1 3
 have f4 := hf1 4
 have f5 := hf1 5
 have hz1 : w.heap.size < w1.heap.size := by omega
 have hz2 : ¬ w.heap.size = w1.heap.size := by omega
 clear hb hc1 hf1
 go_wp2
 have HS := Acl HB1.out (Nat.le_refl _) (.string ky) (.string x1) (.int .u32 x2) (.int .u64 x3) (.int .i64 x4) (.int .i64 x5)
 refine bodyPost_ret (v := .agg #[.string ky, .string x1, .int .u32 x2, .int .u64 x3, .int .i64 x4, .int .i64 x5]) ?_ rfl ⟨x1, x2, x3, x4, x5, rfl, HS.alloc HS.size _⟩
 simp [results, Tryz.results88, go_sem, hz1, hz2, c0, c1, c2, c3, c4, c5]
theorem Acg.open {z : Mvm} (h : Acg w O k X z) (hl : z.ln ≠ 0) : ∃ d rv mv ov uv, Ob w O k X (Acd z.ln z.lost z.now z.p z.tag z.ref rv d mv ov uv) ∧ (4 ≤ z.ln → d = z.d) ∧
 (z.ln = 3 → ∃ R, rv = .pointer (some ⟨R, 0, none⟩) ∧ Aiv w O (k + 1) R z.rm) ∧
 (z.ln = 4 ∨ z.ln = 7 ∨ z.ln = 8 ∨ z.ln = 10 → ∃ m, mv = .pointer (some ⟨m, 0, none⟩) ∧ Ai1 w O (k + 14) m z.m) ∧
 (z.ln = 5 ∨ z.ln = 9 → ∃ u, ov = .pointer (some ⟨u, 0, none⟩) ∧ Ai0 w O (k + 16) u z.p z.o) ∧
 (z.ln = 6 → ∃ u, uv = .pointer (some ⟨u, 0, none⟩) ∧ Ait w O (k + 17) u z.d z.tag z.ref z.u) := by
 obtain ⟨ln, now, p, d, tag, ref, rv, mv, ov, uv, h1, h2, h3, h4, h5, h6, h7, h8⟩ := h.ex
 obtain ⟨q1, q2, q3, q4⟩ := h3 hl
 subst h2 q1 q2 q3 q4
 exact ⟨d, rv, mv, ov, uv, h1, h4, h5, h6, h7, h8⟩
theorem Acg.raw {z : Mvm} {d : Spt} {rv mv ov uv : Value} (h1 : Ob w O k X (Acd z.ln z.lost z.now z.p z.tag z.ref rv d mv ov uv)) (h4 : 4 ≤ z.ln → d = z.d)
 (h5 : z.ln = 3 → ∃ R, rv = .pointer (some ⟨R, 0, none⟩) ∧ Aiv w O (k + 1) R z.rm) (h6 : z.ln = 4 ∨ z.ln = 7 ∨ z.ln = 8 ∨ z.ln = 10 → ∃ m, mv = .pointer (some ⟨m, 0, none⟩) ∧ Ai1 w O (k + 14) m z.m)
 (h7 : z.ln = 5 ∨ z.ln = 9 → ∃ u, ov = .pointer (some ⟨u, 0, none⟩) ∧ Ai0 w O (k + 16) u z.p z.o) (h8 : z.ln = 6 → ∃ u, uv = .pointer (some ⟨u, 0, none⟩) ∧ Ait w O (k + 17) u z.d z.tag z.ref z.u) : Acg w O k X z :=
 ⟨z.ln, z.now, z.p, d, z.tag, z.ref, rv, mv, ov, uv, h1, rfl, fun _ => ⟨rfl, rfl, rfl, rfl⟩, h4, h5, h6, h7, h8⟩
theorem Aia {z : Mvm} {d : Spt} {rv mv ov uv : Value} (h1 : Ob w O k X (Acd (if z.p.s + 1 = 4 then 0 else 1) z.lost z.now ⟨z.p.b, z.p.q, z.p.s + 1⟩ z.tag z.ref rv d mv ov uv)) : Acg w O k X (Abs z) := by
 have hln := Ac8 z
 exact Acg.raw (z := Abs z) (d := d) h1 (fun g => by omega) (fun g => by omega) (fun g => by omega) (fun g => by omega) (fun g => by omega)
theorem Asr {z : Mvm} (hz : Afl z) (h : RW w O C f s m) (hM : Acg w O k X z) (hl : z.ln = 4) (hk : 10 ≤ k) (hm : m ≤ 900000) (hhi : Hh O w) (n0 : 0 ≤ s.n) (n1 : s.n ≤ 4611686018427387904) :
 C2 40 X C.p w (Adk (Aae f.y (s, z)) k X C f m w O) := by
 have hl0 : z.ln ≠ 0 := by omega
 have hp := hz.p hl0
 have HZ := hQd hz
 have HP := hQd hp
 obtain ⟨y, hy⟩ := exq (Aae f.y (s, z))
 have hy2 := hy.trans (Aj9 f.y s z hl)
 rw [← hy]
 obtain ⟨d, rv, mv, ov, uv, hx, hd, hr, hmk, ho, hu⟩ := hM.open hl0
 rw [hl] at hx
 obtain ⟨b0, rfl, hb⟩ := hmk (by omega)
 have hmo := hz.m (by omega)
 obtain ⟨a, l, hal, ha0, ha1⟩ := hmo.head
 have ho0 := hz.o0 (.inl hl)
 have HO0 := hQd ho0
 have hde := hd (by omega)
 subst hde
 rw [hal] at hb
 have HST := hQd (Adw a l h hb (k := k + 14) (by omega) hm hhi ha0 ha1 n0 n1)
 have x0 := hx.c 0 _ rfl
 have x12 := hx.c 12 _ rfl
 have HX := hQd hx
 have HY := hQd (aN hy2 (aN hal trivial))
 have HD := hQd (aN hl hd)
 clear hz hp h hM hl hl0 hy hy2 hx hd hr hmk ho hu hb hal ha0 ha1 hhi hmo ho0
 go_enter Tryz.func40, Tryz.ntmps40
 go_wp2_with fail
 refine HST.out.mono ?_
 rintro e w1 ⟨rfl, G1, e1, P1, r1⟩
 have X1 := HX.out.ext e1 (by unfold SD SR; omega)
 have H1 := hQd (aN (e1.mono (T := SD k (k + 17)) fun t _ h => SD.mono (by omega) (by omega) h) (aN P1 (aN X1 r1)))
 have y12 := X1.c 12 _ rfl
 have c0 := r1.cell
 clear e1 P1 X1 r1 HST HX x0 x12
 by_cases hl0 : l = []
 · have HL := hQd hl0
   rw [if_pos hl0] at c0
   have HB := hQd (Ang (H1.out.2.2.1) HP.out hk H1.out.1.hi)
   clear hl0
   go_wp2_with fail
   refine HB.out.mono ?_
   rintro e w2 ⟨rfl, G2, e2, u, x2, q2⟩
   have P2 := H1.out.2.1.ext e2
   have H2 := hQd (aN (H1.out.1.trans (e2.mono (T := SD k (k + 17)) fun t _ h => .inr h)) (aN P2 (aN x2 q2)))
   clear e2 P2 x2 q2 HB H1 y12 c0
   go_wp2_with fail
   go_end0
   have hyy : y = (Aby a 1 s, ⟨5, z.lost, z.now, z.p, z.tag, z.ref, z.rm, z.d, l, z.o, z.u⟩) := by rw [HY.out.1, HY.out.2.1]; simp [HL.out]
   rw [hyy]
   refine ⟨rfl, G2, H2.out.1, H2.out.2.1, Acg.raw H2.out.2.2.1 (fun _ => rfl) (nnn) (nnn) (fun _ => ⟨u, rfl, ?_⟩) (nnn)⟩
   dsimp only
   rw [HO0.out]
   exact H2.out.2.2.2
 · have HL := hQd hl0
   rw [if_neg hl0] at c0
   clear hl0
   go_wp2_with fail
   go_end0
   have hyy : y = (Aby a 1 s, ⟨4, z.lost, z.now, z.p, z.tag, z.ref, z.rm, z.d, l, z.o, z.u⟩) := by rw [HY.out.1, HY.out.2.1]; simp [HL.out]
   rw [hyy]
   exact ⟨rfl, G1, H1.out.1, H1.out.2.1, Acg.raw H1.out.2.2.1 (fun _ => rfl) (nnn) (fun _ => ⟨b0, rfl, H1.out.2.2.2⟩) (nnn) (nnn)⟩
theorem Aso {z : Mvm} (hz : Afl z) (h : RW w O C f s m) (hM : Acg w O k X z) (hl : z.ln = 7) (hk : 10 ≤ k) (hm : m ≤ 900000) (hhi : Hh O w) (n0 : 0 ≤ s.n) (n1 : s.n ≤ 4611686018427387904) :
 C2 40 X C.p w (Adk (Aae f.y (s, z)) k X C f m w O) := by
 have hl0 : z.ln ≠ 0 := by omega
 have hp := hz.p hl0
 have HZ := hQd hz
 have HP := hQd hp
 obtain ⟨y, hy⟩ := exq (Aae f.y (s, z))
 have hy2 := hy.trans (Aj6 f.y s z hl)
 rw [← hy]
 obtain ⟨d, rv, mv, ov, uv, hx, hd, hr, hmk, ho, hu⟩ := hM.open hl0
 rw [hl] at hx
 obtain ⟨b0, rfl, hb⟩ := hmk (by omega)
 have hmo := hz.m (by omega)
 obtain ⟨a, l, hal, ha0, ha1⟩ := hmo.head
 rw [hal] at hb
 have HST := hQd (Adw a l h hb (k := k + 14) (by omega) hm hhi ha0 ha1 n0 n1)
 have x0 := hx.c 0 _ rfl
 have x12 := hx.c 12 _ rfl
 have HX := hQd hx
 have HY := hQd (aN hy2 (aN hal trivial))
 have HD := hQd (aN hl hd)
 clear hz hp h hM hl hl0 hy hy2 hx hd hr hmk ho hu hb hal ha0 ha1 hhi hmo
 go_enter Tryz.func40, Tryz.ntmps40
 go_wp2_with fail
 refine HST.out.mono ?_
 rintro e w1 ⟨rfl, G1, e1, P1, r1⟩
 have X1 := HX.out.ext e1 (by unfold SD SR; omega)
 have H1 := hQd (aN (e1.mono (T := SD k (k + 17)) fun t _ h => SD.mono (by omega) (by omega) h) (aN P1 (aN X1 r1)))
 have y12 := X1.c 12 _ rfl
 have c0 := r1.cell
 clear e1 P1 X1 r1 HST HX x0 x12
 by_cases hl0 : l = []
 · have HL := hQd hl0
   rw [if_pos hl0] at c0
   have HB := hQd (Ane (H1.out.2.2.1) HP.out.s0 HP.out.s1 hk H1.out.1.hi)
   clear hl0
   go_wp2_with fail
   refine HB.out.mono ?_
   rintro e w2 ⟨rfl, G2, e2, x2⟩
   have P2 := H1.out.2.1.ext e2
   have H2 := hQd (aN (H1.out.1.trans (e2.mono (T := SD k (k + 17)) fun t _ h => .inr h)) (aN P2 x2))
   clear e2 P2 x2 HB H1 y12 c0
   go_wp2_with fail
   go_end0
   have hyy : y = (Aby a 1 s, Abs z) := by rw [HY.out.1, HY.out.2.1]; simp [HL.out]
   rw [hyy]
   exact ⟨rfl, G2, H2.out.1, H2.out.2.1, Aia H2.out.2.2⟩
 · have HL := hQd hl0
   rw [if_neg hl0] at c0
   clear hl0
   go_wp2_with fail
   go_end0
   have hyy : y = (Aby a 1 s, ⟨7, z.lost, z.now, z.p, z.tag, z.ref, z.rm, z.d, l, z.o, z.u⟩) := by rw [HY.out.1, HY.out.2.1]; simp [HL.out]
   rw [hyy]
   exact ⟨rfl, G1, H1.out.1, H1.out.2.1, Acg.raw H1.out.2.2.1 (fun _ => HD.out.2 (by rw [HD.out.1]; decide)) (nnn) (fun _ => ⟨b0, rfl, H1.out.2.2.2⟩) (nnn) (nnn)⟩
theorem Asn {z : Mvm} (hz : Afl z) (h : RW w O C f s m) (hM : Acg w O k X z) (hl : z.ln = 8) (hk : 10 ≤ k) (hm : m ≤ 900000) (hhi : Hh O w) (n0 : 0 ≤ s.n) (n1 : s.n ≤ 4611686018427387904) :
 C2 40 X C.p w (Adk (Aae f.y (s, z)) k X C f m w O) := by
 have hl0 : z.ln ≠ 0 := by omega
 have hp := hz.p hl0
 have HZ := hQd hz
 have HP := hQd hp
 obtain ⟨y, hy⟩ := exq (Aae f.y (s, z))
 have hy2 := hy.trans (Aj5 f.y s z hl)
 rw [← hy]
 obtain ⟨d, rv, mv, ov, uv, hx, hd, hr, hmk, ho, hu⟩ := hM.open hl0
 rw [hl] at hx
 obtain ⟨b0, rfl, hb⟩ := hmk (by omega)
 have hal := hz.m1 (by omega)
 obtain ⟨a, hae⟩ := exq z.p.ver
 obtain ⟨l, hle⟩ : ∃ l : List Int, l = [] := ⟨_, rfl⟩
 have ha0 : 0 ≤ a := by have := hp.ver; omega
 have ha1 : a < 18446744073709551616 := by have := hp.ver; omega
 rw [← hae, ← hle] at hal
 have ho0 := hz.o0 (.inr hl)
 have HO0 := hQd ho0
 rw [hal] at hb
 have HST := hQd (Adw a l h hb (k := k + 14) (by omega) hm hhi ha0 ha1 n0 n1)
 have x0 := hx.c 0 _ rfl
 have x12 := hx.c 12 _ rfl
 have HX := hQd hx
 have HY := hQd (aN hy2 (aN hal (aN hae hle)))
 have HD := hQd (aN hl hd)
 clear hz hp h hM hl hl0 hy hy2 hx hd hr hmk ho hu hb hal ha0 ha1 hhi hae hle ho0
 go_enter Tryz.func40, Tryz.ntmps40
 go_wp2_with fail
 refine HST.out.mono ?_
 rintro e w1 ⟨rfl, G1, e1, P1, r1⟩
 have X1 := HX.out.ext e1 (by unfold SD SR; omega)
 have H1 := hQd (aN (e1.mono (T := SD k (k + 17)) fun t _ h => SD.mono (by omega) (by omega) h) (aN P1 (aN X1 r1)))
 have y12 := X1.c 12 _ rfl
 have c0 := r1.cell
 clear e1 P1 X1 r1 HST HX x0 x12
 by_cases hl0 : l = []
 · have HL := hQd hl0
   rw [if_pos hl0] at c0
   have HB := hQd (And (H1.out.2.2.1) HP.out hk H1.out.1.hi)
   clear hl0
   go_wp2_with fail
   refine HB.out.mono ?_
   rintro e w2 ⟨rfl, G2, e2, u, x2, q2⟩
   have P2 := H1.out.2.1.ext e2
   have H2 := hQd (aN (H1.out.1.trans (e2.mono (T := SD k (k + 17)) fun t _ h => .inr h)) (aN P2 (aN x2 q2)))
   clear e2 P2 x2 q2 HB H1 y12 c0
   go_wp2_with fail
   go_end0
   have hyy : y = (Aby a 1 s, ⟨9, z.lost, z.now, z.p, z.tag, z.ref, z.rm, z.d, [], ⟨0, 0⟩, z.u⟩) := by rw [HY.out.1, HY.out.2.2.1]
   rw [hyy]
   exact ⟨rfl, G2, H2.out.1, H2.out.2.1, Acg.raw H2.out.2.2.1 (fun _ => HD.out.2 (by rw [HD.out.1]; decide)) (nnn) (nnn) (fun _ => ⟨u, rfl, H2.out.2.2.2⟩) (nnn)⟩
 · exact absurd HY.out.2.2.2 hl0
theorem Ap7 {z : Mvm} (hz : Afl z) (h : RW w O C f s m) (hM : Acg w O k X z) (hl : z.ln = 10) (hk : 10 ≤ k) (hm : m ≤ 900000) (hhi : Hh O w) (n0 : 0 ≤ s.n) (n1 : s.n ≤ 4611686018427387904) :
 C2 40 X C.p w (Adk (Aae f.y (s, z)) k X C f m w O) := by
 have hl0 : z.ln ≠ 0 := by omega
 have hp := hz.p hl0
 have HZ := hQd hz
 have HP := hQd hp
 obtain ⟨y, hy⟩ := exq (Aae f.y (s, z))
 have hy2 := hy.trans (Ah1 f.y s z hl)
 rw [← hy]
 obtain ⟨d, rv, mv, ov, uv, hx, hd, hr, hmk, ho, hu⟩ := hM.open hl0
 rw [hl] at hx
 obtain ⟨b0, rfl, hb⟩ := hmk (by omega)
 have hal := hz.m1 (by omega)
 obtain ⟨a, hae⟩ := exq z.p.ver
 obtain ⟨l, hle⟩ : ∃ l : List Int, l = [] := ⟨_, rfl⟩
 have ha0 : 0 ≤ a := by have := hp.ver; omega
 have ha1 : a < 18446744073709551616 := by have := hp.ver; omega
 rw [← hae, ← hle] at hal
 rw [hal] at hb
 have HST := hQd (Adw a l h hb (k := k + 14) (by omega) hm hhi ha0 ha1 n0 n1)
 have x0 := hx.c 0 _ rfl
 have x12 := hx.c 12 _ rfl
 have HX := hQd hx
 have HY := hQd (aN hy2 (aN hal (aN hae hle)))
 have HD := hQd (aN hl hd)
 clear hz hp h hM hl hl0 hy hy2 hx hd hr hmk ho hu hb hal ha0 ha1 hhi hae hle
 go_enter Tryz.func40, Tryz.ntmps40
 go_wp2_with fail
 refine HST.out.mono ?_
 rintro e w1 ⟨rfl, G1, e1, P1, r1⟩
 have X1 := HX.out.ext e1 (by unfold SD SR; omega)
 have H1 := hQd (aN (e1.mono (T := SD k (k + 17)) fun t _ h => SD.mono (by omega) (by omega) h) (aN P1 (aN X1 r1)))
 have y12 := X1.c 12 _ rfl
 have c0 := r1.cell
 clear e1 P1 X1 r1 HST HX x0 x12
 by_cases hl0 : l = []
 · have HL := hQd hl0
   rw [if_pos hl0] at c0
   have HB := hQd (Al8 (H1.out.2.2.1) hk H1.out.1.hi)
   clear hl0
   go_wp2_with fail
   refine HB.out.mono ?_
   rintro e w2 ⟨rfl, G2, e2, x2⟩
   have P2 := H1.out.2.1.ext e2
   have H2 := hQd (aN (H1.out.1.trans (e2.mono (T := SD k (k + 17)) fun t _ h => .inr h)) (aN P2 x2))
   clear e2 P2 x2 HB H1 y12 c0
   go_wp2_with fail
   go_end0
   have hyy : y = (Aby a 1 s, ⟨11, z.lost, z.now, z.p, z.tag, z.ref, z.rm, z.d, [], z.o, z.u⟩) := by rw [HY.out.1, HY.out.2.2.1]
   rw [hyy]
   exact ⟨rfl, G2, H2.out.1, H2.out.2.1, Acg.raw H2.out.2.2 (fun _ => HD.out.2 (by rw [HD.out.1]; decide)) (nnn) (nnn) (nnn) (nnn)⟩
 · exact absurd HY.out.2.2.2 hl0
theorem Asq {z : Mvm} (hz : Afl z) (h : RW w O C f s m) (hM : Acg w O k X z) (hl : z.ln = 5) (hk : 10 ≤ k) (hm : m ≤ 900000) (hhi : Hh O w) (n0 : 0 ≤ s.n) (n1 : s.n ≤ 4611686018427387904) :
 C2 40 X C.p w (Adk (Aae f.y (s, z)) k X C f m w O) := by
 have hl0 : z.ln ≠ 0 := by omega
 have hp := hz.p hl0
 have HZ := hQd hz
 have HP := hQd hp
 obtain ⟨y, hy⟩ := exq (Aae f.y (s, z))
 have hy2 := hy.trans (Aj8 f.y s z hl)
 rw [← hy]
 obtain ⟨d, rv, mv, ov, uv, hx, hd, hr, hmk, ho, hu⟩ := hM.open hl0
 rw [hl] at hx
 obtain ⟨b0, rfl, hb⟩ := ho (by omega)
 have hoo := hz.o (by omega)
 have hu0 := hz.u0 (.inr hl)
 have hde := hd (by omega)
 subst hde
 have hdk := hz.d (by omega) (by omega)
 have HU := hQd (aN hu0 hdk)
 have HOO := hQd hoo
 have hln := Ab1 z.p s z.o hoo.1
 have HST := hQd (Agk z.o h hb (k := k + 16) hp hoo.1 hoo.2.1 hoo.2.2 (by omega) hm hhi n0 n1)
 obtain ⟨s1, o1, hso⟩ : ∃ s1 o1, Aaj z.p s z.o = (s1, o1) := ⟨_, _, rfl⟩
 rw [hso] at HST hln
 dsimp only at HST hln
 have hov := Abp (o := o1) (by have := hoo.1; omega)
 have x0 := hx.c 0 _ rfl
 have x13 := hx.c 13 _ rfl
 have g1 := hb.ob.c 1 _ rfl
 have HX := hQd hx
 have HY := hQd (aN hy2 (aN hso (aN hov hln)))
 have HD := hQd (aN hl hd)
 have hcc : z.o.ln = 0 ∨ z.o.ln = 1 ∨ z.o.ln = 2 := by have := hoo.1; omega
 clear hz hp h hM hl hl0 hy hy2 hx hd hr hmk ho hu hb hhi hoo hso hov hln hu0 hdk
 rcases hcc with q | q | q
 · rw [q] at g1
   have g1 : w.cell? ⟨b0, 1, none⟩ = some (.bool false) := g1
   have HQ := hQd q
   clear q
   go_enter Tryz.func40, Tryz.ntmps40
   go_wp2_with fail
   refine HST.out.mono ?_
   rintro e w1 ⟨rfl, G1, e1, P1, r1⟩
   have X1 := HX.out.ext e1 (by unfold SD SR; omega)
   have H1 := hQd (aN (e1.mono (T := SD k (k + 17)) fun t _ h => SD.mono (by omega) (by omega) h) (aN P1 (aN X1 r1)))
   have hl1 : o1.ln = 1 := by have := HY.out.2.2.2; have := HQ.out; omega
   have y0 := X1.c 0 _ rfl
   have y13 := X1.c 13 _ rfl
   have c0 := r1.ob.c 0 _ rfl
   have c1 := r1.ob.c 1 _ rfl
   rw [hl1] at c0 c1
   have c0 : w1.cell? ⟨b0, 0, none⟩ = some (.int .i64 2) := c0
   have c1 : w1.cell? ⟨b0, 1, none⟩ = some (.bool false) := c1
   have HL1 := hQd hl1
   clear e1 P1 X1 r1 HST HX x0 x13 g1 hl1
   go_wp2_with fail
   go_end0
   have hov : Aa5 o1 = false := by rw [HY.out.2.2.1, HL1.out]; rfl
   have hyy : y = (s1, ⟨5, z.lost, z.now, z.p, z.tag, z.ref, z.rm, z.d, z.m, o1, z.u⟩) := by rw [HY.out.1, HY.out.2.1]; simp [hov]
   rw [hyy]
   exact ⟨rfl, G1, H1.out.1, H1.out.2.1, Acg.raw H1.out.2.2.1 (fun _ => rfl) (nnn) (nnn) (fun _ => ⟨b0, rfl, H1.out.2.2.2⟩) (nnn)⟩
 · rw [q] at g1
   have g1 : w.cell? ⟨b0, 1, none⟩ = some (.bool false) := g1
   have HQ := hQd q
   clear q
   go_enter Tryz.func40, Tryz.ntmps40
   go_wp2_with fail
   refine HST.out.mono ?_
   rintro e w1 ⟨rfl, G1, e1, P1, r1⟩
   have X1 := HX.out.ext e1 (by unfold SD SR; omega)
   have H1 := hQd (aN (e1.mono (T := SD k (k + 17)) fun t _ h => SD.mono (by omega) (by omega) h) (aN P1 (aN X1 r1)))
   have hl1 : o1.ln = 2 := by have := HY.out.2.2.2; have := HQ.out; omega
   have y0 := X1.c 0 _ rfl
   have y13 := X1.c 13 _ rfl
   have c0 := r1.ob.c 0 _ rfl
   have c1 := r1.ob.c 1 _ rfl
   rw [hl1] at c0 c1
   have c0 : w1.cell? ⟨b0, 0, none⟩ = some (.int .i64 3) := c0
   have c1 : w1.cell? ⟨b0, 1, none⟩ = some (.bool true) := c1
   have HL1 := hQd hl1
   clear e1 P1 X1 r1 HST HX x0 x13 g1 hl1
   go_wp2_with fail
   go_end0
   have hov : Aa5 o1 = false := by rw [HY.out.2.2.1, HL1.out]; rfl
   have hyy : y = (s1, ⟨5, z.lost, z.now, z.p, z.tag, z.ref, z.rm, z.d, z.m, o1, z.u⟩) := by rw [HY.out.1, HY.out.2.1]; simp [hov]
   rw [hyy]
   exact ⟨rfl, G1, H1.out.1, H1.out.2.1, Acg.raw H1.out.2.2.1 (fun _ => rfl) (nnn) (nnn) (fun _ => ⟨b0, rfl, H1.out.2.2.2⟩) (nnn)⟩
 · rw [q] at g1
   have g1 : w.cell? ⟨b0, 1, none⟩ = some (.bool true) := g1
   have HQ := hQd q
   clear q
   go_enter Tryz.func40, Tryz.ntmps40
   go_wp2_with fail
   refine HST.out.mono ?_
   rintro e w1 ⟨rfl, G1, e1, P1, r1⟩
   have X1 := HX.out.ext e1 (by unfold SD SR; omega)
   have H1 := hQd (aN (e1.mono (T := SD k (k + 17)) fun t _ h => SD.mono (by omega) (by omega) h) (aN P1 (aN X1 r1)))
   have hl1 : o1.ln = 3 := by have := HY.out.2.2.2; have := HQ.out; omega
   have y0 := X1.c 0 _ rfl
   have y13 := X1.c 13 _ rfl
   have c0 := r1.ob.c 0 _ rfl
   have c1 := r1.ob.c 1 _ rfl
   rw [hl1] at c0 c1
   have c0 : w1.cell? ⟨b0, 0, none⟩ = some (.int .i64 0) := c0
   have c1 : w1.cell? ⟨b0, 1, none⟩ = some (.bool true) := c1
   have HL1 := hQd hl1
   clear e1 P1 X1 r1 HST HX x0 x13 g1 hl1
   have HB := hQd (Anf H1.out.2.2.1 HP.out HU.out.2 hk H1.out.1.hi)
   go_wp2_with fail
   refine HB.out.mono ?_
   rintro e w2 ⟨rfl, G2, e2, q2, q3⟩
   have P2 := H1.out.2.1.ext e2
   have H2 := hQd (aN (H1.out.1.trans (e2.mono (T := SD k (k + 17)) fun t _ h => .inr h)) (aN P2 (aN q2 q3)))
   clear e2 P2 q2 q3 HB H1 y0 y13 c0 c1
   go_wp2_with fail
   go_end0
   have hov : Aa5 o1 = true := by rw [HY.out.2.2.1, HL1.out]; rfl
   by_cases hou : Aa5 z.u = true
   · have hyy : y = (s1, ⟨7, z.lost, z.now, z.p, z.tag, z.ref, z.rm, z.d, mk2 z.p z.d, o1, z.u⟩) := by rw [HY.out.1, HY.out.2.1]; simp [hov, hou, mv7]
     rw [hyy]
     obtain ⟨mm, uv2, x2, r2⟩ := H2.out.2.2.2 (by rw [← HU.out.1]; exact hou)
     exact ⟨rfl, G2, H2.out.1, H2.out.2.1, Acg.raw x2 (fun _ => rfl) (nnn) (fun _ => ⟨mm, rfl, r2⟩) (nnn) (nnn)⟩
   · have hyy : y = (s1, ⟨6, z.lost, z.now, z.p, z.tag, z.ref, z.rm, z.d, z.m, o1, z.u⟩) := by rw [HY.out.1, HY.out.2.1]; simp [hov, hou]
     rw [hyy]
     obtain ⟨uu, x2, r2⟩ := H2.out.2.2.1 (by rw [← HU.out.1]; simpa using hou)
     refine ⟨rfl, G2, H2.out.1, H2.out.2.1, Acg.raw x2 (fun _ => rfl) (nnn) (nnn) (nnn) (fun _ => ⟨uu, rfl, ?_⟩)⟩
     dsimp only
     rw [HU.out.1]
     exact r2
theorem Asm {z : Mvm} (hz : Afl z) (h : RW w O C f s m) (hM : Acg w O k X z) (hl : z.ln = 9) (hk : 10 ≤ k) (hm : m ≤ 900000) (hhi : Hh O w) (n0 : 0 ≤ s.n) (n1 : s.n ≤ 4611686018427387904) :
 C2 40 X C.p w (Adk (Aae f.y (s, z)) k X C f m w O) := by
 have hl0 : z.ln ≠ 0 := by omega
 have hp := hz.p hl0
 have HZ := hQd hz
 have HP := hQd hp
 obtain ⟨y, hy⟩ := exq (Aae f.y (s, z))
 have hy2 := hy.trans (Aj4 f.y s z hl)
 rw [← hy]
 obtain ⟨d, rv, mv, ov, uv, hx, hd, hr, hmk, ho, hu⟩ := hM.open hl0
 rw [hl] at hx
 obtain ⟨b0, rfl, hb⟩ := ho (by omega)
 have hoo := hz.o (by omega)
 have HOO := hQd hoo
 have hln := Ab1 z.p s z.o hoo.1
 have HST := hQd (Agk z.o h hb (k := k + 16) hp hoo.1 hoo.2.1 hoo.2.2 (by omega) hm hhi n0 n1)
 obtain ⟨s1, o1, hso⟩ : ∃ s1 o1, Aaj z.p s z.o = (s1, o1) := ⟨_, _, rfl⟩
 rw [hso] at HST hln
 dsimp only at HST hln
 have hov := Abp (o := o1) (by have := hoo.1; omega)
 have x0 := hx.c 0 _ rfl
 have x13 := hx.c 13 _ rfl
 have g1 := hb.ob.c 1 _ rfl
 have HX := hQd hx
 have HY := hQd (aN hy2 (aN hso (aN hov hln)))
 have HD := hQd (aN hl hd)
 have hcc : z.o.ln = 0 ∨ z.o.ln = 1 ∨ z.o.ln = 2 := by have := hoo.1; omega
 clear hz hp h hM hl hl0 hy hy2 hx hd hr hmk ho hu hb hhi hoo hso hov hln
 rcases hcc with q | q | q
 · rw [q] at g1
   have g1 : w.cell? ⟨b0, 1, none⟩ = some (.bool false) := g1
   have HQ := hQd q
   clear q
   go_enter Tryz.func40, Tryz.ntmps40
   go_wp2_with fail
   refine HST.out.mono ?_
   rintro e w1 ⟨rfl, G1, e1, P1, r1⟩
   have X1 := HX.out.ext e1 (by unfold SD SR; omega)
   have H1 := hQd (aN (e1.mono (T := SD k (k + 17)) fun t _ h => SD.mono (by omega) (by omega) h) (aN P1 (aN X1 r1)))
   have hl1 : o1.ln = 1 := by have := HY.out.2.2.2; have := HQ.out; omega
   have y0 := X1.c 0 _ rfl
   have y13 := X1.c 13 _ rfl
   have c0 := r1.ob.c 0 _ rfl
   have c1 := r1.ob.c 1 _ rfl
   rw [hl1] at c0 c1
   have c0 : w1.cell? ⟨b0, 0, none⟩ = some (.int .i64 2) := c0
   have c1 : w1.cell? ⟨b0, 1, none⟩ = some (.bool false) := c1
   have HL1 := hQd hl1
   clear e1 P1 X1 r1 HST HX x0 x13 g1 hl1
   go_wp2_with fail
   go_end0
   have hyy : y = (s1, ⟨9, z.lost, z.now, z.p, z.tag, z.ref, z.rm, z.d, [], o1, z.u⟩) := by rw [HY.out.1, HY.out.2.1]; simp [HQ.out]
   rw [hyy]
   exact ⟨rfl, G1, H1.out.1, H1.out.2.1, Acg.raw H1.out.2.2.1 (fun _ => HD.out.2 (by rw [HD.out.1]; decide)) (nnn) (nnn) (fun _ => ⟨b0, rfl, H1.out.2.2.2⟩) (nnn)⟩
 · rw [q] at g1
   have g1 : w.cell? ⟨b0, 1, none⟩ = some (.bool false) := g1
   have HQ := hQd q
   clear q
   go_enter Tryz.func40, Tryz.ntmps40
   go_wp2_with fail
   refine HST.out.mono ?_
   rintro e w1 ⟨rfl, G1, e1, P1, r1⟩
   have X1 := HX.out.ext e1 (by unfold SD SR; omega)
   have H1 := hQd (aN (e1.mono (T := SD k (k + 17)) fun t _ h => SD.mono (by omega) (by omega) h) (aN P1 (aN X1 r1)))
   have hl1 : o1.ln = 2 := by have := HY.out.2.2.2; have := HQ.out; omega
   have y0 := X1.c 0 _ rfl
   have y13 := X1.c 13 _ rfl
   have c0 := r1.ob.c 0 _ rfl
   have c1 := r1.ob.c 1 _ rfl
   rw [hl1] at c0 c1
   have c0 : w1.cell? ⟨b0, 0, none⟩ = some (.int .i64 3) := c0
   have c1 : w1.cell? ⟨b0, 1, none⟩ = some (.bool true) := c1
   have HL1 := hQd hl1
   clear e1 P1 X1 r1 HST HX x0 x13 g1 hl1
   have y3 := H1.out.2.2.1.c 3 _ rfl
   have y4 := H1.out.2.2.1.c 4 _ rfl
   have y5 := H1.out.2.2.1.c 5 _ rfl
   have y7 := H1.out.2.2.1.c 7 _ rfl
   go_upto_region 30 with fail
   go_region_held3 (fun w' => w'.cell? ⟨X, 3, none⟩ = some (.int .i64 z.p.b) ∧ w'.cell? ⟨X, 4, none⟩ = some (.int .i64 z.p.q) ∧ w'.cell? ⟨X, 5, none⟩ = some (.int .i64 z.p.s) ∧ w'.cell? ⟨X, 7, none⟩ = some (.int .i64 z.ref)) (go_keep)
    ((go_at_call 95
      refine (Ako 1 z.ref z.p.b z.p.q z.p.s 0 (w := w1.drew) (H1.out.2.1.below H1.out.1.hi (Aaa w1)) (H1.out.1.below (Aaa w1)).hi (by decide) (by decide)).mono ?_
      rintro e w2 ⟨rfl, G2, e2, P2⟩
      have X2 := (H1.out.2.2.1.below (Aaa w1)).ext e2 (by unfold SR; omega)
      have H2 := hQd (aN ((H1.out.1.below (Aaa w1)).trans (e2.mono (T := SD k (k + 17)) fun t _ h => .inl h)) (aN P2 (aN X2 ((H1.out.2.2.2.below (Aaa w1)).ext e2 (by unfold SR; omega)))))
      have z3 := X2.c 3 _ rfl
      have z4 := X2.c 4 _ rfl
      have z5 := X2.c 5 _ rfl
      have z7 := X2.c 7 _ rfl
      clear e2 P2 X2))
   all_goals
    clear y3 y4 y5 y7 z3 z4 z5 z7 y0 y13 c0 c1
    have y13 := H2.out.2.2.1.c 13 _ rfl
    have c0 := H2.out.2.2.2.ob.c 0 _ rfl
    rw [HL1.out] at c0
    have c0 : w2.cell? ⟨b0, 0, none⟩ = some (.int .i64 3) := c0
    clear H1
    go_wp2_with fail
    go_end0
    have hyy : y = (Acm 1 z.ref z.p.b z.p.q z.p.s 0 s1, ⟨9, z.lost, z.now, z.p, z.tag, z.ref, z.rm, z.d, [], o1, z.u⟩) := by rw [HY.out.1, HY.out.2.1]; simp [HQ.out]
    rw [hyy]
    exact ⟨rfl, G2, H2.out.1, H2.out.2.1, Acg.raw H2.out.2.2.1 (fun _ => HD.out.2 (by rw [HD.out.1]; decide)) (nnn) (nnn) (fun _ => ⟨b0, rfl, H2.out.2.2.2⟩) (nnn)⟩
 · rw [q] at g1
   have g1 : w.cell? ⟨b0, 1, none⟩ = some (.bool true) := g1
   have HQ := hQd q
   clear q
   go_enter Tryz.func40, Tryz.ntmps40
   go_wp2_with fail
   refine HST.out.mono ?_
   rintro e w1 ⟨rfl, G1, e1, P1, r1⟩
   have X1 := HX.out.ext e1 (by unfold SD SR; omega)
   have H1 := hQd (aN (e1.mono (T := SD k (k + 17)) fun t _ h => SD.mono (by omega) (by omega) h) (aN P1 (aN X1 r1)))
   have hl1 : o1.ln = 3 := by have := HY.out.2.2.2; have := HQ.out; omega
   have y0 := X1.c 0 _ rfl
   have y13 := X1.c 13 _ rfl
   have c0 := r1.ob.c 0 _ rfl
   have c1 := r1.ob.c 1 _ rfl
   rw [hl1] at c0 c1
   have c0 : w1.cell? ⟨b0, 0, none⟩ = some (.int .i64 0) := c0
   have c1 : w1.cell? ⟨b0, 1, none⟩ = some (.bool true) := c1
   have HL1 := hQd hl1
   clear e1 P1 X1 r1 HST HX x0 x13 g1 hl1
   have HB := hQd (Anc H1.out.2.2.1 HP.out hk H1.out.1.hi)
   go_wp2_with fail
   refine HB.out.mono ?_
   rintro e w2 ⟨rfl, G2, e2, mm, x2, q2⟩
   have P2 := H1.out.2.1.ext e2
   have H2 := hQd (aN (H1.out.1.trans (e2.mono (T := SD k (k + 17)) fun t _ h => .inr h)) (aN P2 (aN x2 q2)))
   clear e2 P2 x2 q2 HB H1 y0 y13 c0 c1
   go_wp2_with fail
   go_end0
   have hyy : y = (s1, ⟨10, z.lost, z.now, z.p, z.tag, z.ref, z.rm, z.d, [z.p.ver], o1, z.u⟩) := by rw [HY.out.1, HY.out.2.1]; simp [HQ.out]
   rw [hyy]
   exact ⟨rfl, G2, H2.out.1, H2.out.2.1, Acg.raw H2.out.2.2.1 (fun _ => HD.out.2 (by rw [HD.out.1]; decide)) (nnn) (fun _ => ⟨mm, rfl, H2.out.2.2.2⟩) (nnn) (nnn)⟩
theorem Asp {z : Mvm} (hz : Afl z) (h : RW w O C f s m) (hM : Acg w O k X z) (hl : z.ln = 6) (hk : 10 ≤ k) (hm : m ≤ 900000) (hhi : Hh O w) (n0 : 0 ≤ s.n) (n1 : s.n ≤ 4611686018427387904) :
 C2 40 X C.p w (Adk (Aae f.y (s, z)) k X C f m w O) := by
 have hl0 : z.ln ≠ 0 := by omega
 have hp := hz.p hl0
 have HZ := hQd hz
 have HP := hQd hp
 obtain ⟨y, hy⟩ := exq (Aae f.y (s, z))
 have hy2 := hy.trans (Aj7 f.y s z hl)
 rw [← hy]
 obtain ⟨d, rv, mv, ov, uv, hx, hd, hr, hmk, ho, hu⟩ := hM.open hl0
 rw [hl] at hx
 obtain ⟨b0, rfl, hb⟩ := hu hl
 have huu := hz.u hl
 have ht0 := hz.t0
 have hrf := hz.rf
 have hde := hd (by omega)
 subst hde
 have hdk := hz.d (by omega) (by omega)
 have hln := Acr z.d z.tag z.ref s z.u huu.1
 have HST := hQd (Ajk z.u h hb (k := k + 17) hdk ⟨huu.2.2.2.1, ht0.2, huu.2.2.2.2, hrf.2⟩ huu.1 huu.2.1 huu.2.2.1 (by omega) hm hhi n0 n1)
 obtain ⟨s1, o1, hso⟩ : ∃ s1 o1, Aan z.d z.tag z.ref s z.u = (s1, o1) := ⟨_, _, rfl⟩
 rw [hso] at HST hln
 dsimp only at HST hln
 have hov := Abp (o := o1) (by have := huu.1; omega)
 have x0 := hx.c 0 _ rfl
 have x14 := hx.c 14 _ rfl
 have HX := hQd hx
 have HY := hQd (aN hy2 (aN hso (aN hov (aN hln huu.1))))
 have HU := hQd hdk
 clear hz hp h hM hl hl0 hy hy2 hx hd hr hmk ho hu hb hhi huu hso hov hln hdk ht0 hrf
 go_enter Tryz.func40, Tryz.ntmps40
 go_wp2_with fail
 refine HST.out.mono ?_
 rintro e w1 ⟨rfl, G1, e1, P1, r1⟩
 have X1 := HX.out.ext e1 (by unfold SD SR; omega)
 have H1 := hQd (aN (e1.mono (T := SD k (k + 17)) fun t _ h => SD.mono (by omega) (by omega) h) (aN P1 (aN X1 r1)))
 have y14 := X1.c 14 _ rfl
 have c0 := r1.ob.c 0 _ rfl
 clear e1 P1 X1 r1 HST HX x0 x14
 by_cases h3 : o1.ln = 3
 · rw [if_pos h3] at c0
   have HL := hQd h3
   have HB := hQd (Aig H1.out.2.2.1 HP.out HU.out hk H1.out.1.hi)
   clear h3
   go_wp2_with fail
   refine HB.out.mono ?_
   rintro e w2 ⟨rfl, G2, e2, mm, x2, q2⟩
   have P2 := H1.out.2.1.ext e2
   have H2 := hQd (aN (H1.out.1.trans (e2.mono (T := SD k (k + 17)) fun t _ h => .inr h)) (aN P2 (aN x2 q2)))
   clear e2 P2 x2 q2 HB H1 y14 c0
   go_wp2_with fail
   go_end0
   have hov : Aa5 o1 = true := by rw [HY.out.2.2.1, HL.out]; rfl
   have hyy : y = (s1, ⟨7, z.lost, z.now, z.p, z.tag, z.ref, z.rm, z.d, mk2 z.p z.d, z.o, o1⟩) := by rw [HY.out.1, HY.out.2.1]; simp [hov, mv7]
   rw [hyy]
   exact ⟨rfl, G2, H2.out.1, H2.out.2.1, Acg.raw H2.out.2.2.1 (fun _ => rfl) (nnn) (fun _ => ⟨mm, rfl, H2.out.2.2.2⟩) (nnn) (nnn)⟩
 · rw [if_neg h3] at c0
   have HL := hQd h3
   have d1 : ((o1.ln : Int) + 1 == 0) = false := by simp; omega
   clear h3
   go_wp2_with fail
   go_end0
   have hov : Aa5 o1 = false := by rw [HY.out.2.2.1]; simp [HL.out]
   have hyy : y = (s1, ⟨6, z.lost, z.now, z.p, z.tag, z.ref, z.rm, z.d, z.m, z.o, o1⟩) := by rw [HY.out.1, HY.out.2.1]; simp [hov]
   rw [hyy]
   exact ⟨rfl, G1, H1.out.1, H1.out.2.1, Acg.raw H1.out.2.2.1 (fun _ => rfl) (nnn) (nnn) (nnn) (fun _ => ⟨b0, rfl, H1.out.2.2.2⟩)⟩
theorem Ap6 {z : Mvm} (hlo0 : 0 ≤ z.lost) (hlo1 : z.lost ≤ 1000000) (hz : Afl z) (h : RW w O C f s m) (hM : Acg w O k X z) (hl : z.ln = 11) (hk : 10 ≤ k) (hm : m ≤ 900000) (hhi : Hh O w) (n0 : 0 ≤ s.n) (n1 : s.n ≤ 4611686018427387904) :
 C2 40 X C.p w (Adk (Aae f.y (s, z)) k X C f m w O) := by
 have hl0 : z.ln ≠ 0 := by omega
 have hp := hz.p hl0
 have HZ := hQd hz
 have HP := hQd hp
 obtain ⟨y, hy⟩ := exq (Aae f.y (s, z))
 have hy2 := hy.trans (Ah0 f.y s z hl)
 rw [← hy]
 obtain ⟨d, rv, mv, ov, uv, hx, hd, hr, hmk, ho, hu⟩ := hM.open hl0
 rw [hl] at hx
 have HST := hQd (Ar7 6 18446744073709551615 h (by omega) (by decide) (by decide) (by decide) (by decide) hhi n0 n1)
 have x0 := hx.c 0 _ rfl
 have HX := hQd hx
 have HY := hQd (aN hy2 (aN hl hd))
 clear hz hp h hM hl hl0 hy hy2 hx hd hr hmk ho hu hhi
 go_enter Tryz.func40, Tryz.ntmps40
 go_wp2_with fail
 refine HST.out.mono ?_
 rintro e w1 ⟨rfl, G1, e1, P1⟩
 have X1 := HX.out.ext e1 (by unfold SR; omega)
 have H1 := hQd (aN (e1.mono (T := SD k (k + 17)) fun t _ h => .inl h) (aN P1 X1))
 have y3 := X1.c 3 _ rfl
 have y4 := X1.c 4 _ rfl
 have y5 := X1.c 5 _ rfl
 have y7 := X1.c 7 _ rfl
 clear e1 P1 X1 HST HX x0
 go_upto_region 39 with fail
 go_region_held3 (fun w' => w'.cell? ⟨X, 3, none⟩ = some (.int .i64 z.p.b) ∧ w'.cell? ⟨X, 4, none⟩ = some (.int .i64 z.p.q) ∧ w'.cell? ⟨X, 5, none⟩ = some (.int .i64 z.p.s) ∧ w'.cell? ⟨X, 7, none⟩ = some (.int .i64 z.ref)) (go_keep)
  ((go_at_call 95
    refine (Ako 2 z.ref z.p.b z.p.q z.p.s 0 (w := w1.drew) (H1.out.2.1.below H1.out.1.hi (Aaa w1)) (H1.out.1.below (Aaa w1)).hi (by decide) (by decide)).mono ?_
    rintro e w2 ⟨rfl, G2, e2, P2⟩
    have X2 := (H1.out.2.2.below (Aaa w1)).ext e2 (by unfold SR; omega)
    have H2 := hQd (aN ((H1.out.1.below (Aaa w1)).trans (e2.mono (T := SD k (k + 17)) fun t _ h => .inl h)) (aN P2 X2))
    have z3 := X2.c 3 _ rfl
    have z4 := X2.c 4 _ rfl
    have z5 := X2.c 5 _ rfl
    have z7 := X2.c 7 _ rfl
    clear e2 P2 X2))
 all_goals
  clear y3 y4 y5 y7 z3 z4 z5 z7
  have y1 := H2.out.2.2.c 1 _ rfl
  have g1 := H2.out.2.2.f 1
  have hlw : IntKind.i64.wrap (z.lost + 1) = z.lost + 1 := by simp [IntKind.wrap, IntKind.bits, IntKind.signed]; omega
  obtain ⟨e3, X3⟩ := Aap H2.out.2.2 hk H2.out.1.hi 1 (.int .i64 (z.lost + 1)) (by simp [Acd])
  have H3 := hQd (aN (H2.out.1.trans (e3.mono (T := SD k (k + 17)) fun t _ h => .inr (by omega))) (aN (H2.out.2.1.ext e3) X3))
  have HB := hQd (Al7 (lost := z.lost + 1) H3.out.2.2 HP.out.s0 HP.out.s1 hk H3.out.1.hi)
  obtain ⟨w3, hw3⟩ := exq (w2.setCell ⟨X, 1, none⟩ (.int .i64 (z.lost + 1)))
  clear e3 X3
  go_wp2_with fail
  rw [← hw3] at H3 HB ⊢
  clear hw3 y1 g1 H1 H2
  refine HB.out.mono ?_
  rintro e w4 ⟨rfl, G4, e4, x4⟩
  have P4 := H3.out.2.1.ext e4
  have H4 := hQd (aN (H3.out.1.trans (e4.mono (T := SD k (k + 17)) fun t _ h => .inr h)) (aN P4 x4))
  clear e4 P4 x4 HB H3
  go_wp2_with fail
  go_end0
  rw [HY.out.1]
  exact ⟨rfl, G4, H4.out.1, H4.out.2.1, Aia (z := ⟨11, z.lost + 1, z.now, z.p, z.tag, z.ref, z.rm, z.d, z.m, z.o, z.u⟩) H4.out.2.2⟩
end
end
end Go.Proofs.YtehdnclegipciaaGreat
