/- Layer 20: a Run of a Move, whatever it meets. Layers 19, 21: a Swap; a Turn, whatever it meets. Layer 21: a Turn's step, its Run; the chapter's examples. -/
import Derived.Test.YtfnmdafpdcgcmaaGreatZQ
import Derived.Test.YtfnmdafpdcgcmaaGreatZX
import Derived.Test.YtfnmdafpdcgcmaaGreatZ9
import Derived.BigQuiet
import Derived.Deep.RegionHeld3
import Derived.Test.YtfnmdafpdcgcmaaGreatZK
namespace Go.Proofs.YtfnmdafpdcgcmaaGreat
set_option linter.unusedSimpArgs false
section
set_option linter.unusedVariables false
open Go.RowKit Go.Shelf
theorem it_out (p : Spt) (s : AW) (o : Otm) : (outStep p s o).1.it = s.it := by unfold outStep; (repeat' split); all_goals rfl
theorem it_put (p : Spt) (tg rf : Int) (s : AW) (o : Otm) : (putStep p tg rf s o).1.it = s.it := by unfold putStep; (repeat' split); all_goals rfl
theorem it_wy (x : AW × Wym) : (wyStep x).1.it = x.1.it := by unfold wyStep; (repeat' split); all_goals rfl
theorem it_ho (x : AW × Hom) : (hoStep x).1.it = x.1.it := by
 unfold hoStep
 repeat' split
 all_goals first | rfl | exact it_out _ _ _ | exact it_put _ _ _ _ _
theorem it_rm (mo : Int) (x : AW × Rmm) : (rmStep mo x).1.it = x.1.it := by
 unfold rmStep
 repeat' split
 all_goals (try dsimp only)
 all_goals (try split)
 all_goals first | rfl | exact it_wy (x.1, x.2.wy) | exact it_ho (x.1, x.2.ho)
theorem it_mv (mo : Int) (s : AW) (z : Mvm) : (mvStep mo (s, z)).1.it = s.it := by
 by_cases g1 : z.ln = 1
 · rw [mvStep_1 _ _ _ g1]; rfl
 by_cases g2 : z.ln = 2
 · rw [mvStep_2 _ _ _ g2]; rfl
 by_cases g3 : z.ln = 3
 · rw [mvStep_3 _ _ _ g3]; exact it_rm mo (s, z.rm)
 by_cases g4 : z.ln = 4
 · rw [mvStep_4 _ _ _ g4]; rfl
 by_cases g5 : z.ln = 5
 · rw [mvStep_5 _ _ _ g5]; exact it_out _ _ _
 by_cases g6 : z.ln = 6
 · rw [mvStep_6 _ _ _ g6]; exact it_put _ _ _ _ _
 by_cases g7 : z.ln = 7
 · rw [mvStep_7 _ _ _ g7]; rfl
 by_cases g8 : z.ln = 8
 · rw [mvStep_8 _ _ _ g8]; rfl
 by_cases g9 : z.ln = 9
 · rw [mvStep_9 _ _ _ g9]
   dsimp only
   split
   · exact it_out z.p s z.o
   · exact it_out z.p s z.o
 by_cases g10 : z.ln = 10
 · rw [mvStep_10 _ _ _ g10]; rfl
 by_cases g11 : z.ln = 11
 · rw [mvStep_11 _ _ _ g11]; rfl
 unfold mvStep
 dsimp only
 rw [if_neg g1, if_neg g2, if_neg g3, if_neg g4, if_neg g5, if_neg g6, if_neg g7, if_neg g8, if_neg g9, if_neg g10, if_neg g11]
end
section
set_option linter.unusedVariables false
set_option maxHeartbeats 4000000
set_option maxRecDepth 100000
open Go.RowKit Go.Shelf
def swCs (l : Value) (wd bt : Int) : List Value := [l, .int .u64 wd, .int .i64 bt]
structure SwAt (W : World) (G : Om) (Z : Nat) (wd bt : Int) : Prop where
 ex : ∃ L, Ob W G 41 Z (swCs (.slice (some ⟨L, 0, none⟩) 1 1) wd bt) ∧ Ob W G 42 L [.int .i64 1]
theorem SwAt.ext {S : Nat → Prop} {O O' : Om} {w w' : World} {Z : Nat} {wd bt : Int} (h : SwAt w O Z wd bt) (e : Ext S O w O' w') (h1 : ¬ S 41) (h2 : ¬ S 42) : SwAt w' O' Z wd bt := by
 obtain ⟨L, a, b⟩ := h.ex
 exact ⟨L, a.ext e h1, b.ext e h2⟩
def SZ (t : Nat) : Prop := 41 ≤ t ∧ t ≤ 42
theorem c_NewSwap (v : Int) {w : World} {O : Om} (hhi : ∀ j, O j ≠ 0 → j < w.heap.size) (v0 : 0 ≤ v) (v1 : v < 18446744073709551616) (hn : plNow v ≠ 0) :
 Calls Tryz.prog 140 #[.int .u64 v] w fun e w' => ∃ Z, RP SZ w O (.pointer (some ⟨Z, 0, none⟩)) (fun W G => SwAt W G Z (plWord (plNow v) 0) (plNow v)) e w' := by
 obtain ⟨o, ho⟩ : ∃ o, o = plOld v := ⟨_, rfl⟩
 obtain ⟨n, hno⟩ : ∃ n, n = plNow v := ⟨_, rfl⟩
 have hA := c_As v w v0 v1
 rw [← ho, ← hno] at hA
 rw [← hno] at hn
 rw [← hno]
 have dn : (n == 0) = false := by simp [hn]
 obtain ⟨wd, hwd⟩ : ∃ wd, wd = plWord n 0 := ⟨_, rfl⟩
 have HW := Lib.hid hwd
 obtain ⟨O1, e1, l1, -⟩ := alloc_ob hhi 42 #[.int .i64 1] 252 w.heap.size rfl
 obtain ⟨O2, e2, z2, k2⟩ := alloc_ob e1.hi 41 (swCs (.slice (some ⟨w.heap.size, 0, none⟩) 1 1) wd n).toArray 251 (w.heap.size + 1) (by simp)
 have L2 := k2 _ _ _ l1
 have E2 : Ext SZ O w O2 _ := (e1.mono fun t _ h => by subst h; exact ⟨by decide, by decide⟩).trans (e2.mono fun t _ h => by subst h; exact ⟨by decide, by decide⟩)
 have HE := Lib.hid (And.intro E2 (And.intro z2 L2))
 rw [← hwd]
 clear ho hno hhi hn hwd e1 l1 e2 z2 k2 L2 E2
 go_enter Tryz.func140, Tryz.ntmps140
 go_wp2_with fail
 refine hA.mono ?_
 rintro e w' ⟨rfl, rfl⟩
 go_wp2_with fail
 refine (c_Word n 0 _).mono ?_
 rintro e w' ⟨rfl, rfl⟩
 rw [← HW.out]
 go_wp2_with fail
 go_ret
 exact ⟨w.heap.size + 1, rfl, O2, HE.out.1, ⟨w.heap.size, HE.out.2.1, HE.out.2.2⟩⟩
theorem c_SwOver {Z : Nat} {ao : Option Addr} {n c : Nat} {w : World} (h : w.cell? ⟨Z, 0, none⟩ = some (.slice ao n c)) : Calls Tryz.prog 142 #[.pointer (some ⟨Z, 0, none⟩)] w fun e w' => e = .returned (.bool (n == 0)) ∧ w = w' := by
 go_enter Tryz.func142, Tryz.ntmps142
 go_wp2
 go_ret
 exact ⟨ret_bool (by rw [Bool.eq_iff_iff]; simp), rfl⟩
theorem c_kind (w : World) : Calls Tryz.prog 177 #[.agg #[]] w fun e w' => e = .returned (.int .u8 5) ∧ Below w.heap.size w w' := by
 go_enter Tryz.func177, Tryz.ntmps177
 go_wp2
 go_ret
 exact ⟨rfl, (Below.refl _ _).alloc (Nat.le_refl _) _⟩
theorem mKind : ∀ W, (method 371 253 (.agg #[]) "nestbox/grows.kind").run Tryz.prog W = .ok (177, .agg #[]) W := fun W => by kernel_rfl
theorem c_swStep {Z : Nat} {wd bt : Int} {w : World} {O : Om} {B : Wb} {f : Cf} {s : AW} (hP : PW w O B f s) (hZ : SwAt w O Z wd bt) (hhi : ∀ j, O j ≠ 0 → j < w.heap.size) (d0 : 0 ≤ wd) (d1 : wd < 18446744073709551616) (n0 : 0 ≤ s.n) (n1 : s.n ≤ 4611686018427387904) :
 Calls Tryz.prog 143 #[.pointer (some ⟨Z, 0, none⟩), .pointer (some ⟨B.p, 0, none⟩)] w (RP (SX 41 42) w O (.tuple #[]) fun W G => PW W G B f (awNote 5 0 0 0 0 bt (awStore 2 wd s)) ∧ ∃ ao c, W.cell? ⟨Z, 0, none⟩ = some (.slice ao 0 c)) := by
 obtain ⟨L, hz, hl⟩ := hZ.ex
 have HM : Hid (Me 41 42 w O w O B f s 41 Z (swCs (.slice (some ⟨L, 0, none⟩) 1 1) wd bt)) := Lib.hid (Me.start hhi hP hz)
 have p0 := hP.wo.c0
 have z0 := hz.c 0 _ rfl
 have z1 := hz.c 1 _ rfl
 have z2 := hz.c 2 _ rfl
 have fz := hz.f 0
 have l0 := hl.c 0 _ rfl
 have hmk := mKind
 have hKK : ∀ args W, (callFunc 177 args).run Tryz.prog W = .ok (.enter 177 args) W := enters_of Tryz.func177 (by kernel_rfl) rfl
 clear hP hZ hz hl hhi
 go_enter Tryz.func143, Tryz.ntmps143
 go_wp2_with fail
 go_region_held3 (fun w' => w'.cell? ⟨B.p, 0, none⟩ = some (.pointer (some ⟨B.c, 0, none⟩)) ∧ w'.cell? ⟨Z, 1, none⟩ = some (.int .u64 wd)) (go_keep)
  ((go_at_call 12
    refine (c_StoreP 2 wd (w := w.drew) HM.out.drew.p HM.out.drew.e.hi (by decide) (by decide) d0 d1 n0 n1).mono ?_
    rintro e w1 ⟨rfl, G1, e1, P1⟩
    have M1 := Lib.hid (HM.out.drew.world (by decide) e1 P1)
    have p01 := M1.out.p.wo.c0
    have z01 := M1.out.t.c 0 _ rfl
    have z11 := M1.out.t.c 1 _ rfl
    have z21 := M1.out.t.c 2 _ rfl
    clear e1 P1))
 all_goals
  clear p0 z0 z1 z2 fz l0
  go_wp2_with fail
  obtain ⟨W, hW⟩ : ∃ W, W = w1.alloc (.cells #[] 253) := ⟨_, rfl⟩
  have MW : Hid (Me 41 42 w O W G1 B f (awStore 2 wd s) 41 Z (swCs (.slice (some ⟨L, 0, none⟩) 1 1) wd bt)) := Lib.hid (by rw [hW]; exact M1.out.below ((Below.refl _ _).alloc (Nat.le_refl _) _))
  have z2W := MW.out.t.c 2 _ rfl
  rw [← hW]
  clear p01 z01 z11 z21 hW
  go_region_held3 (fun w' => w'.cell? ⟨Z, 2, none⟩ = some (.int .i64 bt)) (go_keep)
   ((first
     | (go_at_call 177
        refine (c_kind W.drew).mono ?_
        rintro e w2 ⟨rfl, hb2⟩
        have M2 := Lib.hid (MW.out.drew.below hb2)
        have z2' := M2.out.t.c 2 _ rfl
        clear hb2)
     | (go_at_call 96
        refine (c_WNote 5 0 0 0 0 bt (w := w2) M2.out.p M2.out.e.hi (by decide) (by decide)).mono ?_
        rintro e w3 ⟨rfl, G3, e3, P3⟩
        have M3 := Lib.hid (M2.out.world (by decide) e3 P3)
        have z03 := M3.out.t.c 0 _ rfl
        have z23 := M3.out.t.c 2 _ rfl
        have f03 := M3.out.t.f 0
        clear e3 P3)))
  all_goals
   go_wp2_with fail
   go_end0
   have M4 := M3.out.set (by decide) (by decide) (by decide) 0 (.slice (some ⟨L, 0, none⟩) 0 0) (by simp [swCs])
   exact ⟨rfl, G3, M4.e, M4.p, _, _, M4.t.c 0 _ rfl⟩
theorem c_SwStep {Z : Nat} {wd bt : Int} {w : World} {O : Om} {B : Wb} {f : Cf} {s : AW} (hP : PW w O B f s) (hZ : SwAt w O Z wd bt) (hhi : ∀ j, O j ≠ 0 → j < w.heap.size) (d0 : 0 ≤ wd) (d1 : wd < 18446744073709551616) (n0 : 0 ≤ s.n) (n1 : s.n ≤ 4611686018427387904) :
 Calls Tryz.prog 141 #[.pointer (some ⟨Z, 0, none⟩), .pointer (some ⟨B.p, 0, none⟩)] w (RP (SX 41 42) w O (.bool true) fun W G => PW W G B f (awNote 5 0 0 0 0 bt (awStore 2 wd s))) := by
 have z0 : ∃ L, w.cell? ⟨Z, 0, none⟩ = some (.slice (some ⟨L, 0, none⟩) 1 1) := by
  obtain ⟨L, hz, hl⟩ := hZ.ex
  exact ⟨L, hz.c 0 _ rfl⟩
 obtain ⟨L, z0⟩ := z0
 have HT := Lib.hid (c_swStep hP hZ hhi d0 d1 n0 n1)
 clear hP hZ hhi
 go_enter Tryz.func141, Tryz.ntmps141
 go_wp2_with fail
 refine (c_SwOver z0).mono ?_
 rintro e w' ⟨rfl, rfl⟩
 go_wp2_with fail
 refine HT.out.mono ?_
 rintro e w2 ⟨rfl, G2, e2, P2, ao, c, hc⟩
 have E2 := Lib.hid e2
 have PP2 := Lib.hid P2
 clear HT e2 P2 z0
 go_wp2_with fail
 refine (c_SwOver hc).mono ?_
 rintro e w' ⟨rfl, rfl⟩
 go_wp2_with fail
 go_ret
 exact ⟨rfl, G2, E2.out, PP2.out⟩
structure Tum where
 ln : Int
 t : Int
 c : Int
 n : Int
 mv : Mvm
def tnCs (ln t c n : Int) (sw mv : Value) : List Value := [.int .i64 ln, .int .u64 t, .int .u64 c, .int .i64 n, sw, mv]
structure TuAt (W : World) (G : Om) (X : Nat) (z : Tum) : Prop where
 ex : ∃ sw mv : Option Addr, Ob W G 40 X (tnCs z.ln z.t z.c z.n (.pointer sw) (.pointer mv)) ∧ (z.ln = 4 → ∃ Y, mv = some ⟨Y, 0, none⟩ ∧ MvAt W G 10 Y z.mv) ∧ (z.ln = 3 → ∃ Z, sw = some ⟨Z, 0, none⟩ ∧ SwAt W G Z (plWord (plNow z.t) 0) (plNow z.t))
def mv0 : Mvm := ⟨0, 0, 0, sp20, 0, 0, rm0, sp20, [], ⟨3, 0⟩, ⟨3, 0⟩⟩
def tuNew : Tum := ⟨1, 0, 0, 0, mv0⟩
def tuOver (z : Tum) : Bool := z.ln == 0
def tuStep (q mo : Int) (z : AW × Tum) : AW × Tum :=
 if z.2.ln = 1 then (awLoad 2 z.1, ⟨if plNow (z.1.M 2) = 0 then 0 else 2, z.1.M 2, z.2.c, z.2.n, z.2.mv⟩)
 else if z.2.ln = 2 then (awLoad 3 z.1, ⟨if fnvSize (plOld z.2.t) ≤ z.1.M 3 then 3 else 4, z.2.t, z.1.M 3, z.2.n, mvNew z.2.t (z.1.M 3)⟩)
 else if z.2.ln = 4 then ((mvStep mo (z.1, z.2.mv)).1, ⟨if mvOver (mvStep mo (z.1, z.2.mv)).2 = true then 5 else 4, z.2.t, z.2.c, z.2.n, (mvStep mo (z.1, z.2.mv)).2⟩)
 else if z.2.ln = 5 then (awStore 3 (z.2.c + 1) z.1, ⟨if z.2.n + 1 < q then 1 else 0, z.2.t, z.2.c, z.2.n + 1, z.2.mv⟩)
 else if z.2.ln = 3 then (awNote 5 0 0 0 0 (plNow z.2.t) (awStore 2 (plWord (plNow z.2.t) 0) z.1), ⟨0, z.2.t, z.2.c, z.2.n, z.2.mv⟩)
 else z
theorem c_TOver {X : Nat} {ln : Int} {w : World} (h : w.cell? ⟨X, 0, none⟩ = some (.int .i64 ln)) : Calls Tryz.prog 28 #[.pointer (some ⟨X, 0, none⟩)] w fun e w' => e = .returned (.bool (ln == 0)) ∧ w = w' := by
 go_enter Tryz.func28, Tryz.ntmps28
 go_wp2
 go_ret
 exact ⟨rfl, rfl⟩
theorem c_NewTurn {w : World} {O : Om} (hhi : ∀ j, O j ≠ 0 → j < w.heap.size) : Calls Tryz.prog 27 #[] w fun e w' => ∃ X, RP (fun t => t = 40) w O (.pointer (some ⟨X, 0, none⟩)) (fun W G => TuAt W G X tuNew) e w' := by
 obtain ⟨O1, e1, x1, -⟩ := alloc_ob hhi 40 (tnCs 1 0 0 0 (.pointer none) (.pointer none)).toArray 124 w.heap.size rfl
 go_enter Tryz.func27, Tryz.ntmps27
 go_wp2
 go_ret
 exact ⟨w.heap.size, rfl, O1, e1, ⟨none, none, x1, fun h => absurd h (by decide), fun h => absurd h (by decide)⟩⟩
theorem c_Tu1 {X : Nat} {z : Tum} {w : World} {O : Om} {B : Wb} {f : Cf} {s : AW} (hP : PW w O B f s) (hX : TuAt w O X z) (hhi : ∀ j, O j ≠ 0 → j < w.heap.size) (hl : z.ln = 1) (t0 : 0 ≤ z.t) (t1 : z.t < 18446744073709551616) (n0 : 0 ≤ s.n) (n1 : s.n ≤ 4611686018427387904) :
 Calls Tryz.prog 139 #[.pointer (some ⟨X, 0, none⟩), .pointer (some ⟨B.p, 0, none⟩)] w (RP (SX 10 42) w O (.bool (tuOver (tuStep f.q f.y (s, z)).2)) fun W G => PW W G B f (tuStep f.q f.y (s, z)).1 ∧ TuAt W G X (tuStep f.q f.y (s, z)).2) := by
 obtain ⟨ln, t, c, n, k⟩ := z
 dsimp only at hl t0 t1
 subst hl
 obtain ⟨sw, mv, hx, -, -⟩ := hX.ex
 dsimp only at hx
 have HM : Hid (Me 10 42 w O w O B f s 40 X (tnCs 1 t c n (.pointer sw) (.pointer mv))) := Lib.hid (Me.start hhi hP hx)
 have x0 := hx.c 0 _ rfl
 have x1 := hx.c 1 _ rfl
 have p0 := hP.wo.c0
 have hbd := Lib.hid (hP.bd 2)
 have HA := Lib.hid (fun W => c_As t W t0 t1)
 have HA2 := Lib.hid (fun W => c_As (s.M 2) W hbd.out.1 hbd.out.2)
 have HL := Lib.hid (c_LoadP 2 hP hhi (by decide) (by decide) n0 n1)
 have hst : Hid (tuStep f.q f.y (s, ⟨1, t, c, n, k⟩) = (awLoad 2 s, ⟨if plNow (s.M 2) = 0 then 0 else 2, s.M 2, c, n, k⟩)) := Lib.hid (by unfold tuStep; rw [if_pos rfl])
 rw [hst.out]
 clear hP hX hx hhi
 go_enter Tryz.func139, Tryz.ntmps139
 go_wp2_with fail
 refine (c_TOver x0).mono ?_
 rintro e w' ⟨rfl, rfl⟩
 go_wp2_with fail
 refine (HA.out _).mono ?_
 rintro e w' ⟨rfl, rfl⟩
 go_wp2_with fail
 refine HL.out.mono ?_
 rintro e w2 ⟨rfl, G2, e2, P2⟩
 have M2 := HM.out.world (by decide) e2 P2
 have q1 := M2.t.c 1 _ rfl
 have f1 := M2.t.f 1
 have M3 := Lib.hid (M2.set (by decide) (by decide) (by decide) 1 (.int .u64 (s.M 2)) (by simp [tnCs]))
 obtain ⟨w3, hw3⟩ : ∃ w3, w3 = w2.setCell ⟨X, 1, none⟩ (.int .u64 (s.M 2)) := ⟨_, rfl⟩
 clear HL e2 P2 M2 x0 x1 p0 HM
 go_wp2_with fail
 rw [← hw3] at M3 ⊢
 clear q1 f1 hw3
 have q0 := M3.out.t.c 0 _ rfl
 have q1 := M3.out.t.c 1 _ rfl
 have f0 := M3.out.t.f 0
 go_wp2_with fail
 refine (HA2.out _).mono ?_
 rintro e w' ⟨rfl, rfl⟩
 by_cases hz : plNow (s.M 2) = 0
 · have dz : (plNow (s.M 2) == 0) = true := by simp [hz]
   have M4 := Lib.hid (M3.out.set (by decide) (by decide) (by decide) 0 (.int .i64 0) (by simp [tnCs]))
   have r0 := M4.out.t.c 0 _ rfl
   go_wp2_with fail
   refine (c_TOver r0).mono ?_
   rintro e w' ⟨rfl, rfl⟩
   go_wp2_with fail
   go_ret
   try rw [if_pos hz]
   exact ⟨rfl, _, M4.out.e, M4.out.p, ⟨sw, mv, M4.out.t, fun h => absurd (show (0 : Int) = 4 from h) (by decide), fun h => absurd (show (0 : Int) = 3 from h) (by decide)⟩⟩
 · have dz : (plNow (s.M 2) == 0) = false := by simp [hz]
   have M4 := Lib.hid (M3.out.set (by decide) (by decide) (by decide) 0 (.int .i64 2) (by simp [tnCs]))
   have r0 := M4.out.t.c 0 _ rfl
   go_wp2_with fail
   refine (c_TOver r0).mono ?_
   rintro e w' ⟨rfl, rfl⟩
   go_wp2_with fail
   go_ret
   try rw [if_neg hz]
   exact ⟨rfl, _, M4.out.e, M4.out.p, ⟨sw, mv, M4.out.t, fun h => absurd (show (2 : Int) = 4 from h) (by decide), fun h => absurd (show (2 : Int) = 3 from h) (by decide)⟩⟩
theorem c_Tu2 {X : Nat} {z : Tum} {w : World} {O : Om} {B : Wb} {f : Cf} {s : AW} (hP : PW w O B f s) (hX : TuAt w O X z) (hhi : ∀ j, O j ≠ 0 → j < w.heap.size) (hl : z.ln = 2) (t0 : 0 ≤ z.t) (t1 : z.t < 18446744073709551616) (hn : plNow z.t ≠ 0) (n0 : 0 ≤ s.n) (n1 : s.n ≤ 4611686018427387904) :
 Calls Tryz.prog 139 #[.pointer (some ⟨X, 0, none⟩), .pointer (some ⟨B.p, 0, none⟩)] w (RP (SX 10 42) w O (.bool (tuOver (tuStep f.q f.y (s, z)).2)) fun W G => PW W G B f (tuStep f.q f.y (s, z)).1 ∧ TuAt W G X (tuStep f.q f.y (s, z)).2) := by
 obtain ⟨ln, t, c, n, k⟩ := z
 dsimp only at hl t0 t1 hn
 subst hl
 obtain ⟨sw, mv, hx, -, -⟩ := hX.ex
 dsimp only at hx
 have HM : Hid (Me 10 42 w O w O B f s 40 X (tnCs 2 t c n (.pointer sw) (.pointer mv))) := Lib.hid (Me.start hhi hP hx)
 have x0 := hx.c 0 _ rfl
 have x1 := hx.c 1 _ rfl
 have p0 := hP.wo.c0
 have hbd := Lib.hid (hP.bd 3)
 obtain ⟨o, ho⟩ : ∃ o, o = plOld t := ⟨_, rfl⟩
 obtain ⟨nw, hnw⟩ : ∃ nw, nw = plNow t := ⟨_, rfl⟩
 have hob : -9223372036854775808 ≤ o ∧ o ≤ 9223372036854775807 := by rw [ho]; unfold plOld; split <;> omega
 have HOB := Lib.hid hob
 have HA := Lib.hid (fun W => c_As t W t0 t1)
 rw [← ho, ← hnw] at HA
 have HL := Lib.hid (c_LoadP 3 hP hhi (by decide) (by decide) n0 n1)
 obtain ⟨c', hc'⟩ : ∃ c', c' = s.M 3 := ⟨_, rfl⟩
 rw [← hc'] at HL hbd
 obtain ⟨sz, hsz⟩ : ∃ sz, sz = fnvSize o := ⟨_, rfl⟩
 have hszb : 0 ≤ sz ∧ sz ≤ 4096 := by rw [hsz]; exact fnvSize_bd o
 have hst : Hid (tuStep f.q f.y (s, ⟨2, t, c, n, k⟩) = (awLoad 3 s, ⟨if sz ≤ c' then 3 else 4, t, c', n, mvNew t c'⟩)) := Lib.hid (by unfold tuStep; rw [if_neg (show ¬ ((2 : Int) = 1) by decide), if_pos rfl, hsz, ho, hc'])
 have HSZ := Lib.hid (fun W => c_Size o W hob.1 hob.2)
 rw [← hsz] at HSZ
 have HSZ2 := Lib.hid hsz
 have HO := Lib.hid ho
 have HNW := Lib.hid hnw
 have HN := Lib.hid hn
 rw [hst.out]
 have hw1 : IntKind.u64.wrap sz = sz := by rw [IntKind.wrap_u64]; omega
 clear hP hX hx hhi hob ho hnw hc' hsz hn
 go_enter Tryz.func139, Tryz.ntmps139
 go_wp2_with fail
 refine (c_TOver x0).mono ?_
 rintro e w' ⟨rfl, rfl⟩
 go_wp2_with fail
 refine (HA.out _).mono ?_
 rintro e w' ⟨rfl, rfl⟩
 go_wp2_with fail
 refine HL.out.mono ?_
 rintro e w2 ⟨rfl, G2, e2, P2⟩
 have M2 := HM.out.world (by decide) e2 P2
 have q2 := M2.t.c 2 _ rfl
 have f2 := M2.t.f 2
 have M3 := Lib.hid (M2.set (by decide) (by decide) (by decide) 2 (.int .u64 c') (by simp [tnCs]))
 obtain ⟨w3, hw3⟩ : ∃ w3, w3 = w2.setCell ⟨X, 2, none⟩ (.int .u64 c') := ⟨_, rfl⟩
 clear HL e2 P2 M2 x0 x1 p0 HM
 go_wp2_with fail
 rw [← hw3] at M3 ⊢
 clear q2 f2 hw3
 have q0 := M3.out.t.c 0 _ rfl
 have q1 := M3.out.t.c 1 _ rfl
 have q2 := M3.out.t.c 2 _ rfl
 have q4 := M3.out.t.c 4 _ rfl
 have q5 := M3.out.t.c 5 _ rfl
 have f0 := M3.out.t.f 0
 have f4 := M3.out.t.f 4
 have f5 := M3.out.t.f 5
 have hXl := M3.out.t.lt
 by_cases hz : sz ≤ c'
 · have dz : decide (sz ≤ c') = true := by simp [hz]
   go_quiet ((go_at_call 15; exact quietS (HSZ.out _)))
   have MW : Hid (Me 10 42 w O (w3.drewN nq) G2 B f (awLoad 3 s) 40 X ((tnCs 2 t c n (.pointer sw) (.pointer mv)).set 2 (.int .u64 c'))) := Lib.hid (M3.out.below ⟨rfl, rfl, rfl, Nat.le_refl _, fun _ _ => rfl⟩)
   obtain ⟨w4, hw4⟩ : ∃ w4, w4 = w3.drewN nq := ⟨_, rfl⟩
   rw [← hw4] at MW ⊢
   clear hw4 q0 q1 q2 q4 q5 f0 f4 f5 M3 hXl
   have q1 := MW.out.t.c 1 _ rfl
   go_wp2_with fail
   refine (c_NewSwap t MW.out.e.hi t0 t1 HN.out).mono ?_
   rintro e w5 ⟨Z, rfl, G5, e5, sw5⟩
   have M5 : Me 10 42 w O w5 G5 B f (awLoad 3 s) 40 X _ := ⟨MW.out.e.trans (e5.mono fun t _ h => .inr ⟨by have := h.1; omega, by have := h.2; omega⟩), MW.out.p.ext e5 (fun h => absurd h.1 (by decide)) (fun h => absurd h.1 (by decide)) (fun h => absurd h.1 (by decide)) (fun h => absurd h.1 (by decide)), MW.out.t.ext e5 (fun h => absurd h.1 (by decide))⟩
   have r0 := M5.t.c 0 _ rfl
   have r4 := M5.t.c 4 _ rfl
   have g0 := M5.t.f 0
   have g4 := M5.t.f 4
   have hl5 := M5.t.lt
   have s1 := ext_set (j := 4) (v := .pointer (some ⟨Z, 0, none⟩)) M5.e.hi M5.t (by decide)
   have M6 := M5.set (by decide) (by decide) (by decide) 4 (.pointer (some ⟨Z, 0, none⟩)) (by simp [tnCs])
   have s2 := ext_set (j := 0) (v := .int .i64 3) M6.e.hi M6.t (by decide)
   have M7 := Lib.hid (M6.set (by decide) (by decide) (by decide) 0 (.int .i64 3) (by simp [tnCs]))
   have SW7 := Lib.hid ((sw5.ext s1 (by decide) (by decide)).ext s2 (by decide) (by decide))
   have z0 := M7.out.t.c 0 _ rfl
   clear e5 sw5 M5 s1 M6 s2 q1
   go_wp2_with fail
   refine (c_TOver z0).mono ?_
   rintro e w' ⟨rfl, rfl⟩
   go_wp2_with fail
   go_ret
   try rw [if_pos hz]
   exact ⟨rfl, _, M7.out.e, M7.out.p, ⟨some ⟨Z, 0, none⟩, mv, M7.out.t, fun h => absurd (show (3 : Int) = 4 from h) (by decide), fun _ => ⟨Z, rfl, SW7.out⟩⟩⟩
 · have dz : decide (sz ≤ c') = false := by simp; omega
   have hcb := hbd.out
   have h64 : wrap64 c' = c' := by unfold wrap64; omega
   have hi64 : IntKind.i64.wrap c' = c' := by simp [IntKind.wrap, IntKind.bits, IntKind.signed]; omega
   have hlt : c' < fnvSize (plOld t) := by rw [← HO.out]; have := HSZ2.out; omega
   have HLT := Lib.hid hlt
   go_quiet ((go_at_call 15; exact quietS (HSZ.out _)))
   have MW : Hid (Me 10 42 w O (w3.drewN nq) G2 B f (awLoad 3 s) 40 X ((tnCs 2 t c n (.pointer sw) (.pointer mv)).set 2 (.int .u64 c'))) := Lib.hid (M3.out.below ⟨rfl, rfl, rfl, Nat.le_refl _, fun _ _ => rfl⟩)
   obtain ⟨w4, hw4⟩ : ∃ w4, w4 = w3.drewN nq := ⟨_, rfl⟩
   rw [← hw4] at MW ⊢
   clear hw4 q0 q1 q2 q4 q5 f0 f4 f5 M3 hXl hcb hlt
   have q1 := MW.out.t.c 1 _ rfl
   have q2 := MW.out.t.c 2 _ rfl
   go_wp2_with fail
   go_region_held3 (fun w' => w'.cell? ⟨X, 1, none⟩ = some (.int .u64 t) ∧ w'.cell? ⟨X, 2, none⟩ = some (.int .u64 c')) (go_keep)
    ((go_at_call 18
      refine (c_NewMove (k := 10) (w := w4.drew) t c' t0 t1 (by have := hbd.out; omega) (by have := HLT.out; have := fnvSize_bd (plOld t); omega) (by decide) MW.out.drew.e.hi).mono ?_
      rintro e w5 ⟨Y, rfl, G5, e5, mv5⟩
      have M5 : Me 10 42 w O w5 G5 B f (awLoad 3 s) 40 X _ := ⟨MW.out.drew.e.trans (e5.mono fun t _ h => .inr (by omega)), MW.out.drew.p.ext e5 (by decide) (by decide) (by decide) (by decide), MW.out.drew.t.ext e5 (by decide)⟩
      have r0 := M5.t.c 0 _ rfl
      have r5 := M5.t.c 5 _ rfl
      have r1 := M5.t.c 1 _ rfl
      have r2 := M5.t.c 2 _ rfl
      have g0 := M5.t.f 0
      have g5 := M5.t.f 5
      have hl5 := M5.t.lt
      have s1 := ext_set (j := 5) (v := .pointer (some ⟨Y, 0, none⟩)) M5.e.hi M5.t (by decide)
      have M6 := M5.set (by decide) (by decide) (by decide) 5 (.pointer (some ⟨Y, 0, none⟩)) (by simp [tnCs])
      have r16 := M6.t.c 1 _ rfl
      have r26 := M6.t.c 2 _ rfl
      have r06 := M6.t.c 0 _ rfl
      have g06 := M6.t.f 0
      have s2 := ext_set (j := 0) (v := .int .i64 4) M6.e.hi M6.t (by decide)
      have M7 := Lib.hid (M6.set (by decide) (by decide) (by decide) 0 (.int .i64 4) (by simp [tnCs]))
      have r17 := M7.out.t.c 1 _ rfl
      have r27 := M7.out.t.c 2 _ rfl
      have MV7 := Lib.hid ((mv5.ext s1 (fun t _ _ h => by omega)).ext s2 (fun t _ _ h => by omega))
      clear e5 mv5 M5 s1 M6 s2))
   all_goals
    have z0 := M7.out.t.c 0 _ rfl
    go_wp2_with fail
    refine (c_TOver z0).mono ?_
    rintro e w' ⟨rfl, rfl⟩
    go_wp2_with fail
    go_ret
    try rw [if_neg hz]
    exact ⟨rfl, _, M7.out.e, M7.out.p, ⟨sw, some ⟨Y, 0, none⟩, M7.out.t, fun _ => ⟨Y, rfl, MV7.out⟩, fun h => absurd (show (4 : Int) = 3 from h) (by decide)⟩⟩
theorem c_Tu4 {X : Nat} {z : Tum} {w : World} {O : Om} {B : Wb} {f : Cf} {s : AW} (hP : PW w O B f s) (hX : TuAt w O X z) (hhi : ∀ j, O j ≠ 0 → j < w.heap.size) (hl : z.ln = 4) (t0 : 0 ≤ z.t) (t1 : z.t < 18446744073709551616) (hz : MvOk z.mv) (hl4 : z.mv.ln ≠ 0) (hlo0 : 0 ≤ z.mv.lost) (hlo1 : z.mv.lost ≤ 1000000) (hil : s.it.length ≤ 1000000) (hks : ∀ r, (itOf s.it r).key.size ≤ maxLen) (n0 : 0 ≤ s.n) (n1 : s.n ≤ 4611686018427387904) :
 Calls Tryz.prog 139 #[.pointer (some ⟨X, 0, none⟩), .pointer (some ⟨B.p, 0, none⟩)] w (RP (SX 10 42) w O (.bool (tuOver (tuStep f.q f.y (s, z)).2)) fun W G => PW W G B f (tuStep f.q f.y (s, z)).1 ∧ TuAt W G X (tuStep f.q f.y (s, z)).2) := by
 obtain ⟨ln, t, c, n, k⟩ := z
 dsimp only at hl t0 t1 hz hl4 hlo0 hlo1
 subst hl
 obtain ⟨sw, mv, hx, hmv, -⟩ := hX.ex
 obtain ⟨Y, rfl, hm⟩ := hmv rfl
 dsimp only at hx hm
 have HM : Hid (Me 10 42 w O w O B f s 40 X (tnCs 4 t c n (.pointer sw) (.pointer (some ⟨Y, 0, none⟩)))) := Lib.hid (Me.start hhi hP hx)
 have x0 := hx.c 0 _ rfl
 have x1 := hx.c 1 _ rfl
 have x5 := hx.c 5 _ rfl
 have HA := Lib.hid (fun W => c_As t W t0 t1)
 have HL := Lib.hid (c_MvStep hz hP hm hl4 hlo0 hlo1 hil hks (by decide) hhi n0 n1)
 obtain ⟨R, hR⟩ : ∃ R, R = mvStep f.y (s, k) := ⟨_, rfl⟩
 rw [← hR] at HL
 obtain ⟨LN, hLN⟩ : ∃ LN : Int, LN = if mvOver R.2 = true then 5 else 4 := ⟨_, rfl⟩
 have hst : Hid (tuStep f.q f.y (s, ⟨4, t, c, n, k⟩) = (R.1, ⟨LN, t, c, n, R.2⟩)) := Lib.hid (by unfold tuStep; rw [if_neg (show ¬ ((4 : Int) = 1) by decide), if_neg (show ¬ ((4 : Int) = 2) by decide), if_pos rfl, hLN, hR])
 obtain ⟨ov, hov⟩ : ∃ ov, ov = mvOver R.2 := ⟨_, rfl⟩
 rw [← hov] at hLN HL
 have HLN := Lib.hid hLN
 rw [hst.out]
 clear hP hX hx hhi hmv hm hz hl4 hlo0 hlo1 hil hks hR hLN hov
 go_enter Tryz.func139, Tryz.ntmps139
 go_wp2_with fail
 refine (c_TOver x0).mono ?_
 rintro e w' ⟨rfl, rfl⟩
 go_wp2_with fail
 refine (HA.out _).mono ?_
 rintro e w' ⟨rfl, rfl⟩
 go_wp2_with fail
 refine HL.out.mono ?_
 rintro e w2 ⟨rfl, G2, e2, P2, hk2⟩
 have M2 : Hid (Me 10 42 w O w2 G2 B f R.1 40 X (tnCs 4 t c n (.pointer sw) (.pointer (some ⟨Y, 0, none⟩)))) := Lib.hid ⟨HM.out.e.trans (e2.mono fun t _ h => by unfold SX at h ⊢; omega), P2, HM.out.t.ext e2 (by unfold SX; omega)⟩
 have HK := Lib.hid hk2
 clear HL e2 P2 x0 x1 x5 HM hk2
 have q0 := M2.out.t.c 0 _ rfl
 have f0 := M2.out.t.f 0
 cases ov with
 | true =>
   have h := HLN.out
   rw [if_pos rfl] at h
   subst h
   have M3 := Lib.hid (M2.out.set (by decide) (by decide) (by decide) 0 (.int .i64 5) (by simp [tnCs]))
   have r0 := M3.out.t.c 0 _ rfl
   go_wp2_with fail
   refine (c_TOver r0).mono ?_
   rintro e w' ⟨rfl, rfl⟩
   go_wp2_with fail
   go_ret
   exact ⟨rfl, _, M3.out.e, M3.out.p, ⟨sw, _, M3.out.t, fun h => absurd (show (5 : Int) = 4 from h) (by decide), fun h => absurd (show (5 : Int) = 3 from h) (by decide)⟩⟩
 | false =>
   have h := HLN.out
   rw [if_neg (by decide)] at h
   subst h
   go_wp2_with fail
   refine (c_TOver q0).mono ?_
   rintro e w' ⟨rfl, rfl⟩
   go_wp2_with fail
   go_ret
   exact ⟨rfl, _, M2.out.e, M2.out.p, ⟨sw, _, M2.out.t, fun _ => ⟨Y, rfl, HK.out⟩, fun h => absurd (show (4 : Int) = 3 from h) (by decide)⟩⟩
theorem c_Tu3 {X : Nat} {z : Tum} {w : World} {O : Om} {B : Wb} {f : Cf} {s : AW} (hP : PW w O B f s) (hX : TuAt w O X z) (hhi : ∀ j, O j ≠ 0 → j < w.heap.size) (hl : z.ln = 3) (t0 : 0 ≤ z.t) (t1 : z.t < 18446744073709551616) (n0 : 0 ≤ s.n) (n1 : s.n ≤ 4611686018427387904) :
 Calls Tryz.prog 139 #[.pointer (some ⟨X, 0, none⟩), .pointer (some ⟨B.p, 0, none⟩)] w (RP (SX 10 42) w O (.bool (tuOver (tuStep f.q f.y (s, z)).2)) fun W G => PW W G B f (tuStep f.q f.y (s, z)).1 ∧ TuAt W G X (tuStep f.q f.y (s, z)).2) := by
 obtain ⟨ln, t, c, n, k⟩ := z
 dsimp only at hl t0 t1
 subst hl
 obtain ⟨sw, mv, hx, -, hsw⟩ := hX.ex
 obtain ⟨Z, rfl, hm⟩ := hsw rfl
 dsimp only at hx hm
 have HM : Hid (Me 10 42 w O w O B f s 40 X (tnCs 3 t c n (.pointer (some ⟨Z, 0, none⟩)) (.pointer mv))) := Lib.hid (Me.start hhi hP hx)
 have x0 := hx.c 0 _ rfl
 have x1 := hx.c 1 _ rfl
 have x4 := hx.c 4 _ rfl
 have HA := Lib.hid (fun W => c_As t W t0 t1)
 have hwb : 0 ≤ plWord (plNow t) 0 ∧ plWord (plNow t) 0 < 18446744073709551616 := by unfold plWord; omega
 have HL := Lib.hid (c_SwStep hP hm hhi hwb.1 hwb.2 n0 n1)
 have hst : Hid (tuStep f.q f.y (s, ⟨3, t, c, n, k⟩) = (awNote 5 0 0 0 0 (plNow t) (awStore 2 (plWord (plNow t) 0) s), ⟨0, t, c, n, k⟩)) := Lib.hid (by unfold tuStep; rw [if_neg (show ¬ ((3 : Int) = 1) by decide), if_neg (show ¬ ((3 : Int) = 2) by decide), if_neg (show ¬ ((3 : Int) = 4) by decide), if_neg (show ¬ ((3 : Int) = 5) by decide), if_pos rfl])
 rw [hst.out]
 clear hP hX hx hhi hsw hm hwb
 go_enter Tryz.func139, Tryz.ntmps139
 go_wp2_with fail
 refine (c_TOver x0).mono ?_
 rintro e w' ⟨rfl, rfl⟩
 go_wp2_with fail
 refine (HA.out _).mono ?_
 rintro e w' ⟨rfl, rfl⟩
 go_wp2_with fail
 refine HL.out.mono ?_
 rintro e w2 ⟨rfl, G2, e2, P2⟩
 have M2 : Hid (Me 10 42 w O w2 G2 B f (awNote 5 0 0 0 0 (plNow t) (awStore 2 (plWord (plNow t) 0) s)) 40 X (tnCs 3 t c n (.pointer (some ⟨Z, 0, none⟩)) (.pointer mv))) := Lib.hid ⟨HM.out.e.trans (e2.mono fun t _ h => by unfold SX at h ⊢; omega), P2, HM.out.t.ext e2 (by unfold SX; omega)⟩
 clear HL e2 P2 x0 x1 x4 HM
 have q0 := M2.out.t.c 0 _ rfl
 have f0 := M2.out.t.f 0
 have M3 := Lib.hid (M2.out.set (by decide) (by decide) (by decide) 0 (.int .i64 0) (by simp [tnCs]))
 have r0 := M3.out.t.c 0 _ rfl
 go_wp2_with fail
 refine (c_TOver r0).mono ?_
 rintro e w' ⟨rfl, rfl⟩
 go_wp2_with fail
 go_ret
 exact ⟨rfl, _, M3.out.e, M3.out.p, ⟨_, mv, M3.out.t, fun h => absurd (show (0 : Int) = 4 from h) (by decide), fun h => absurd (show (0 : Int) = 3 from h) (by decide)⟩⟩
theorem c_Tu5 {X : Nat} {z : Tum} {w : World} {O : Om} {B : Wb} {f : Cf} {s : AW} (hP : PW w O B f s) (hX : TuAt w O X z) (hhi : ∀ j, O j ≠ 0 → j < w.heap.size) (hl : z.ln = 5) (t0 : 0 ≤ z.t) (t1 : z.t < 18446744073709551616) (c0 : 0 ≤ z.c) (c1 : z.c < 4096) (m0 : 0 ≤ z.n) (m1 : z.n ≤ 4611686018427387904) (n0 : 0 ≤ s.n) (n1 : s.n ≤ 4611686018427387904) :
 Calls Tryz.prog 139 #[.pointer (some ⟨X, 0, none⟩), .pointer (some ⟨B.p, 0, none⟩)] w (RP (SX 10 42) w O (.bool (tuOver (tuStep f.q f.y (s, z)).2)) fun W G => PW W G B f (tuStep f.q f.y (s, z)).1 ∧ TuAt W G X (tuStep f.q f.y (s, z)).2) := by
 obtain ⟨ln, t, c, n, k⟩ := z
 dsimp only at hl t0 t1 c0 c1 m0 m1
 subst hl
 obtain ⟨sw, mv, hx, -, -⟩ := hX.ex
 dsimp only at hx
 have HM : Hid (Me 10 42 w O w O B f s 40 X (tnCs 5 t c n (.pointer sw) (.pointer mv))) := Lib.hid (Me.start hhi hP hx)
 have x0 := hx.c 0 _ rfl
 have x1 := hx.c 1 _ rfl
 have x2 := hx.c 2 _ rfl
 have p0 := hP.wo.c0
 have HA := Lib.hid (fun W => c_As t W t0 t1)
 have hw1 : IntKind.u64.wrap (c + 1) = c + 1 := by rw [IntKind.wrap_u64]; omega
 have hw2 : wrap64 (n + 1) = n + 1 := by unfold wrap64; omega
 have hw3 : IntKind.i64.wrap (n + 1) = n + 1 := by simp [IntKind.wrap, IntKind.bits, IntKind.signed]; omega
 obtain ⟨q, hq⟩ : ∃ q, q = f.q := ⟨_, rfl⟩
 have hst : Hid (tuStep f.q f.y (s, ⟨5, t, c, n, k⟩) = (awStore 3 (c + 1) s, ⟨if n + 1 < q then 1 else 0, t, c, n + 1, k⟩)) := Lib.hid (by unfold tuStep; rw [if_neg (show ¬ ((5 : Int) = 1) by decide), if_neg (show ¬ ((5 : Int) = 2) by decide), if_neg (show ¬ ((5 : Int) = 4) by decide), if_pos rfl, hq])
 have HQ := Lib.hid hq
 rw [hst.out]
 clear hP hX hx hhi hq
 go_enter Tryz.func139, Tryz.ntmps139
 go_wp2_with fail
 refine (c_TOver x0).mono ?_
 rintro e w' ⟨rfl, rfl⟩
 go_wp2_with fail
 refine (HA.out _).mono ?_
 rintro e w' ⟨rfl, rfl⟩
 go_wp2_with fail
 go_region_held3 (fun w' => w'.cell? ⟨B.p, 0, none⟩ = some (.pointer (some ⟨B.c, 0, none⟩)) ∧ w'.cell? ⟨X, 2, none⟩ = some (.int .u64 c)) (go_keep)
  ((go_at_call 12
    refine (c_StoreP 3 (c + 1) (w := w.drew) HM.out.drew.p HM.out.drew.e.hi (by decide) (by decide) (by omega) (by omega) n0 n1).mono ?_
    rintro e w2 ⟨rfl, G2, e2, P2⟩
    have M2 := Lib.hid (HM.out.drew.world (by decide) e2 P2)
    have p02 := M2.out.p.wo.c0
    have q22 := M2.out.t.c 2 _ rfl
    clear e2 P2))
 all_goals
  clear x0 x1 x2 p0 HM
  have q3 := M2.out.t.c 3 _ rfl
  have f3 := M2.out.t.f 3
  have M3 := Lib.hid (M2.out.set (by decide) (by decide) (by decide) 3 (.int .i64 (n + 1)) (by simp [tnCs]))
  go_wp2_with fail
  obtain ⟨w3, hw⟩ : ∃ w3, w3 = w2.setCell ⟨X, 3, none⟩ (.int .i64 (n + 1)) := ⟨_, rfl⟩
  rw [← hw] at M3 ⊢
  clear hw q3 f3 p02 q22
  have r3 := M3.out.t.c 3 _ rfl
  have p6 := M3.out.p.wo.c6
  rw [← HQ.out] at p6
  by_cases hlt : n + 1 < q
  · have d : decide (n + 1 < q) = true := by simp [hlt]
    go_quiet (fail)
    have MW : Hid (Me 10 42 w O (w3.drewN nq) G2 B f (awStore 3 (c + 1) s) 40 X _) := Lib.hid (M3.out.below ⟨rfl, rfl, rfl, Nat.le_refl _, fun _ _ => rfl⟩)
    obtain ⟨w4, hw4⟩ : ∃ w4, w4 = w3.drewN nq := ⟨_, rfl⟩
    rw [← hw4] at MW ⊢
    clear hw4 r3 p6 M3
    have q0 := MW.out.t.c 0 _ rfl
    have f0 := MW.out.t.f 0
    have M5 := Lib.hid (MW.out.set (by decide) (by decide) (by decide) 0 (.int .i64 1) (by simp [tnCs]))
    have r0 := M5.out.t.c 0 _ rfl
    go_wp2_with fail
    refine (c_TOver r0).mono ?_
    rintro e w' ⟨rfl, rfl⟩
    go_wp2_with fail
    go_ret
    try rw [if_pos hlt]
    exact ⟨rfl, _, M5.out.e, M5.out.p, ⟨sw, mv, M5.out.t, fun h => absurd (show (1 : Int) = 4 from h) (by decide), fun h => absurd (show (1 : Int) = 3 from h) (by decide)⟩⟩
  · have d : decide (n + 1 < q) = false := by simp; omega
    go_quiet (fail)
    have MW : Hid (Me 10 42 w O (w3.drewN nq) G2 B f (awStore 3 (c + 1) s) 40 X _) := Lib.hid (M3.out.below ⟨rfl, rfl, rfl, Nat.le_refl _, fun _ _ => rfl⟩)
    obtain ⟨w4, hw4⟩ : ∃ w4, w4 = w3.drewN nq := ⟨_, rfl⟩
    rw [← hw4] at MW ⊢
    clear hw4 r3 p6 M3
    have q0 := MW.out.t.c 0 _ rfl
    have f0 := MW.out.t.f 0
    have M5 := Lib.hid (MW.out.set (by decide) (by decide) (by decide) 0 (.int .i64 0) (by simp [tnCs]))
    have r0 := M5.out.t.c 0 _ rfl
    go_wp2_with fail
    refine (c_TOver r0).mono ?_
    rintro e w' ⟨rfl, rfl⟩
    go_wp2_with fail
    go_ret
    try rw [if_neg hlt]
    exact ⟨rfl, _, M5.out.e, M5.out.p, ⟨sw, mv, M5.out.t, fun h => absurd (show (0 : Int) = 4 from h) (by decide), fun h => absurd (show (0 : Int) = 3 from h) (by decide)⟩⟩
end
section
set_option linter.unusedVariables false
set_option maxHeartbeats 4000000
set_option maxRecDepth 100000
open Go.RowKit Go.Shelf
structure TuOk (s : AW) (z : Tum) : Prop where
 ln : z.ln = 0 ∨ z.ln = 1 ∨ z.ln = 2 ∨ z.ln = 3 ∨ z.ln = 4 ∨ z.ln = 5
 t0 : 0 ≤ z.t
 t1 : z.t < 18446744073709551616
 n0 : 0 ≤ z.n
 n1 : z.n ≤ s.n
 nw : z.ln = 2 ∨ z.ln = 3 ∨ z.ln = 4 → plNow z.t ≠ 0
 c5 : z.ln = 4 ∨ z.ln = 5 → 0 ≤ z.c ∧ z.c < 4096
 mv : z.ln = 4 → MvOk z.mv ∧ z.mv.ln ≠ 0 ∧ 0 ≤ z.mv.lost ∧ z.mv.lost ≤ z.mv.p.s
theorem tuStep_1 (q mo : Int) (s : AW) (z : Tum) (h : z.ln = 1) : tuStep q mo (s, z) = (awLoad 2 s, ⟨if plNow (s.M 2) = 0 then 0 else 2, s.M 2, z.c, z.n, z.mv⟩) := by unfold tuStep; dsimp only; rw [if_pos h]
theorem tuStep_2 (q mo : Int) (s : AW) (z : Tum) (h : z.ln = 2) : tuStep q mo (s, z) = (awLoad 3 s, ⟨if fnvSize (plOld z.t) ≤ s.M 3 then 3 else 4, z.t, s.M 3, z.n, mvNew z.t (s.M 3)⟩) := by unfold tuStep; dsimp only; rw [if_neg (by omega), if_pos h]
theorem tuStep_4 (q mo : Int) (s : AW) (z : Tum) (h : z.ln = 4) : tuStep q mo (s, z) = ((mvStep mo (s, z.mv)).1, ⟨if mvOver (mvStep mo (s, z.mv)).2 = true then 5 else 4, z.t, z.c, z.n, (mvStep mo (s, z.mv)).2⟩) := by unfold tuStep; dsimp only; rw [if_neg (by omega), if_neg (by omega), if_pos h]
theorem tuStep_5 (q mo : Int) (s : AW) (z : Tum) (h : z.ln = 5) : tuStep q mo (s, z) = (awStore 3 (z.c + 1) s, ⟨if z.n + 1 < q then 1 else 0, z.t, z.c, z.n + 1, z.mv⟩) := by unfold tuStep; dsimp only; rw [if_neg (by omega), if_neg (by omega), if_neg (by omega), if_pos h]
theorem tuStep_3 (q mo : Int) (s : AW) (z : Tum) (h : z.ln = 3) : tuStep q mo (s, z) = (awNote 5 0 0 0 0 (plNow z.t) (awStore 2 (plWord (plNow z.t) 0) s), ⟨0, z.t, z.c, z.n, z.mv⟩) := by unfold tuStep; dsimp only; rw [if_neg (by omega), if_neg (by omega), if_neg (by omega), if_neg (by omega), if_pos h]
theorem tuStep_0 (q mo : Int) (s : AW) (z : Tum) (h : z.ln = 0) : tuStep q mo (s, z) = (s, z) := by unfold tuStep; dsimp only; rw [if_neg (by omega), if_neg (by omega), if_neg (by omega), if_neg (by omega), if_neg (by omega)]
theorem One.tu (q mo : Int) (x : AW × Tum) : One x.1 (tuStep q mo x).1 := by
 obtain ⟨s, z⟩ := x
 by_cases h1 : z.ln = 1
 · rw [tuStep_1 _ _ _ _ h1]; exact One.load _ _
 by_cases h2 : z.ln = 2
 · rw [tuStep_2 _ _ _ _ h2]; exact One.load _ _
 by_cases h4 : z.ln = 4
 · rw [tuStep_4 _ _ _ _ h4]; exact One.mv mo (s, z.mv)
 by_cases h5 : z.ln = 5
 · rw [tuStep_5 _ _ _ _ h5]; exact One.store _ _ _
 by_cases h3 : z.ln = 3
 · rw [tuStep_3 _ _ _ _ h3]; exact (One.store _ _ _).note _ _ _ _ _ _
 unfold tuStep
 dsimp only
 rw [if_neg h1, if_neg h2, if_neg h4, if_neg h5, if_neg h3]
 exact One.refl _
theorem it_tu (q mo : Int) (s : AW) (z : Tum) : (tuStep q mo (s, z)).1.it = s.it := by
 by_cases h1 : z.ln = 1
 · rw [tuStep_1 _ _ _ _ h1]; rfl
 by_cases h2 : z.ln = 2
 · rw [tuStep_2 _ _ _ _ h2]; rfl
 by_cases h4 : z.ln = 4
 · rw [tuStep_4 _ _ _ _ h4]; exact it_mv mo s z.mv
 by_cases h5 : z.ln = 5
 · rw [tuStep_5 _ _ _ _ h5]; rfl
 by_cases h3 : z.ln = 3
 · rw [tuStep_3 _ _ _ _ h3]; rfl
 unfold tuStep
 dsimp only
 rw [if_neg h1, if_neg h2, if_neg h4, if_neg h5, if_neg h3]
theorem TuOk.step {q mo : Int} {s : AW} {z : Tum} (h : TuOk s z) (hb : Bd s.M) : TuOk (tuStep q mo (s, z)).1 (tuStep q mo (s, z)).2 := by
 obtain ⟨hl, t0, t1, n0, n1, nw, c5, mv⟩ := h
 rcases hl with g | g | g | g | g | g
 · rw [tuStep_0 _ _ _ _ g]; exact ⟨.inl g, t0, t1, n0, n1, nw, c5, mv⟩
 · rw [tuStep_1 _ _ _ _ g]
   have h2 := hb 2
   by_cases c : plNow (s.M 2) = 0
   · rw [if_pos c]
     exact ⟨by dsimp only; omega, h2.1, h2.2, n0, by show z.n ≤ s.n + 1; omega, fun e => by dsimp only at e; omega, fun e => by dsimp only at e; omega, fun e => by dsimp only at e; omega⟩
   · rw [if_neg c]
     exact ⟨by dsimp only; omega, h2.1, h2.2, n0, by show z.n ≤ s.n + 1; omega, fun _ => c, fun e => by dsimp only at e; omega, fun e => by dsimp only at e; omega⟩
 · rw [tuStep_2 _ _ _ _ g]
   have h3 := hb 3
   have hs := fnvSize_bd (plOld z.t)
   by_cases c : fnvSize (plOld z.t) ≤ s.M 3
   · rw [if_pos c]
     exact ⟨by dsimp only; omega, t0, t1, n0, by show z.n ≤ s.n + 1; omega, fun _ => nw (.inl g), fun e => by dsimp only at e; omega, fun e => by dsimp only at e; omega⟩
   · rw [if_neg c]
     have hn := nw (.inl g)
     have e : mvNew z.t (s.M 3) = ⟨1, 0, plNow z.t, ⟨plOld z.t, s.M 3, 0⟩, 0, 0, rm0, sp20, [], ⟨3, 0⟩, ⟨3, 0⟩⟩ := by unfold mvNew; rw [if_neg (by omega)]
     exact ⟨by dsimp only; omega, t0, t1, n0, by show z.n ≤ s.n + 1; omega, fun _ => hn, fun _ => by dsimp only; omega, fun _ => ⟨mvNew_ok _ _, by dsimp only; rw [e]; show (1 : Int) ≠ 0; decide, by dsimp only; rw [e]; exact Int.le_refl _, by dsimp only; rw [e]; exact Int.le_refl _⟩⟩
 · rw [tuStep_3 _ _ _ _ g]
   exact ⟨by dsimp only; omega, t0, t1, n0, by show z.n ≤ s.n + 1; omega, fun e => by dsimp only at e; omega, fun e => by dsimp only at e; omega, fun e => by dsimp only at e; omega⟩
 · rw [tuStep_4 _ _ _ _ g]
   obtain ⟨m1, m2, m3, m4⟩ := mv g
   have hlo := mvStep_lost mo s z.mv m3 m4
   have hn := (One.mv mo (s, z.mv)).2
   dsimp only at hn
   by_cases c : mvOver (mvStep mo (s, z.mv)).2 = true
   · rw [if_pos c]
     exact ⟨by dsimp only; omega, t0, t1, n0, Int.le_trans n1 hn, fun e => by dsimp only at e; omega, fun _ => c5 (.inl g), fun e => by dsimp only at e; omega⟩
   · rw [if_neg c]
     exact ⟨by dsimp only; omega, t0, t1, n0, Int.le_trans n1 hn, fun _ => nw (.inr (.inr g)), fun _ => c5 (.inl g), fun _ => ⟨m1.step mo hb, fun e => c (by unfold mvOver; rw [e]; rfl), hlo.1, hlo.2⟩⟩
 · rw [tuStep_5 _ _ _ _ g]
   by_cases c : z.n + 1 < q
   · rw [if_pos c]
     exact ⟨by dsimp only; omega, t0, t1, by dsimp only; omega, by show z.n + 1 ≤ s.n + 1; omega, fun e => by dsimp only at e; omega, fun e => by dsimp only at e; omega, fun e => by dsimp only at e; omega⟩
   · rw [if_neg c]
     exact ⟨by dsimp only; omega, t0, t1, by dsimp only; omega, by show z.n + 1 ≤ s.n + 1; omega, fun e => by dsimp only at e; omega, fun e => by dsimp only at e; omega, fun e => by dsimp only at e; omega⟩
theorem TuOk.new {s : AW} (n0 : 0 ≤ s.n) : TuOk s tuNew := ⟨by decide, by decide, by decide, by decide, n0, fun e => by rcases e with e | e | e <;> exact absurd e (by decide), fun e => by rcases e with e | e <;> exact absurd e (by decide), fun e => absurd e (by decide)⟩
theorem m_TOver (X : Nat) : ∀ W, (method 371 66 (.pointer (some ⟨X, 0, none⟩)) "Over").run Tryz.prog W = .ok (28, .pointer (some ⟨X, 0, none⟩)) W := fun W => by kernel_rfl
theorem m_TStep (X : Nat) : ∀ W, (method 371 66 (.pointer (some ⟨X, 0, none⟩)) "Step").run Tryz.prog W = .ok (139, .pointer (some ⟨X, 0, none⟩)) W := fun W => by kernel_rfl
theorem c_TuStep {X : Nat} {z : Tum} {w : World} {O : Om} {B : Wb} {f : Cf} {s : AW} (hP : PW w O B f s) (hX : TuAt w O X z) (hz : TuOk s z) (ho : tuOver z = false) (hil : s.it.length ≤ 1000000) (hks : ∀ r, (itOf s.it r).key.size ≤ maxLen) (hhi : ∀ j, O j ≠ 0 → j < w.heap.size) (n0 : 0 ≤ s.n) (n1 : s.n ≤ 4611686018427387904) :
 Calls Tryz.prog 139 #[.pointer (some ⟨X, 0, none⟩), .pointer (some ⟨B.p, 0, none⟩)] w (RP (SX 10 42) w O (.bool (tuOver (tuStep f.q f.y (s, z)).2)) fun W G => PW W G B f (tuStep f.q f.y (s, z)).1 ∧ TuAt W G X (tuStep f.q f.y (s, z)).2) := by
 rcases hz.ln with g | g | g | g | g | g
 · unfold tuOver at ho; rw [g] at ho; cases ho
 · exact c_Tu1 hP hX hhi g hz.t0 hz.t1 n0 n1
 · exact c_Tu2 hP hX hhi g hz.t0 hz.t1 (hz.nw (.inl g)) n0 n1
 · exact c_Tu3 hP hX hhi g hz.t0 hz.t1 n0 n1
 · obtain ⟨m1, m2, m3, m4⟩ := hz.mv g
   have := (m1.p m2).s1
   exact c_Tu4 hP hX hhi g hz.t0 hz.t1 m1 m2 m3 (by omega) hil hks n0 n1
 · have hn := hz.n1
   exact c_Tu5 hP hX hhi g hz.t0 hz.t1 (hz.c5 (.inr g)).1 (hz.c5 (.inr g)).2 hz.n0 (by omega) n0 n1
theorem c_TuRun {w : World} {O : Om} {B : Wb} {f : Cf} {s : AW} (X : Nat) (z : Tum) (m : Nat) (hz : TuOk s z) (hil : s.it.length ≤ 1000000) (hks : ∀ r, (itOf s.it r).key.size ≤ maxLen)
 (hP : PW w O B f s) (hX : TuAt w O X z) (hhi : ∀ j, O j ≠ 0 → j < w.heap.size) (n0 : 0 ≤ s.n) (n1 : s.n + m ≤ 4611686018427387904) :
 Calls Tryz.prog 19 #[.pointer (some ⟨B.p, 0, none⟩), .iface 66 (.pointer (some ⟨X, 0, none⟩)), .int .i64 m] w (RP (SX 10 42) w O (.int .i64 (runN tuOver (tuStep f.q f.y) m (s, z)).1) fun W G => PW W G B f (runN tuOver (tuStep f.q f.y) m (s, z)).2.1 ∧ TuAt W G X (runN tuOver (tuStep f.q f.y) m (s, z)).2.2) := by
 refine (c_RunG tuOver (tuStep f.q f.y) (SX 10 42) (fun W G y => PW W G B f y.1 ∧ TuAt W G X y.2 ∧ TuOk y.1 y.2 ∧ y.1.it = s.it) B.p X 66 28 139 (m_TOver _) (m_TStep _)
  (run_enter Tryz.func28 (by kernel_rfl) (by kernel_rfl)) (run_enter Tryz.func139 (by kernel_rfl) (by kernel_rfl)) ?_ ?_ (fun y => One.tu f.q f.y y) w O m (s, z) ⟨hP, hX, hz, rfl⟩ hhi n0 n1).mono ?_
 · rintro W G y ⟨h1, h2, h3, -⟩
   obtain ⟨sw, mv, hx, -, -⟩ := h2.ex
   exact c_TOver (hx.c 0 _ rfl)
 · rintro W G ⟨s1, z1⟩ ⟨h1, h2, h3, h5⟩ ho hh q0 q1
   dsimp only at h1 h2 h3 h5 q0 q1
   refine (c_TuStep h1 h2 h3 ho (by rw [h5]; exact hil) (by rw [h5]; exact hks) hh q0 q1).mono ?_
   intro e w' hp2
   exact ⟨_, RP.mono hp2 (fun _ _ h => h) fun W1 G1 h => ⟨h.1, h.2, h3.step h1.bd, (it_tu f.q f.y s1 z1).trans h5⟩⟩
 · intro e w' hp2
   exact RP.mono hp2 (fun _ _ h => h) fun W1 G1 h => ⟨h.1, h.2.1⟩
theorem c_TMoved {X : Nat} {z : Tum} {w : World} {O : Om} (h : TuAt w O X z) : Calls Tryz.prog 29 #[.pointer (some ⟨X, 0, none⟩)] w fun e w' => e = .returned (.int .i64 z.n) ∧ w = w' := by
 obtain ⟨sw, mv, hx, -, -⟩ := h.ex
 have x3 := hx.c 3 _ rfl
 obtain ⟨n, hn⟩ : ∃ n, n = z.n := ⟨_, rfl⟩
 rw [← hn] at x3 ⊢
 clear h hx hn
 go_enter Tryz.func29, Tryz.ntmps29
 go_wp2
 go_ret
 exact ⟨rfl, rfl⟩
theorem c_TuOver {X : Nat} {z : Tum} {w : World} {O : Om} (h : TuAt w O X z) : Calls Tryz.prog 28 #[.pointer (some ⟨X, 0, none⟩)] w fun e w' => e = .returned (.bool (tuOver z)) ∧ w = w' := by
 obtain ⟨sw, mv, hx, -, -⟩ := h.ex
 exact c_TOver (hx.c 0 _ rfl)
def tuRun (m : Nat) (s : AW) : Nat × (AW × Tum) := runN tuOver (tuStep 1 16) m (s, tuNew)
def q1 : Nat × (AW × Tum) := tuRun 99 (aw0 1)
def q2 : Nat × (AW × Tum) := tuRun 99 (awStore 2 (plWord 1 2) q1.2.1)
def q3 : Nat × (AW × Tum) := tuRun 99 q2.2.1
def q4 : Nat × (AW × Tum) := tuRun 99 q3.2.1
theorem q_num : q1.1 = 1 ∧ q2.1 = 7 ∧ q3.1 = 7 ∧ q4.1 = 3 := by decide +kernel
theorem q_M : q2.2.1.M 3 = 1 ∧ q3.2.1.M 3 = 2 ∧ q4.2.1.M 2 = 2 := by decide +kernel
theorem q_n : (0 ≤ q1.2.1.n ∧ q1.2.1.n ≤ 1000) ∧ (0 ≤ q2.2.1.n ∧ q2.2.1.n ≤ 1000) ∧ (0 ≤ q3.2.1.n ∧ q3.2.1.n ≤ 1000) ∧ (0 ≤ q4.2.1.n ∧ q4.2.1.n ≤ 1000) := by decide +kernel
theorem q_it : q1.2.1.it = [] ∧ q2.2.1.it = [] ∧ q3.2.1.it = [] ∧ q4.2.1.it = [] := by
 have h : ∀ m s, s.it = [] → (tuRun m s).2.1.it = [] := by
  intro m s hs
  have : ∀ m z, (runN tuOver (tuStep 1 16) m z).2.1.it = z.1.it := by
   intro m
   induction m with
   | zero => intro z; rfl
   | succ m ih =>
     intro z
     by_cases o : tuOver z.2 = true
     · rw [runN_over _ _ o]
     · rw [runN_on _ _ (by simpa using o)]
       exact (ih _).trans (it_tu 1 16 z.1 z.2)
  exact (this m (s, tuNew)).trans hs
 have h1 : q1.2.1.it = [] := h 99 (aw0 1) rfl
 have h2 : q2.2.1.it = [] := h 99 _ h1
 have h3 : q3.2.1.it = [] := h 99 _ h2
 exact ⟨h1, h2, h3, h 99 _ h3⟩
structure Lv (w0 w : World) (O : Om) (B : Wb) (s : AW) : Prop where
 en : Env w0 O w
 p : PW w O B ⟨1, 8, 3, 1, 16⟩ s
 it : s.it = []
 n0 : 0 ≤ s.n
 n1 : s.n ≤ 1000
theorem Lv.turn {w0 w : World} {O : Om} {B : Wb} {s : AW} (h : Lv w0 w O B s) : Calls Tryz.prog 27 #[] w fun e w' => ∃ X G, e = .returned (.pointer (some ⟨X, 0, none⟩)) ∧ Lv w0 w' G B s ∧ TuAt w' G X tuNew := by
 refine (c_NewTurn h.en.hi).mono ?_
 rintro e w' ⟨X, rfl, G, e1, t1⟩
 exact ⟨X, G, rfl, ⟨h.en.ext e1, h.p.ext e1 (by decide) (by decide) (by decide) (by decide), h.it, h.n0, h.n1⟩, t1⟩
theorem Lv.run {w0 w : World} {O : Om} {B : Wb} {s s' : AW} {X n : Nat} (h : Lv w0 w O B s) (t : TuAt w O X tuNew) (hr : (tuRun 99 s).1 = n) (hs : (tuRun 99 s).2.1 = s') (hi : s'.it = []) (q0 : 0 ≤ s'.n) (q1 : s'.n ≤ 1000) :
 Calls Tryz.prog 19 #[.pointer (some ⟨B.p, 0, none⟩), .iface 66 (.pointer (some ⟨X, 0, none⟩)), .int .i64 99] w fun e w' => ∃ G, e = .returned (.int .i64 n) ∧ Lv w0 w' G B s' := by
 subst hr hs
 refine (c_TuRun X tuNew 99 (TuOk.new h.n0) (by rw [h.it]; decide) (fun r => by rw [h.it]; unfold itOf; split <;> exact Nat.zero_le _) h.p t h.en.hi h.n0 (by have := h.n1; omega)).mono ?_
 rintro e w' ⟨rfl, G, e1, p1, -⟩
 exact ⟨G, rfl, ⟨h.en.ext e1, p1, hi, q0, q1⟩⟩
theorem c_lives21 (w : World) : Calls Tryz.prog 26 #[] w fun e w' => e = .returned (.bool true) ∧ Below w.heap.size w w' := by
 have HQ := Lib.hid q_num
 have HM := Lib.hid q_M
 have HN := Lib.hid q_n
 have HI := Lib.hid q_it
 go_enter Tryz.func26, Tryz.ntmps26
 go_wp2_with fail
 refine (c_WorldP 1 w (by decide) (by decide)).mono ?_
 rintro e w1 ⟨B, O1, rfl, hP, hE⟩
 have L1 : Hid (Lv w w1 O1 B (aw0 1)) := Lib.hid ⟨hE, hP, rfl, by decide, by decide⟩
 clear hP hE
 go_wp2_with fail
 refine L1.out.turn.mono ?_
 rintro e w2 ⟨X2, O2, rfl, l2, t2⟩
 have R2 := Lib.hid (l2.run t2 (n := 1) (s' := q1.2.1) HQ.out.1 rfl HI.out.1 HN.out.1.1 HN.out.1.2)
 clear l2 t2
 go_wp2_with fail
 refine R2.out.mono ?_
 rintro e w3 ⟨O3, rfl, l3⟩
 have L3 := Lib.hid l3
 have p0 := l3.p.wo.c0
 clear l3 R2
 go_wp2_with fail
 go_region_held3 (fun w' => w'.cell? ⟨B.p, 0, none⟩ = some (.pointer (some ⟨B.c, 0, none⟩))) (go_keep)
  ((first
    | (go_at_call 11
       refine (c_Word 1 2 _).mono ?_
       rintro e w' ⟨rfl, rfl⟩)
    | (go_at_call 12
       refine (c_StoreP 2 (plWord 1 2) (w := w3.drew) (L3.out.p.below L3.out.en.hi (drew_below w3)) L3.out.en.hi (by decide) (by decide) (by decide) (by decide) L3.out.n0 (by have := L3.out.n1; omega)).mono ?_
       rintro e w4 ⟨rfl, O4, e4, p4⟩
       have L4 : Hid (Lv w w4 O4 B (awStore 2 (plWord 1 2) q1.2.1)) := Lib.hid ⟨(L3.out.en.ext (Ext.refl (S := SW) L3.out.en.hi).drew).ext e4, p4, HI.out.1, by have := HN.out.1.1; show 0 ≤ q1.2.1.n + 1; omega, by show q1.2.1.n + 1 ≤ 1000; decide +kernel⟩
       have p04 := L4.out.p.wo.c0
       clear e4 p4)))
 all_goals
  clear p0 p04
  go_wp2_with fail
  refine L4.out.turn.mono ?_
  rintro e w5 ⟨X5, O5, rfl, l5, t5⟩
  have R5 := Lib.hid (l5.run t5 (n := 7) (s' := q2.2.1) HQ.out.2.1 rfl HI.out.2.1 HN.out.2.1.1 HN.out.2.1.2)
  clear l5 t5
  go_wp2_with fail
  refine R5.out.mono ?_
  rintro e w6 ⟨O6, rfl, l6⟩
  have L6 := Lib.hid l6
  have p6 := l6.p.wo.c0
  clear l6 R5
  go_wp2_with fail
  refine (c_Peek (F := fun j => O6 j = 2) 3 L6.out.p.ce (by decide) (by decide)).mono ?_
  rintro e w' ⟨rfl, rfl⟩
  rw [HM.out.1]
  go_wp2_with fail
  refine L6.out.turn.mono ?_
  rintro e w7 ⟨X7, O7, rfl, l7, t7⟩
  have R7 := Lib.hid (l7.run t7 (n := 7) (s' := q3.2.1) HQ.out.2.2.1 rfl HI.out.2.2.1 HN.out.2.2.1.1 HN.out.2.2.1.2)
  clear l7 t7 p6
  go_wp2_with fail
  refine R7.out.mono ?_
  rintro e w8 ⟨O8, rfl, l8⟩
  have L8 := Lib.hid l8
  have p8 := l8.p.wo.c0
  clear l8 R7
  go_wp2_with fail
  refine (c_Peek (F := fun j => O8 j = 2) 3 L8.out.p.ce (by decide) (by decide)).mono ?_
  rintro e w' ⟨rfl, rfl⟩
  rw [HM.out.2.1]
  go_wp2_with fail
  refine L8.out.turn.mono ?_
  rintro e w9 ⟨X9, O9, rfl, l9, t9⟩
  have R9 := Lib.hid (l9.run t9 (n := 3) (s' := q4.2.1) HQ.out.2.2.2 rfl HI.out.2.2.2 HN.out.2.2.2.1 HN.out.2.2.2.2)
  clear l9 t9 p8
  go_wp2_with fail
  refine R9.out.mono ?_
  rintro e w10 ⟨O10, rfl, l10⟩
  have L10 := Lib.hid l10
  have p10 := l10.p.wo.c0
  clear l10 R9
  go_wp2_with fail
  refine (c_Peek (F := fun j => O10 j = 2) 2 L10.out.p.ce (by decide) (by decide)).mono ?_
  rintro e w' ⟨rfl, rfl⟩
  rw [HM.out.2.2]
  go_wp2_with fail
  go_ret
  exact ⟨rfl, L10.out.en.bel⟩
end
end Go.Proofs.YtfnmdafpdcgcmaaGreat
