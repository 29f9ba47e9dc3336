/- Parts of the walk. -/
import Derived.Test.YthbodknlhkapdaaGreatG8
import Derived.BigQuiet
import Derived.Deep.RegionHeld3
import Derived.Test.YthbodknlhkapdaaGreatBaK
namespace Go.Proofs.YthbodknlhkapdaaGreat
set_option linter.unusedVariables false
set_option linter.unusedSimpArgs false
set_option maxHeartbeats 4000000
set_option maxRecDepth 100000
section
open Go.RowKit Go.Shelf
def Az8 (l : Value) (wd bt : Int) : List Value := [l, .int .u64 wd, .int .i64 bt]
structure Azo (W : World) (G : Om) (kk Z : Nat) (wd bt : Int) : Prop where
 ex : ∃ L, Ob W G (kk + 31) Z (Az8 (.slice (some ⟨L, 0, none⟩) 1 1) wd bt) ∧ Ob W G (kk + 32) L [.int .i64 1]
theorem Azo.ext {S : Nat → Prop} {O O' : Om} {w w' : World} {kk Z : Nat} {wd bt : Int} (h : Azo w O kk Z wd bt) (e : Ext S O w O' w') (h1 : ¬ S (kk + 31)) (h2 : ¬ S (kk + 32)) : Azo w' O' kk Z wd bt := by
 obtain ⟨L, a, b⟩ := h.ex
 exact ⟨L, a.ext e h1, b.ext e h2⟩
def SZ (kk t : Nat) : Prop := kk + 31 ≤ t ∧ t ≤ kk + 32
theorem Atx (kk : Nat) (hkk : 10 ≤ kk) (v : Int) {w : World} {O : Om} (hhi : Hh O w) (v0 : 0 ≤ v) (v1 : v < 18446744073709551616) (hn : Aav v ≠ 0) :
 Calls Tryz.prog 39 #[.int .u64 v] w fun e w' => ∃ Z, RP (SZ kk) w O (.pointer (some ⟨Z, 0, none⟩)) (fun W G => Azo W G kk Z (Ab1 (Aav v) 0) (Aav v)) e w' := by
 obtain ⟨o, ho⟩ := exq (Aaz v)
 obtain ⟨n, hno⟩ := exq (Aav v)
 have hA := Awx v w v0 v1
 rw [← ho, ← hno] at hA
 rw [← hno] at hn
 rw [← hno]
 have dn : (n == 0) = false := by simp [hn]
 obtain ⟨wd, hwd⟩ := exq (Ab1 n 0)
 have HW := hQd hwd
 obtain ⟨O1, e1, l1, -⟩ := Aar hhi (kk + 32) #[.int .i64 1] 180 w.heap.size rfl
 obtain ⟨O2, e2, z2, k2⟩ := Aar e1.hi (kk + 31) (Az8 (.slice (some ⟨w.heap.size, 0, none⟩) 1 1) wd n).toArray 179 (w.heap.size + 1) (by simp)
 have L2 := k2 _ _ _ l1
 have E2 : Ext (SZ kk) O w O2 _ := (e1.mono fun t _ h => by subst h; exact ⟨by omega, by omega⟩).trans (e2.mono fun t _ h => by subst h; exact ⟨by omega, by omega⟩)
 have HE := hQd (aN E2 (aN z2 L2))
 rw [← hwd]
 clear ho hno hhi hn hwd e1 l1 e2 z2 k2 L2 E2
 go_enter Tryz.func39, Tryz.ntmps39
 go_wp2_with fail
 refine hA.mono ?_
 rintro e w' ⟨rfl, rfl⟩
 go_wp2_with fail
 refine (Atp n 0 _).mono ?_
 rintro e w' ⟨rfl, rfl⟩
 rw [← HW.out]
 go_wp2_with fail
 go_ret
 exact ⟨w.heap.size + 1, rfl, O2, HE.out.1, ⟨w.heap.size, HE.out.2.1, HE.out.2.2⟩⟩
theorem Apo {Z : Nat} {ao : Option Addr} {n c : Nat} {w : World} (h : w.cell? ⟨Z, 0, none⟩ = some (.slice ao n c)) : C1 90 Z w fun e w' => e = .returned (.bool (n == 0)) ∧ w = w' := by
 go_enter Tryz.func90, Tryz.ntmps90
 go_wp2
 go_ret
 exact ⟨Adp (by rw [Bool.eq_iff_iff]; simp), rfl⟩
theorem Ba3 (w : World) : Calls Tryz.prog 235 #[.agg #[]] w fun e w' => e = .returned (.int .u8 5) ∧ Below w.heap.size w w' := by
 go_enter Tryz.func235, Tryz.ntmps235
 go_wp2
 go_ret
 exact ⟨rfl, bal _ _⟩
theorem Bca : ∀ W, (method 464 190 (.agg #[]) "nestbox/grows.kind").run Tryz.prog W = .ok (235, .agg #[]) W := fun W => by kernel_rfl
theorem Avl {kk : Nat} (hkk : 10 ≤ kk) {Z : Nat} {wd bt : Int} {w : World} {O : Om} {B : Wb} {f : Cf} {s : AW} (hP : PW w O B f s) (hZ : Azo w O kk Z wd bt) (hhi : Hh O w) (d0 : 0 ≤ wd) (d1 : wd < 18446744073709551616) (n0 : 0 ≤ s.n) (n1 : s.n ≤ 4611686018427387904) :
 C2 91 Z B.p w (RP (SX (kk + 31) (kk + 32)) w O (.tuple #[]) fun W G => PW W G B f (Abr 5 0 0 0 0 bt (Aax 2 wd s)) ∧ ∃ ao c, W.cell? ⟨Z, 0, none⟩ = some (.slice ao 0 c)) := by
 obtain ⟨L, hz, hl⟩ := hZ.ex
 have HM : Hid (Me (kk + 31) (kk + 32) w O w O B f s (kk + 31) Z (Az8 (.slice (some ⟨L, 0, none⟩) 1 1) wd bt)) := hQd (Me.start hhi hP hz)
 have p0 := hP.wo.c0
 obtain ⟨z0, z1, z2⟩ := hz.c3
 have fz := hz.f 0
 have l0 := hl.c 0 _ rfl
 have hmk := Bca
 have hKK : ∀ args W, (callFunc 235 args).run Tryz.prog W = .ok (.enter 235 args) W := enters_of Tryz.func235 (by kernel_rfl) rfl
 clear hP hZ hz hl hhi
 go_enter Tryz.func91, Tryz.ntmps91
 go_wp2_with fail
 go_region_held3 (fun w' => w'.cell? ⟨B.p, 0, none⟩ = some (.pointer (some ⟨B.c, 0, none⟩)) ∧ w'.cell? ⟨Z, 1, none⟩ = some (.int .u64 wd)) (go_keep)
  ((go_at_call 17
    refine (Aed 2 wd (w := w.drew) HM.out.drew.p HM.out.drew.e.hi (by decide) (by decide) d0 d1 n0 n1).mono ?_
    rintro e w1 ⟨rfl, G1, e1, P1⟩
    have M1 := hQd (HM.out.drew.world (by omega) e1 P1)
    have p01 := M1.out.p.wo.c0
    obtain ⟨z01, z11, z21⟩ := M1.out.t.c3
    clear e1 P1))
 all_goals
  clear p0 z0 z1 z2 fz l0
  go_wp2_with fail
  obtain ⟨W, hW⟩ := exq (w1.alloc (.cells #[] 190))
  have MW : Hid (Me (kk + 31) (kk + 32) w O W G1 B f (Aax 2 wd s) (kk + 31) Z (Az8 (.slice (some ⟨L, 0, none⟩) 1 1) wd bt)) := hQd (by rw [hW]; exact M1.out.below (bal _ _))
  have z2W := MW.out.t.c 2 _ rfl
  rw [← hW]
  clear p01 z01 z11 z21 hW
  go_region_held3 (fun w' => w'.cell? ⟨Z, 2, none⟩ = some (.int .i64 bt)) (go_keep)
   ((first
     | (go_at_call 235
        refine (Ba3 W.drew).mono ?_
        rintro e w2 ⟨rfl, hb2⟩
        have M2 := hQd (MW.out.drew.below hb2)
        have z2' := M2.out.t.c 2 _ rfl
        clear hb2)
     | (go_at_call 126
        refine (Ak3 5 0 0 0 0 bt (w := w2) M2.out.p M2.out.e.hi (by decide) (by decide)).mono ?_
        rintro e w3 ⟨rfl, G3, e3, P3⟩
        have M3 := hQd (M2.out.world (by omega) e3 P3)
        obtain ⟨z03, -, z23⟩ := M3.out.t.c3
        have f03 := M3.out.t.f 0
        clear e3 P3)))
  all_goals
   go_wp2_with fail
   go_end0
   have M4 := M3.out.set (by omega) (by omega) (by omega) 0 (.slice (some ⟨L, 0, none⟩) 0 0) (by simp [Az8])
   exact ⟨rfl, G3, M4.e, M4.p, _, _, M4.t.c 0 _ rfl⟩
theorem Av0 {kk : Nat} (hkk : 10 ≤ kk) {Z : Nat} {wd bt : Int} {w : World} {O : Om} {B : Wb} {f : Cf} {s : AW} (hP : PW w O B f s) (hZ : Azo w O kk Z wd bt) (hhi : Hh O w) (d0 : 0 ≤ wd) (d1 : wd < 18446744073709551616) (n0 : 0 ≤ s.n) (n1 : s.n ≤ 4611686018427387904) :
 C2 42 Z B.p w (RP (SX (kk + 31) (kk + 32)) w O (.bool true) fun W G => PW W G B f (Abr 5 0 0 0 0 bt (Aax 2 wd s))) := by
 have z0 : ∃ L, w.cell? ⟨Z, 0, none⟩ = some (.slice (some ⟨L, 0, none⟩) 1 1) := by
  obtain ⟨L, hz, hl⟩ := hZ.ex
  exact ⟨L, hz.c 0 _ rfl⟩
 obtain ⟨L, z0⟩ := z0
 have HT := hQd (Avl hkk hP hZ hhi d0 d1 n0 n1)
 clear hP hZ hhi
 go_enter Tryz.func42, Tryz.ntmps42
 go_wp2_with fail
 refine (Apo z0).mono ?_
 rintro e w' ⟨rfl, rfl⟩
 go_wp2_with fail
 refine HT.out.mono ?_
 rintro e w2 ⟨rfl, G2, e2, P2, ao, c, hc⟩
 have E2 := hQd e2
 have PP2 := hQd P2
 clear HT e2 P2 z0
 go_wp2_with fail
 refine (Apo hc).mono ?_
 rintro e w' ⟨rfl, rfl⟩
 go_wp2_with fail
 go_ret
 exact ⟨rfl, G2, E2.out, PP2.out⟩
structure Tum where
 ln : Int
 t : Int
 c : Int
 n : Int
 mv : Mvm
def Ahj (ln t c n : Int) (sw mv : Value) : List Value := [.int .i64 ln, .int .u64 t, .int .u64 c, .int .i64 n, sw, mv]
structure Afq (W : World) (G : Om) (kk X : Nat) (z : Tum) : Prop where
 ex : ∃ sw mv : Option Addr, Ob W G (kk + 30) X (Ahj z.ln z.t z.c z.n (.pointer sw) (.pointer mv)) ∧ (z.ln = 4 → ∃ Y, mv = some ⟨Y, 0, none⟩ ∧ Adl W G kk Y z.mv) ∧ (z.ln = 3 → ∃ Z, sw = some ⟨Z, 0, none⟩ ∧ Azo W G kk Z (Ab1 (Aav z.t) 0) (Aav z.t))
def mv0 : Mvm := ⟨0, 0, 0, Am0, 0, 0, rm0, Am0, [], ⟨3, 0⟩, ⟨3, 0⟩⟩
def Ahb : Tum := ⟨1, 0, 0, 0, mv0⟩
def Acj (z : Tum) : Bool := z.ln == 0
def Aam (q mo : Int) (z : AW × Tum) : AW × Tum :=
 if z.2.ln = 1 then (Aan 2 z.1, ⟨if Aav (z.1.M 2) = 0 then 0 else 2, z.1.M 2, z.2.c, z.2.n, z.2.mv⟩)
 else if z.2.ln = 2 then (Aan 3 z.1, ⟨if Aac (Aaz z.2.t) ≤ z.1.M 3 then 3 else 4, z.2.t, z.1.M 3, z.2.n, Af1 z.2.t (z.1.M 3)⟩)
 else if z.2.ln = 4 then ((Aae mo (z.1, z.2.mv)).1, ⟨if Abg (Aae mo (z.1, z.2.mv)).2 = true then 5 else 4, z.2.t, z.2.c, z.2.n, (Aae mo (z.1, z.2.mv)).2⟩)
 else if z.2.ln = 5 then (Aax 3 (z.2.c + 1) z.1, ⟨if z.2.n + 1 < q then 1 else 0, z.2.t, z.2.c, z.2.n + 1, z.2.mv⟩)
 else if z.2.ln = 3 then (Abr 5 0 0 0 0 (Aav z.2.t) (Aax 2 (Ab1 (Aav z.2.t) 0) z.1), ⟨0, z.2.t, z.2.c, z.2.n, z.2.mv⟩)
 else z
theorem Afq.ext {S : Nat → Prop} {O O' : Om} {w w' : World} {kk X : Nat} {z : Tum} (h : Afq w O kk X z) (e : Ext S O w O' w') (hs : ∀ t, kk ≤ t → t < kk + 33 → ¬ S t) : Afq w' O' kk X z := by
 obtain ⟨sw, mv, h1, h2, h3⟩ := h.ex
 refine ⟨sw, mv, h1.ext e (hs _ (by omega) (by omega)), fun g => ?_, fun g => ?_⟩
 · obtain ⟨Y, q1, q2⟩ := h2 g; exact ⟨Y, q1, q2.ext e fun t a b => hs t a (by omega)⟩
 obtain ⟨Z, q1, q2⟩ := h3 g; exact ⟨Z, q1, q2.ext e (hs _ (by omega) (by omega)) (hs _ (by omega) (by omega))⟩
theorem Afq.below {O : Om} {w w' : World} {kk X : Nat} {z : Tum} (h : Afq w O kk X z) (hhi : Hh O w) (hb : Below w.heap.size w w') : Afq w' O kk X z := h.ext (S := fun _ => False) (Ext.of_below hhi hb) fun _ _ _ => id
theorem Aci {X : Nat} {ln : Int} {w : World} (h : w.cell? ⟨X, 0, none⟩ = some (.int .i64 ln)) : C1 35 X w fun e w' => e = .returned (.bool (ln == 0)) ∧ w = w' := by
 go_enter Tryz.func35, Tryz.ntmps35
 go_wp2
 go_ret
 exact ⟨rfl, rfl⟩
theorem Amr (kk : Nat) {w : World} {O : Om} (hhi : Hh O w) : Calls Tryz.prog 7 #[] w fun e w' => ∃ X, RP (fun t => t = kk + 30) w O (.pointer (some ⟨X, 0, none⟩)) (fun W G => Afq W G kk X Ahb) e w' := by
 obtain ⟨O1, e1, x1, -⟩ := Aar hhi (kk + 30) (Ahj 1 0 0 0 (.pointer none) (.pointer none)).toArray 85 w.heap.size rfl
 go_enter Tryz.func7, Tryz.ntmps7
 go_wp2
 go_ret
 exact ⟨w.heap.size, rfl, O1, e1, ⟨none, none, x1, fun h => absurd h (by decide), fun h => absurd h (by decide)⟩⟩
theorem Bc1 {kk : Nat} (hkk : 10 ≤ kk) {X : Nat} {z : Tum} {w : World} {O : Om} {B : Wb} {f : Cf} {s : AW} (hP : PW w O B f s) (hX : Afq w O kk X z) (hhi : Hh O w) (hl : z.ln = 1) (t0 : 0 ≤ z.t) (t1 : z.t < 18446744073709551616) (n0 : 0 ≤ s.n) (n1 : s.n ≤ 4611686018427387904) :
 C2 11 X B.p w (RP (SX kk (kk + 32)) w O (.bool (Acj (Aam f.q f.y (s, z)).2)) fun W G => PW W G B f (Aam f.q f.y (s, z)).1 ∧ Afq W G kk X (Aam f.q f.y (s, z)).2) := by
 obtain ⟨ln, t, c, n, k⟩ := z
 dsimp only at hl t0 t1
 subst hl
 obtain ⟨sw, mv, hx, -, -⟩ := hX.ex
 dsimp only at hx
 have HM : Hid (Me kk (kk + 32) w O w O B f s (kk + 30) X (Ahj 1 t c n (.pointer sw) (.pointer mv))) := hQd (Me.start hhi hP hx)
 obtain ⟨x0, x1⟩ := hx.c2
 have p0 := hP.wo.c0
 have hbd := hQd (hP.bd 2)
 have HA := hQd (fun W => Awx t W t0 t1)
 have HA2 := hQd (fun W => Awx (s.M 2) W hbd.out.1 hbd.out.2)
 have HL := hQd (Ac9 2 hP hhi (by decide) (by decide) n0 n1)
 have hst : Hid (Aam f.q f.y (s, ⟨1, t, c, n, k⟩) = (Aan 2 s, ⟨if Aav (s.M 2) = 0 then 0 else 2, s.M 2, c, n, k⟩)) := hQd (by unfold Aam; rw [if_pos rfl])
 rw [hst.out]
 clear hP hX hx hhi
 go_enter Tryz.func11, Tryz.ntmps11
 go_wp2_with fail
 refine (Aci x0).mono ?_
 rintro e w' ⟨rfl, rfl⟩
 go_wp2_with fail
 refine (HA.out _).mono ?_
 rintro e w' ⟨rfl, rfl⟩
 go_wp2_with fail
 refine HL.out.mono ?_
 rintro e w2 ⟨rfl, G2, e2, P2⟩
 have M2 := HM.out.world (by omega) e2 P2
 have q1 := M2.t.c 1 _ rfl
 have f1 := M2.t.f 1
 have M3 := hQd (M2.set (by omega) (by omega) (by omega) 1 (.int .u64 (s.M 2)) (by simp [Ahj]))
 obtain ⟨w3, hw3⟩ := exq (w2.setCell ⟨X, 1, none⟩ (.int .u64 (s.M 2)))
 clear HL e2 P2 M2 x0 x1 p0 HM
 go_wp2_with fail
 rw [← hw3] at M3 ⊢
 clear q1 f1 hw3
 obtain ⟨q0, q1⟩ := M3.out.t.c2
 have f0 := M3.out.t.f 0
 go_wp2_with fail
 refine (HA2.out _).mono ?_
 rintro e w' ⟨rfl, rfl⟩
 by_cases hz : Aav (s.M 2) = 0
 · have dz : (Aav (s.M 2) == 0) = true := by simp [hz]
   have M4 := hQd (M3.out.set (by omega) (by omega) (by omega) 0 (.int .i64 0) (by simp [Ahj]))
   have r0 := M4.out.t.c 0 _ rfl
   go_wp2_with fail
   refine (Aci r0).mono ?_
   rintro e w' ⟨rfl, rfl⟩
   go_wp2_with fail
   go_ret
   try rw [if_pos hz]
   exact ⟨rfl, _, M4.out.e, M4.out.p, ⟨sw, mv, M4.out.t, fun h => absurd (show (0 : Int) = 4 from h) (by decide), fun h => absurd (show (0 : Int) = 3 from h) (by decide)⟩⟩
 have dz : (Aav (s.M 2) == 0) = false := by simp [hz]
 have M4 := hQd (M3.out.set (by omega) (by omega) (by omega) 0 (.int .i64 2) (by simp [Ahj]))
 have r0 := M4.out.t.c 0 _ rfl
 go_wp2_with fail
 refine (Aci r0).mono ?_
 rintro e w' ⟨rfl, rfl⟩
 go_wp2_with fail
 go_ret
 try rw [if_neg hz]
 exact ⟨rfl, _, M4.out.e, M4.out.p, ⟨sw, mv, M4.out.t, fun h => absurd (show (2 : Int) = 4 from h) (by decide), fun h => absurd (show (2 : Int) = 3 from h) (by decide)⟩⟩
theorem Bc0 {kk : Nat} (hkk : 10 ≤ kk) {X : Nat} {z : Tum} {w : World} {O : Om} {B : Wb} {f : Cf} {s : AW} (hP : PW w O B f s) (hX : Afq w O kk X z) (hhi : Hh O w) (hl : z.ln = 2) (t0 : 0 ≤ z.t) (t1 : z.t < 18446744073709551616) (hn : Aav z.t ≠ 0) (n0 : 0 ≤ s.n) (n1 : s.n ≤ 4611686018427387904) :
 C2 11 X B.p w (RP (SX kk (kk + 32)) w O (.bool (Acj (Aam f.q f.y (s, z)).2)) fun W G => PW W G B f (Aam f.q f.y (s, z)).1 ∧ Afq W G kk X (Aam f.q f.y (s, z)).2) := by
 obtain ⟨ln, t, c, n, k⟩ := z
 dsimp only at hl t0 t1 hn
 subst hl
 obtain ⟨sw, mv, hx, -, -⟩ := hX.ex
 dsimp only at hx
 have HM : Hid (Me kk (kk + 32) w O w O B f s (kk + 30) X (Ahj 2 t c n (.pointer sw) (.pointer mv))) := hQd (Me.start hhi hP hx)
 obtain ⟨x0, x1⟩ := hx.c2
 have p0 := hP.wo.c0
 have hbd := hQd (hP.bd 3)
 obtain ⟨o, ho⟩ := exq (Aaz t)
 obtain ⟨nw, hnw⟩ := exq (Aav t)
 have hob : -9223372036854775808 ≤ o ∧ o ≤ 9223372036854775807 := by rw [ho]; unfold Aaz; split <;> omega
 have HOB := hQd hob
 have HA := hQd (fun W => Awx t W t0 t1)
 rw [← ho, ← hnw] at HA
 have HL := hQd (Ac9 3 hP hhi (by decide) (by decide) n0 n1)
 obtain ⟨c', hc'⟩ := exq (s.M 3)
 rw [← hc'] at HL hbd
 obtain ⟨sz, hsz⟩ := exq (Aac o)
 have hszb : 0 ≤ sz ∧ sz ≤ 4096 := by rw [hsz]; exact Aah o
 have hst : Hid (Aam f.q f.y (s, ⟨2, t, c, n, k⟩) = (Aan 3 s, ⟨if sz ≤ c' then 3 else 4, t, c', n, Af1 t c'⟩)) := hQd (by unfold Aam; rw [if_neg (show ¬ ((2 : Int) = 1) by decide), if_pos rfl, hsz, ho, hc'])
 have HSZ := hQd (fun W => Acc o W hob.1 hob.2)
 rw [← hsz] at HSZ
 have HSZ2 := hQd hsz
 have HO := hQd ho
 have HNW := hQd hnw
 have HN := hQd hn
 rw [hst.out]
 have hw1 : IntKind.u64.wrap sz = sz := by rw [IntKind.wrap_u64]; omega
 clear hP hX hx hhi hob ho hnw hc' hsz hn
 go_enter Tryz.func11, Tryz.ntmps11
 go_wp2_with fail
 refine (Aci x0).mono ?_
 rintro e w' ⟨rfl, rfl⟩
 go_wp2_with fail
 refine (HA.out _).mono ?_
 rintro e w' ⟨rfl, rfl⟩
 go_wp2_with fail
 refine HL.out.mono ?_
 rintro e w2 ⟨rfl, G2, e2, P2⟩
 have M2 := HM.out.world (by omega) e2 P2
 have q2 := M2.t.c 2 _ rfl
 have f2 := M2.t.f 2
 have M3 := hQd (M2.set (by omega) (by omega) (by omega) 2 (.int .u64 c') (by simp [Ahj]))
 obtain ⟨w3, hw3⟩ := exq (w2.setCell ⟨X, 2, none⟩ (.int .u64 c'))
 clear HL e2 P2 M2 x0 x1 p0 HM
 go_wp2_with fail
 rw [← hw3] at M3 ⊢
 clear q2 f2 hw3
 obtain ⟨q0, q1, q2, -, q4, q5⟩ := M3.out.t.c6
 have f0 := M3.out.t.f 0
 have f4 := M3.out.t.f 4
 have f5 := M3.out.t.f 5
 have hXl := M3.out.t.lt
 by_cases hz : sz ≤ c'
 · have dz : decide (sz ≤ c') = true := by simp [hz]
   go_quiet ((go_at_call 38; exact Ack (HSZ.out _)))
   have MW : Hid (Me kk (kk + 32) w O (w3.drewN nq) G2 B f (Aan 3 s) (kk + 30) X ((Ahj 2 t c n (.pointer sw) (.pointer mv)).set 2 (.int .u64 c'))) := hQd (M3.out.below ⟨rfl, rfl, rfl, Nat.le_refl _, fun _ _ => rfl⟩)
   obtain ⟨w4, hw4⟩ := exq (w3.drewN nq)
   rw [← hw4] at MW ⊢
   clear hw4 q0 q1 q2 q4 q5 f0 f4 f5 M3 hXl
   have q1 := MW.out.t.c 1 _ rfl
   go_wp2_with fail
   refine (Atx kk hkk t MW.out.e.hi t0 t1 HN.out).mono ?_
   rintro e w5 ⟨Z, rfl, G5, e5, sw5⟩
   have M5 : Me kk (kk + 32) w O w5 G5 B f (Aan 3 s) (kk + 30) X _ := ⟨MW.out.e.trans (e5.mono fun t _ h => .inr ⟨by have := h.1; omega, by have := h.2; omega⟩), MW.out.p.ext e5 (fun h => absurd h.1 (by omega)) (fun h => absurd h.1 (by omega)) (fun h => absurd h.1 (by omega)) (fun h => absurd h.1 (by omega)), MW.out.t.ext e5 (fun h => absurd h.1 (by omega))⟩
   obtain ⟨r0, -, -, -, r4⟩ := M5.t.c5
   have g0 := M5.t.f 0
   have g4 := M5.t.f 4
   have hl5 := M5.t.lt
   have s1 := Aaf (j := 4) (v := .pointer (some ⟨Z, 0, none⟩)) M5.e.hi M5.t (by omega)
   have M6 := M5.set (by omega) (by omega) (by omega) 4 (.pointer (some ⟨Z, 0, none⟩)) (by simp [Ahj])
   have s2 := Aaf (j := 0) (v := .int .i64 3) M6.e.hi M6.t (by omega)
   have M7 := hQd (M6.set (by omega) (by omega) (by omega) 0 (.int .i64 3) (by simp [Ahj]))
   have SW7 := hQd ((sw5.ext s1 (show ¬ (kk + 31 = kk + 30) by omega) (show ¬ (kk + 32 = kk + 30) by omega)).ext s2 (show ¬ (kk + 31 = kk + 30) by omega) (show ¬ (kk + 32 = kk + 30) by omega))
   have z0 := M7.out.t.c 0 _ rfl
   clear e5 sw5 M5 s1 M6 s2 q1
   go_wp2_with fail
   refine (Aci z0).mono ?_
   rintro e w' ⟨rfl, rfl⟩
   go_wp2_with fail
   go_ret
   try rw [if_pos hz]
   exact ⟨rfl, _, M7.out.e, M7.out.p, ⟨some ⟨Z, 0, none⟩, mv, M7.out.t, fun h => absurd (show (3 : Int) = 4 from h) (by decide), fun _ => ⟨Z, rfl, SW7.out⟩⟩⟩
 have dz : decide (sz ≤ c') = false := by simp; omega
 have hcb := hbd.out
 have h64 : wrap64 c' = c' := by unfold wrap64; omega
 have hi64 : IntKind.i64.wrap c' = c' := by simp [IntKind.wrap, IntKind.bits, IntKind.signed]; omega
 have hlt : c' < Aac (Aaz t) := by rw [← HO.out]; have := HSZ2.out; omega
 have HLT := hQd hlt
 go_quiet ((go_at_call 38; exact Ack (HSZ.out _)))
 have MW : Hid (Me kk (kk + 32) w O (w3.drewN nq) G2 B f (Aan 3 s) (kk + 30) X ((Ahj 2 t c n (.pointer sw) (.pointer mv)).set 2 (.int .u64 c'))) := hQd (M3.out.below ⟨rfl, rfl, rfl, Nat.le_refl _, fun _ _ => rfl⟩)
 obtain ⟨w4, hw4⟩ := exq (w3.drewN nq)
 rw [← hw4] at MW ⊢
 clear hw4 q0 q1 q2 q4 q5 f0 f4 f5 M3 hXl hcb hlt
 obtain ⟨-, q1, q2⟩ := MW.out.t.c3
 go_wp2_with fail
 go_region_held3 (fun w' => w'.cell? ⟨X, 1, none⟩ = some (.int .u64 t) ∧ w'.cell? ⟨X, 2, none⟩ = some (.int .u64 c')) (go_keep)
  ((go_at_call 40
    refine (Atz (k := kk) (w := w4.drew) t c' t0 t1 (by have := hbd.out; omega) (by have := HLT.out; have := Aah (Aaz t); omega) (by omega) MW.out.drew.e.hi).mono ?_
    rintro e w5 ⟨Y, rfl, G5, e5, mv5⟩
    have M5 : Me kk (kk + 32) w O w5 G5 B f (Aan 3 s) (kk + 30) X _ := ⟨MW.out.drew.e.trans (e5.mono fun t _ h => .inr (by omega)), MW.out.drew.p.ext e5, MW.out.drew.t.ext e5⟩
    obtain ⟨r0, -, -, -, -, r5⟩ := M5.t.c6
    obtain ⟨-, r1, r2⟩ := M5.t.c3
    have g0 := M5.t.f 0
    have g5 := M5.t.f 5
    have hl5 := M5.t.lt
    have s1 := Aaf (j := 5) (v := .pointer (some ⟨Y, 0, none⟩)) M5.e.hi M5.t (by omega)
    have M6 := M5.set (by omega) (by omega) (by omega) 5 (.pointer (some ⟨Y, 0, none⟩)) (by simp [Ahj])
    obtain ⟨-, r16, r26⟩ := M6.t.c3
    have r06 := M6.t.c 0 _ rfl
    have g06 := M6.t.f 0
    have s2 := Aaf (j := 0) (v := .int .i64 4) M6.e.hi M6.t (by omega)
    have M7 := hQd (M6.set (by omega) (by omega) (by omega) 0 (.int .i64 4) (by simp [Ahj]))
    obtain ⟨-, r17, r27⟩ := M7.out.t.c3
    have MV7 := hQd ((mv5.ext s1 (fun t _ _ h => by omega)).ext s2 (fun t _ _ h => by omega))
    clear e5 mv5 M5 s1 M6 s2))
 all_goals
  have z0 := M7.out.t.c 0 _ rfl
  go_wp2_with fail
  refine (Aci z0).mono ?_
  rintro e w' ⟨rfl, rfl⟩
  go_wp2_with fail
  go_ret
  try rw [if_neg hz]
  exact ⟨rfl, _, M7.out.e, M7.out.p, ⟨sw, some ⟨Y, 0, none⟩, M7.out.t, fun _ => ⟨Y, rfl, MV7.out⟩, fun h => absurd (show (4 : Int) = 3 from h) (by decide)⟩⟩
theorem Bcy {kk : Nat} (hkk : 10 ≤ kk) {X : Nat} {z : Tum} {w : World} {O : Om} {B : Wb} {f : Cf} {s : AW} (hP : PW w O B f s) (hX : Afq w O kk X z) (hhi : Hh O w) (hl : z.ln = 4) (t0 : 0 ≤ z.t) (t1 : z.t < 18446744073709551616) (hz : Afr z.mv) (hl4 : z.mv.ln ≠ 0) (hlo0 : 0 ≤ z.mv.lost) (hlo1 : z.mv.lost ≤ 1000000) (hil : s.it.length ≤ 1000000) (hks : ∀ r, (Adz s.it r).key.size ≤ maxLen) (n0 : 0 ≤ s.n) (n1 : s.n ≤ 4611686018427387904) :
 C2 11 X B.p w (RP (SX kk (kk + 32)) w O (.bool (Acj (Aam f.q f.y (s, z)).2)) fun W G => PW W G B f (Aam f.q f.y (s, z)).1 ∧ Afq W G kk X (Aam f.q f.y (s, z)).2) := by
 obtain ⟨ln, t, c, n, k⟩ := z
 dsimp only at hl t0 t1 hz hl4 hlo0 hlo1
 subst hl
 obtain ⟨sw, mv, hx, hmv, -⟩ := hX.ex
 obtain ⟨Y, rfl, hm⟩ := hmv rfl
 dsimp only at hx hm
 have HM : Hid (Me kk (kk + 32) w O w O B f s (kk + 30) X (Ahj 4 t c n (.pointer sw) (.pointer (some ⟨Y, 0, none⟩)))) := hQd (Me.start hhi hP hx)
 obtain ⟨x0, x1, -, -, -, x5⟩ := hx.c6
 have HA := hQd (fun W => Awx t W t0 t1)
 have HL := hQd (Av8 hz hP hm hl4 hlo0 hlo1 hil hks hkk hhi n0 n1)
 obtain ⟨R, hR⟩ := exq (Aae f.y (s, k))
 rw [← hR] at HL
 obtain ⟨LN, hLN⟩ : ∃ LN : Int, LN = if Abg R.2 = true then 5 else 4 := ⟨_, rfl⟩
 have hst : Hid (Aam f.q f.y (s, ⟨4, t, c, n, k⟩) = (R.1, ⟨LN, t, c, n, R.2⟩)) := hQd (by unfold Aam; rw [if_neg (show ¬ ((4 : Int) = 1) by decide), if_neg (show ¬ ((4 : Int) = 2) by decide), if_pos rfl, hLN, hR])
 obtain ⟨ov, hov⟩ := exq (Abg R.2)
 rw [← hov] at hLN HL
 have HLN := hQd hLN
 rw [hst.out]
 clear hP hX hx hhi hmv hm hz hl4 hlo0 hlo1 hil hks hR hLN hov
 go_enter Tryz.func11, Tryz.ntmps11
 go_wp2_with fail
 refine (Aci x0).mono ?_
 rintro e w' ⟨rfl, rfl⟩
 go_wp2_with fail
 refine (HA.out _).mono ?_
 rintro e w' ⟨rfl, rfl⟩
 go_wp2_with fail
 refine HL.out.mono ?_
 rintro e w2 ⟨rfl, G2, e2, P2, hk2⟩
 have M2 : Hid (Me kk (kk + 32) w O w2 G2 B f R.1 (kk + 30) X (Ahj 4 t c n (.pointer sw) (.pointer (some ⟨Y, 0, none⟩)))) := hQd ⟨HM.out.e.trans (e2.mono fun t _ h => by unfold SX at h ⊢; omega), P2, HM.out.t.ext e2 (by unfold SX; omega)⟩
 have HK := hQd hk2
 clear HL e2 P2 x0 x1 x5 HM hk2
 have q0 := M2.out.t.c 0 _ rfl
 have f0 := M2.out.t.f 0
 cases ov with
 | true =>
   have h := HLN.out
   rw [if_pos rfl] at h
   subst h
   have M3 := hQd (M2.out.set (by omega) (by omega) (by omega) 0 (.int .i64 5) (by simp [Ahj]))
   have r0 := M3.out.t.c 0 _ rfl
   go_wp2_with fail
   refine (Aci r0).mono ?_
   rintro e w' ⟨rfl, rfl⟩
   go_wp2_with fail
   go_ret
   exact ⟨rfl, _, M3.out.e, M3.out.p, ⟨sw, _, M3.out.t, fun h => absurd (show (5 : Int) = 4 from h) (by decide), fun h => absurd (show (5 : Int) = 3 from h) (by decide)⟩⟩
 | false =>
   have h := HLN.out
   rw [if_neg (by decide)] at h
   subst h
   go_wp2_with fail
   refine (Aci q0).mono ?_
   rintro e w' ⟨rfl, rfl⟩
   go_wp2_with fail
   go_ret
   exact ⟨rfl, _, M2.out.e, M2.out.p, ⟨sw, _, M2.out.t, fun _ => ⟨Y, rfl, HK.out⟩, fun h => absurd (show (4 : Int) = 3 from h) (by decide)⟩⟩
theorem Bcz {kk : Nat} (hkk : 10 ≤ kk) {X : Nat} {z : Tum} {w : World} {O : Om} {B : Wb} {f : Cf} {s : AW} (hP : PW w O B f s) (hX : Afq w O kk X z) (hhi : Hh O w) (hl : z.ln = 3) (t0 : 0 ≤ z.t) (t1 : z.t < 18446744073709551616) (n0 : 0 ≤ s.n) (n1 : s.n ≤ 4611686018427387904) :
 C2 11 X B.p w (RP (SX kk (kk + 32)) w O (.bool (Acj (Aam f.q f.y (s, z)).2)) fun W G => PW W G B f (Aam f.q f.y (s, z)).1 ∧ Afq W G kk X (Aam f.q f.y (s, z)).2) := by
 obtain ⟨ln, t, c, n, k⟩ := z
 dsimp only at hl t0 t1
 subst hl
 obtain ⟨sw, mv, hx, -, hsw⟩ := hX.ex
 obtain ⟨Z, rfl, hm⟩ := hsw rfl
 dsimp only at hx hm
 have HM : Hid (Me kk (kk + 32) w O w O B f s (kk + 30) X (Ahj 3 t c n (.pointer (some ⟨Z, 0, none⟩)) (.pointer mv))) := hQd (Me.start hhi hP hx)
 obtain ⟨x0, x1, -, -, x4⟩ := hx.c5
 have HA := hQd (fun W => Awx t W t0 t1)
 have hwb : 0 ≤ Ab1 (Aav t) 0 ∧ Ab1 (Aav t) 0 < 18446744073709551616 := by unfold Ab1; omega
 have HL := hQd (Av0 hkk hP hm hhi hwb.1 hwb.2 n0 n1)
 have hst : Hid (Aam f.q f.y (s, ⟨3, t, c, n, k⟩) = (Abr 5 0 0 0 0 (Aav t) (Aax 2 (Ab1 (Aav t) 0) s), ⟨0, t, c, n, k⟩)) := hQd (by unfold Aam; rw [if_neg (show ¬ ((3 : Int) = 1) by decide), if_neg (show ¬ ((3 : Int) = 2) by decide), if_neg (show ¬ ((3 : Int) = 4) by decide), if_neg (show ¬ ((3 : Int) = 5) by decide), if_pos rfl])
 rw [hst.out]
 clear hP hX hx hhi hsw hm hwb
 go_enter Tryz.func11, Tryz.ntmps11
 go_wp2_with fail
 refine (Aci x0).mono ?_
 rintro e w' ⟨rfl, rfl⟩
 go_wp2_with fail
 refine (HA.out _).mono ?_
 rintro e w' ⟨rfl, rfl⟩
 go_wp2_with fail
 refine HL.out.mono ?_
 rintro e w2 ⟨rfl, G2, e2, P2⟩
 have M2 : Hid (Me kk (kk + 32) w O w2 G2 B f (Abr 5 0 0 0 0 (Aav t) (Aax 2 (Ab1 (Aav t) 0) s)) (kk + 30) X (Ahj 3 t c n (.pointer (some ⟨Z, 0, none⟩)) (.pointer mv))) := hQd ⟨HM.out.e.trans (e2.mono fun t _ h => by unfold SX at h ⊢; omega), P2, HM.out.t.ext e2 (by unfold SX; omega)⟩
 clear HL e2 P2 x0 x1 x4 HM
 have q0 := M2.out.t.c 0 _ rfl
 have f0 := M2.out.t.f 0
 have M3 := hQd (M2.out.set (by omega) (by omega) (by omega) 0 (.int .i64 0) (by simp [Ahj]))
 have r0 := M3.out.t.c 0 _ rfl
 go_wp2_with fail
 refine (Aci r0).mono ?_
 rintro e w' ⟨rfl, rfl⟩
 go_wp2_with fail
 go_ret
 exact ⟨rfl, _, M3.out.e, M3.out.p, ⟨_, mv, M3.out.t, fun h => absurd (show (0 : Int) = 4 from h) (by decide), fun h => absurd (show (0 : Int) = 3 from h) (by decide)⟩⟩
theorem Bcx {kk : Nat} (hkk : 10 ≤ kk) {X : Nat} {z : Tum} {w : World} {O : Om} {B : Wb} {f : Cf} {s : AW} (hP : PW w O B f s) (hX : Afq w O kk X z) (hhi : Hh O w) (hl : z.ln = 5) (t0 : 0 ≤ z.t) (t1 : z.t < 18446744073709551616) (c0 : 0 ≤ z.c) (c1 : z.c < 4096) (m0 : 0 ≤ z.n) (m1 : z.n ≤ 4611686018427387904) (n0 : 0 ≤ s.n) (n1 : s.n ≤ 4611686018427387904) :
 C2 11 X B.p w (RP (SX kk (kk + 32)) w O (.bool (Acj (Aam f.q f.y (s, z)).2)) fun W G => PW W G B f (Aam f.q f.y (s, z)).1 ∧ Afq W G kk X (Aam f.q f.y (s, z)).2) := by
 obtain ⟨ln, t, c, n, k⟩ := z
 dsimp only at hl t0 t1 c0 c1 m0 m1
 subst hl
 obtain ⟨sw, mv, hx, -, -⟩ := hX.ex
 dsimp only at hx
 have HM : Hid (Me kk (kk + 32) w O w O B f s (kk + 30) X (Ahj 5 t c n (.pointer sw) (.pointer mv))) := hQd (Me.start hhi hP hx)
 obtain ⟨x0, x1, x2⟩ := hx.c3
 have p0 := hP.wo.c0
 have HA := hQd (fun W => Awx t W t0 t1)
 have hw1 : IntKind.u64.wrap (c + 1) = c + 1 := by rw [IntKind.wrap_u64]; omega
 have hw2 : wrap64 (n + 1) = n + 1 := by unfold wrap64; omega
 have hw3 : IntKind.i64.wrap (n + 1) = n + 1 := by simp [IntKind.wrap, IntKind.bits, IntKind.signed]; omega
 obtain ⟨q, hq⟩ := exq f.q
 have hst : Hid (Aam f.q f.y (s, ⟨5, t, c, n, k⟩) = (Aax 3 (c + 1) s, ⟨if n + 1 < q then 1 else 0, t, c, n + 1, k⟩)) := hQd (by unfold Aam; rw [if_neg (show ¬ ((5 : Int) = 1) by decide), if_neg (show ¬ ((5 : Int) = 2) by decide), if_neg (show ¬ ((5 : Int) = 4) by decide), if_pos rfl, hq])
 have HQ := hQd hq
 rw [hst.out]
 clear hP hX hx hhi hq
 go_enter Tryz.func11, Tryz.ntmps11
 go_wp2_with fail
 refine (Aci x0).mono ?_
 rintro e w' ⟨rfl, rfl⟩
 go_wp2_with fail
 refine (HA.out _).mono ?_
 rintro e w' ⟨rfl, rfl⟩
 go_wp2_with fail
 go_region_held3 (fun w' => w'.cell? ⟨B.p, 0, none⟩ = some (.pointer (some ⟨B.c, 0, none⟩)) ∧ w'.cell? ⟨X, 2, none⟩ = some (.int .u64 c)) (go_keep)
  ((go_at_call 17
    refine (Aed 3 (c + 1) (w := w.drew) HM.out.drew.p HM.out.drew.e.hi (by decide) (by decide) (by omega) (by omega) n0 n1).mono ?_
    rintro e w2 ⟨rfl, G2, e2, P2⟩
    have M2 := hQd (HM.out.drew.world (by omega) e2 P2)
    have p02 := M2.out.p.wo.c0
    have q22 := M2.out.t.c 2 _ rfl
    clear e2 P2))
 all_goals
  clear x0 x1 x2 p0 HM
  have q3 := M2.out.t.c 3 _ rfl
  have f3 := M2.out.t.f 3
  have M3 := hQd (M2.out.set (by omega) (by omega) (by omega) 3 (.int .i64 (n + 1)) (by simp [Ahj]))
  go_wp2_with fail
  obtain ⟨w3, hw⟩ := exq (w2.setCell ⟨X, 3, none⟩ (.int .i64 (n + 1)))
  rw [← hw] at M3 ⊢
  clear hw q3 f3 p02 q22
  have r3 := M3.out.t.c 3 _ rfl
  have p6 := M3.out.p.wo.c6
  rw [← HQ.out] at p6
  by_cases hlt : n + 1 < q
  · have d : decide (n + 1 < q) = true := by simp [hlt]
    go_quiet (fail)
    have MW : Hid (Me kk (kk + 32) w O (w3.drewN nq) G2 B f (Aax 3 (c + 1) s) (kk + 30) X _) := hQd (M3.out.below ⟨rfl, rfl, rfl, Nat.le_refl _, fun _ _ => rfl⟩)
    obtain ⟨w4, hw4⟩ := exq (w3.drewN nq)
    rw [← hw4] at MW ⊢
    clear hw4 r3 p6 M3
    have q0 := MW.out.t.c 0 _ rfl
    have f0 := MW.out.t.f 0
    have M5 := hQd (MW.out.set (by omega) (by omega) (by omega) 0 (.int .i64 1) (by simp [Ahj]))
    have r0 := M5.out.t.c 0 _ rfl
    go_wp2_with fail
    refine (Aci r0).mono ?_
    rintro e w' ⟨rfl, rfl⟩
    go_wp2_with fail
    go_ret
    try rw [if_pos hlt]
    exact ⟨rfl, _, M5.out.e, M5.out.p, ⟨sw, mv, M5.out.t, fun h => absurd (show (1 : Int) = 4 from h) (by decide), fun h => absurd (show (1 : Int) = 3 from h) (by decide)⟩⟩
  have d : decide (n + 1 < q) = false := by simp; omega
  go_quiet (fail)
  have MW : Hid (Me kk (kk + 32) w O (w3.drewN nq) G2 B f (Aax 3 (c + 1) s) (kk + 30) X _) := hQd (M3.out.below ⟨rfl, rfl, rfl, Nat.le_refl _, fun _ _ => rfl⟩)
  obtain ⟨w4, hw4⟩ := exq (w3.drewN nq)
  rw [← hw4] at MW ⊢
  clear hw4 r3 p6 M3
  have q0 := MW.out.t.c 0 _ rfl
  have f0 := MW.out.t.f 0
  have M5 := hQd (MW.out.set (by omega) (by omega) (by omega) 0 (.int .i64 0) (by simp [Ahj]))
  have r0 := M5.out.t.c 0 _ rfl
  go_wp2_with fail
  refine (Aci r0).mono ?_
  rintro e w' ⟨rfl, rfl⟩
  go_wp2_with fail
  go_ret
  try rw [if_neg hlt]
  exact ⟨rfl, _, M5.out.e, M5.out.p, ⟨sw, mv, M5.out.t, fun h => absurd (show (0 : Int) = 4 from h) (by decide), fun h => absurd (show (0 : Int) = 3 from h) (by decide)⟩⟩
end
section
open Go.RowKit Go.Shelf
theorem Anp (mo : Int) (s : AW) (z : Mvm) (h0 : 0 ≤ z.lost) (h1 : z.lost ≤ z.p.s) : 0 ≤ (Aae mo (s, z)).2.lost ∧ (Aae mo (s, z)).2.lost ≤ (Aae mo (s, z)).2.p.s := by
 have nx : ∀ y : Mvm, 0 ≤ y.lost → y.lost ≤ y.p.s + 1 → 0 ≤ (Abl y).lost ∧ (Abl y).lost ≤ (Abl y).p.s := fun y q0 q1 => by unfold Abl; exact ⟨q0, q1⟩
 have m7 : ∀ y : Mvm, 0 ≤ y.lost → y.lost ≤ y.p.s → 0 ≤ (mv7 y).lost ∧ (mv7 y).lost ≤ (mv7 y).p.s := fun y q0 q1 => by unfold mv7; exact ⟨q0, q1⟩
 by_cases g1 : z.ln = 1
 · rw [Ako _ _ _ g1]
   dsimp only
   split
   · exact nx _ h0 (by dsimp only; omega)
   exact ⟨h0, h1⟩
 by_cases g2 : z.ln = 2
 · rw [Akn _ _ _ g2]
   dsimp only
   exact ⟨h0, h1⟩
 by_cases g3 : z.ln = 3
 · rw [Ahl _ _ _ g3]
   dsimp only
   repeat' split
   all_goals exact ⟨h0, h1⟩
 by_cases g4 : z.ln = 4
 · rw [Akm _ _ _ g4]
   dsimp only
   exact ⟨h0, h1⟩
 by_cases g5 : z.ln = 5
 · rw [Akl _ _ _ g5]
   dsimp only
   repeat' split
   · exact m7 _ h0 h1
   all_goals exact ⟨h0, h1⟩
 by_cases g6 : z.ln = 6
 · rw [Akk _ _ _ g6]
   dsimp only
   split
   · exact m7 _ h0 h1
   exact ⟨h0, h1⟩
 by_cases g7 : z.ln = 7
 · rw [Akj _ _ _ g7]
   dsimp only
   split
   · exact nx _ h0 (by omega)
   exact ⟨h0, h1⟩
 by_cases g8 : z.ln = 8
 · rw [Aki _ _ _ g8]
   dsimp only
   exact ⟨h0, h1⟩
 by_cases g9 : z.ln = 9
 · rw [Akh _ _ _ g9]
   dsimp only
   exact ⟨h0, h1⟩
 by_cases g10 : z.ln = 10
 · rw [Aia _ _ _ g10]
   dsimp only
   exact ⟨h0, h1⟩
 by_cases g11 : z.ln = 11
 · rw [Ah9 _ _ _ g11]
   dsimp only
   exact nx _ (by dsimp only; omega) (by dsimp only; omega)
 have e : Aae mo (s, z) = (s, z) := by
  unfold Aae
  dsimp only
  rw [if_neg g1, if_neg g2, if_neg g3, if_neg g4, if_neg g5, if_neg g6, if_neg g7, if_neg g8, if_neg g9, if_neg g10, if_neg g11]
 rw [e]
 exact ⟨h0, h1⟩
structure Am4 (s : AW) (z : Tum) : Prop where
 ln : z.ln = 0 ∨ z.ln = 1 ∨ z.ln = 2 ∨ z.ln = 3 ∨ z.ln = 4 ∨ z.ln = 5
 t0 : 0 ≤ z.t
 t1 : z.t < 18446744073709551616
 n0 : 0 ≤ z.n
 n1 : z.n ≤ s.n
 nw : z.ln = 2 ∨ z.ln = 3 ∨ z.ln = 4 → Aav z.t ≠ 0
 c5 : z.ln = 4 ∨ z.ln = 5 → 0 ≤ z.c ∧ z.c < 4096
 mv : z.ln = 4 → Afr z.mv ∧ z.mv.ln ≠ 0 ∧ 0 ≤ z.mv.lost ∧ z.mv.lost ≤ z.mv.p.s
theorem Aup (q mo : Int) (s : AW) (z : Tum) (h : z.ln = 1) : Aam q mo (s, z) = (Aan 2 s, ⟨if Aav (s.M 2) = 0 then 0 else 2, s.M 2, z.c, z.n, z.mv⟩) := by unfold Aam; dsimp only; rw [if_pos h]
theorem Auo (q mo : Int) (s : AW) (z : Tum) (h : z.ln = 2) : Aam q mo (s, z) = (Aan 3 s, ⟨if Aac (Aaz z.t) ≤ s.M 3 then 3 else 4, z.t, s.M 3, z.n, Af1 z.t (s.M 3)⟩) := by unfold Aam; dsimp only; rw [if_neg (by omega), if_pos h]
theorem Aum (q mo : Int) (s : AW) (z : Tum) (h : z.ln = 4) : Aam q mo (s, z) = ((Aae mo (s, z.mv)).1, ⟨if Abg (Aae mo (s, z.mv)).2 = true then 5 else 4, z.t, z.c, z.n, (Aae mo (s, z.mv)).2⟩) := by unfold Aam; dsimp only; rw [if_neg (by omega), if_neg (by omega), if_pos h]
theorem Aul (q mo : Int) (s : AW) (z : Tum) (h : z.ln = 5) : Aam q mo (s, z) = (Aax 3 (z.c + 1) s, ⟨if z.n + 1 < q then 1 else 0, z.t, z.c, z.n + 1, z.mv⟩) := by unfold Aam; dsimp only; rw [if_neg (by omega), if_neg (by omega), if_neg (by omega), if_pos h]
theorem Aun (q mo : Int) (s : AW) (z : Tum) (h : z.ln = 3) : Aam q mo (s, z) = (Abr 5 0 0 0 0 (Aav z.t) (Aax 2 (Ab1 (Aav z.t) 0) s), ⟨0, z.t, z.c, z.n, z.mv⟩) := by unfold Aam; dsimp only; rw [if_neg (by omega), if_neg (by omega), if_neg (by omega), if_neg (by omega), if_pos h]
theorem Aj5 (q mo : Int) (s : AW) (z : Tum) (h : z.ln = 0) : Aam q mo (s, z) = (s, z) := by unfold Aam; dsimp only; rw [if_neg (by omega), if_neg (by omega), if_neg (by omega), if_neg (by omega), if_neg (by omega)]
theorem Anb (q mo : Int) (x : AW × Tum) : Aw1 x.1 (Aam q mo x).1 := by
 unfold Aam
 repeat' split
 all_goals first
  | exact (AwS.load _ _).1
  | exact Bai mo (x.1, x.2.mv)
  | exact (AwS.store _ _ _).1
  | exact (AwS.store _ _ _).n _ _ _ _ _ _ (by decide) (by decide)
  | exact Aw1.refl _
theorem Am4.mono {s s' : AW} {z : Tum} (h : Am4 s z) (hn : s.n ≤ s'.n) : Am4 s' z := ⟨h.ln, h.t0, h.t1, h.n0, Int.le_trans h.n1 hn, h.nw, h.c5, h.mv⟩
theorem Am4.step {q mo : Int} {s : AW} {z : Tum} (h : Am4 s z) (hb : Bd s.M) : Am4 (Aam q mo (s, z)).1 (Aam q mo (s, z)).2 := by
 obtain ⟨hl, t0, t1, n0, n1, nw, c5, mv⟩ := h
 rcases hl with g | g | g | g | g | g
 · rw [Aj5 _ _ _ _ g]; exact ⟨.inl g, t0, t1, n0, n1, nw, c5, mv⟩
 · rw [Aup _ _ _ _ g]
   have h2 := hb 2
   by_cases c : Aav (s.M 2) = 0
   · rw [if_pos c]
     exact ⟨by dsimp only; omega, h2.1, h2.2, n0, by show z.n ≤ s.n + 1; omega, fun e => by dsimp only at e; omega, fun e => by dsimp only at e; omega, fun e => by dsimp only at e; omega⟩
   rw [if_neg c]
   exact ⟨by dsimp only; omega, h2.1, h2.2, n0, by show z.n ≤ s.n + 1; omega, fun _ => c, fun e => by dsimp only at e; omega, fun e => by dsimp only at e; omega⟩
 · rw [Auo _ _ _ _ g]
   have h3 := hb 3
   have hs := Aah (Aaz z.t)
   by_cases c : Aac (Aaz z.t) ≤ s.M 3
   · rw [if_pos c]
     exact ⟨by dsimp only; omega, t0, t1, n0, by show z.n ≤ s.n + 1; omega, fun _ => nw (.inl g), fun e => by dsimp only at e; omega, fun e => by dsimp only at e; omega⟩
   rw [if_neg c]
   have hn := nw (.inl g)
   have e : Af1 z.t (s.M 3) = ⟨1, 0, Aav z.t, ⟨Aaz z.t, s.M 3, 0⟩, 0, 0, rm0, Am0, [], ⟨3, 0⟩, ⟨3, 0⟩⟩ := by unfold Af1; rw [if_neg (by omega)]
   exact ⟨by dsimp only; omega, t0, t1, n0, by show z.n ≤ s.n + 1; omega, fun _ => hn, fun _ => by dsimp only; omega, fun _ => ⟨Au1 _ _, by dsimp only; rw [e]; show (1 : Int) ≠ 0; decide, by dsimp only; rw [e]; exact Int.le_refl _, by dsimp only; rw [e]; exact Int.le_refl _⟩⟩
 · rw [Aun _ _ _ _ g]
   exact ⟨by dsimp only; omega, t0, t1, n0, by show z.n ≤ s.n + 1; omega, fun e => by dsimp only at e; omega, fun e => by dsimp only at e; omega, fun e => by dsimp only at e; omega⟩
 · rw [Aum _ _ _ _ g]
   obtain ⟨m1, m2, m3, m4⟩ := mv g
   have hlo := Anp mo s z.mv m3 m4
   have hn := (Bai mo (s, z.mv)).n0
   dsimp only at hn
   by_cases c : Abg (Aae mo (s, z.mv)).2 = true
   · rw [if_pos c]
     exact ⟨by dsimp only; omega, t0, t1, n0, Int.le_trans n1 hn, fun e => by dsimp only at e; omega, fun _ => c5 (.inl g), fun e => by dsimp only at e; omega⟩
   rw [if_neg c]
   exact ⟨by dsimp only; omega, t0, t1, n0, Int.le_trans n1 hn, fun _ => nw (.inr (.inr g)), fun _ => c5 (.inl g), fun _ => ⟨m1.step mo hb, fun e => c (by unfold Abg; rw [e]; rfl), hlo.1, hlo.2⟩⟩
 rw [Aul _ _ _ _ g]
 by_cases c : z.n + 1 < q
 · rw [if_pos c]
   exact ⟨by dsimp only; omega, t0, t1, by dsimp only; omega, by show z.n + 1 ≤ s.n + 1; omega, fun e => by dsimp only at e; omega, fun e => by dsimp only at e; omega, fun e => by dsimp only at e; omega⟩
 rw [if_neg c]
 exact ⟨by dsimp only; omega, t0, t1, by dsimp only; omega, by show z.n + 1 ≤ s.n + 1; omega, fun e => by dsimp only at e; omega, fun e => by dsimp only at e; omega, fun e => by dsimp only at e; omega⟩
theorem Am4.new {s : AW} (n0 : 0 ≤ s.n) : Am4 s Ahb := ⟨by decide, by decide, by decide, by decide, n0, fun e => by rcases e with e | e | e <;> exact absurd e (by decide), fun e => by rcases e with e | e <;> exact absurd e (by decide), fun e => absurd e (by decide)⟩
theorem Axw (X : Nat) : ∀ W, (method 464 43 (.pointer (some ⟨X, 0, none⟩)) "Over").run Tryz.prog W = .ok (35, .pointer (some ⟨X, 0, none⟩)) W := fun W => by kernel_rfl
theorem Axv (X : Nat) : ∀ W, (method 464 43 (.pointer (some ⟨X, 0, none⟩)) "Step").run Tryz.prog W = .ok (11, .pointer (some ⟨X, 0, none⟩)) W := fun W => by kernel_rfl
theorem Apm {kk : Nat} (hkk : 10 ≤ kk) {X : Nat} {z : Tum} {w : World} {O : Om} {B : Wb} {f : Cf} {s : AW} (hP : PW w O B f s) (hX : Afq w O kk X z) (hz : Am4 s z) (ho : Acj z = false) (hil : s.it.length ≤ 1000000) (hks : ∀ r, (Adz s.it r).key.size ≤ maxLen) (hhi : Hh O w) (n0 : 0 ≤ s.n) (n1 : s.n ≤ 4611686018427387904) :
 C2 11 X B.p w (RP (SX kk (kk + 32)) w O (.bool (Acj (Aam f.q f.y (s, z)).2)) fun W G => PW W G B f (Aam f.q f.y (s, z)).1 ∧ Afq W G kk X (Aam f.q f.y (s, z)).2) := by
 rcases hz.ln with g | g | g | g | g | g
 · unfold Acj at ho; rw [g] at ho; cases ho
 · exact Bc1 hkk hP hX hhi g hz.t0 hz.t1 n0 n1
 · exact Bc0 hkk hP hX hhi g hz.t0 hz.t1 (hz.nw (.inl g)) n0 n1
 · exact Bcz hkk hP hX hhi g hz.t0 hz.t1 n0 n1
 · obtain ⟨m1, m2, m3, m4⟩ := hz.mv g
   have := (m1.p m2).s1
   exact Bcy hkk hP hX hhi g hz.t0 hz.t1 m1 m2 m3 (by omega) hil hks n0 n1
 have hn := hz.n1
 exact Bcx hkk hP hX hhi g hz.t0 hz.t1 (hz.c5 (.inr g)).1 (hz.c5 (.inr g)).2 hz.n0 (by omega) n0 n1
theorem Ay6 {w : World} {O : Om} {B : Wb} {f : Cf} {s : AW} (X : Nat) (z : Tum) (m : Nat) (hz : Am4 s z) (hil : s.it.length ≤ 1000000) (hks : ∀ r, (Adz s.it r).key.size ≤ maxLen)
 (hP : PW w O B f s) (hX : Afq w O 10 X z) (hhi : Hh O w) (n0 : 0 ≤ s.n) (n1 : s.n + m ≤ 4611686018427387904) :
 Calls Tryz.prog 16 #[.pointer (some ⟨B.p, 0, none⟩), .iface 43 (.pointer (some ⟨X, 0, none⟩)), .int .i64 m] w (RP (SX 10 42) w O (.int .i64 (Ad5 Acj (Aam f.q f.y) m (s, z)).1) fun W G => PW W G B f (Ad5 Acj (Aam f.q f.y) m (s, z)).2.1 ∧ Afq W G 10 X (Ad5 Acj (Aam f.q f.y) m (s, z)).2.2) := by
 refine (Awu Acj (Aam f.q f.y) (SX 10 42) (fun W G y => PW W G B f y.1 ∧ Afq W G 10 X y.2 ∧ Am4 y.1 y.2 ∧ y.1.it = s.it) B.p X 43 35 11 (Axw _) (Axv _)
  (Aao Tryz.func35 (by kernel_rfl) (by kernel_rfl)) (Aao Tryz.func11 (by kernel_rfl) (by kernel_rfl)) ?_ ?_ (fun y => ⟨(Anb f.q f.y y).n1, (Anb f.q f.y y).n0⟩) w O m (s, z) ⟨hP, hX, hz, rfl⟩ hhi n0 n1).mono ?_
 · rintro W G y ⟨h1, h2, h3, -⟩
   obtain ⟨sw, mv, hx, -, -⟩ := h2.ex
   exact Aci (hx.c 0 _ rfl)
 · rintro W G ⟨s1, z1⟩ ⟨h1, h2, h3, h5⟩ ho hh q0 q1
   dsimp only at h1 h2 h3 h5 q0 q1
   refine (Apm (by decide) h1 h2 h3 ho (by rw [h5]; exact hil) (by rw [h5]; exact hks) hh q0 q1).mono ?_
   intro e w' hp2
   exact ⟨_, RP.mono hp2 (fun _ _ h => h) fun W1 G1 h => ⟨h.1, h.2, h3.step h1.bd, (Anb f.q f.y (s1, z1)).it.trans h5⟩⟩
 intro e w' hp2
 exact RP.mono hp2 (fun _ _ h => h) fun W1 G1 h => ⟨h.1, h.2.1⟩
theorem Avz {kk X : Nat} {z : Tum} {w : World} {O : Om} (h : Afq w O kk X z) : C1 43 X w fun e w' => e = .returned (.int .i64 z.n) ∧ w = w' := by
 obtain ⟨sw, mv, hx, -, -⟩ := h.ex
 have x3 := hx.c 3 _ rfl
 obtain ⟨n, hn⟩ := exq z.n
 rw [← hn] at x3 ⊢
 clear h hx hn
 go_enter Tryz.func43, Tryz.ntmps43
 go_wp2
 go_ret
 exact ⟨rfl, rfl⟩
theorem Apn {kk X : Nat} {z : Tum} {w : World} {O : Om} (h : Afq w O kk X z) : C1 35 X w fun e w' => e = .returned (.bool (Acj z)) ∧ w = w' := by
 obtain ⟨sw, mv, hx, -, -⟩ := h.ex
 exact Aci (hx.c 0 _ rfl)
def Anc (m : Nat) (s : AW) : Nat × (AW × Tum) := Ad5 Acj (Aam 1 16) m (s, Ahb)
def q1 : Nat × (AW × Tum) := Anc 99 (aw0 1)
def q2 : Nat × (AW × Tum) := Anc 99 (Aax 2 (Ab1 1 2) q1.2.1)
def q3 : Nat × (AW × Tum) := Anc 99 q2.2.1
def q4 : Nat × (AW × Tum) := Anc 99 q3.2.1
theorem Bb7 : q1.1 = 1 ∧ q2.1 = 7 ∧ q3.1 = 7 ∧ q4.1 = 3 := by decide +kernel
theorem q_M : q2.2.1.M 3 = 1 ∧ q3.2.1.M 3 = 2 ∧ q4.2.1.M 2 = 2 := by decide +kernel
theorem q_n : (0 ≤ q1.2.1.n ∧ q1.2.1.n ≤ 1000) ∧ (0 ≤ q2.2.1.n ∧ q2.2.1.n ≤ 1000) ∧ (0 ≤ q3.2.1.n ∧ q3.2.1.n ≤ 1000) ∧ (0 ≤ q4.2.1.n ∧ q4.2.1.n ≤ 1000) := by decide +kernel
theorem q_it : q1.2.1.it = [] ∧ q2.2.1.it = [] ∧ q3.2.1.it = [] ∧ q4.2.1.it = [] := by
 have h : ∀ m s, s.it = [] → (Anc m s).2.1.it = [] := by
  intro m s hs
  have : ∀ m z, (Ad5 Acj (Aam 1 16) m z).2.1.it = z.1.it := by
   intro m
   induction m with
   | zero => intro z; rfl
   | succ m ih =>
     intro z
     by_cases o : Acj z.2 = true
     · rw [Ah0 _ _ o]
     rw [Ang _ _ (by simpa using o)]
     exact (ih _).trans (Anb 1 16 z).it
  exact (this m (s, Ahb)).trans hs
 have h1 : q1.2.1.it = [] := h 99 (aw0 1) rfl
 have h2 : q2.2.1.it = [] := h 99 _ h1
 have h3 : q3.2.1.it = [] := h 99 _ h2
 exact ⟨h1, h2, h3, h 99 _ h3⟩
structure Lv (w0 w : World) (O : Om) (B : Wb) (s : AW) : Prop where
 en : Env w0 O w
 p : PW w O B ⟨1, 8, 3, 1, 16⟩ s
 it : s.it = []
 n0 : 0 ≤ s.n
 n1 : s.n ≤ 1000
theorem Lv.turn {w0 w : World} {O : Om} {B : Wb} {s : AW} (h : Lv w0 w O B s) : Calls Tryz.prog 7 #[] w fun e w' => ∃ X G, e = .returned (.pointer (some ⟨X, 0, none⟩)) ∧ Lv w0 w' G B s ∧ Afq w' G 10 X Ahb := by
 refine (Amr 10 h.en.hi).mono ?_
 rintro e w' ⟨X, rfl, G, e1, t1⟩
 exact ⟨X, G, rfl, ⟨h.en.ext e1, h.p.ext e1 (by decide) (by decide) (by decide) (by decide), h.it, h.n0, h.n1⟩, t1⟩
theorem Lv.run {w0 w : World} {O : Om} {B : Wb} {s s' : AW} {X n : Nat} (h : Lv w0 w O B s) (t : Afq w O 10 X Ahb) (hr : (Anc 99 s).1 = n) (hs : (Anc 99 s).2.1 = s') (hi : s'.it = []) (q0 : 0 ≤ s'.n) (q1 : s'.n ≤ 1000) :
 Calls Tryz.prog 16 #[.pointer (some ⟨B.p, 0, none⟩), .iface 43 (.pointer (some ⟨X, 0, none⟩)), .int .i64 99] w fun e w' => ∃ G, e = .returned (.int .i64 n) ∧ Lv w0 w' G B s' := by
 subst hr hs
 refine (Ay6 X Ahb 99 (Am4.new h.n0) (by rw [h.it]; decide) (fun r => by rw [h.it]; unfold Adz; split <;> exact Nat.zero_le _) h.p t h.en.hi h.n0 (by have := h.n1; omega)).mono ?_
 rintro e w' ⟨rfl, G, e1, p1, -⟩
 exact ⟨G, rfl, ⟨h.en.ext e1, p1, hi, q0, q1⟩⟩
theorem Aiq (w : World) : Calls Tryz.prog 5 #[] w fun e w' => e = .returned (.bool true) ∧ Below w.heap.size w w' := by
 have HQ := hQd Bb7
 have HM := hQd q_M
 have HN := hQd q_n
 have HI := hQd q_it
 go_enter Tryz.func5, Tryz.ntmps5
 go_wp2_with fail
 refine (Avx 1 w (by decide) (by decide)).mono ?_
 rintro e w1 ⟨B, O1, rfl, hP, hE⟩
 have L1 : Hid (Lv w w1 O1 B (aw0 1)) := hQd ⟨hE, hP, rfl, by decide, by decide⟩
 clear hP hE
 go_wp2_with fail
 refine L1.out.turn.mono ?_
 rintro e w2 ⟨X2, O2, rfl, l2, t2⟩
 have R2 := hQd (l2.run t2 (n := 1) (s' := q1.2.1) HQ.out.1 rfl HI.out.1 HN.out.1.1 HN.out.1.2)
 clear l2 t2
 go_wp2_with fail
 refine R2.out.mono ?_
 rintro e w3 ⟨O3, rfl, l3⟩
 have L3 := hQd l3
 have p0 := l3.p.wo.c0
 clear l3 R2
 go_wp2_with fail
 go_region_held3 (fun w' => w'.cell? ⟨B.p, 0, none⟩ = some (.pointer (some ⟨B.c, 0, none⟩))) (go_keep)
  ((first
    | (go_at_call 18
       refine (Atp 1 2 _).mono ?_
       rintro e w' ⟨rfl, rfl⟩)
    | (go_at_call 17
       refine (Aed 2 (Ab1 1 2) (w := w3.drew) (L3.out.p.below L3.out.en.hi (Aaa w3)) L3.out.en.hi (by decide) (by decide) (by decide) (by decide) L3.out.n0 (by have := L3.out.n1; omega)).mono ?_
       rintro e w4 ⟨rfl, O4, e4, p4⟩
       have L4 : Hid (Lv w w4 O4 B (Aax 2 (Ab1 1 2) q1.2.1)) := hQd ⟨(L3.out.en.ext (Ext.refl (S := SW) L3.out.en.hi).drew).ext e4, p4, HI.out.1, by have := HN.out.1.1; show 0 ≤ q1.2.1.n + 1; omega, by show q1.2.1.n + 1 ≤ 1000; decide +kernel⟩
       have p04 := L4.out.p.wo.c0
       clear e4 p4)))
 all_goals
  clear p0 p04
  go_wp2_with fail
  refine L4.out.turn.mono ?_
  rintro e w5 ⟨X5, O5, rfl, l5, t5⟩
  have R5 := hQd (l5.run t5 (n := 7) (s' := q2.2.1) HQ.out.2.1 rfl HI.out.2.1 HN.out.2.1.1 HN.out.2.1.2)
  clear l5 t5
  go_wp2_with fail
  refine R5.out.mono ?_
  rintro e w6 ⟨O6, rfl, l6⟩
  have L6 := hQd l6
  have p6 := l6.p.wo.c0
  clear l6 R5
  go_wp2_with fail
  refine (Amp (F := fun j => O6 j = 2) 3 L6.out.p.ce (by decide) (by decide)).mono ?_
  rintro e w' ⟨rfl, rfl⟩
  rw [HM.out.1]
  go_wp2_with fail
  refine L6.out.turn.mono ?_
  rintro e w7 ⟨X7, O7, rfl, l7, t7⟩
  have R7 := hQd (l7.run t7 (n := 7) (s' := q3.2.1) HQ.out.2.2.1 rfl HI.out.2.2.1 HN.out.2.2.1.1 HN.out.2.2.1.2)
  clear l7 t7 p6
  go_wp2_with fail
  refine R7.out.mono ?_
  rintro e w8 ⟨O8, rfl, l8⟩
  have L8 := hQd l8
  have p8 := l8.p.wo.c0
  clear l8 R7
  go_wp2_with fail
  refine (Amp (F := fun j => O8 j = 2) 3 L8.out.p.ce (by decide) (by decide)).mono ?_
  rintro e w' ⟨rfl, rfl⟩
  rw [HM.out.2.1]
  go_wp2_with fail
  refine L8.out.turn.mono ?_
  rintro e w9 ⟨X9, O9, rfl, l9, t9⟩
  have R9 := hQd (l9.run t9 (n := 3) (s' := q4.2.1) HQ.out.2.2.2 rfl HI.out.2.2.2 HN.out.2.2.2.1 HN.out.2.2.2.2)
  clear l9 t9 p8
  go_wp2_with fail
  refine R9.out.mono ?_
  rintro e w10 ⟨O10, rfl, l10⟩
  have L10 := hQd l10
  have p10 := l10.p.wo.c0
  clear l10 R9
  go_wp2_with fail
  refine (Amp (F := fun j => O10 j = 2) 2 L10.out.p.ce (by decide) (by decide)).mono ?_
  rintro e w' ⟨rfl, rfl⟩
  rw [HM.out.2.2]
  go_wp2_with fail
  go_ret
  exact ⟨rfl, L10.out.en.bel⟩
end
end Go.Proofs.YthbodknlhkapdaaGreat
