/- A pair of worlds. -/
import Derived.Test.YthbodknlhkapdaaGreatBaG
import Derived.Test.YthbodknlhkapdaaGreatBaE
import Derived.Test.YthbodknlhkapdaaGreatBaD
namespace Go.Proofs.YthbodknlhkapdaaGreat
set_option linter.unusedSimpArgs false
set_option linter.unusedVariables false
set_option maxHeartbeats 4000000
set_option maxRecDepth 100000
section
open Go.RowKit
structure PR (w : World) (O : Om) (B C : Wb) (f : Cf) (s : AW) (m : Nat) : Prop where
 p : PW w O B f s
 r : RW w O C f s m
def SP (t : Nat) : Prop := 1 ≤ t ∧ t ≤ 8
theorem Axe {t : Nat} (h : SW t) : SP t := ⟨h.1, by have := h.2; omega⟩
theorem Axf {t : Nat} (h : SR t) : SP t := ⟨by have := h.1; omega, h.2⟩
section
variable {S : Nat → Prop} {O O' : Om} {w w' : World} {B C : Wb} {f : Cf} {s s1 : AW} {m : Nat}
theorem PR.ext (h : PR w O B C f s m) (e : Ext S O w O' w') (hs : ∀ t, SP t → ¬ S t) : PR w' O' B C f s m :=
 ⟨h.p.ext e (hs _ ⟨by decide, by decide⟩) (hs _ ⟨by decide, by decide⟩) (hs _ ⟨by decide, by decide⟩) (hs _ ⟨by decide, by decide⟩), h.r.ext e (hs _ ⟨by decide, by decide⟩) (hs _ ⟨by decide, by decide⟩) (hs _ ⟨by decide, by decide⟩) (hs _ ⟨by decide, by decide⟩)⟩
theorem PR.below (h : PR w O B C f s m) (hhi : Hh O w) (hb : Below w.heap.size w w') : PR w' O B C f s m := ⟨h.p.below hhi hb, h.r.below hhi hb⟩
theorem RW.sw (h : RW w O C f s m) (e : Ext SW O w O' w') : RW w' O' C f s m := h.ext e (fun h => by have := h.2; omega) (fun h => by have := h.2; omega) (fun h => by have := h.2; omega) (fun h => by have := h.2; omega)
theorem PW.sr (h : PW w O B f s) (e : Ext SR O w O' w') : PW w' O' B f s := h.ext e (fun h => by have := h.1; omega) (fun h => by have := h.1; omega) (fun h => by have := h.1; omega) (fun h => by have := h.1; omega)
end
theorem Acs {O : Om} {w : World} (h : Hh O w) {j : Nat} (hj : w.heap.size ≤ j) : O j = 0 := by
 by_cases hz : O j = 0
 · exact hz
 exact absurd (h j hz) (by omega)
theorem Af8 (a v : Int) {w : World} {O : Om} {B C : Wb} {f : Cf} {s : AW} {m : Nat} (h : PR w O B C f s m) (hhi : Hh O w) (hm : m ≤ 1000000) (a0 : 0 ≤ a) (a1 : a < 18446744073709551616) (v0 : 0 ≤ v) (v1 : v < 18446744073709551616) (n0 : 0 ≤ s.n) (n1 : s.n ≤ 4611686018427387904) :
 Calls Tryz.prog 9 #[.agg #[.pointer (some ⟨B.p, 0, none⟩), .pointer (some ⟨C.p, 0, none⟩)], .agg #[.int .u64 a, .int .u64 v]] w (RP SP w O (.tuple #[]) fun W G => PR W G B C f (Aax a v s) (m + 1)) := by
 obtain ⟨W, hW⟩ := exq ((w.alloc (.cells #[.pointer (some ⟨B.p, 0, none⟩), .pointer (some ⟨C.p, 0, none⟩)] 34)).alloc (.cells #[.int .u64 a, .int .u64 v] 40))
 have b1 : Below w.heap.size w (w.alloc (.cells #[.pointer (some ⟨B.p, 0, none⟩), .pointer (some ⟨C.p, 0, none⟩)] 34)) := bal _ _
 have b2 : Below (w.heap.size + 1) (w.alloc (.cells #[.pointer (some ⟨B.p, 0, none⟩), .pointer (some ⟨C.p, 0, none⟩)] 34)) W := by rw [hW, ← World.heap_size_alloc' w (.cells #[.pointer (some ⟨B.p, 0, none⟩), .pointer (some ⟨C.p, 0, none⟩)] 34)]; exact bal _ _
 have hB : Below w.heap.size w W := b1.trans (b2.mono (by omega))
 have hz : W.heap.size = w.heap.size + 2 := by rw [hW]; simp
 have p0 : W.cell? ⟨w.heap.size, 0, none⟩ = some (.pointer (some ⟨B.p, 0, none⟩)) := (b2.cell (p := ⟨w.heap.size, 0, none⟩) (by show w.heap.size < w.heap.size + 1; omega)).trans (Aak w #[.pointer (some ⟨B.p, 0, none⟩), .pointer (some ⟨C.p, 0, none⟩)] _ _ rfl 0 _ rfl)
 have p1 : W.cell? ⟨w.heap.size, 1, none⟩ = some (.pointer (some ⟨C.p, 0, none⟩)) := (b2.cell (p := ⟨w.heap.size, 1, none⟩) (by show w.heap.size < w.heap.size + 1; omega)).trans (Aak w #[.pointer (some ⟨B.p, 0, none⟩), .pointer (some ⟨C.p, 0, none⟩)] _ _ rfl 1 _ rfl)
 have k0 : W.cell? ⟨w.heap.size + 1, 0, none⟩ = some (.int .u64 a) := by rw [hW]; exact Aak _ #[.int .u64 a, .int .u64 v] _ _ (by simp) 0 _ rfl
 have k1 : W.cell? ⟨w.heap.size + 1, 1, none⟩ = some (.int .u64 v) := by rw [hW]; exact Aak _ #[.int .u64 a, .int .u64 v] _ _ (by simp) 1 _ rfl
 have hP := h.below hhi hB
 have E0 := hQd (Ext.of_below (S := SP) hhi hB)
 have q0 := hP.p.wo.c0
 have hpl := hP.p.wo.lt
 have o1 := Acs hhi (Nat.le_refl w.heap.size)
 have o2 := Acs hhi (show w.heap.size ≤ w.heap.size + 1 by omega)
 have O1 := hQd o1
 have O2 := hQd o2
 have hl0 : w.heap.size < W.heap.size := by omega
 have hl1 : w.heap.size + 1 < W.heap.size := by omega
 have HP := hQd hP
 clear h hhi hB b1 b2 hP o1 o2 hz
 go_enter Tryz.func9, Tryz.ntmps9
 go_upto_region 1 with (fail)
 rw [← hW]
 clear hW
 go_region_held3 (fun w' => w'.cell? ⟨w.heap.size, 0, none⟩ = some (.pointer (some ⟨B.p, 0, none⟩)) ∧ w'.cell? ⟨w.heap.size, 1, none⟩ = some (.pointer (some ⟨C.p, 0, none⟩)) ∧ w'.cell? ⟨w.heap.size + 1, 0, none⟩ = some (.int .u64 a) ∧ w'.cell? ⟨w.heap.size + 1, 1, none⟩ = some (.int .u64 v) ∧ w'.cell? ⟨B.p, 0, none⟩ = some (.pointer (some ⟨B.c, 0, none⟩))) (go_keep)
  ((go_at_call 17
    refine (Aed (w := W.drew) a v (HP.out.p.below E0.out.hi (Aaa W)) E0.out.hi a0 a1 v0 v1 n0 n1).mono ?_
    rintro e w1 ⟨rfl, G, e1, pw⟩
    have z0 := (e1.cell (p := ⟨w.heap.size, 0, none⟩) hl0 (by show ¬ SW (O w.heap.size); rw [O1.out]; exact fun h => absurd h.1 (by decide))).trans p0
    have z1 := (e1.cell (p := ⟨w.heap.size, 1, none⟩) hl0 (by show ¬ SW (O w.heap.size); rw [O1.out]; exact fun h => absurd h.1 (by decide))).trans p1
    have z2 := (e1.cell (p := ⟨w.heap.size + 1, 0, none⟩) hl1 (by show ¬ SW (O (w.heap.size + 1)); rw [O2.out]; exact fun h => absurd h.1 (by decide))).trans k0
    have z3 := (e1.cell (p := ⟨w.heap.size + 1, 1, none⟩) hl1 (by show ¬ SW (O (w.heap.size + 1)); rw [O2.out]; exact fun h => absurd h.1 (by decide))).trans k1
    have z4 := pw.wo.c0
    have E1 := hQd (E0.out.drew.trans (e1.mono fun t _ h => Axe h))
    have P1 := hQd pw
    have R1 := hQd ((HP.out.r.below E0.out.hi (Aaa W)).sw e1)
    clear e1 pw))
 all_goals
  clear p0 p1 k0 k1 q0
  go_wp2_with fail
  refine (Adg a v R1.out hm a0 a1 v0 v1 E1.out.hi n0 n1).mono ?_
  rintro e w2 ⟨rfl, G2, e2, rw2⟩
  have HE := hQd (aN (E1.out.trans (e2.mono fun t _ h => Axf h)) (PR.mk (P1.out.sr e2) rw2))
  clear e2 rw2
  go_wp2
  go_end0
  exact ⟨rfl, G2, HE.out⟩
theorem Azb {w : World} {O : Om} {B C : Wb} {f : Cf} {s : AW} {m : Nat} (h : PR w O B C f s m) (hhi : Hh O w) (hm : m ≤ 1000000) (n0 : 0 ≤ s.n) (n1 : s.n ≤ 4611686018427387904) :
 Calls Tryz.prog 26 #[.agg #[.pointer (some ⟨B.p, 0, none⟩), .pointer (some ⟨C.p, 0, none⟩)]] w (RP SP w O (.tuple #[]) fun W G => PR W G B C f (At5 s) (m + 1)) := by
 have hB : Below w.heap.size w (w.alloc (.cells #[.pointer (some ⟨B.p, 0, none⟩), .pointer (some ⟨C.p, 0, none⟩)] 34)) := bal _ _
 have hP := h.below hhi hB
 have E0 := hQd (Ext.of_below (S := SP) hhi hB)
 have O1 := hQd (Acs hhi (Nat.le_refl w.heap.size))
 have HT := hQd (Ay4 _ O B f s hP.p E0.out.hi n0 n1)
 have HR := hQd hP.r
 clear h hhi hB hP
 go_enter Tryz.func26, Tryz.ntmps26
 go_wp2_with fail
 refine (HT.out).mono ?_
 rintro e w1 ⟨rfl, G, e1, pw⟩
 have z1 : w1.cell? ⟨w.heap.size, 1, none⟩ = some (.pointer (some ⟨C.p, 0, none⟩)) := (e1.cell (p := ⟨w.heap.size, 1, none⟩) (by simp) (by show ¬ SW (O w.heap.size); rw [O1.out]; exact fun h => absurd h.1 (by decide))).trans (Aak w #[.pointer (some ⟨B.p, 0, none⟩), .pointer (some ⟨C.p, 0, none⟩)] _ _ rfl 1 _ rfl)
 have E1 := hQd (E0.out.trans (e1.mono fun t _ h => Axe h))
 have P1 := hQd pw
 have R1 := hQd (HR.out.sw e1)
 clear e1 pw HT
 go_wp2_with fail
 refine (Avn R1.out hm E1.out.hi n0 n1).mono ?_
 rintro e w2 ⟨rfl, G2, e2, rw2⟩
 have HE := hQd (aN (E1.out.trans (e2.mono fun t _ h => Axf h)) (PR.mk (P1.out.sr e2) rw2))
 clear e2 rw2
 go_wp2
 go_end0
 exact ⟨rfl, G2, HE.out⟩
def Azi (x : It) (s : AW) : AW := ⟨s.M, s.n, s.la, s.tk, s.ho, s.it ++ [x], s.nt⟩
theorem PW.item {w w' : World} {O O' : Om} {B : Wb} {f : Cf} {s : AW} {l : List It} (h : PW w O B f s) (e : Ext (fun t => t = 3) O w O' w') (hc : Ar w' O' 3 B.ip l) : PW w' O' B f ⟨s.M, s.n, s.la, s.tk, s.ho, l, s.nt⟩ :=
 ⟨(e.lo _ h.wo.lt).trans h.o, h.wo.wrote e.wr (fun k => absurd (show (1 : Nat) = 3 from by have := k.1; rwa [h.o] at this) (by decide)), h.ce.ext e (by decide) (by decide), hc, h.no.ext e (by decide)⟩
theorem RW.item {w w' : World} {O O' : Om} {B : Wb} {f : Cf} {s : AW} {m : Nat} {l : List It} (h : RW w O B f s m) (e : Ext (fun t => t = 7) O w O' w') (hc : LH w' O' 7 58 6 itc B.ip l) : RW w' O' B f ⟨s.M, s.n, s.la, s.tk, s.ho, l, s.nt⟩ m :=
 ⟨(e.lo _ h.wo.lt).trans h.o, h.wo.wrote e.wr (fun k => absurd (show (5 : Nat) = 7 from by have := k.1; rwa [h.o] at this) (by decide)), h.ce.ext e (by decide), hc, h.no.ext e (by decide)⟩
theorem Azc (x : It) {w : World} {O : Om} {B C : Wb} {f : Cf} {s : AW} {m : Nat} (h : PR w O B C f s m) (hhi : Hh O w) (hl : s.it.length ≤ 1000000) :
 Calls Tryz.prog 24 #[.agg #[.pointer (some ⟨B.p, 0, none⟩), .pointer (some ⟨C.p, 0, none⟩)], .agg #[.string x.key, .string x.val, .int .u32 x.fl, .int .u64 x.id, .int .i64 x.dies, .int .i64 x.gen]] w (RP SP w O (.tuple #[]) fun W G => PR W G B C f (Azi x s) m) := by
 obtain ⟨W, hW⟩ := exq ((w.alloc (.cells #[.pointer (some ⟨B.p, 0, none⟩), .pointer (some ⟨C.p, 0, none⟩)] 34)).alloc (.cells #[.string x.key, .string x.val, .int .u32 x.fl, .int .u64 x.id, .int .i64 x.dies, .int .i64 x.gen] 58))
 have b1 : Below w.heap.size w (w.alloc (.cells #[.pointer (some ⟨B.p, 0, none⟩), .pointer (some ⟨C.p, 0, none⟩)] 34)) := bal _ _
 have b2 : Below (w.heap.size + 1) (w.alloc (.cells #[.pointer (some ⟨B.p, 0, none⟩), .pointer (some ⟨C.p, 0, none⟩)] 34)) W := by rw [hW, ← World.heap_size_alloc' w (.cells #[.pointer (some ⟨B.p, 0, none⟩), .pointer (some ⟨C.p, 0, none⟩)] 34)]; exact bal _ _
 have hB : Below w.heap.size w W := b1.trans (b2.mono (by omega))
 have hz : W.heap.size = w.heap.size + 2 := by rw [hW]; simp
 have p0 : W.cell? ⟨w.heap.size, 0, none⟩ = some (.pointer (some ⟨B.p, 0, none⟩)) := (b2.cell (p := ⟨w.heap.size, 0, none⟩) (by show w.heap.size < w.heap.size + 1; omega)).trans (Aak w #[.pointer (some ⟨B.p, 0, none⟩), .pointer (some ⟨C.p, 0, none⟩)] _ _ rfl 0 _ rfl)
 have p1 : W.cell? ⟨w.heap.size, 1, none⟩ = some (.pointer (some ⟨C.p, 0, none⟩)) := (b2.cell (p := ⟨w.heap.size, 1, none⟩) (by show w.heap.size < w.heap.size + 1; omega)).trans (Aak w #[.pointer (some ⟨B.p, 0, none⟩), .pointer (some ⟨C.p, 0, none⟩)] _ _ rfl 1 _ rfl)
 have hx : ∀ j u, (itc x)[j]? = some u → W.cell? ⟨w.heap.size + 1, j, none⟩ = some u := fun j u hu => by rw [hW]; exact Aak _ #[.string x.key, .string x.val, .int .u32 x.fl, .int .u64 x.id, .int .i64 x.dies, .int .i64 x.gen] _ _ (by simp) j u (by simpa [itc] using hu)
 have x0 := hx 0 _ rfl
 have x1 := hx 1 _ rfl
 have x2 := hx 2 _ rfl
 have x3 := hx 3 _ rfl
 have x4 := hx 4 _ rfl
 have x5 := hx 5 _ rfl
 have HX := hQd hx
 have hP := h.below hhi hB
 have E0 := hQd (Ext.of_below (S := SP) hhi hB)
 have q0 := hP.p.wo.c1
 have hpl := hP.p.wo.lt
 have O1 := hQd (Acs hhi (Nat.le_refl w.heap.size))
 have O2 := hQd (Acs hhi (show w.heap.size ≤ w.heap.size + 1 by omega))
 have hl0 : w.heap.size < W.heap.size := by omega
 have hl1 : w.heap.size + 1 < W.heap.size := by omega
 have HP := hQd hP
 clear h hhi hB b1 b2 hP hz hx
 go_enter Tryz.func24, Tryz.ntmps24
 go_upto_region 1 with (fail)
 rw [← hW]
 clear hW
 go_region_held3 (fun w' => w'.cell? ⟨w.heap.size, 0, none⟩ = some (.pointer (some ⟨B.p, 0, none⟩)) ∧ w'.cell? ⟨B.p, 1, none⟩ = some (.pointer (some ⟨B.ip, 0, none⟩)) ∧ w'.cell? ⟨w.heap.size + 1, 0, none⟩ = some (.string x.key) ∧ w'.cell? ⟨w.heap.size + 1, 1, none⟩ = some (.string x.val) ∧ w'.cell? ⟨w.heap.size + 1, 2, none⟩ = some (.int .u32 x.fl) ∧ w'.cell? ⟨w.heap.size + 1, 3, none⟩ = some (.int .u64 x.id) ∧ w'.cell? ⟨w.heap.size + 1, 4, none⟩ = some (.int .i64 x.dies) ∧ w'.cell? ⟨w.heap.size + 1, 5, none⟩ = some (.int .i64 x.gen)) (go_keep)
  ((go_at_call 62
    refine (Bbt (w := W.drew) x (HP.out.p.below E0.out.hi (Aaa W)).ar (by decide) hl E0.out.hi).mono ?_
    rintro e w1 ⟨rfl, G, e1, ar1⟩
    have z0 := (e1.cell (p := ⟨w.heap.size, 0, none⟩) hl0 (by show ¬ O w.heap.size = 3; rw [O1.out]; decide)).trans p0
    have z1 := (e1.cell (p := ⟨w.heap.size, 1, none⟩) hl0 (by show ¬ O w.heap.size = 3; rw [O1.out]; decide)).trans p1
    have hy : ∀ j u, (itc x)[j]? = some u → w1.cell? ⟨w.heap.size + 1, j, none⟩ = some u := fun j u hu => (e1.cell (p := ⟨w.heap.size + 1, j, none⟩) hl1 (by show ¬ O (w.heap.size + 1) = 3; rw [O2.out]; decide)).trans (HX.out j u hu)
    have y0 := hy 0 _ rfl
    have y1 := hy 1 _ rfl
    have y2 := hy 2 _ rfl
    have y3 := hy 3 _ rfl
    have y4 := hy 4 _ rfl
    have y5 := hy 5 _ rfl
    have HY := hQd hy
    have E1 := hQd (E0.out.drew.trans (e1.mono fun t _ h => by subst h; exact ⟨by decide, by decide⟩))
    have P1 := hQd ((HP.out.p.below E0.out.hi (Aaa W)).item e1 ar1)
    have R1 := hQd ((HP.out.r.below E0.out.hi (Aaa W)).ext e1 (by decide) (by decide) (by decide) (by decide))
    have z4 := P1.out.wo.c1
    have hs1 := e1.size
    have hm0 : w.heap.size < w1.heap.size := by have : W.heap.size ≤ w1.heap.size := hs1; omega
    have hm1 : w.heap.size + 1 < w1.heap.size := by have : W.heap.size ≤ w1.heap.size := hs1; omega
    have OO1 := hQd ((e1.lo w.heap.size hl0).trans O1.out)
    have OO2 := hQd ((e1.lo (w.heap.size + 1) hl1).trans O2.out)
    clear e1 ar1 hy hs1))
 all_goals
  clear p0 p1 x0 x1 x2 x3 x4 x5 q0
  have r0 := R1.out.wo.c1
  have hrl := R1.out.wo.lt
  go_wp2_with fail
  go_region_held3 (fun w' => w'.cell? ⟨w.heap.size, 1, none⟩ = some (.pointer (some ⟨C.p, 0, none⟩)) ∧ w'.cell? ⟨C.p, 1, none⟩ = some (.pointer (some ⟨C.ip, 0, none⟩)) ∧ w'.cell? ⟨w.heap.size + 1, 0, none⟩ = some (.string x.key) ∧ w'.cell? ⟨w.heap.size + 1, 1, none⟩ = some (.string x.val) ∧ w'.cell? ⟨w.heap.size + 1, 2, none⟩ = some (.int .u32 x.fl) ∧ w'.cell? ⟨w.heap.size + 1, 3, none⟩ = some (.int .u64 x.id) ∧ w'.cell? ⟨w.heap.size + 1, 4, none⟩ = some (.int .i64 x.dies) ∧ w'.cell? ⟨w.heap.size + 1, 5, none⟩ = some (.int .i64 x.gen)) (go_keep)
   ((go_at_call 63
     refine (Aym x (R1.out.below E1.out.hi (Aaa w1)).ar (by decide) hl E1.out.drew.hi).mono ?_
     rintro e w2 ⟨rfl, G2, e2, ar2⟩
     have u0 := (e2.cell (p := ⟨w.heap.size, 1, none⟩) hm0 (by show ¬ G w.heap.size = 7; rw [OO1.out]; decide)).trans z1
     have hy2 : ∀ j u, (itc x)[j]? = some u → w2.cell? ⟨w.heap.size + 1, j, none⟩ = some u := fun j u hu => (e2.cell (p := ⟨w.heap.size + 1, j, none⟩) hm1 (by show ¬ G (w.heap.size + 1) = 7; rw [OO2.out]; decide)).trans (HY.out j u hu)
     have v0 := hy2 0 _ rfl
     have v1 := hy2 1 _ rfl
     have v2 := hy2 2 _ rfl
     have v3 := hy2 3 _ rfl
     have v4 := hy2 4 _ rfl
     have v5 := hy2 5 _ rfl
     have R2 := hQd ((R1.out.below E1.out.hi (Aaa w1)).item e2 ar2)
     have P2 := hQd ((P1.out.below E1.out.hi (Aaa w1)).ext e2 (by decide) (by decide) (by decide) (by decide))
     have u1 := R2.out.wo.c1
     have E2 := hQd (E1.out.drew.trans (e2.mono fun t _ h => by subst h; exact ⟨by decide, by decide⟩))
     clear e2 ar2 hy2))
  all_goals
   go_wp2
   go_end0
   exact ⟨rfl, G2, E2.out, P2.out, R2.out⟩
end
section
open Go.RowKit
theorem Ayc (x s : Int) (w : World) (x0 : 0 ≤ x) (x1 : x < 18446744073709551616) (s0 : 0 ≤ s) (s1 : s ≤ 3) :
 Calls Tryz.prog 77 #[.int .u64 x, .int .i64 s] w fun e w' => (∃ v : Int, e = .returned (.int .i64 v) ∧ 0 ≤ v ∧ v ≤ 255) ∧ w = w' := by
 go_enter Tryz.func77, Tryz.ntmps77
 go_wp2
 go_loop [0, 5] (fun y i => ∃ k : Nat, ∃ z : Int, (k : Int) ≤ s ∧ i = .int .i64 k ∧ y = .int .u64 z ∧ 0 ≤ z ∧ z < 18446744073709551616) (fun _ i => s.toNat - (intOf i).toNat)
 case atStart => exact ⟨0, x, by omega, rfl, rfl, x0, x1⟩
 obtain ⟨k, z, hk, rfl, rfl, z0, z1⟩ := hrel
 by_cases hlt : (k : Int) < s
 · go_wp2
   go_round
   case rel => exact ⟨k + 1, z / 256, by omega, by go_num, rfl, by omega, by omega⟩
   case measure => simp [intOf]; omega
 go_wp2
 go_ret
 exact ⟨⟨z % 256, rfl, by omega, by omega⟩, rfl⟩
theorem Avo (x s t : Int) (w : World) (x0 : 0 ≤ x) (x1 : x < 18446744073709551616) (s0 : 0 ≤ s) (s1 : s ≤ 3) (t0 : 0 ≤ t) (t1 : t ≤ 255) :
 Calls Tryz.prog 69 #[.int .u64 x, .int .i64 s, .int .i64 t] w fun e w' => (∃ v : Int, e = .returned (.int .u64 v) ∧ 0 ≤ v ∧ v < 18446744073709551616) ∧ w = w' := by
 go_enter Tryz.func69, Tryz.ntmps69
 go_wp2
 go_loop [7, 8] (fun y i => ∃ k : Nat, ∃ z : Int, (k : Int) ≤ s ∧ i = .int .i64 k ∧ y = .int .u64 z ∧ 0 ≤ z ∧ z < 18446744073709551616) (fun _ i => s.toNat - (intOf i).toNat)
 case atStart => exact ⟨0, 1, by omega, rfl, rfl, by decide, by decide⟩
 obtain ⟨k, z, hk, rfl, rfl, z0, z1⟩ := hrel
 by_cases hlt : (k : Int) < s
 · go_wp2
   go_round
   case rel => exact ⟨k + 1, _, by omega, by go_num, rfl, by simp only [IntKind.wrap_u64]; omega, by simp only [IntKind.wrap_u64]; omega⟩
   case measure => simp [intOf]; omega
 go_wp2_with (go_at_call 77; refine (Ayc _ _ _ x0 x1 s0 s1).mono ?_; rintro e w' ⟨⟨v, rfl, v0, v1⟩, rfl⟩)
 go_ret
 exact ⟨⟨_, rfl, by simp only [IntKind.wrap_u64]; omega, by simp only [IntKind.wrap_u64]; omega⟩, rfl⟩
theorem Ast (r : Int) (k : Nat) (x : It) {w : World} {O : Om} {C : Wb} {f : Cf} {s : AW} {m : Nat} (h : RW w O C f s m) (hhi : Hh O w) (hl : s.it.length ≤ 1000000) (hk : s.it[k]? = some x) (hr : r = k + 1) :
 Calls Tryz.prog 65 #[.pointer (some ⟨C.p, 0, none⟩), .int .i64 r] w fun e w' => e = .returned (.agg #[.string x.key, .string x.val, .int .u32 x.fl, .int .u64 x.id, .int .i64 x.dies, .int .i64 x.gen]) ∧ Below w.heap.size w w' := by
 subst hr
 have hB : Below w.heap.size w (w.alloc (.cells #[.string ⟨#[]⟩, .string ⟨#[]⟩, .int .u32 0, .int .u64 0, .int .i64 0, .int .i64 0] 58)) := bal _ _
 have q0 := hB.cell (p := ⟨C.p, 1, none⟩) h.wo.lt |>.trans h.wo.c1
 have hpl := h.wo.lt
 have HA := hQd (Agr (k + 1) k x (h.below hhi hB).ar hl hk rfl)
 have HB := hQd hB
 have hc0 : ∀ j u, ([.string ⟨#[]⟩, .string ⟨#[]⟩, .int .u32 0, .int .u64 0, .int .i64 0, .int .i64 0] : List Value)[j]? = some u → (w.alloc (.cells #[.string ⟨#[]⟩, .string ⟨#[]⟩, .int .u32 0, .int .u64 0, .int .i64 0, .int .i64 0] 58)).cell? ⟨w.heap.size, j, none⟩ = some u := fun j u hu => Aak w #[.string ⟨#[]⟩, .string ⟨#[]⟩, .int .u32 0, .int .u64 0, .int .i64 0, .int .i64 0] _ _ rfl j u (by simpa using hu)
 have HC0 := hQd hc0
 clear h hhi hB hc0
 go_enter Tryz.func65, Tryz.ntmps65
 go_wp2_with fail
 refine (HA.out).mono ?_
 rintro e w1 ⟨rfl, hb⟩
 have hz := hb.size
 have HB1 := hQd (HB.out.trans (hb.mono (by simp)))
 simp only [World.heap_size_alloc'] at hz
 have hc1 : ∀ j u, ([.string ⟨#[]⟩, .string ⟨#[]⟩, .int .u32 0, .int .u64 0, .int .i64 0, .int .i64 0] : List Value)[j]? = some u → w1.cell? ⟨w.heap.size, j, none⟩ = some u := fun j u hu => (hb.cell (p := ⟨w.heap.size, j, none⟩) (by simp)).trans (HC0.out j u hu)
 have hf1 : ∀ j, w1.frozen? ⟨w.heap.size, j, none⟩ = false := fun j => (hb.frozen (p := ⟨w.heap.size, j, none⟩) (by simp)).trans (by simp)
 have c0 := hc1 0 _ rfl
 have c1 := hc1 1 _ rfl
 have c2 := hc1 2 _ rfl
 have c3 := hc1 3 _ rfl
 have c4 := hc1 4 _ rfl
 have c5 := hc1 5 _ rfl
 have f0 := hf1 0
 have f1 := hf1 1
 have f2 := hf1 2
 have f3 := hf1 3
 have f4 := hf1 4
 have f5 := hf1 5
 have hz1 : w.heap.size < w1.heap.size := by omega
 have hz2 : ¬ w.heap.size = w1.heap.size := by omega
 clear hb hc1 hf1
 go_wp2
 have HS := Acr HB1.out (Nat.le_refl _) (.string x.key) (.string x.val) (.int .u32 x.fl) (.int .u64 x.id) (.int .i64 x.dies) (.int .i64 x.gen)
 refine bodyPost_ret (v := .agg #[.string x.key, .string x.val, .int .u32 x.fl, .int .u64 x.id, .int .i64 x.dies, .int .i64 x.gen]) ?_ rfl ⟨rfl, HS.alloc HS.size _⟩
 simp [results, Tryz.results65, go_sem, hz1, hz2, c0, c1, c2, c3, c4, c5]
theorem Ext.nob {S : Nat → Prop} {O O' : Om} {w w' : World} (e : Ext S O w O' w') (hs : ¬ S 0) {b : Nat} (hb : b < w.heap.size) (ho : O b = 0) (j : Nat) : w'.cell? ⟨b, j, none⟩ = w.cell? ⟨b, j, none⟩ :=
 e.cell (p := ⟨b, j, none⟩) hb (by show ¬ S (O b); rw [ho]; exact hs)
@[go_sem] theorem Bcd (a b c d e f : Value) (w : World) : (Instr.field 58 (.agg #[a, b, c, d, e, f]) 0).run Tryz.prog w = .ok a w := by kernel_rfl
theorem sp0 : ¬ SP 0 := fun h => absurd h.1 (by decide)
theorem Bbe (a b c : Int) (n : Int) {w : World} {O : Om} {B C : Wb} {f : Cf} {s : AW} {m : Nat} (h : PR w O B C f s m) (hhi : Hh O w) (hn : n = s.it.length) (hn1 : 0 < s.it.length) (hk : ∀ x ∈ s.it, x.key.size ≤ 400) (hl : s.it.length ≤ 1000) (hm : m ≤ 900000) (n0 : 0 ≤ s.n) (n1 : s.n ≤ 1000000) (a0 : 0 ≤ a) (a1 : a < 256) (b0 : 0 ≤ b) (b1 : b < 256) (c0 : 0 ≤ c) (c1 : c < 256) :
 Calls Tryz.prog 25 #[.agg #[.pointer (some ⟨B.p, 0, none⟩), .pointer (some ⟨C.p, 0, none⟩)], .agg #[.int .u8 a, .int .u8 b, .int .u8 c], .int .i64 n] w (RP SP w O (.tuple #[]) fun W G => ∃ s2, PR W G B C f s2 (m + 2) ∧ s2.n = s.n + 2 ∧ s2.it = s.it ∧ s2.nt = s.nt) := by
 subst hn
 obtain ⟨W, hW⟩ := exq ((w.alloc (.cells #[.pointer (some ⟨B.p, 0, none⟩), .pointer (some ⟨C.p, 0, none⟩)] 34)).alloc (.cells #[.int .u8 a, .int .u8 b, .int .u8 c] 81))
 have b1' : Below w.heap.size w (w.alloc (.cells #[.pointer (some ⟨B.p, 0, none⟩), .pointer (some ⟨C.p, 0, none⟩)] 34)) := bal _ _
 have b2' : Below (w.heap.size + 1) (w.alloc (.cells #[.pointer (some ⟨B.p, 0, none⟩), .pointer (some ⟨C.p, 0, none⟩)] 34)) W := by rw [hW, ← World.heap_size_alloc' w (.cells #[.pointer (some ⟨B.p, 0, none⟩), .pointer (some ⟨C.p, 0, none⟩)] 34)]; exact bal _ _
 have hB : Below w.heap.size w W := b1'.trans (b2'.mono (by omega))
 have hz : W.heap.size = w.heap.size + 2 := by rw [hW]; simp
 have p0 : W.cell? ⟨w.heap.size, 0, none⟩ = some (.pointer (some ⟨B.p, 0, none⟩)) := (b2'.cell (p := ⟨w.heap.size, 0, none⟩) (by show w.heap.size < w.heap.size + 1; omega)).trans (Aak w #[.pointer (some ⟨B.p, 0, none⟩), .pointer (some ⟨C.p, 0, none⟩)] _ _ rfl 0 _ rfl)
 have p1 : W.cell? ⟨w.heap.size, 1, none⟩ = some (.pointer (some ⟨C.p, 0, none⟩)) := (b2'.cell (p := ⟨w.heap.size, 1, none⟩) (by show w.heap.size < w.heap.size + 1; omega)).trans (Aak w #[.pointer (some ⟨B.p, 0, none⟩), .pointer (some ⟨C.p, 0, none⟩)] _ _ rfl 1 _ rfl)
 have k0 : W.cell? ⟨w.heap.size + 1, 0, none⟩ = some (.int .u8 a) := by rw [hW]; exact Aak _ #[.int .u8 a, .int .u8 b, .int .u8 c] _ _ (by simp) 0 _ rfl
 have k1 : W.cell? ⟨w.heap.size + 1, 1, none⟩ = some (.int .u8 b) := by rw [hW]; exact Aak _ #[.int .u8 a, .int .u8 b, .int .u8 c] _ _ (by simp) 1 _ rfl
 have k2 : W.cell? ⟨w.heap.size + 1, 2, none⟩ = some (.int .u8 c) := by rw [hW]; exact Aak _ #[.int .u8 a, .int .u8 b, .int .u8 c] _ _ (by simp) 2 _ rfl
 have HP := hQd (h.below hhi hB)
 have E0 := hQd (Ext.of_below (S := SP) hhi hB)
 have O1 := hQd (Acs hhi (Nat.le_refl w.heap.size))
 have O2 := hQd (Acs hhi (show w.heap.size ≤ w.heap.size + 1 by omega))
 have ha : a % s.it.length < s.it.length := Int.emod_lt_of_pos _ (by omega)
 have ha0 : 0 ≤ a % s.it.length := Int.emod_nonneg _ (by omega)
 obtain ⟨k, hkk⟩ := Int.eq_ofNat_of_zero_le ha0
 have hkl : k < s.it.length := by omega
 obtain ⟨x, hx⟩ : ∃ x, s.it[k]? = some x := ⟨_, List.getElem?_eq_getElem hkl⟩
 have hxk := hk x (List.mem_of_getElem? hx)
 have HI := hQd (Ast (1 + a % s.it.length) k x HP.out.r E0.out.hi (by omega) hx (by omega))
 have HX := hQd hx
 have HL := hQd (aN hl hn1)
 clear h hhi hB b1' b2' hk hx hkk hl
 obtain ⟨N, hN⟩ : ∃ N : Int, N = s.it.length := ⟨_, rfl⟩
 rw [← hN] at HI ha ha0 ⊢
 have hNp : 0 < N := by omega
 have hNb : N ≤ 1000 := by rw [hN]; exact_mod_cast HL.out.1
 have hN0 : (N == 0) = false := beq_eq_false_iff_ne.2 (by omega)
 clear hN hn1 hkl
 go_enter Tryz.func25, Tryz.ntmps25
 go_wp2_with (fail)
 rw [← hW]
 clear hW
 refine (HI.out).mono ?_
 rintro e w1 ⟨rfl, hb1⟩
 have hs1 := hb1.size
 have x1 : x.key.size ≤ maxLen := by unfold maxLen; omega
 have q0 : w1.cell? ⟨w.heap.size, 0, none⟩ = some (.pointer (some ⟨B.p, 0, none⟩)) := (hb1.cell (p := ⟨w.heap.size, 0, none⟩) (by show w.heap.size < W.heap.size; omega)).trans p0
 have q1 : w1.cell? ⟨w.heap.size, 1, none⟩ = some (.pointer (some ⟨C.p, 0, none⟩)) := (hb1.cell (p := ⟨w.heap.size, 1, none⟩) (by show w.heap.size < W.heap.size; omega)).trans p1
 have l1 : w1.cell? ⟨w.heap.size + 1, 1, none⟩ = some (.int .u8 b) := (hb1.cell (p := ⟨w.heap.size + 1, 1, none⟩) (by show w.heap.size + 1 < W.heap.size; omega)).trans k1
 have l2 : w1.cell? ⟨w.heap.size + 1, 2, none⟩ = some (.int .u8 c) := (hb1.cell (p := ⟨w.heap.size + 1, 2, none⟩) (by show w.heap.size + 1 < W.heap.size; omega)).trans k2
 have E1 := hQd (E0.out.below hb1)
 have P1 := hQd (HP.out.below E0.out.hi hb1)
 obtain ⟨H, hH⟩ := exq (Acn x.key.data.toList)
 have hHb := Ae8 x.key.data.toList
 have HH := hQd (Asu x.key w1 x1)
 rw [← hH] at hHb HH
 have hMb := P1.out.p.bd
 obtain ⟨X, hX⟩ := exq (s.M 2)
 have hXb := hMb 2
 have HK := hQd (Ak0 2 P1.out.r (by omega))
 rw [← hX] at hXb HK
 obtain ⟨n2, hn2⟩ := exq ((Abs H X).length)
 have hn2p : 0 < n2 := by rw [hn2]; exact Alp H X
 have hn2b : n2 ≤ 4 := by rw [hn2]; exact Ank H X
 have hbm : b % (n2 : Int) < n2 := Int.emod_lt_of_pos _ (by omega)
 obtain ⟨j, hj⟩ := Int.eq_ofNat_of_zero_le (show 0 ≤ b % (n2 : Int) from Int.emod_nonneg _ (by omega))
 rw [hj] at hbm
 have hjn : j < n2 := by omega
 obtain ⟨pl, hpl⟩ := exq ((Abs H X)[j]'(by omega))
 have hpb := Anl hHb.1 hHb.2 (p := pl) (by rw [hpl]; exact List.getElem_mem _)
 have hfs := Aah pl.1
 have HPC := hQd (Ass H X w1 hHb.1 hHb.2 hXb.1 hXb.2)
 have HPL : Hid (∀ (w : World) (b o : Nat), (∀ j u, (Aa2 plc (Abs H X))[j]? = some u → w.cell? ⟨b, o + j, none⟩ = some u) → w.cell? ⟨b, o + j * 2, none⟩ = some (.int .i64 pl.1) ∧ w.cell? ⟨b, o + j * 2 + 1, none⟩ = some (.int .i64 pl.2)) := fun w b o hw => by rw [hpl]; exact Aln hw j (by omega)
 clear hpl
 have hn20 : ((n2 : Int) == 0) = false := beq_eq_false_iff_ne.2 (by omega)
 obtain ⟨L, hL⟩ := exq (Abs H X)
 have HTg := hQd (Ape H)
 rw [← hL] at HPC HPL hn2
 rw [← hn2] at HPC
 have HN2 := hQd hn2
 clear hb1 p0 p1 k0 k1 k2 HP HI hH hX hMb HX hxk x1 hL hn2
 go_wp2_with (first | (go_at_call 64; refine (HH.out).mono ?_; rintro e w' ⟨rfl, rfl⟩) | (go_at_call 67; refine (HK.out).mono ?_; rintro e w' ⟨rfl, rfl⟩) | (go_at_call 66; refine (HPC.out).mono ?_; rintro e w2 ⟨⟨v2, rfl, hown2⟩, hb2⟩; obtain ⟨b2, o2, c2, rfl, hc2, hm2, hlt2, hx2⟩ := (Arr.of_own hown2).open hn2p (by omega); obtain ⟨g0, g1⟩ := HPL.out _ _ _ hx2; have hs2 := hb2.size; have hz2 : w.heap.size < w2.heap.size := (by omega); have hz3 : w.heap.size + 1 < w2.heap.size := (by omega); have hz4 : ¬ w.heap.size = w2.heap.size := (by omega); have hz5 : ¬ w.heap.size + 1 = w2.heap.size := (by omega); have r0 := (hb2.cell (p := ⟨w.heap.size, 0, none⟩) (by show w.heap.size < w1.heap.size; omega)).trans q0; have r1 := (hb2.cell (p := ⟨w.heap.size, 1, none⟩) (by show w.heap.size < w1.heap.size; omega)).trans q1; have s1 := (hb2.cell (p := ⟨w.heap.size + 1, 1, none⟩) (by show w.heap.size + 1 < w1.heap.size; omega)).trans l1; have s2 := (hb2.cell (p := ⟨w.heap.size + 1, 2, none⟩) (by show w.heap.size + 1 < w1.heap.size; omega)).trans l2; have E2 := hQd (E1.out.below hb2); have P2 := hQd (P1.out.below E1.out.hi hb2); clear hb2 hx2 hown2 q0 q1 l1 l2 HK HH HPC HPL))
 go_region
 obtain ⟨W3, hW3⟩ := exq ((w2.alloc (.cells #[.int .i64 pl.1, .int .i64 pl.2, .int .i64 (c % 4)] 95)).drew)
 have b3 : Below w2.heap.size w2 W3 := by rw [hW3]; exact (bal _ _).drew
 have hz6 : w2.heap.size < W3.heap.size := by rw [hW3]; simp
 have t0 : W3.cell? ⟨w2.heap.size, 0, none⟩ = some (.int .i64 pl.1) := by rw [hW3]; simp
 have t1 : W3.cell? ⟨w2.heap.size, 1, none⟩ = some (.int .i64 pl.2) := by rw [hW3]; simp
 have t2 : W3.cell? ⟨w2.heap.size, 2, none⟩ = some (.int .i64 (c % 4)) := by rw [hW3]; simp
 have u0 := (b3.cell (p := ⟨w.heap.size, 0, none⟩) hz2).trans r0
 have u1 := (b3.cell (p := ⟨w.heap.size, 1, none⟩) hz2).trans r1
 have E3 := hQd (E2.out.below b3)
 have P3 := hQd (P2.out.below E2.out.hi b3)
 have OS := hQd (Acs E2.out.hi (Nat.le_refl w2.heap.size))
 rw [← hW3]
 have hc4 : 0 ≤ c % 4 ∧ c % 4 ≤ 3 := by omega
 obtain ⟨c4, hc4e⟩ := exq (c % 4)
 rw [← hc4e] at t2 hc4
 clear b3 hW3 hc4e r0 r1 s1 s2 g0 g1 hbm hj hlt2 E0 E1 P1 HN2 HL
 have hT := hQd (Ab2 (b := pl.1) (k := pl.2) ⟨hpb.2.2.1, hpb.2.2.2⟩)
 have hTb : 0 ≤ Aai pl.1 pl.2 ∧ Aai pl.1 pl.2 ≤ 100000 := by rw [hT.out]; omega
 have hIb : 0 ≤ Aca pl.1 pl.2 c4 ∧ Aca pl.1 pl.2 c4 ≤ 100010 := by rw [Afy ⟨hpb.2.2.1, hpb.2.2.2⟩ hc4]; omega
 go_wp2_with fail
 refine (Ac8 pl.1 pl.2 W3 (by omega) (by omega) (by omega) (by omega)).mono ?_
 rintro e w4 ⟨rfl, hb4⟩
 have hs4 := hb4.size
 have hz7 : w2.heap.size < w4.heap.size := by omega
 have hz8 : w.heap.size < w4.heap.size := by omega
 have y0 := (hb4.cell (p := ⟨w2.heap.size, 0, none⟩) hz6).trans t0
 have y1 := (hb4.cell (p := ⟨w2.heap.size, 1, none⟩) hz6).trans t1
 have y2 := (hb4.cell (p := ⟨w2.heap.size, 2, none⟩) hz6).trans t2
 have z0 := (hb4.cell (p := ⟨w.heap.size, 0, none⟩) (by show w.heap.size < W3.heap.size; omega)).trans u0
 have z1 := (hb4.cell (p := ⟨w.heap.size, 1, none⟩) (by show w.heap.size < W3.heap.size; omega)).trans u1
 have E4 := hQd (E3.out.below hb4).drew
 have P4 := hQd ((P3.out.below E3.out.hi hb4).below (E3.out.below hb4).hi (Aaa w4))
 clear hb4 t0 t1 t2 u0 u1 E3 P3 E2 P2
 obtain ⟨T, hTe⟩ := exq (Aai pl.1 pl.2)
 rw [← hTe] at hTb
 simp only [← hTe]
 have hMb := P4.out.p.bd T
 obtain ⟨V, hV⟩ := exq (s.M T)
 have HK := hQd (Ak0 T P4.out.r (by omega))
 rw [← hV] at hMb HK
 have htg := Ad0 H hHb.1 hHb.2
 clear hTe hV hT
 go_wp2_with fail
 go_region_held3 (fun w' => w'.cell? ⟨w.heap.size, 0, none⟩ = some (.pointer (some ⟨B.p, 0, none⟩)) ∧ w'.cell? ⟨w.heap.size, 1, none⟩ = some (.pointer (some ⟨C.p, 0, none⟩)) ∧ w'.cell? ⟨w2.heap.size, 2, none⟩ = some (.int .i64 c4)) (go_keep)
  (first
    | (go_at_call 67; refine (HK.out).mono ?_; rintro e w' ⟨rfl, rfl⟩)
    | (go_at_call 70; refine (HTg.out _ hHb.1 hHb.2).mono ?_; rintro e w' ⟨rfl, rfl⟩)
    | (go_at_call 69; refine (Avo _ _ _ _ hMb.1 hMb.2 hc4.1 hc4.2 (by omega) (by omega)).mono ?_; rintro e w' ⟨⟨sv, rfl, sv0, sv1⟩, rfl⟩)
    | (go_at_call 9
       refine (Af8 T sv P4.out E4.out.hi (by omega) (by omega) (by omega) sv0 sv1 n0 (by omega)).mono ?_
       rintro e w5 ⟨rfl, G5, e5, pr5⟩
       have hs5 := e5.size
       have hz9 : w2.heap.size < w5.heap.size := Nat.lt_of_lt_of_le hz7 hs5
       have f0 := (e5.nob sp0 hz8 O1.out 0).trans z0
       have f1 := (e5.nob sp0 hz8 O1.out 1).trans z1
       have f2 := (e5.nob sp0 hz7 OS.out 0).trans y0
       have f3 := (e5.nob sp0 hz7 OS.out 1).trans y1
       have f4 := (e5.nob sp0 hz7 OS.out 2).trans y2
       have OG1 := hQd ((e5.lo w.heap.size hz8).trans O1.out)
       have OG2 := hQd ((e5.lo w2.heap.size hz7).trans OS.out)
       have E5 := hQd (E4.out.trans e5)
       have P5 := hQd pr5
       clear e5 pr5))
 all_goals
  clear y0 y1 y2 z0 z1 P4 E4 HK HTg OS O1 O2 hMb
  go_wp2_with fail
  have n0' : 0 ≤ (Aax T sv s).n := by show 0 ≤ s.n + 1; omega
  have n1' : (Aax T sv s).n ≤ 4611686018427387904 := by show s.n + 1 ≤ 4611686018427387904; omega
  have hwN : IntKind.u64.wrap N = N := by simp only [IntKind.wrap_u64]; omega
  have E5' := hQd E5.out.drew
  have P5' := hQd (P5.out.below E5.out.hi (Aaa w5))
  go_region_held3 (fun w' => w'.cell? ⟨w.heap.size, 0, none⟩ = some (.pointer (some ⟨B.p, 0, none⟩)) ∧ w'.cell? ⟨w.heap.size, 1, none⟩ = some (.pointer (some ⟨C.p, 0, none⟩)) ∧ w'.cell? ⟨w2.heap.size, 0, none⟩ = some (.int .i64 pl.1) ∧ w'.cell? ⟨w2.heap.size, 1, none⟩ = some (.int .i64 pl.2) ∧ w'.cell? ⟨w2.heap.size, 2, none⟩ = some (.int .i64 c4)) (go_keep)
   (first
     | (go_at_call 71
        refine (Adh pl.1 pl.2 c4 w5.drew (by omega) (by omega) (by omega) (by omega) (by omega) (by omega)).mono ?_
        rintro e w6 ⟨rfl, hb6⟩
        have hs6 : w5.heap.size ≤ w6.heap.size := hb6.size
        have hz10 : w.heap.size < w6.heap.size := by omega
        have hz11 : w2.heap.size < w6.heap.size := by omega
        have f0' := (hb6.cell (p := ⟨w.heap.size, 0, none⟩) (by show w.heap.size < w5.heap.size; omega)).trans f0
        have f1' := (hb6.cell (p := ⟨w.heap.size, 1, none⟩) (by show w.heap.size < w5.heap.size; omega)).trans f1
        have f2' := (hb6.cell (p := ⟨w2.heap.size, 0, none⟩) (by show w2.heap.size < w5.heap.size; omega)).trans f2
        have f3' := (hb6.cell (p := ⟨w2.heap.size, 1, none⟩) (by show w2.heap.size < w5.heap.size; omega)).trans f3
        have f4' := (hb6.cell (p := ⟨w2.heap.size, 2, none⟩) (by show w2.heap.size < w5.heap.size; omega)).trans f4
        have E6 := hQd (E5'.out.below hb6)
        have P6 := hQd (P5'.out.below E5'.out.hi hb6)
        clear hb6)
     | (go_at_call 9
        refine (Af8 (Aca pl.1 pl.2 c4) _ P6.out E6.out.hi (by omega) (by omega) (by omega) (by first | omega | (simp only [IntKind.wrap_u64]; omega)) (by first | omega | (simp only [IntKind.wrap_u64]; omega)) n0' n1').mono ?_
        rintro e w7 ⟨rfl, G7, e7, pr7⟩
        have j0 := (e7.nob sp0 hz10 OG1.out 0).trans f0'
        have j1 := (e7.nob sp0 hz10 OG1.out 1).trans f1'
        have j2 := (e7.nob sp0 hz11 OG2.out 0).trans f2'
        have j3 := (e7.nob sp0 hz11 OG2.out 1).trans f3'
        have j4 := (e7.nob sp0 hz11 OG2.out 2).trans f4'
        have HE := hQd (aN (E6.out.trans e7) pr7)
        clear e7 pr7))
  all_goals
   go_wp2
   go_end0
   exact ⟨rfl, G7, HE.out.1, _, HE.out.2, by show s.n + 1 + 1 = s.n + 2; omega, rfl, rfl⟩
end
section
open Go.RowKit
theorem Atu (f : Cf) (w : World) : Calls Tryz.prog 21 #[.agg #[.int .i64 f.b, .int .i64 f.g, .int .i64 f.t, .int .i64 f.q, .int .i64 f.y]] w fun e w' => e = .returned (.agg #[.int .i64 f.b, .int .i64 f.g, .int .i64 f.t, .int .i64 f.q, .int .i64 f.y]) ∧ Below w.heap.size w w' := by
 obtain ⟨b, g, t, q, y⟩ := f
 dsimp only
 go_enter Tryz.func21, Tryz.ntmps21
 go_wp2
 refine bodyPost_ret (v := .agg #[.int .i64 b, .int .i64 g, .int .i64 t, .int .i64 q, .int .i64 y]) ?_ rfl ⟨rfl, (bal _ _).alloc (by simp) _⟩
 simp [results, Tryz.results21, go_sem]
def Bad (p : Int × Int × Int) : List Value := [.int .u8 p.1, .int .u8 p.2.1, .int .u8 p.2.2]
def Azt (p : Int × Int) : List Value := [.int .u64 p.1, .int .u64 p.2]
structure Fst where
 cf : Cf
 gr : Bool
 it : List It
 pu : List (Int × Int × Int)
 st : List (Int × Int)
 ti : Int
def Ax3 (F : Fst) (vi vp vs : Value) : Value := .agg #[.int .i64 F.cf.b, .int .i64 F.cf.g, .int .i64 F.cf.t, .int .i64 F.cf.q, .int .i64 F.cf.y, .bool F.gr, vi, vp, vs, .int .i64 F.ti]
structure Bby (w : World) (F : Fst) (vi vp vs : Value) : Prop where
 it : Arr w vi F.it.length 6 (Aa2 itc F.it)
 pu : Arr w vp F.pu.length 3 (Aa2 Bad F.pu)
 st : Arr w vs F.st.length 2 (Aa2 Azt F.st)
 it1 : F.it.length ≤ 40
 pu1 : F.pu.length ≤ 60
 st1 : F.st.length ≤ 60
 key : ∀ x ∈ F.it, x.key.size ≤ 400
 pub : ∀ p ∈ F.pu, (0 ≤ p.1 ∧ p.1 < 256) ∧ (0 ≤ p.2.1 ∧ p.2.1 < 256) ∧ (0 ≤ p.2.2 ∧ p.2.2 < 256)
 stb : ∀ p ∈ F.st, (0 ≤ p.1 ∧ p.1 < 18446744073709551616) ∧ (0 ≤ p.2 ∧ p.2 < 18446744073709551616)
 ti0 : -9223372036854775808 ≤ F.ti
 ti1 : F.ti ≤ 9223372036854775807
def cfD : Cf := ⟨2, 8, 3, 1, 16⟩
theorem Ax7 : cfD.may := Asp (by decide)
def Ax6 (f : Cf) : Cf := if cfB f then f else cfD
theorem Avk (f : Cf) : (Ax6 f).may := by
 unfold Ax6
 split
 · exact Asp ‹_›
 exact Ax7
def O0 : Om := fun _ => 0
theorem Bb8 (w : World) : Hh O0 w := fun j h => absurd rfl h
def SB (t : Nat) : Prop := 1 ≤ t ∧ t ≤ 9
theorem Bdi {t : Nat} (h : SP t) : SB t := ⟨h.1, by have := h.2; omega⟩
theorem sb9 : SB 9 := ⟨by decide, by decide⟩
theorem sr9 : ¬ SR 9 := fun h => absurd h.2 (by decide)
theorem sp9 : ¬ SP 9 := fun h => absurd h.2 (by decide)
theorem Ext.arr {S : Nat → Prop} {w w' : World} {G : Om} {v : Value} {n size : Nat} {xs : List Value} (h : Arr w v n size xs) (e : Ext S O0 w G w') (h0 : ¬ S 0) : Arr w' v n size xs := by
 obtain ⟨hl, ao, c, rfl, h1, h2, h3⟩ := h
 refine ⟨hl, ao, c, rfl, h1, h2, fun j u hu => ?_⟩
 obtain ⟨b, o, rfl, hlt, hcell⟩ := h3 j u hu
 exact ⟨b, o, rfl, Nat.lt_of_lt_of_le hlt e.size, (e.cell (p := ⟨b, o + j, none⟩) hlt h0).trans hcell⟩
theorem Ob.set9 {S : Nat → Prop} {O0 O : Om} {w0 w : World} {b : Nat} {cs : List Value} (e : Ext S O0 w0 O w) (h : Ob w O 9 b cs) (hS : S 9) (j : Nat) (v : Value) : Ext S O0 w0 O (w.setCell ⟨b, j, none⟩ v) :=
 e.trans (Ext.of_set (S := S) e.hi h.o (by decide) hS)
theorem sb0 : ¬ SB 0 := fun h => absurd h.1 (by decide)
theorem sw9 : ¬ SW 9 := fun h => absurd h.2 (by decide)
theorem RW.set9 {w : World} {O : Om} {C : Wb} {f : Cf} {s : AW} {m b j : Nat} {v : Value} (h : RW w O C f s m) (hhi : Hh O w) (hb : O b = 9) : RW (w.setCell ⟨b, j, none⟩ v) O C f s m :=
 h.ext (S := fun t => t = 9) (Ext.of_set hhi hb (by decide) rfl) (by decide) (by decide) (by decide) (by decide)
theorem PW.set9 {w : World} {O : Om} {C : Wb} {f : Cf} {s : AW} {b j : Nat} {v : Value} (h : PW w O C f s) (hhi : Hh O w) (hb : O b = 9) : PW (w.setCell ⟨b, j, none⟩ v) O C f s :=
 h.ext (S := fun t => t = 9) (Ext.of_set hhi hb (by decide) rfl) (by decide) (by decide) (by decide) (by decide)
def cfL (f : Cf) : List Value := [.int .i64 f.b, .int .i64 f.g, .int .i64 f.t, .int .i64 f.q, .int .i64 f.y]
end
section
open Go.RowKit Go.Shelf
structure L9 (w W : World) (G : Om) (l : List (Nat × List Value)) : Prop where
 e : Ext SB O0 w G W
 o : ∀ (i : Nat) b cs, l[i]? = some (b, cs) → Ob W G 9 b cs
 d : ∀ (i j : Nat) b cs ds, l[i]? = some (b, cs) → l[j]? = some (b, ds) → i = j
section
variable {w W W' : World} {G G' : Om} {l : List (Nat × List Value)}
theorem L9.nil (w : World) : L9 w w O0 [] := ⟨Ext.refl (Bb8 w), fun i b cs h => (by cases h), fun i j b cs ds h => (by cases h)⟩
theorem L9.below (h : L9 w W G l) (hb : Below W.heap.size W W') : L9 w W' G l := ⟨h.e.below hb, fun i b cs q => (h.o i b cs q).below hb, h.d⟩
theorem L9.ext {S : Nat → Prop} (h : L9 w W G l) (e : Ext S G W G' W') (hs : ∀ t, S t → SP t) : L9 w W' G' l :=
 ⟨h.e.trans (e.mono fun t _ h => Bdi (hs t h)), fun i b cs q => (h.o i b cs q).ext e fun h => sp9 (hs _ h), h.d⟩
theorem L9.lay (h : L9 w W G l) (cs : Array Value) (ty : TypeId) : ∃ G', L9 w (W.alloc (.cells cs ty)) G' (l ++ [(W.heap.size, cs.toList)]) ∧ Ext (fun t => t = 9) G W G' (W.alloc (.cells cs ty)) := by
 obtain ⟨G', e, x, k⟩ := Aar h.e.hi 9 cs ty W.heap.size rfl
 have hl : ∀ (i : Nat) b cs', (l ++ [(W.heap.size, cs.toList)])[i]? = some (b, cs') → (i < l.length ∧ l[i]? = some (b, cs')) ∨ (i = l.length ∧ b = W.heap.size ∧ cs' = cs.toList) := fun i b cs' q => by
  by_cases c : i < l.length
  · rw [List.getElem?_append_left c] at q
    exact .inl ⟨c, q⟩
  have hi := (List.getElem?_eq_some_iff.1 q).1
  rw [List.length_append, List.length_singleton] at hi
  obtain rfl : i = l.length := by omega
  rw [List.getElem?_concat_length] at q
  cases q
  exact .inr ⟨rfl, rfl, rfl⟩
 refine ⟨G', ⟨h.e.trans (e.mono fun t _ q => by subst q; exact sb9), fun i b cs' q => ?_, fun i j b cs1 cs2 q1 q2 => ?_⟩, e⟩
 · rcases hl i b cs' q with ⟨-, q⟩ | ⟨-, rfl, rfl⟩
   · exact k _ _ _ (h.o i b cs' q)
   exact x
 rcases hl i b cs1 q1 with ⟨c1, p1⟩ | ⟨c1, rfl, -⟩
 · rcases hl j b cs2 q2 with ⟨c2, p2⟩ | ⟨c2, rfl, -⟩
   · exact h.d i j b _ _ p1 p2
   exact absurd (h.o i _ _ p1).lt (Nat.lt_irrefl _)
 rcases hl j _ cs2 q2 with ⟨c2, p2⟩ | ⟨c2, -, -⟩
 · exact absurd (h.o j _ _ p2).lt (Nat.lt_irrefl _)
 omega
theorem L9.set (h : L9 w W G l) (i : Nat) {b : Nat} {cs : List Value} (hi : l[i]? = some (b, cs)) (j : Nat) (v : Value) (hj : j < cs.length) : L9 w (W.setCell ⟨b, j, none⟩ v) G (l.set i (b, cs.set j v)) := by
 have hx := h.o i b cs hi
 have hb : ∀ (k : Nat) c ds, (l.set i (b, cs.set j v))[k]? = some (c, ds) → (k = i ∧ c = b ∧ ds = cs.set j v) ∨ (k ≠ i ∧ l[k]? = some (c, ds)) := fun k c ds q => by
  by_cases e : i = k
  · subst e
    rw [List.getElem?_set_self (List.getElem?_eq_some_iff.1 hi).1] at q
    cases q
    exact .inl ⟨rfl, rfl, rfl⟩
  rw [List.getElem?_set_ne e] at q
  exact .inr ⟨fun c => e c.symm, q⟩
 refine ⟨Ob.set9 h.e hx sb9 j v, fun k c ds q => ?_, fun k m c ds es q1 q2 => ?_⟩
 · rcases hb k c ds q with ⟨-, rfl, rfl⟩ | ⟨n, q⟩
   · exact hx.set j v hj
   exact (h.o k c ds q).other fun e => n (h.d k i c ds cs q (e ▸ hi))
 rcases hb k c ds q1 with ⟨rfl, rfl, -⟩ | ⟨n1, p1⟩
 · rcases hb m _ es q2 with ⟨rfl, -, -⟩ | ⟨n2, p2⟩
   · rfl
   exact h.d _ _ _ _ _ hi p2
 rcases hb m c es q2 with ⟨rfl, rfl, -⟩ | ⟨n2, p2⟩
 · exact h.d _ _ _ _ _ p1 hi
 exact h.d _ _ _ _ _ p1 p2
theorem PR.set9 {B C : Wb} {f : Cf} {s : AW} {m b j : Nat} {v : Value} (h : PR W G B C f s m) (hhi : Hh G W) (hb : G b = 9) : PR (W.setCell ⟨b, j, none⟩ v) G B C f s m := ⟨h.p.set9 hhi hb, h.r.set9 hhi hb⟩
end
structure Bgn (w W : World) (G : Om) (l : List (Nat × List Value)) (B C : Wb) (g : Cf) (s : AW) (m : Nat) (it : List It) (n : Int) : Prop where
 l : L9 w W G l
 q : PR W G B C g s m
 n0 : 0 ≤ s.n
 n1 : s.n ≤ n
 m1 : (m : Int) ≤ n + 1
 it : s.it = it
 nt : s.nt = []
section
variable {w W W' : World} {G G' : Om} {l : List (Nat × List Value)} {B C : Wb} {g : Cf} {s s' : AW} {m m' : Nat} {it it' : List It} {n n' : Int}
theorem Bgn.below (h : Bgn w W G l B C g s m it n) (hb : Below W.heap.size W W') : Bgn w W' G l B C g s m it n := ⟨h.l.below hb, h.q.below h.l.e.hi hb, h.n0, h.n1, h.m1, h.it, h.nt⟩
theorem Bgn.mono (h : Bgn w W G l B C g s m it n) (hn : n ≤ n') : Bgn w W G l B C g s m it n' := ⟨h.l, h.q, h.n0, by have := h.n1; omega, by have := h.m1; omega, h.it, h.nt⟩
theorem Bgn.to (h : Bgn w W G l B C g s m it n) (e : Ext SP G W G' W') (q : PR W' G' B C g s' m') (a0 : 0 ≤ s'.n) (a1 : s'.n ≤ n') (a2 : (m' : Int) ≤ n' + 1) (a3 : s'.it = it') (a4 : s'.nt = s.nt) : Bgn w W' G' l B C g s' m' it' n' :=
 ⟨h.l.ext e fun _ t => t, q, a0, a1, a2, a3, a4.trans h.nt⟩
end
theorem Arr.at9 {α : Type} {w : World} {v : Value} {l : List α} {f : α → List Value} {z : Nat} (h : Arr w v l.length z (Aa2 f l)) (hf : ∀ a, (f a).length = z) (hz : 0 < z) {k : Nat} (hk : k < l.length) :
 ∃ b o c, v = .slice (some ⟨b, o, none⟩) l.length c ∧ ∀ W G, Ext SB O0 w G W → ∀ j u, (f l[k])[j]? = some u → W.cell? ⟨b, o + k * z + j, none⟩ = some u := by
 obtain ⟨b, o, c, he, -, -, hb, hx⟩ := h.open (by omega) hz
 refine ⟨b, o, c, he, fun W G e j u hu => ?_⟩
 have hj := (List.getElem?_eq_some_iff.1 hu).1
 rw [hf] at hj
 rw [Nat.add_assoc]
 exact (e.cell (p := ⟨b, o + (k * z + j), none⟩) hb sb0).trans (hx _ _ ((Abk hf l k j hk hj).trans hu))
theorem Azh (F : Fst) (vi vp vs : Value) (w : World) (h : Bby w F vi vp vs) :
 Calls Tryz.prog 6 #[Ax3 F vi vp vs] w fun e w' => ∃ B C, RP SB w O0 (.agg #[.pointer (some ⟨B.p, 0, none⟩), .pointer (some ⟨C.p, 0, none⟩)]) (fun W G => ∃ s m, PR W G B C (Ax6 F.cf) s m ∧ 0 ≤ s.n ∧ s.n ≤ 1000 ∧ m ≤ 1000 ∧ s.it = F.it ∧ s.nt = []) e w' := by
 have HF := hQd h
 obtain ⟨f, gr, it, pu, st, ti⟩ := F
 unfold Ax3
 dsimp only at HF ⊢
 obtain ⟨ai, ci, rfl, hci, hmi⟩ := HF.out.it.shape
 obtain ⟨ap, cp, rfl, hcp, hmp⟩ := HF.out.pu.shape
 obtain ⟨as', cs, rfl, hcs, hms⟩ := HF.out.st.shape
 dsimp only at hci hcp hcs
 obtain ⟨G1, a1, -⟩ := (L9.nil w).lay #[.int .i64 f.b, .int .i64 f.g, .int .i64 f.t, .int .i64 f.q, .int .i64 f.y, .bool gr, .slice ai it.length ci, .slice ap pu.length cp, .slice as' st.length cs, .int .i64 ti] 28
 obtain ⟨G2, a2, -⟩ := a1.lay #[.pointer none, .pointer none] 34
 obtain ⟨G3, a3, -⟩ := a2.lay #[.int .i64 f.b, .int .i64 f.g, .int .i64 f.t, .int .i64 f.q, .int .i64 f.y] 23
 have H3 := hQd a3
 obtain ⟨N, hN⟩ := exq w.heap.size
 have HN := hQd hN
 obtain ⟨g, hg⟩ := exq (Ax6 f)
 have HG := hQd hg
 have hgm : Hid g.may := hQd (by rw [hg]; exact Avk f)
 clear h a1 a2 a3 hg
 go_enter Tryz.func6, Tryz.ntmps6
 go_wp2_with fail
 refine (Atu f _).mono ?_
 rintro e w1 ⟨rfl, hb1⟩
 have H1 : Hid (L9 w w1 G3 [(N, [.int .i64 f.b, .int .i64 f.g, .int .i64 f.t, .int .i64 f.q, .int .i64 f.y, .bool gr, .slice ai it.length ci, .slice ap pu.length cp, .slice as' st.length cs, .int .i64 ti]), (N + 1, [.pointer none, .pointer none]), (N + 1 + 1, cfL f)]) := hQd (by rw [HN.out]; simpa [cfL] using H3.out.below hb1)
 rw [← hN]
 clear hb1 H3 hN
 go_wp2_with fail
 refine (Apf f w1).mono ?_
 rintro e w2 ⟨rfl, hb2⟩
 have H2 := hQd (H1.out.below hb2)
 clear hb2 H1
 have KK := H2.out.o 2 _ _ rfl
 have z0 := KK.f 0
 have z1 := KK.f 1
 have z2 := KK.f 2
 have z3 := KK.f 3
 have z4 := KK.f 4
 obtain ⟨c0, c1, c2, c3, c4⟩ := KK.c5
 have hlt := KK.lt
 clear KK
 go_upto_if 14 with fail
 go_cut [3] (fun v wx => v = .pointer (some ⟨N + 1 + 1, 0, none⟩) ∧ L9 w wx G3 [(N, [.int .i64 f.b, .int .i64 f.g, .int .i64 f.t, .int .i64 f.q, .int .i64 f.y, .bool gr, .slice ai it.length ci, .slice ap pu.length cp, .slice as' st.length cs, .int .i64 ti]), (N + 1, [.pointer none, .pointer none]), (N + 1 + 1, cfL g)])
 case first =>
  cases hcf : cfB f
  · have hgD : g = cfD := by rw [HG.out]; unfold Ax6; rw [hcf]; rfl
    go_wp2_with fail
    go_meet
    rw [hgD]
    exact ⟨rfl, ((((H2.out.set 2 rfl 0 (.int .i64 2) (by simp [cfL])).set 2 rfl 1 (.int .i64 8) (by simp [cfL])).set 2 rfl 2 (.int .i64 3) (by simp [cfL])).set 2 rfl 3 (.int .i64 1) (by simp [cfL])).set 2 rfl 4 (.int .i64 16) (by simp [cfL])⟩
  have hgD : g = f := by rw [HG.out]; unfold Ax6; rw [hcf]; rfl
  go_wp2_with fail
  go_meet
  rw [hgD]
  exact ⟨rfl, H2.out⟩
 obtain ⟨rfl, h0⟩ := hcut
 clear z0 z1 z2 z3 z4 c0 c1 c2 c3 c4 hlt H2
 obtain ⟨w3, hw3⟩ := exq wc
 rw [← hw3] at h0 ⊢
 have KK := h0.o 2 _ _ rfl
 obtain ⟨c0, c1, c2, c3, c4⟩ := KK.c5
 obtain ⟨G4, a4, -⟩ := h0.lay #[.pointer none, .pointer none] 34
 have H4 := hQd a4
 obtain ⟨P, hP⟩ := exq w3.heap.size
 have HP := hQd hP
 have hlt := KK.lt
 clear h0 KK a4 hw3 hP
 go_wp2_with fail
 refine (Atu g _).mono ?_
 rintro e w4 ⟨rfl, hb4⟩
 have h4 : L9 w w4 G4 [(N, [.int .i64 f.b, .int .i64 f.g, .int .i64 f.t, .int .i64 f.q, .int .i64 f.y, .bool gr, .slice ai it.length ci, .slice ap pu.length cp, .slice as' st.length cs, .int .i64 ti]), (N + 1, [.pointer none, .pointer none]), (N + 1 + 1, cfL g), (P, [.pointer none, .pointer none])] := by rw [HP.out]; simpa using H4.out.below hb4
 rw [← HP.out]
 have H5 := hQd h4
 clear h4 H4 hb4 c0 c1 c2 c3 c4 hlt
 go_wp2_with fail
 refine (Av4 g w4 G4 hgm.out H5.out.e.hi).mono ?_
 rintro e w5 ⟨C, rfl, G5, e5, r5⟩
 have h5 := H5.out.ext e5 (fun _ h => Axf h)
 have P5 := h5.o 3 _ _ rfl
 have KK := h5.o 2 _ _ rfl
 have H6 := hQd (aN (h5.set 3 rfl 1 (.pointer (some ⟨C.p, 0, none⟩)) (by simp)) (r5.set9 (j := 1) (v := .pointer (some ⟨C.p, 0, none⟩)) h5.e.hi P5.o))
 obtain ⟨y0, y1⟩ := P5.c2
 have g0 := P5.f 0
 have g1 := P5.f 1
 obtain ⟨c0, c1, c2, c3, c4⟩ := KK.c5
 have hnp : N + 1 + 1 ≠ P := fun e => absurd (h5.d 2 3 (N + 1 + 1) _ _ rfl (by rw [e]; rfl)) (by decide)
 clear e5 r5 h5 P5 KK H5
 go_wp2_with fail
 refine (Atq g _ hgm.out).mono ?_
 intro e w8 hw8
 obtain ⟨B, rfl, G8, e8, p8⟩ := hw8.rp H6.out.1.e.hi
 have h8 := H6.out.1.ext e8 (fun _ h => Axe h)
 have P8 := h8.o 3 _ _ rfl
 have S9 : Bgn w (w8.setCell ⟨P, 0, none⟩ (.pointer (some ⟨B.p, 0, none⟩))) G8 [(N, [.int .i64 f.b, .int .i64 f.g, .int .i64 f.t, .int .i64 f.q, .int .i64 f.y, .bool gr, .slice ai it.length ci, .slice ap pu.length cp, .slice as' st.length cs, .int .i64 ti]), (N + 1, [.pointer none, .pointer none]), (N + 1 + 1, cfL g), (P, [.pointer (some ⟨B.p, 0, none⟩), .pointer (some ⟨C.p, 0, none⟩)])] B C g (aw0 g.b) 1 [] 0 :=
  ⟨h8.set 3 rfl 0 (.pointer (some ⟨B.p, 0, none⟩)) (by simp), ⟨p8.set9 h8.e.hi P8.o, (H6.out.2.sw e8).set9 h8.e.hi P8.o⟩, by show (0 : Int) ≤ 0; decide, by show (0 : Int) ≤ 0; decide, by decide, rfl, rfl⟩
 obtain ⟨W9, hW9⟩ := exq (w8.setCell ⟨P, 0, none⟩ (.pointer (some ⟨B.p, 0, none⟩)))
 rw [← hW9] at S9
 obtain ⟨LL, hLL⟩ : ∃ LL : List (Nat × List Value), LL = [(N, [.int .i64 f.b, .int .i64 f.g, .int .i64 f.t, .int .i64 f.q, .int .i64 f.y, .bool gr, .slice ai it.length ci, .slice ap pu.length cp, .slice as' st.length cs, .int .i64 ti]), (N + 1, [.pointer none, .pointer none]), (N + 1 + 1, cfL g), (P, [.pointer (some ⟨B.p, 0, none⟩), .pointer (some ⟨C.p, 0, none⟩)])] := ⟨_, rfl⟩
 have HL2 := hQd hLL
 have HO : Hid (∀ W G, L9 w W G LL → Ob W G 9 N [.int .i64 f.b, .int .i64 f.g, .int .i64 f.t, .int .i64 f.q, .int .i64 f.y, .bool gr, .slice ai it.length ci, .slice ap pu.length cp, .slice as' st.length cs, .int .i64 ti] ∧ Ob W G 9 P [.pointer (some ⟨B.p, 0, none⟩), .pointer (some ⟨C.p, 0, none⟩)]) := hQd (fun W G h => by rw [hLL] at h; exact ⟨h.o 0 _ _ rfl, h.o 3 _ _ rfl⟩)
 have K9 := S9.l.o 2 _ _ rfl
 have c0 := K9.c 0 _ rfl
 have u5 := (S9.l.o 0 _ _ rfl).c 5 _ rfl
 obtain ⟨y0, y1⟩ := P8.c2
 have g0 := P8.f 0
 have g1 := P8.f 1
 obtain ⟨q0, q1⟩ := (S9.l.o 3 _ _ rfl).c2
 rw [← hLL] at S9
 have HS := hQd S9
 clear hw8 e8 p8 h8 P8 S9 hLL K9 c1 c2 c3 c4 H6
 go_upto_region 7 with fail
 rw [← hW9]
 clear hW9 y0 y1 g0 g1
 go_upto_region 9 with fail
 go_cut [42] (fun v wx => v = .bool (gr && decide (g.b < 12)) ∧ W9 = wx)
 case first =>
  cases gr
  · go_wp2_with fail
    go_meet
    exact ⟨rfl, rfl⟩
  go_wp2_with fail
  go_meet
  exact ⟨rfl, rfl⟩
 obtain ⟨rfl, rfl⟩ := hcut
 generalize (gr && decide (g.b < 12)) = bb
 go_upto_if 42 with fail
 go_cut [4] (fun v wx => v = .pointer (some ⟨P, 0, none⟩) ∧ ∃ G s m, Bgn w wx G LL B C g s m [] 1)
 case first =>
  have hgb0 := hgm.out.b0
  have hgb1 := hgm.out.b1
  cases bb with
  | true =>
    go_wp2_with fail
    refine (Af8 _ _ HS.out.q HS.out.l.e.hi (by decide) (by decide) (by decide) (by omega) (by omega) HS.out.n0 (by have := HS.out.n1; omega)).mono ?_
    rintro e w10 ⟨rfl, G10, e10, q10⟩
    have S10 := HS.out.to (n' := 1) (it' := []) e10 q10 (by show (0 : Int) ≤ 0 + 1; decide) (by show (0 : Int) + 1 ≤ 1; decide) (by decide) rfl rfl
    clear e10 q10
    go_wp2_with fail
    go_meet
    exact ⟨rfl, G10, _, _, S10⟩
  | false =>
    go_wp2_with fail
    go_meet
    exact ⟨rfl, G8, _, _, HS.out.mono (by decide)⟩
 obtain ⟨rfl, G, s, m, S⟩ := hcut
 have HS := hQd S
 clear S u5 c0 q0 q1
 go_wp2_with fail
 go_loopw [5] (fun i wr => ∃ (k : Nat) (G : Om) (s : AW) (m : Nat), k ≤ it.length ∧ i = .int .i64 k ∧ Bgn w wr G LL B C g s m (it.take k) 1) (fun i _ => it.length - (intOf i).toNat)
 case atStart => exact ⟨0, G, s, m, Nat.zero_le _, rfl, by simpa using HS.out⟩
 clear HS
 obtain ⟨k, G, s, m, hk, rfl, S⟩ := hrel
 have HS := hQd S
 obtain ⟨f0, p0⟩ := HO.out _ _ S.l
 have t6 := f0.c 6 _ rfl
 obtain ⟨y0, y1⟩ := p0.c2
 clear S f0 p0
 have hl40 := HF.out.it1
 dsimp only at hl40
 by_cases hlt : k < it.length
 · obtain ⟨b', o', c', he, hv⟩ := HF.out.it.at9 Agk (by decide) hlt
   cases he
   obtain ⟨x, hx⟩ := exq (it[k])
   have hv : ∀ W G, Ext SB O0 w G W → ∀ j u, (itc x)[j]? = some u → W.cell? ⟨b', o' + k * 6 + j, none⟩ = some u := by rw [hx]; exact hv
   have HV := hQd hv
   have HX := hQd hx
   have v0 := hv _ _ HS.out.l.e 0 _ rfl
   have v1 := hv _ _ HS.out.l.e 1 _ rfl
   have v2 := hv _ _ HS.out.l.e 2 _ rfl
   have v3 := hv _ _ HS.out.l.e 3 _ rfl
   have v4 := hv _ _ HS.out.l.e 4 _ rfl
   have v5 := hv _ _ HS.out.l.e 5 _ rfl
   rw [Nat.add_zero] at v0
   clear hv hx
   go_wp2_with fail
   go_region_held3 (fun w' => w'.cell? ⟨P, 0, none⟩ = some (.pointer (some ⟨B.p, 0, none⟩)) ∧ w'.cell? ⟨P, 1, none⟩ = some (.pointer (some ⟨C.p, 0, none⟩)) ∧ w'.cell? ⟨N, 6, none⟩ = some (.slice (some ⟨b', o', none⟩) it.length ci) ∧ w'.cell? ⟨b', o' + k * 6, none⟩ = some (.string x.key) ∧ w'.cell? ⟨b', o' + k * 6 + 1, none⟩ = some (.string x.val) ∧ w'.cell? ⟨b', o' + k * 6 + 2, none⟩ = some (.int .u32 x.fl) ∧ w'.cell? ⟨b', o' + k * 6 + 3, none⟩ = some (.int .u64 x.id) ∧ w'.cell? ⟨b', o' + k * 6 + 4, none⟩ = some (.int .i64 x.dies) ∧ w'.cell? ⟨b', o' + k * 6 + 5, none⟩ = some (.int .i64 x.gen)) (go_keep)
    ((go_at_call 24
      have SD := HS.out.below (Aaa wr)
      refine (Azc (w := wr.drew) x SD.q SD.l.e.hi (by rw [SD.it]; simp; omega)).mono ?_
      rintro e w11 ⟨rfl, G11, e11, q11⟩
      have S11 := SD.to (n' := 1) (it' := it.take (k + 1)) e11 q11 SD.n0 SD.n1 SD.m1 (by show s.it ++ [x] = _; rw [SD.it, HX.out]; simp) rfl
      clear e11 q11
      obtain ⟨f1, p1⟩ := HO.out _ _ S11.l
      have t6 := f1.c 6 _ rfl
      obtain ⟨y0, y1⟩ := p1.c2
      have v0 := HV.out _ _ S11.l.e 0 _ rfl
      have v1 := HV.out _ _ S11.l.e 1 _ rfl
      have v2 := HV.out _ _ S11.l.e 2 _ rfl
      have v3 := HV.out _ _ S11.l.e 3 _ rfl
      have v4 := HV.out _ _ S11.l.e 4 _ rfl
      have v5 := HV.out _ _ S11.l.e 5 _ rfl
      rw [Nat.add_zero] at v0
      have H11 := hQd S11
      clear S11 SD f1 p1))
   all_goals
    go_wp2_with fail
    go_roundw
    case rel => exact ⟨k + 1, G11, _, _, by omega, by go_num, H11.out⟩
    case measure => simp [intOf]; omega
 obtain rfl : k = it.length := by omega
 have HS2 : Hid (Bgn w wr G LL B C g s m it 1) := hQd (by have := HS.out; rwa [List.take_length] at this)
 clear HS
 go_wp2_with fail
 go_loopw [6] (fun i wr => ∃ (k : Nat) (G : Om) (s : AW) (m : Nat), k ≤ pu.length ∧ i = .int .i64 k ∧ Bgn w wr G LL B C g s m it (1 + 2 * k)) (fun i _ => pu.length - (intOf i).toNat)
 case atStart => exact ⟨0, G, s, m, Nat.zero_le _, rfl, HS2.out⟩
 clear HS2 t6 y0 y1
 obtain ⟨k, G, s, m, hk, rfl, S⟩ := hrel
 have HS := hQd S
 obtain ⟨f0, p0⟩ := HO.out _ _ S.l
 obtain ⟨-, -, -, -, -, -, t6, t7, -, t9⟩ := f0.c10
 obtain ⟨y0, y1⟩ := p0.c2
 clear S f0 p0
 have hl60 := HF.out.pu1
 dsimp only at hl60
 by_cases hgo : k < pu.length ∧ 0 < it.length
 · obtain ⟨hkp, hip⟩ := hgo
   obtain ⟨b', o', c', he, hv⟩ := HF.out.pu.at9 (fun _ => rfl) (by decide) hkp
   cases he
   obtain ⟨x, hx⟩ := exq (pu[k])
   have hv : ∀ W G, Ext SB O0 w G W → ∀ j u, (Bad x)[j]? = some u → W.cell? ⟨b', o' + k * 3 + j, none⟩ = some u := by rw [hx]; exact hv
   have HV := hQd hv
   have HX := hQd hx
   have v0 := hv _ _ HS.out.l.e 0 _ rfl
   have v1 := hv _ _ HS.out.l.e 1 _ rfl
   have v2 := hv _ _ HS.out.l.e 2 _ rfl
   rw [Nat.add_zero] at v0
   have hxb := hQd (HF.out.pub x (by rw [hx]; exact List.getElem_mem _))
   have HIP := hQd hip
   clear hv hx
   go_wp2_with fail
   go_region_held3 (fun w' => w'.cell? ⟨P, 0, none⟩ = some (.pointer (some ⟨B.p, 0, none⟩)) ∧ w'.cell? ⟨P, 1, none⟩ = some (.pointer (some ⟨C.p, 0, none⟩)) ∧ w'.cell? ⟨N, 6, none⟩ = some (.slice ai it.length ci) ∧ w'.cell? ⟨N, 7, none⟩ = some (.slice (some ⟨b', o', none⟩) pu.length cp) ∧ w'.cell? ⟨b', o' + k * 3, none⟩ = some (.int .u8 x.1) ∧ w'.cell? ⟨b', o' + k * 3 + 1, none⟩ = some (.int .u8 x.2.1) ∧ w'.cell? ⟨b', o' + k * 3 + 2, none⟩ = some (.int .u8 x.2.2)) (go_keep)
    ((go_at_call 25
      have SD := HS.out.below (Aaa wr)
      refine (Bbe (w := wr.drew) x.1 x.2.1 x.2.2 it.length SD.q SD.l.e.hi (by rw [SD.it]) (by rw [SD.it]; exact HIP.out) (by rw [SD.it]; exact HF.out.key) (by rw [SD.it]; omega) (by have := SD.m1; omega) SD.n0 (by have := SD.n1; omega) hxb.out.1.1 hxb.out.1.2 hxb.out.2.1.1 hxb.out.2.1.2 hxb.out.2.2.1 hxb.out.2.2.2).mono ?_
      rintro e w11 ⟨rfl, G11, e11, s2, q11, sn, si, sx⟩
      have S11 := SD.to (n' := 1 + 2 * ((k + 1 : Nat) : Int)) (it' := it) e11 q11 (by have := SD.n0; omega) (by have := SD.n1; push_cast; omega) (by have := SD.m1; push_cast; omega) (si.trans SD.it) sx
      clear e11 q11 sn si sx
      obtain ⟨f1, p1⟩ := HO.out _ _ S11.l
      obtain ⟨-, -, -, -, -, -, t6, t7⟩ := f1.c8
      obtain ⟨y0, y1⟩ := p1.c2
      have v0 := HV.out _ _ S11.l.e 0 _ rfl
      have v1 := HV.out _ _ S11.l.e 1 _ rfl
      have v2 := HV.out _ _ S11.l.e 2 _ rfl
      rw [Nat.add_zero] at v0
      have H11 := hQd S11
      clear S11 SD f1 p1))
   all_goals
    go_wp2_with fail
    go_roundw
    case rel => exact ⟨k + 1, G11, _, _, by omega, by go_num, H11.out⟩
    case measure => simp [intOf]; omega
 go_upto_region 16 with fail
 go_cut [78] (fun v wx => v = .bool false ∧ wr = wx)
 case first =>
  by_cases hg1 : k < pu.length
  · have hg2 : ¬ (0 < it.length) := by omega
    clear hgo
    go_wp2_with fail
    go_meet
    exact ⟨rfl, rfl⟩
  clear hgo
  go_wp2_with fail
  go_meet
  exact ⟨rfl, rfl⟩
 obtain ⟨rfl, rfl⟩ := hcut
 clear t6 t7 t9 y0 y1 hgo
 go_wp2_with fail
 go_loopw [7] (fun i wr => ∃ (k : Nat) (G : Om) (s : AW) (m : Nat), k ≤ 40 ∧ i = .int .i64 k ∧ Bgn w wr G LL B C g s m it (121 + k)) (fun i _ => 40 - (intOf i).toNat)
 case atStart => exact ⟨0, G, s, m, Nat.zero_le _, rfl, HS.out.mono (by push_cast; omega)⟩
 clear HS
 obtain ⟨k, G, s, m, hk, rfl, S⟩ := hrel
 have HS := hQd S
 obtain ⟨f0, p0⟩ := HO.out _ _ S.l
 have t9 := f0.c 9 _ rfl
 obtain ⟨y0, y1⟩ := p0.c2
 clear S f0 p0
 have hti0 := HF.out.ti0
 have hti1 := HF.out.ti1
 dsimp only at hti0 hti1
 by_cases hgo : (k : Int) < ti ∧ k < 40
 · obtain ⟨hg1, hg2⟩ := hgo
   go_wp2_with fail
   refine (Azb HS.out.q HS.out.l.e.hi (by have := HS.out.m1; omega) HS.out.n0 (by have := HS.out.n1; omega)).mono ?_
   rintro e w11 ⟨rfl, G11, e11, q11⟩
   have H11 := hQd (HS.out.to (n' := 121 + ((k + 1 : Nat) : Int)) (it' := it) e11 q11 (by show 0 ≤ s.n + 1; have := HS.out.n0; omega) (by show s.n + 1 ≤ _; have := HS.out.n1; push_cast; omega) (by have := HS.out.m1; push_cast; omega) HS.out.it rfl)
   clear e11 q11
   go_wp2_with fail
   go_roundw
   case rel => exact ⟨k + 1, G11, _, _, by omega, by go_num, H11.out⟩
   case measure => simp [intOf]; omega
 go_upto_region 20 with fail
 go_cut [98] (fun v wx => v = .bool false ∧ wr = wx)
 case first =>
  by_cases hg1 : (k : Int) < ti
  · have hg2 : ¬ (k < 40) := by omega
    clear hgo
    go_wp2_with fail
    go_meet
    exact ⟨by simp; omega, rfl⟩
  clear hgo
  go_wp2_with fail
  go_meet
  exact ⟨rfl, rfl⟩
 obtain ⟨rfl, rfl⟩ := hcut
 clear t9 y0 y1 hgo hti0 hti1
 go_wp2_with fail
 go_loopw [8] (fun i wr => ∃ (k : Nat) (G : Om) (s : AW) (m : Nat), k ≤ st.length ∧ i = .int .i64 k ∧ Bgn w wr G LL B C g s m it (161 + k)) (fun i _ => st.length - (intOf i).toNat)
 case atStart => exact ⟨0, G, s, m, Nat.zero_le _, rfl, HS.out.mono (by push_cast; omega)⟩
 clear HS
 obtain ⟨k, G, s, m, hk, rfl, S⟩ := hrel
 have HS := hQd S
 obtain ⟨f0, p0⟩ := HO.out _ _ S.l
 have t8 := f0.c 8 _ rfl
 obtain ⟨y0, y1⟩ := p0.c2
 clear S f0 p0
 have hl60 := HF.out.st1
 dsimp only at hl60
 by_cases hlt : k < st.length
 · obtain ⟨b', o', c', he, hv⟩ := HF.out.st.at9 (fun _ => rfl) (by decide) hlt
   cases he
   obtain ⟨x, hx⟩ := exq (st[k])
   have hv : ∀ W G, Ext SB O0 w G W → ∀ j u, (Azt x)[j]? = some u → W.cell? ⟨b', o' + k * 2 + j, none⟩ = some u := by rw [hx]; exact hv
   have HV := hQd hv
   have HX := hQd hx
   have v0 := hv _ _ HS.out.l.e 0 _ rfl
   have v1 := hv _ _ HS.out.l.e 1 _ rfl
   rw [Nat.add_zero] at v0
   have hxb := hQd (HF.out.stb x (by rw [hx]; exact List.getElem_mem _))
   clear hv hx
   go_wp2_with fail
   go_region_held3 (fun w' => w'.cell? ⟨P, 0, none⟩ = some (.pointer (some ⟨B.p, 0, none⟩)) ∧ w'.cell? ⟨P, 1, none⟩ = some (.pointer (some ⟨C.p, 0, none⟩)) ∧ w'.cell? ⟨N, 8, none⟩ = some (.slice (some ⟨b', o', none⟩) st.length cs) ∧ w'.cell? ⟨b', o' + k * 2, none⟩ = some (.int .u64 x.1) ∧ w'.cell? ⟨b', o' + k * 2 + 1, none⟩ = some (.int .u64 x.2)) (go_keep)
    ((go_at_call 9
      have SD := HS.out.below (Aaa wr)
      refine (Af8 (w := wr.drew) x.1 x.2 SD.q SD.l.e.hi (by have := SD.m1; omega) hxb.out.1.1 hxb.out.1.2 hxb.out.2.1 hxb.out.2.2 SD.n0 (by have := SD.n1; omega)).mono ?_
      rintro e w11 ⟨rfl, G11, e11, q11⟩
      have S11 := SD.to (n' := 161 + ((k + 1 : Nat) : Int)) (it' := it) e11 q11 (by show 0 ≤ s.n + 1; have := SD.n0; omega) (by show s.n + 1 ≤ _; have := SD.n1; push_cast; omega) (by have := SD.m1; push_cast; omega) SD.it rfl
      clear e11 q11
      obtain ⟨f1, p1⟩ := HO.out _ _ S11.l
      have t8 := f1.c 8 _ rfl
      obtain ⟨y0, y1⟩ := p1.c2
      have v0 := HV.out _ _ S11.l.e 0 _ rfl
      have v1 := HV.out _ _ S11.l.e 1 _ rfl
      rw [Nat.add_zero] at v0
      have H11 := hQd S11
      clear S11 SD f1 p1))
   all_goals
    go_wp2_with fail
    go_roundw
    case rel => exact ⟨k + 1, G11, _, _, by omega, by go_num, H11.out⟩
    case measure => simp [intOf]; omega
 have RR := HS.out.l
 rw [HL2.out] at RR
 have r0 := RR.o 1 _ _ rfl
 obtain ⟨q0, q1⟩ := r0.c2
 have z0 := r0.f 0
 have z1 := r0.f 1
 have R1 := RR.set 1 rfl 0 (.pointer (some ⟨B.p, 0, none⟩)) (by simp)
 have R2 := R1.set 1 rfl 1 (.pointer (some ⟨C.p, 0, none⟩)) (by simp)
 have Q2 := (HS.out.q.set9 (j := 0) (v := .pointer (some ⟨B.p, 0, none⟩)) RR.e.hi r0.o).set9 (j := 1) (v := .pointer (some ⟨C.p, 0, none⟩)) R1.e.hi r0.o
 have H3 := hQd (aN R2.e Q2)
 clear RR r0 R1 R2 Q2
 go_wp2_with fail
 exact bodyPost_ret (v := .agg #[.pointer (some ⟨B.p, 0, none⟩), .pointer (some ⟨C.p, 0, none⟩)]) (by simp [results, Tryz.results6, go_sem, q0, q1, z0, z1]) rfl ⟨B, C, rfl, G, H3.out.1, s, m, by rw [← HG.out]; exact H3.out.2, HS.out.n0, by have := HS.out.n1; omega, by have := HS.out.m1; omega, HS.out.it, HS.out.nt⟩
end
section
open Go.RowKit
theorem Aqk {S : Nat → Prop} {w W w1 : World} {G : Om} (hb : Below w.heap.size w W) (e : Ext S O0 W G w1) : Env w G w1 := by
 refine ⟨fun j hj => ?_, e.hi, hb.trans ((e.wr.below (fun k _ hk => absurd rfl hk.2) (Nat.le_refl _)).mono hb.size)⟩
 by_cases h : j < W.heap.size
 · exact absurd (e.lo j h) (by show ¬ G j = 0; exact hj)
 have := hb.size; omega
end
end Go.Proofs.YthbodknlhkapdaaGreat
