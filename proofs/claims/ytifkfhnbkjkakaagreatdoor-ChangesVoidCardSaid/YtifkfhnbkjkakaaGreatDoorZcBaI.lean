/- A pair of worlds: contracts of Store, Tick, Item. A pair of worlds: contracts of put and of what it calls. A pair of worlds as a law begins: contracts of Other and Begin. What a law has behind its Begin. -/
import Derived.Test.YtifkfhnbkjkakaaGreatDoorZcBaG
import Derived.Test.YtifkfhnbkjkakaaGreatDoorZcBaE
import Derived.Test.YtifkfhnbkjkakaaGreatDoorZcBaD
namespace Go.Proofs.YtifkfhnbkjkakaaGreatDoor
set_option linter.unusedSimpArgs false
set_option linter.unusedVariables false
set_option maxHeartbeats 4000000
set_option maxRecDepth 100000
section
open Go.RowKit
structure PR (w : World) (O : Om) (B C : Wb) (f : Cf) (s : AW) (m : Nat) : Prop where
 p : PW w O B f s
 r : RW w O C f s m
def SP (t : Nat) : Prop := 1 ≤ t ∧ t ≤ 8
theorem sp_sw {t : Nat} (h : SW t) : SP t := ⟨h.1, by have := h.2; omega⟩
theorem sp_sr {t : Nat} (h : SR t) : SP t := ⟨by have := h.1; omega, h.2⟩
section
variable {S : Nat → Prop} {O O' : Om} {w w' : World} {B C : Wb} {f : Cf} {s s1 : AW} {m : Nat}
theorem PR.below (h : PR w O B C f s m) (hhi : ∀ j, O j ≠ 0 → j < w.heap.size) (hb : Below w.heap.size w w') : PR w' O B C f s m := ⟨h.p.below hhi hb, h.r.below hhi hb⟩
theorem RW.sw (h : RW w O C f s m) (e : Ext SW O w O' w') : RW w' O' C f s m := h.ext e (fun h => by have := h.2; omega) (fun h => by have := h.2; omega) (fun h => by have := h.2; omega) (fun h => by have := h.2; omega)
theorem PW.sr (h : PW w O B f s) (e : Ext SR O w O' w') : PW w' O' B f s := h.ext e (fun h => by have := h.1; omega) (fun h => by have := h.1; omega) (fun h => by have := h.1; omega) (fun h => by have := h.1; omega)
end
theorem zero_own {O : Om} {w : World} (h : ∀ j, O j ≠ 0 → j < w.heap.size) {j : Nat} (hj : w.heap.size ≤ j) : O j = 0 := by
 by_cases hz : O j = 0
 · exact hz
 · exact absurd (h j hz) (by omega)
theorem c_PStore (a v : Int) {w : World} {O : Om} {B C : Wb} {f : Cf} {s : AW} {m : Nat} (h : PR w O B C f s m) (hhi : ∀ j, O j ≠ 0 → j < w.heap.size) (hm : m ≤ 1000000) (a0 : 0 ≤ a) (a1 : a < 18446744073709551616) (v0 : 0 ≤ v) (v1 : v < 18446744073709551616) (n0 : 0 ≤ s.n) (n1 : s.n ≤ 4611686018427387904) :
 Calls Tryz.prog 59 #[.agg #[.pointer (some ⟨B.p, 0, none⟩), .pointer (some ⟨C.p, 0, none⟩)], .agg #[.int .u64 a, .int .u64 v]] w (RP SP w O (.tuple #[]) fun W G => PR W G B C f (awStore a v s) (m + 1)) := by
 obtain ⟨W, hW⟩ : ∃ W, W = (w.alloc (.cells #[.pointer (some ⟨B.p, 0, none⟩), .pointer (some ⟨C.p, 0, none⟩)] 62)).alloc (.cells #[.int .u64 a, .int .u64 v] 145) := ⟨_, rfl⟩
 have b1 : Below w.heap.size w (w.alloc (.cells #[.pointer (some ⟨B.p, 0, none⟩), .pointer (some ⟨C.p, 0, none⟩)] 62)) := (Below.refl _ _).alloc (Nat.le_refl _) _
 have b2 : Below (w.heap.size + 1) (w.alloc (.cells #[.pointer (some ⟨B.p, 0, none⟩), .pointer (some ⟨C.p, 0, none⟩)] 62)) W := by rw [hW, ← World.heap_size_alloc' w (.cells #[.pointer (some ⟨B.p, 0, none⟩), .pointer (some ⟨C.p, 0, none⟩)] 62)]; exact (Below.refl _ _).alloc (Nat.le_refl _) _
 have hB : Below w.heap.size w W := b1.trans (b2.mono (by omega))
 have hz : W.heap.size = w.heap.size + 2 := by rw [hW]; simp
 have p0 : W.cell? ⟨w.heap.size, 0, none⟩ = some (.pointer (some ⟨B.p, 0, none⟩)) := (b2.cell (p := ⟨w.heap.size, 0, none⟩) (by show w.heap.size < w.heap.size + 1; omega)).trans (cell_newA w #[.pointer (some ⟨B.p, 0, none⟩), .pointer (some ⟨C.p, 0, none⟩)] _ _ rfl 0 _ rfl)
 have p1 : W.cell? ⟨w.heap.size, 1, none⟩ = some (.pointer (some ⟨C.p, 0, none⟩)) := (b2.cell (p := ⟨w.heap.size, 1, none⟩) (by show w.heap.size < w.heap.size + 1; omega)).trans (cell_newA w #[.pointer (some ⟨B.p, 0, none⟩), .pointer (some ⟨C.p, 0, none⟩)] _ _ rfl 1 _ rfl)
 have k0 : W.cell? ⟨w.heap.size + 1, 0, none⟩ = some (.int .u64 a) := by rw [hW]; exact cell_newA _ #[.int .u64 a, .int .u64 v] _ _ (by simp) 0 _ rfl
 have k1 : W.cell? ⟨w.heap.size + 1, 1, none⟩ = some (.int .u64 v) := by rw [hW]; exact cell_newA _ #[.int .u64 a, .int .u64 v] _ _ (by simp) 1 _ rfl
 have hP := h.below hhi hB
 have E0 := Lib.hid (Ext.of_below (S := SP) hhi hB)
 have q0 := hP.p.wo.c0
 have hpl := hP.p.wo.lt
 have o1 := zero_own hhi (Nat.le_refl w.heap.size)
 have o2 := zero_own hhi (show w.heap.size ≤ w.heap.size + 1 by omega)
 have O1 := Lib.hid o1
 have O2 := Lib.hid o2
 have hl0 : w.heap.size < W.heap.size := by omega
 have hl1 : w.heap.size + 1 < W.heap.size := by omega
 have HP := Lib.hid hP
 clear h hhi hB b1 b2 hP o1 o2 hz
 go_enter Tryz.func59, Tryz.ntmps59
 go_upto_region 1 with (fail)
 rw [← hW]
 clear hW
 go_region_held3 (fun w' => w'.cell? ⟨w.heap.size, 0, none⟩ = some (.pointer (some ⟨B.p, 0, none⟩)) ∧ w'.cell? ⟨w.heap.size, 1, none⟩ = some (.pointer (some ⟨C.p, 0, none⟩)) ∧ w'.cell? ⟨w.heap.size + 1, 0, none⟩ = some (.int .u64 a) ∧ w'.cell? ⟨w.heap.size + 1, 1, none⟩ = some (.int .u64 v) ∧ w'.cell? ⟨B.p, 0, none⟩ = some (.pointer (some ⟨B.c, 0, none⟩))) (go_keep)
  ((go_at_call 50
    refine (c_StoreP (w := W.drew) a v (HP.out.p.below E0.out.hi (drew_below W)) E0.out.hi a0 a1 v0 v1 n0 n1).mono ?_
    rintro e w1 ⟨rfl, G, e1, pw⟩
    have z0 := (e1.cell (p := ⟨w.heap.size, 0, none⟩) hl0 (by show ¬ SW (O w.heap.size); rw [O1.out]; exact fun h => absurd h.1 (by decide))).trans p0
    have z1 := (e1.cell (p := ⟨w.heap.size, 1, none⟩) hl0 (by show ¬ SW (O w.heap.size); rw [O1.out]; exact fun h => absurd h.1 (by decide))).trans p1
    have z2 := (e1.cell (p := ⟨w.heap.size + 1, 0, none⟩) hl1 (by show ¬ SW (O (w.heap.size + 1)); rw [O2.out]; exact fun h => absurd h.1 (by decide))).trans k0
    have z3 := (e1.cell (p := ⟨w.heap.size + 1, 1, none⟩) hl1 (by show ¬ SW (O (w.heap.size + 1)); rw [O2.out]; exact fun h => absurd h.1 (by decide))).trans k1
    have z4 := pw.wo.c0
    have E1 := Lib.hid (E0.out.drew.trans (e1.mono fun t _ h => sp_sw h))
    have P1 := Lib.hid pw
    have R1 := Lib.hid ((HP.out.r.below E0.out.hi (drew_below W)).sw e1)
    clear e1 pw))
 all_goals
  clear p0 p1 k0 k1 q0
  go_wp2_with fail
  refine (c_rwStore a v R1.out hm a0 a1 v0 v1 E1.out.hi n0 n1).mono ?_
  rintro e w2 ⟨rfl, G2, e2, rw2⟩
  have HE := Lib.hid (And.intro (E1.out.trans (e2.mono fun t _ h => sp_sr h)) (PR.mk (P1.out.sr e2) rw2))
  clear e2 rw2
  go_wp2
  go_end0
  exact ⟨rfl, G2, HE.out⟩
theorem c_PTick {w : World} {O : Om} {B C : Wb} {f : Cf} {s : AW} {m : Nat} (h : PR w O B C f s m) (hhi : ∀ j, O j ≠ 0 → j < w.heap.size) (hm : m ≤ 1000000) (n0 : 0 ≤ s.n) (n1 : s.n ≤ 4611686018427387904) :
 Calls Tryz.prog 62 #[.agg #[.pointer (some ⟨B.p, 0, none⟩), .pointer (some ⟨C.p, 0, none⟩)]] w (RP SP w O (.tuple #[]) fun W G => PR W G B C f (awTick s) (m + 1)) := by
 have hB : Below w.heap.size w (w.alloc (.cells #[.pointer (some ⟨B.p, 0, none⟩), .pointer (some ⟨C.p, 0, none⟩)] 62)) := (Below.refl _ _).alloc (Nat.le_refl _) _
 have hP := h.below hhi hB
 have E0 := Lib.hid (Ext.of_below (S := SP) hhi hB)
 have O1 := Lib.hid (zero_own hhi (Nat.le_refl w.heap.size))
 have HT := Lib.hid (c_WTick _ O B f s hP.p E0.out.hi n0 n1)
 have HR := Lib.hid hP.r
 clear h hhi hB hP
 go_enter Tryz.func62, Tryz.ntmps62
 go_wp2_with fail
 refine (HT.out).mono ?_
 rintro e w1 ⟨rfl, G, e1, pw⟩
 have z1 : w1.cell? ⟨w.heap.size, 1, none⟩ = some (.pointer (some ⟨C.p, 0, none⟩)) := (e1.cell (p := ⟨w.heap.size, 1, none⟩) (by simp) (by show ¬ SW (O w.heap.size); rw [O1.out]; exact fun h => absurd h.1 (by decide))).trans (cell_newA w #[.pointer (some ⟨B.p, 0, none⟩), .pointer (some ⟨C.p, 0, none⟩)] _ _ rfl 1 _ rfl)
 have E1 := Lib.hid (E0.out.trans (e1.mono fun t _ h => sp_sw h))
 have P1 := Lib.hid pw
 have R1 := Lib.hid (HR.out.sw e1)
 clear e1 pw HT
 go_wp2_with fail
 refine (c_rwTick R1.out hm E1.out.hi n0 n1).mono ?_
 rintro e w2 ⟨rfl, G2, e2, rw2⟩
 have HE := Lib.hid (And.intro (E1.out.trans (e2.mono fun t _ h => sp_sr h)) (PR.mk (P1.out.sr e2) rw2))
 clear e2 rw2
 go_wp2
 go_end0
 exact ⟨rfl, G2, HE.out⟩
def awItemI (x : It) (s : AW) : AW := ⟨s.M, s.n, s.la, s.tk, s.ho, s.it ++ [x], s.nt⟩
theorem PW.item {w w' : World} {O O' : Om} {B : Wb} {f : Cf} {s : AW} {l : List It} (h : PW w O B f s) (e : Ext (fun t => t = 3) O w O' w') (hc : Ar w' O' 3 B.ip l) : PW w' O' B f ⟨s.M, s.n, s.la, s.tk, s.ho, l, s.nt⟩ :=
 ⟨(e.lo _ h.wo.lt).trans h.o, h.wo.wrote e.wr (fun k => absurd (show (1 : Nat) = 3 from by have := k.1; rwa [h.o] at this) (by decide)), h.ce.ext e (by decide) (by decide), hc, h.no.ext e (by decide)⟩
theorem RW.item {w w' : World} {O O' : Om} {B : Wb} {f : Cf} {s : AW} {m : Nat} {l : List It} (h : RW w O B f s m) (e : Ext (fun t => t = 7) O w O' w') (hc : LH w' O' 7 34 6 itc B.ip l) : RW w' O' B f ⟨s.M, s.n, s.la, s.tk, s.ho, l, s.nt⟩ m :=
 ⟨(e.lo _ h.wo.lt).trans h.o, h.wo.wrote e.wr (fun k => absurd (show (5 : Nat) = 7 from by have := k.1; rwa [h.o] at this) (by decide)), h.ce.ext e (by decide), hc, h.no.ext e (by decide)⟩
theorem c_PItem (x : It) {w : World} {O : Om} {B C : Wb} {f : Cf} {s : AW} {m : Nat} (h : PR w O B C f s m) (hhi : ∀ j, O j ≠ 0 → j < w.heap.size) (hl : s.it.length ≤ 1000000) :
 Calls Tryz.prog 60 #[.agg #[.pointer (some ⟨B.p, 0, none⟩), .pointer (some ⟨C.p, 0, none⟩)], .agg #[.string x.key, .string x.val, .int .u32 x.fl, .int .u64 x.id, .int .i64 x.dies, .int .i64 x.gen]] w (RP SP w O (.tuple #[]) fun W G => PR W G B C f (awItemI x s) m) := by
 obtain ⟨W, hW⟩ : ∃ W, W = (w.alloc (.cells #[.pointer (some ⟨B.p, 0, none⟩), .pointer (some ⟨C.p, 0, none⟩)] 62)).alloc (.cells #[.string x.key, .string x.val, .int .u32 x.fl, .int .u64 x.id, .int .i64 x.dies, .int .i64 x.gen] 34) := ⟨_, rfl⟩
 have b1 : Below w.heap.size w (w.alloc (.cells #[.pointer (some ⟨B.p, 0, none⟩), .pointer (some ⟨C.p, 0, none⟩)] 62)) := (Below.refl _ _).alloc (Nat.le_refl _) _
 have b2 : Below (w.heap.size + 1) (w.alloc (.cells #[.pointer (some ⟨B.p, 0, none⟩), .pointer (some ⟨C.p, 0, none⟩)] 62)) W := by rw [hW, ← World.heap_size_alloc' w (.cells #[.pointer (some ⟨B.p, 0, none⟩), .pointer (some ⟨C.p, 0, none⟩)] 62)]; exact (Below.refl _ _).alloc (Nat.le_refl _) _
 have hB : Below w.heap.size w W := b1.trans (b2.mono (by omega))
 have hz : W.heap.size = w.heap.size + 2 := by rw [hW]; simp
 have p0 : W.cell? ⟨w.heap.size, 0, none⟩ = some (.pointer (some ⟨B.p, 0, none⟩)) := (b2.cell (p := ⟨w.heap.size, 0, none⟩) (by show w.heap.size < w.heap.size + 1; omega)).trans (cell_newA w #[.pointer (some ⟨B.p, 0, none⟩), .pointer (some ⟨C.p, 0, none⟩)] _ _ rfl 0 _ rfl)
 have p1 : W.cell? ⟨w.heap.size, 1, none⟩ = some (.pointer (some ⟨C.p, 0, none⟩)) := (b2.cell (p := ⟨w.heap.size, 1, none⟩) (by show w.heap.size < w.heap.size + 1; omega)).trans (cell_newA w #[.pointer (some ⟨B.p, 0, none⟩), .pointer (some ⟨C.p, 0, none⟩)] _ _ rfl 1 _ rfl)
 have hx : ∀ j u, (itc x)[j]? = some u → W.cell? ⟨w.heap.size + 1, j, none⟩ = some u := fun j u hu => by rw [hW]; exact cell_newA _ #[.string x.key, .string x.val, .int .u32 x.fl, .int .u64 x.id, .int .i64 x.dies, .int .i64 x.gen] _ _ (by simp) j u (by simpa [itc] using hu)
 have x0 := hx 0 _ rfl
 have x1 := hx 1 _ rfl
 have x2 := hx 2 _ rfl
 have x3 := hx 3 _ rfl
 have x4 := hx 4 _ rfl
 have x5 := hx 5 _ rfl
 have HX := Lib.hid hx
 have hP := h.below hhi hB
 have E0 := Lib.hid (Ext.of_below (S := SP) hhi hB)
 have q0 := hP.p.wo.c1
 have hpl := hP.p.wo.lt
 have O1 := Lib.hid (zero_own hhi (Nat.le_refl w.heap.size))
 have O2 := Lib.hid (zero_own hhi (show w.heap.size ≤ w.heap.size + 1 by omega))
 have hl0 : w.heap.size < W.heap.size := by omega
 have hl1 : w.heap.size + 1 < W.heap.size := by omega
 have HP := Lib.hid hP
 clear h hhi hB b1 b2 hP hz hx
 go_enter Tryz.func60, Tryz.ntmps60
 go_upto_region 1 with (fail)
 rw [← hW]
 clear hW
 go_region_held3 (fun w' => w'.cell? ⟨w.heap.size, 0, none⟩ = some (.pointer (some ⟨B.p, 0, none⟩)) ∧ w'.cell? ⟨B.p, 1, none⟩ = some (.pointer (some ⟨B.ip, 0, none⟩)) ∧ w'.cell? ⟨w.heap.size + 1, 0, none⟩ = some (.string x.key) ∧ w'.cell? ⟨w.heap.size + 1, 1, none⟩ = some (.string x.val) ∧ w'.cell? ⟨w.heap.size + 1, 2, none⟩ = some (.int .u32 x.fl) ∧ w'.cell? ⟨w.heap.size + 1, 3, none⟩ = some (.int .u64 x.id) ∧ w'.cell? ⟨w.heap.size + 1, 4, none⟩ = some (.int .i64 x.dies) ∧ w'.cell? ⟨w.heap.size + 1, 5, none⟩ = some (.int .i64 x.gen)) (go_keep)
  ((go_at_call 111
    refine (c_IAdd (w := W.drew) x (HP.out.p.below E0.out.hi (drew_below W)).ar (by decide) hl E0.out.hi).mono ?_
    rintro e w1 ⟨rfl, G, e1, ar1⟩
    have z0 := (e1.cell (p := ⟨w.heap.size, 0, none⟩) hl0 (by show ¬ O w.heap.size = 3; rw [O1.out]; decide)).trans p0
    have z1 := (e1.cell (p := ⟨w.heap.size, 1, none⟩) hl0 (by show ¬ O w.heap.size = 3; rw [O1.out]; decide)).trans p1
    have hy : ∀ j u, (itc x)[j]? = some u → w1.cell? ⟨w.heap.size + 1, j, none⟩ = some u := fun j u hu => (e1.cell (p := ⟨w.heap.size + 1, j, none⟩) hl1 (by show ¬ O (w.heap.size + 1) = 3; rw [O2.out]; decide)).trans (HX.out j u hu)
    have y0 := hy 0 _ rfl
    have y1 := hy 1 _ rfl
    have y2 := hy 2 _ rfl
    have y3 := hy 3 _ rfl
    have y4 := hy 4 _ rfl
    have y5 := hy 5 _ rfl
    have HY := Lib.hid hy
    have E1 := Lib.hid (E0.out.drew.trans (e1.mono fun t _ h => by subst h; exact ⟨by decide, by decide⟩))
    have P1 := Lib.hid ((HP.out.p.below E0.out.hi (drew_below W)).item e1 ar1)
    have R1 := Lib.hid ((HP.out.r.below E0.out.hi (drew_below W)).ext e1 (by decide) (by decide) (by decide) (by decide))
    have z4 := P1.out.wo.c1
    have hs1 := e1.size
    have hm0 : w.heap.size < w1.heap.size := by have : W.heap.size ≤ w1.heap.size := hs1; omega
    have hm1 : w.heap.size + 1 < w1.heap.size := by have : W.heap.size ≤ w1.heap.size := hs1; omega
    have OO1 := Lib.hid ((e1.lo w.heap.size hl0).trans O1.out)
    have OO2 := Lib.hid ((e1.lo (w.heap.size + 1) hl1).trans O2.out)
    clear e1 ar1 hy hs1))
 all_goals
  clear p0 p1 x0 x1 x2 x3 x4 x5 q0
  have r0 := R1.out.wo.c1
  have hrl := R1.out.wo.lt
  go_wp2_with fail
  go_region_held3 (fun w' => w'.cell? ⟨w.heap.size, 1, none⟩ = some (.pointer (some ⟨C.p, 0, none⟩)) ∧ w'.cell? ⟨C.p, 1, none⟩ = some (.pointer (some ⟨C.ip, 0, none⟩)) ∧ w'.cell? ⟨w.heap.size + 1, 0, none⟩ = some (.string x.key) ∧ w'.cell? ⟨w.heap.size + 1, 1, none⟩ = some (.string x.val) ∧ w'.cell? ⟨w.heap.size + 1, 2, none⟩ = some (.int .u32 x.fl) ∧ w'.cell? ⟨w.heap.size + 1, 3, none⟩ = some (.int .u64 x.id) ∧ w'.cell? ⟨w.heap.size + 1, 4, none⟩ = some (.int .i64 x.dies) ∧ w'.cell? ⟨w.heap.size + 1, 5, none⟩ = some (.int .i64 x.gen)) (go_keep)
   ((go_at_call 112
     refine (c_r6Add x (R1.out.below E1.out.hi (drew_below w1)).ar (by decide) hl E1.out.drew.hi).mono ?_
     rintro e w2 ⟨rfl, G2, e2, ar2⟩
     have u0 := (e2.cell (p := ⟨w.heap.size, 1, none⟩) hm0 (by show ¬ G w.heap.size = 7; rw [OO1.out]; decide)).trans z1
     have hy2 : ∀ j u, (itc x)[j]? = some u → w2.cell? ⟨w.heap.size + 1, j, none⟩ = some u := fun j u hu => (e2.cell (p := ⟨w.heap.size + 1, j, none⟩) hm1 (by show ¬ G (w.heap.size + 1) = 7; rw [OO2.out]; decide)).trans (HY.out j u hu)
     have v0 := hy2 0 _ rfl
     have v1 := hy2 1 _ rfl
     have v2 := hy2 2 _ rfl
     have v3 := hy2 3 _ rfl
     have v4 := hy2 4 _ rfl
     have v5 := hy2 5 _ rfl
     have R2 := Lib.hid ((R1.out.below E1.out.hi (drew_below w1)).item e2 ar2)
     have P2 := Lib.hid ((P1.out.below E1.out.hi (drew_below w1)).ext e2 (by decide) (by decide) (by decide) (by decide))
     have u1 := R2.out.wo.c1
     have E2 := Lib.hid (E1.out.drew.trans (e2.mono fun t _ h => by subst h; exact ⟨by decide, by decide⟩))
     clear e2 ar2 hy2))
  all_goals
   go_wp2
   go_end0
   exact ⟨rfl, G2, E2.out, P2.out, R2.out⟩
end
section
open Go.RowKit
theorem c_rTag2 (x s : Int) (w : World) (x0 : 0 ≤ x) (x1 : x < 18446744073709551616) (s0 : 0 ≤ s) (s1 : s ≤ 3) :
 Calls Tryz.prog 182 #[.int .u64 x, .int .i64 s] w fun e w' => (∃ v : Int, e = .returned (.int .i64 v) ∧ 0 ≤ v ∧ v ≤ 255) ∧ w = w' := by
 go_enter Tryz.func182, Tryz.ntmps182
 go_wp2
 go_loop [0, 5] (fun y i => ∃ k : Nat, ∃ z : Int, (k : Int) ≤ s ∧ i = .int .i64 k ∧ y = .int .u64 z ∧ 0 ≤ z ∧ z < 18446744073709551616) (fun _ i => s.toNat - (intOf i).toNat)
 case atStart => exact ⟨0, x, by omega, rfl, rfl, x0, x1⟩
 case round =>
  obtain ⟨k, z, hk, rfl, rfl, z0, z1⟩ := hrel
  by_cases hlt : (k : Int) < s
  · go_wp2
    go_round
    case rel => exact ⟨k + 1, z / 256, by omega, by go_num, rfl, by omega, by omega⟩
    case measure => simp [intOf]; omega
  · go_wp2
    go_ret
    exact ⟨⟨z % 256, rfl, by omega, by omega⟩, rfl⟩
theorem c_rWith2 (x s t : Int) (w : World) (x0 : 0 ≤ x) (x1 : x < 18446744073709551616) (s0 : 0 ≤ s) (s1 : s ≤ 3) (t0 : 0 ≤ t) (t1 : t ≤ 255) :
 Calls Tryz.prog 118 #[.int .u64 x, .int .i64 s, .int .i64 t] w fun e w' => (∃ v : Int, e = .returned (.int .u64 v) ∧ 0 ≤ v ∧ v < 18446744073709551616) ∧ w = w' := by
 go_enter Tryz.func118, Tryz.ntmps118
 go_wp2
 go_loop [7, 8] (fun y i => ∃ k : Nat, ∃ z : Int, (k : Int) ≤ s ∧ i = .int .i64 k ∧ y = .int .u64 z ∧ 0 ≤ z ∧ z < 18446744073709551616) (fun _ i => s.toNat - (intOf i).toNat)
 case atStart => exact ⟨0, 1, by omega, rfl, rfl, by decide, by decide⟩
 case round =>
  obtain ⟨k, z, hk, rfl, rfl, z0, z1⟩ := hrel
  by_cases hlt : (k : Int) < s
  · go_wp2
    go_round
    case rel => exact ⟨k + 1, _, by omega, by go_num, rfl, by simp only [IntKind.wrap_u64]; omega, by simp only [IntKind.wrap_u64]; omega⟩
    case measure => simp [intOf]; omega
  · go_wp2_with (go_at_call 182; refine (c_rTag2 _ _ _ x0 x1 s0 s1).mono ?_; rintro e w' ⟨⟨v, rfl, v0, v1⟩, rfl⟩)
    go_ret
    exact ⟨⟨_, rfl, by simp only [IntKind.wrap_u64]; omega, by simp only [IntKind.wrap_u64]; omega⟩, rfl⟩
theorem c_rItem10 (r : Int) (k : Nat) (x : It) {w : World} {O : Om} {C : Wb} {f : Cf} {s : AW} {m : Nat} (h : RW w O C f s m) (hhi : ∀ j, O j ≠ 0 → j < w.heap.size) (hl : s.it.length ≤ 1000000) (hk : s.it[k]? = some x) (hr : r = k + 1) :
 Calls Tryz.prog 114 #[.pointer (some ⟨C.p, 0, none⟩), .int .i64 r] w fun e w' => e = .returned (.agg #[.string x.key, .string x.val, .int .u32 x.fl, .int .u64 x.id, .int .i64 x.dies, .int .i64 x.gen]) ∧ Below w.heap.size w w' := by
 subst hr
 have hB : Below w.heap.size w (w.alloc (.cells #[.string ⟨#[]⟩, .string ⟨#[]⟩, .int .u32 0, .int .u64 0, .int .i64 0, .int .i64 0] 34)) := (Below.refl _ _).alloc (Nat.le_refl _) _
 have q0 := hB.cell (p := ⟨C.p, 1, none⟩) h.wo.lt |>.trans h.wo.c1
 have hpl := h.wo.lt
 have HA := Lib.hid (c_r6At_yes (k + 1) k x (h.below hhi hB).ar hl hk rfl)
 have HB := Lib.hid hB
 have hc0 : ∀ j u, ([.string ⟨#[]⟩, .string ⟨#[]⟩, .int .u32 0, .int .u64 0, .int .i64 0, .int .i64 0] : List Value)[j]? = some u → (w.alloc (.cells #[.string ⟨#[]⟩, .string ⟨#[]⟩, .int .u32 0, .int .u64 0, .int .i64 0, .int .i64 0] 34)).cell? ⟨w.heap.size, j, none⟩ = some u := fun j u hu => cell_newA w #[.string ⟨#[]⟩, .string ⟨#[]⟩, .int .u32 0, .int .u64 0, .int .i64 0, .int .i64 0] _ _ rfl j u (by simpa using hu)
 have HC0 := Lib.hid hc0
 clear h hhi hB hc0
 go_enter Tryz.func114, Tryz.ntmps114
 go_wp2_with fail
 refine (HA.out).mono ?_
 rintro e w1 ⟨rfl, hb⟩
 have hz := hb.size
 have HB1 := Lib.hid (HB.out.trans (hb.mono (by simp)))
 simp only [World.heap_size_alloc'] at hz
 have hc1 : ∀ j u, ([.string ⟨#[]⟩, .string ⟨#[]⟩, .int .u32 0, .int .u64 0, .int .i64 0, .int .i64 0] : List Value)[j]? = some u → w1.cell? ⟨w.heap.size, j, none⟩ = some u := fun j u hu => (hb.cell (p := ⟨w.heap.size, j, none⟩) (by simp)).trans (HC0.out j u hu)
 have hf1 : ∀ j, w1.frozen? ⟨w.heap.size, j, none⟩ = false := fun j => (hb.frozen (p := ⟨w.heap.size, j, none⟩) (by simp)).trans (by simp)
 have c0 := hc1 0 _ rfl
 have c1 := hc1 1 _ rfl
 have c2 := hc1 2 _ rfl
 have c3 := hc1 3 _ rfl
 have c4 := hc1 4 _ rfl
 have c5 := hc1 5 _ rfl
 have f0 := hf1 0
 have f1 := hf1 1
 have f2 := hf1 2
 have f3 := hf1 3
 have f4 := hf1 4
 have f5 := hf1 5
 have hz1 : w.heap.size < w1.heap.size := by omega
 have hz2 : ¬ w.heap.size = w1.heap.size := by omega
 clear hb hc1 hf1
 go_wp2
 have HS := below_set6 HB1.out (Nat.le_refl _) (.string x.key) (.string x.val) (.int .u32 x.fl) (.int .u64 x.id) (.int .i64 x.dies) (.int .i64 x.gen)
 refine bodyPost_ret (v := .agg #[.string x.key, .string x.val, .int .u32 x.fl, .int .u64 x.id, .int .i64 x.dies, .int .i64 x.gen]) ?_ rfl ⟨rfl, HS.alloc HS.size _⟩
 simp [results, Tryz.results114, go_sem, hz1, hz2, c0, c1, c2, c3, c4, c5]
theorem Ext.nob {S : Nat → Prop} {O O' : Om} {w w' : World} (e : Ext S O w O' w') (hs : ¬ S 0) {b : Nat} (hb : b < w.heap.size) (ho : O b = 0) (j : Nat) : w'.cell? ⟨b, j, none⟩ = w.cell? ⟨b, j, none⟩ :=
 e.cell (p := ⟨b, j, none⟩) hb (by show ¬ S (O b); rw [ho]; exact hs)
@[go_sem] theorem fld_it0 (a b c d e f : Value) (w : World) : (Instr.field 34 (.agg #[a, b, c, d, e, f]) 0).run Tryz.prog w = .ok a w := by kernel_rfl
theorem sp0 : ¬ SP 0 := fun h => absurd h.1 (by decide)
theorem c_PPut (a b c : Int) (n : Int) {w : World} {O : Om} {B C : Wb} {f : Cf} {s : AW} {m : Nat} (h : PR w O B C f s m) (hhi : ∀ j, O j ≠ 0 → j < w.heap.size) (hn : n = s.it.length) (hn1 : 0 < s.it.length) (hk : ∀ x ∈ s.it, x.key.size ≤ 400) (hl : s.it.length ≤ 1000) (hm : m ≤ 900000) (n0 : 0 ≤ s.n) (n1 : s.n ≤ 1000000) (a0 : 0 ≤ a) (a1 : a < 256) (b0 : 0 ≤ b) (b1 : b < 256) (c0 : 0 ≤ c) (c1 : c < 256) :
 Calls Tryz.prog 61 #[.agg #[.pointer (some ⟨B.p, 0, none⟩), .pointer (some ⟨C.p, 0, none⟩)], .agg #[.int .u8 a, .int .u8 b, .int .u8 c], .int .i64 n] w (RP SP w O (.tuple #[]) fun W G => ∃ s2, PR W G B C f s2 (m + 2) ∧ s2.n = s.n + 2 ∧ s2.it = s.it ∧ s2.nt = s.nt) := by
 subst hn
 obtain ⟨W, hW⟩ : ∃ W, W = (w.alloc (.cells #[.pointer (some ⟨B.p, 0, none⟩), .pointer (some ⟨C.p, 0, none⟩)] 62)).alloc (.cells #[.int .u8 a, .int .u8 b, .int .u8 c] 149) := ⟨_, rfl⟩
 have b1' : Below w.heap.size w (w.alloc (.cells #[.pointer (some ⟨B.p, 0, none⟩), .pointer (some ⟨C.p, 0, none⟩)] 62)) := (Below.refl _ _).alloc (Nat.le_refl _) _
 have b2' : Below (w.heap.size + 1) (w.alloc (.cells #[.pointer (some ⟨B.p, 0, none⟩), .pointer (some ⟨C.p, 0, none⟩)] 62)) W := by rw [hW, ← World.heap_size_alloc' w (.cells #[.pointer (some ⟨B.p, 0, none⟩), .pointer (some ⟨C.p, 0, none⟩)] 62)]; exact (Below.refl _ _).alloc (Nat.le_refl _) _
 have hB : Below w.heap.size w W := b1'.trans (b2'.mono (by omega))
 have hz : W.heap.size = w.heap.size + 2 := by rw [hW]; simp
 have p0 : W.cell? ⟨w.heap.size, 0, none⟩ = some (.pointer (some ⟨B.p, 0, none⟩)) := (b2'.cell (p := ⟨w.heap.size, 0, none⟩) (by show w.heap.size < w.heap.size + 1; omega)).trans (cell_newA w #[.pointer (some ⟨B.p, 0, none⟩), .pointer (some ⟨C.p, 0, none⟩)] _ _ rfl 0 _ rfl)
 have p1 : W.cell? ⟨w.heap.size, 1, none⟩ = some (.pointer (some ⟨C.p, 0, none⟩)) := (b2'.cell (p := ⟨w.heap.size, 1, none⟩) (by show w.heap.size < w.heap.size + 1; omega)).trans (cell_newA w #[.pointer (some ⟨B.p, 0, none⟩), .pointer (some ⟨C.p, 0, none⟩)] _ _ rfl 1 _ rfl)
 have k0 : W.cell? ⟨w.heap.size + 1, 0, none⟩ = some (.int .u8 a) := by rw [hW]; exact cell_newA _ #[.int .u8 a, .int .u8 b, .int .u8 c] _ _ (by simp) 0 _ rfl
 have k1 : W.cell? ⟨w.heap.size + 1, 1, none⟩ = some (.int .u8 b) := by rw [hW]; exact cell_newA _ #[.int .u8 a, .int .u8 b, .int .u8 c] _ _ (by simp) 1 _ rfl
 have k2 : W.cell? ⟨w.heap.size + 1, 2, none⟩ = some (.int .u8 c) := by rw [hW]; exact cell_newA _ #[.int .u8 a, .int .u8 b, .int .u8 c] _ _ (by simp) 2 _ rfl
 have HP := Lib.hid (h.below hhi hB)
 have E0 := Lib.hid (Ext.of_below (S := SP) hhi hB)
 have O1 := Lib.hid (zero_own hhi (Nat.le_refl w.heap.size))
 have O2 := Lib.hid (zero_own hhi (show w.heap.size ≤ w.heap.size + 1 by omega))
 have ha : a % s.it.length < s.it.length := Int.emod_lt_of_pos _ (by omega)
 have ha0 : 0 ≤ a % s.it.length := Int.emod_nonneg _ (by omega)
 obtain ⟨k, hkk⟩ := Int.eq_ofNat_of_zero_le ha0
 have hkl : k < s.it.length := by omega
 obtain ⟨x, hx⟩ : ∃ x, s.it[k]? = some x := ⟨_, List.getElem?_eq_getElem hkl⟩
 have hxk := hk x (List.mem_of_getElem? hx)
 have HI := Lib.hid (c_rItem10 (1 + a % s.it.length) k x HP.out.r E0.out.hi (by omega) hx (by omega))
 have HX := Lib.hid hx
 have HL := Lib.hid (And.intro hl hn1)
 clear h hhi hB b1' b2' hk hx hkk hl
 obtain ⟨N, hN⟩ : ∃ N : Int, N = s.it.length := ⟨_, rfl⟩
 rw [← hN] at HI ha ha0 ⊢
 have hNp : 0 < N := by omega
 have hNb : N ≤ 1000 := by rw [hN]; exact_mod_cast HL.out.1
 have hN0 : (N == 0) = false := beq_eq_false_iff_ne.2 (by omega)
 clear hN hn1 hkl
 go_enter Tryz.func61, Tryz.ntmps61
 go_wp2_with (fail)
 rw [← hW]
 clear hW
 refine (HI.out).mono ?_
 rintro e w1 ⟨rfl, hb1⟩
 have hs1 := hb1.size
 have x1 : x.key.size ≤ maxLen := by unfold maxLen; omega
 have q0 : w1.cell? ⟨w.heap.size, 0, none⟩ = some (.pointer (some ⟨B.p, 0, none⟩)) := (hb1.cell (p := ⟨w.heap.size, 0, none⟩) (by show w.heap.size < W.heap.size; omega)).trans p0
 have q1 : w1.cell? ⟨w.heap.size, 1, none⟩ = some (.pointer (some ⟨C.p, 0, none⟩)) := (hb1.cell (p := ⟨w.heap.size, 1, none⟩) (by show w.heap.size < W.heap.size; omega)).trans p1
 have l1 : w1.cell? ⟨w.heap.size + 1, 1, none⟩ = some (.int .u8 b) := (hb1.cell (p := ⟨w.heap.size + 1, 1, none⟩) (by show w.heap.size + 1 < W.heap.size; omega)).trans k1
 have l2 : w1.cell? ⟨w.heap.size + 1, 2, none⟩ = some (.int .u8 c) := (hb1.cell (p := ⟨w.heap.size + 1, 2, none⟩) (by show w.heap.size + 1 < W.heap.size; omega)).trans k2
 have E1 := Lib.hid (E0.out.below hb1)
 have P1 := Lib.hid (HP.out.below E0.out.hi hb1)
 obtain ⟨H, hH⟩ : ∃ H, H = fnvHash x.key.data.toList := ⟨_, rfl⟩
 have hHb := fnvHash_bd x.key.data.toList
 have HH := Lib.hid (c_rHash x.key w1 x1)
 rw [← hH] at hHb HH
 have hMb := P1.out.p.bd
 obtain ⟨X, hX⟩ : ∃ X, X = s.M 2 := ⟨_, rfl⟩
 have hXb := hMb 2
 have HK := Lib.hid (c_rwPeek 2 P1.out.r (by omega))
 rw [← hX] at hXb HK
 obtain ⟨n2, hn2⟩ : ∃ n2, n2 = (plPlaces H X).length := ⟨_, rfl⟩
 have hn2p : 0 < n2 := by rw [hn2]; exact plPlaces_pos H X
 have hn2b : n2 ≤ 4 := by rw [hn2]; exact plPlaces_le H X
 have hbm : b % (n2 : Int) < n2 := Int.emod_lt_of_pos _ (by omega)
 obtain ⟨j, hj⟩ := Int.eq_ofNat_of_zero_le (show 0 ≤ b % (n2 : Int) from Int.emod_nonneg _ (by omega))
 rw [hj] at hbm
 have hjn : j < n2 := by omega
 obtain ⟨pl, hpl⟩ : ∃ p, p = (plPlaces H X)[j]'(by omega) := ⟨_, rfl⟩
 have hpb := plPlaces_bd hHb.1 hHb.2 (p := pl) (by rw [hpl]; exact List.getElem_mem _)
 have hfs := fnvSize_bd pl.1
 have HPC := Lib.hid (c_rPlaces H X w1 hHb.1 hHb.2 hXb.1 hXb.2)
 have HPL : Hid (∀ (w : World) (b o : Nat), (∀ j u, (rowOf plc (plPlaces H X))[j]? = some u → w.cell? ⟨b, o + j, none⟩ = some u) → w.cell? ⟨b, o + j * 2, none⟩ = some (.int .i64 pl.1) ∧ w.cell? ⟨b, o + j * 2 + 1, none⟩ = some (.int .i64 pl.2)) := fun w b o hw => by rw [hpl]; exact plc_cells hw j (by omega)
 clear hpl
 have hn20 : ((n2 : Int) == 0) = false := beq_eq_false_iff_ne.2 (by omega)
 obtain ⟨L, hL⟩ : ∃ L, L = plPlaces H X := ⟨_, rfl⟩
 have HTg := Lib.hid (c_rTag H)
 rw [← hL] at HPC HPL hn2
 rw [← hn2] at HPC
 have HN2 := Lib.hid hn2
 clear hb1 p0 p1 k0 k1 k2 HP HI hH hX hMb HX hxk x1 hL hn2
 go_wp2_with (first | (go_at_call 113; refine (HH.out).mono ?_; rintro e w' ⟨rfl, rfl⟩) | (go_at_call 116; refine (HK.out).mono ?_; rintro e w' ⟨rfl, rfl⟩) | (go_at_call 115; refine (HPC.out).mono ?_; rintro e w2 ⟨⟨v2, rfl, hown2⟩, hb2⟩; obtain ⟨b2, o2, c2, rfl, hc2, hm2, hlt2, hx2⟩ := (Arr.of_own hown2).open hn2p (by omega); obtain ⟨g0, g1⟩ := HPL.out _ _ _ hx2; have hs2 := hb2.size; have hz2 : w.heap.size < w2.heap.size := (by omega); have hz3 : w.heap.size + 1 < w2.heap.size := (by omega); have hz4 : ¬ w.heap.size = w2.heap.size := (by omega); have hz5 : ¬ w.heap.size + 1 = w2.heap.size := (by omega); have r0 := (hb2.cell (p := ⟨w.heap.size, 0, none⟩) (by show w.heap.size < w1.heap.size; omega)).trans q0; have r1 := (hb2.cell (p := ⟨w.heap.size, 1, none⟩) (by show w.heap.size < w1.heap.size; omega)).trans q1; have s1 := (hb2.cell (p := ⟨w.heap.size + 1, 1, none⟩) (by show w.heap.size + 1 < w1.heap.size; omega)).trans l1; have s2 := (hb2.cell (p := ⟨w.heap.size + 1, 2, none⟩) (by show w.heap.size + 1 < w1.heap.size; omega)).trans l2; have E2 := Lib.hid (E1.out.below hb2); have P2 := Lib.hid (P1.out.below E1.out.hi hb2); clear hb2 hx2 hown2 q0 q1 l1 l2 HK HH HPC HPL))
 go_region
 obtain ⟨W3, hW3⟩ : ∃ W3, W3 = (w2.alloc (.cells #[.int .i64 pl.1, .int .i64 pl.2, .int .i64 (c % 4)] 75)).drew := ⟨_, rfl⟩
 have b3 : Below w2.heap.size w2 W3 := by rw [hW3]; exact ((Below.refl _ _).alloc (Nat.le_refl _) _).drew
 have hz6 : w2.heap.size < W3.heap.size := by rw [hW3]; simp
 have t0 : W3.cell? ⟨w2.heap.size, 0, none⟩ = some (.int .i64 pl.1) := by rw [hW3]; simp
 have t1 : W3.cell? ⟨w2.heap.size, 1, none⟩ = some (.int .i64 pl.2) := by rw [hW3]; simp
 have t2 : W3.cell? ⟨w2.heap.size, 2, none⟩ = some (.int .i64 (c % 4)) := by rw [hW3]; simp
 have u0 := (b3.cell (p := ⟨w.heap.size, 0, none⟩) hz2).trans r0
 have u1 := (b3.cell (p := ⟨w.heap.size, 1, none⟩) hz2).trans r1
 have E3 := Lib.hid (E2.out.below b3)
 have P3 := Lib.hid (P2.out.below E2.out.hi b3)
 have OS := Lib.hid (zero_own E2.out.hi (Nat.le_refl w2.heap.size))
 rw [← hW3]
 have hc4 : 0 ≤ c % 4 ∧ c % 4 ≤ 3 := by omega
 obtain ⟨c4, hc4e⟩ : ∃ c4, c4 = c % 4 := ⟨_, rfl⟩
 rw [← hc4e] at t2 hc4
 clear b3 hW3 hc4e r0 r1 s1 s2 g0 g1 hbm hj hlt2 E0 E1 P1 HN2 HL
 have hT := Lib.hid (plTags_in (b := pl.1) (k := pl.2) ⟨hpb.2.2.1, hpb.2.2.2⟩)
 have hTb : 0 ≤ plTags pl.1 pl.2 ∧ plTags pl.1 pl.2 ≤ 100000 := by rw [hT.out]; omega
 have hIb : 0 ≤ plItem pl.1 pl.2 c4 ∧ plItem pl.1 pl.2 c4 ≤ 100010 := by rw [plItem_in ⟨hpb.2.2.1, hpb.2.2.2⟩ hc4]; omega
 go_wp2_with fail
 refine (c_rTags pl.1 pl.2 W3 (by omega) (by omega) (by omega) (by omega)).mono ?_
 rintro e w4 ⟨rfl, hb4⟩
 have hs4 := hb4.size
 have hz7 : w2.heap.size < w4.heap.size := by omega
 have hz8 : w.heap.size < w4.heap.size := by omega
 have y0 := (hb4.cell (p := ⟨w2.heap.size, 0, none⟩) hz6).trans t0
 have y1 := (hb4.cell (p := ⟨w2.heap.size, 1, none⟩) hz6).trans t1
 have y2 := (hb4.cell (p := ⟨w2.heap.size, 2, none⟩) hz6).trans t2
 have z0 := (hb4.cell (p := ⟨w.heap.size, 0, none⟩) (by show w.heap.size < W3.heap.size; omega)).trans u0
 have z1 := (hb4.cell (p := ⟨w.heap.size, 1, none⟩) (by show w.heap.size < W3.heap.size; omega)).trans u1
 have E4 := Lib.hid (E3.out.below hb4).drew
 have P4 := Lib.hid ((P3.out.below E3.out.hi hb4).below (E3.out.below hb4).hi (drew_below w4))
 clear hb4 t0 t1 t2 u0 u1 E3 P3 E2 P2
 obtain ⟨T, hTe⟩ : ∃ T, T = plTags pl.1 pl.2 := ⟨_, rfl⟩
 rw [← hTe] at hTb
 simp only [← hTe]
 have hMb := P4.out.p.bd T
 obtain ⟨V, hV⟩ : ∃ V, V = s.M T := ⟨_, rfl⟩
 have HK := Lib.hid (c_rwPeek T P4.out.r (by omega))
 rw [← hV] at hMb HK
 have htg := fnvTag_bd H hHb.1 hHb.2
 clear hTe hV hT
 go_wp2_with fail
 go_region_held3 (fun w' => w'.cell? ⟨w.heap.size, 0, none⟩ = some (.pointer (some ⟨B.p, 0, none⟩)) ∧ w'.cell? ⟨w.heap.size, 1, none⟩ = some (.pointer (some ⟨C.p, 0, none⟩)) ∧ w'.cell? ⟨w2.heap.size, 2, none⟩ = some (.int .i64 c4)) (go_keep)
  (first
    | (go_at_call 116; refine (HK.out).mono ?_; rintro e w' ⟨rfl, rfl⟩)
    | (go_at_call 119; refine (HTg.out _ hHb.1 hHb.2).mono ?_; rintro e w' ⟨rfl, rfl⟩)
    | (go_at_call 118; refine (c_rWith2 _ _ _ _ hMb.1 hMb.2 hc4.1 hc4.2 (by omega) (by omega)).mono ?_; rintro e w' ⟨⟨sv, rfl, sv0, sv1⟩, rfl⟩)
    | (go_at_call 59
       refine (c_PStore T sv P4.out E4.out.hi (by omega) (by omega) (by omega) sv0 sv1 n0 (by omega)).mono ?_
       rintro e w5 ⟨rfl, G5, e5, pr5⟩
       have hs5 := e5.size
       have hz9 : w2.heap.size < w5.heap.size := Nat.lt_of_lt_of_le hz7 hs5
       have f0 := (e5.nob sp0 hz8 O1.out 0).trans z0
       have f1 := (e5.nob sp0 hz8 O1.out 1).trans z1
       have f2 := (e5.nob sp0 hz7 OS.out 0).trans y0
       have f3 := (e5.nob sp0 hz7 OS.out 1).trans y1
       have f4 := (e5.nob sp0 hz7 OS.out 2).trans y2
       have OG1 := Lib.hid ((e5.lo w.heap.size hz8).trans O1.out)
       have OG2 := Lib.hid ((e5.lo w2.heap.size hz7).trans OS.out)
       have E5 := Lib.hid (E4.out.trans e5)
       have P5 := Lib.hid pr5
       clear e5 pr5))
 all_goals
  clear y0 y1 y2 z0 z1 P4 E4 HK HTg OS O1 O2 hMb
  go_wp2_with fail
  have n0' : 0 ≤ (awStore T sv s).n := by show 0 ≤ s.n + 1; omega
  have n1' : (awStore T sv s).n ≤ 4611686018427387904 := by show s.n + 1 ≤ 4611686018427387904; omega
  have hwN : IntKind.u64.wrap N = N := by simp only [IntKind.wrap_u64]; omega
  have E5' := Lib.hid E5.out.drew
  have P5' := Lib.hid (P5.out.below E5.out.hi (drew_below w5))
  go_region_held3 (fun w' => w'.cell? ⟨w.heap.size, 0, none⟩ = some (.pointer (some ⟨B.p, 0, none⟩)) ∧ w'.cell? ⟨w.heap.size, 1, none⟩ = some (.pointer (some ⟨C.p, 0, none⟩)) ∧ w'.cell? ⟨w2.heap.size, 0, none⟩ = some (.int .i64 pl.1) ∧ w'.cell? ⟨w2.heap.size, 1, none⟩ = some (.int .i64 pl.2) ∧ w'.cell? ⟨w2.heap.size, 2, none⟩ = some (.int .i64 c4)) (go_keep)
   (first
     | (go_at_call 120
        refine (c_rItem pl.1 pl.2 c4 w5.drew (by omega) (by omega) (by omega) (by omega) (by omega) (by omega)).mono ?_
        rintro e w6 ⟨rfl, hb6⟩
        have hs6 : w5.heap.size ≤ w6.heap.size := hb6.size
        have hz10 : w.heap.size < w6.heap.size := by omega
        have hz11 : w2.heap.size < w6.heap.size := by omega
        have f0' := (hb6.cell (p := ⟨w.heap.size, 0, none⟩) (by show w.heap.size < w5.heap.size; omega)).trans f0
        have f1' := (hb6.cell (p := ⟨w.heap.size, 1, none⟩) (by show w.heap.size < w5.heap.size; omega)).trans f1
        have f2' := (hb6.cell (p := ⟨w2.heap.size, 0, none⟩) (by show w2.heap.size < w5.heap.size; omega)).trans f2
        have f3' := (hb6.cell (p := ⟨w2.heap.size, 1, none⟩) (by show w2.heap.size < w5.heap.size; omega)).trans f3
        have f4' := (hb6.cell (p := ⟨w2.heap.size, 2, none⟩) (by show w2.heap.size < w5.heap.size; omega)).trans f4
        have E6 := Lib.hid (E5'.out.below hb6)
        have P6 := Lib.hid (P5'.out.below E5'.out.hi hb6)
        clear hb6)
     | (go_at_call 59
        refine (c_PStore (plItem pl.1 pl.2 c4) _ P6.out E6.out.hi (by omega) (by omega) (by omega) (by first | omega | (simp only [IntKind.wrap_u64]; omega)) (by first | omega | (simp only [IntKind.wrap_u64]; omega)) n0' n1').mono ?_
        rintro e w7 ⟨rfl, G7, e7, pr7⟩
        have j0 := (e7.nob sp0 hz10 OG1.out 0).trans f0'
        have j1 := (e7.nob sp0 hz10 OG1.out 1).trans f1'
        have j2 := (e7.nob sp0 hz11 OG2.out 0).trans f2'
        have j3 := (e7.nob sp0 hz11 OG2.out 1).trans f3'
        have j4 := (e7.nob sp0 hz11 OG2.out 2).trans f4'
        have HE := Lib.hid (And.intro (E6.out.trans e7) pr7)
        clear e7 pr7))
  all_goals
   go_wp2
   go_end0
   exact ⟨rfl, G7, HE.out.1, _, HE.out.2, by show s.n + 1 + 1 = s.n + 2; omega, rfl, rfl⟩
end
section
open Go.RowKit
theorem c_Other (f : Cf) (w : World) : Calls Tryz.prog 57 #[.agg #[.int .i64 f.b, .int .i64 f.g, .int .i64 f.t, .int .i64 f.q, .int .i64 f.y]] w fun e w' => e = .returned (.agg #[.int .i64 f.b, .int .i64 f.g, .int .i64 f.t, .int .i64 f.q, .int .i64 f.y]) ∧ Below w.heap.size w w' := by
 obtain ⟨b, g, t, q, y⟩ := f
 dsimp only
 go_enter Tryz.func57, Tryz.ntmps57
 go_wp2
 refine bodyPost_ret (v := .agg #[.int .i64 b, .int .i64 g, .int .i64 t, .int .i64 q, .int .i64 y]) ?_ rfl ⟨rfl, ((Below.refl _ _).alloc (Nat.le_refl _) _).alloc (by simp) _⟩
 simp [results, Tryz.results57, go_sem]
def putc (p : Int × Int × Int) : List Value := [.int .u8 p.1, .int .u8 p.2.1, .int .u8 p.2.2]
def stoc (p : Int × Int) : List Value := [.int .u64 p.1, .int .u64 p.2]
structure Fst where
 cf : Cf
 gr : Bool
 it : List It
 pu : List (Int × Int × Int)
 st : List (Int × Int)
 ti : Int
def fstV (F : Fst) (vi vp vs : Value) : Value := .agg #[.int .i64 F.cf.b, .int .i64 F.cf.g, .int .i64 F.cf.t, .int .i64 F.cf.q, .int .i64 F.cf.y, .bool F.gr, vi, vp, vs, .int .i64 F.ti]
structure FstIn (w : World) (F : Fst) (vi vp vs : Value) : Prop where
 it : Arr w vi F.it.length 6 (rowOf itc F.it)
 pu : Arr w vp F.pu.length 3 (rowOf putc F.pu)
 st : Arr w vs F.st.length 2 (rowOf stoc F.st)
 it1 : F.it.length ≤ 40
 pu1 : F.pu.length ≤ 60
 st1 : F.st.length ≤ 60
 key : ∀ x ∈ F.it, x.key.size ≤ 400
 pub : ∀ p ∈ F.pu, (0 ≤ p.1 ∧ p.1 < 256) ∧ (0 ≤ p.2.1 ∧ p.2.1 < 256) ∧ (0 ≤ p.2.2 ∧ p.2.2 < 256)
 stb : ∀ p ∈ F.st, (0 ≤ p.1 ∧ p.1 < 18446744073709551616) ∧ (0 ≤ p.2 ∧ p.2 < 18446744073709551616)
 ti0 : -9223372036854775808 ≤ F.ti
 ti1 : F.ti ≤ 9223372036854775807
def cfD : Cf := ⟨2, 8, 3, 1, 16⟩
theorem cfD_may : cfD.may := cfB_may (by decide)
def cfOf (f : Cf) : Cf := if cfB f then f else cfD
theorem cfOf_may (f : Cf) : (cfOf f).may := by
 unfold cfOf
 split
 · exact cfB_may ‹_›
 · exact cfD_may
def O0 : Om := fun _ => 0
theorem o0_hi (w : World) : ∀ j, O0 j ≠ 0 → j < w.heap.size := fun j h => absurd rfl h
def SB (t : Nat) : Prop := 1 ≤ t ∧ t ≤ 9
theorem sb_sp {t : Nat} (h : SP t) : SB t := ⟨h.1, by have := h.2; omega⟩
theorem sb9 : SB 9 := ⟨by decide, by decide⟩
theorem sr9 : ¬ SR 9 := fun h => absurd h.2 (by decide)
theorem sp9 : ¬ SP 9 := fun h => absurd h.2 (by decide)
theorem Ob.set9 {S : Nat → Prop} {O0 O : Om} {w0 w : World} {b : Nat} {cs : List Value} (e : Ext S O0 w0 O w) (h : Ob w O 9 b cs) (hS : S 9) (j : Nat) (v : Value) : Ext S O0 w0 O (w.setCell ⟨b, j, none⟩ v) :=
 e.trans (Ext.of_set (S := S) e.hi h.o (by decide) hS)
theorem sb0 : ¬ SB 0 := fun h => absurd h.1 (by decide)
theorem sw9 : ¬ SW 9 := fun h => absurd h.2 (by decide)
theorem RW.set9 {w : World} {O : Om} {C : Wb} {f : Cf} {s : AW} {m b j : Nat} {v : Value} (h : RW w O C f s m) (hhi : ∀ j, O j ≠ 0 → j < w.heap.size) (hb : O b = 9) : RW (w.setCell ⟨b, j, none⟩ v) O C f s m :=
 h.ext (S := fun t => t = 9) (Ext.of_set hhi hb (by decide) rfl) (by decide) (by decide) (by decide) (by decide)
theorem PW.set9 {w : World} {O : Om} {C : Wb} {f : Cf} {s : AW} {b j : Nat} {v : Value} (h : PW w O C f s) (hhi : ∀ j, O j ≠ 0 → j < w.heap.size) (hb : O b = 9) : PW (w.setCell ⟨b, j, none⟩ v) O C f s :=
 h.ext (S := fun t => t = 9) (Ext.of_set hhi hb (by decide) rfl) (by decide) (by decide) (by decide) (by decide)
theorem c_Begin (F : Fst) (vi vp vs : Value) (w : World) (h : FstIn w F vi vp vs) :
 Calls Tryz.prog 21 #[fstV F vi vp vs] w fun e w' => ∃ B C, RP SB w O0 (.agg #[.pointer (some ⟨B.p, 0, none⟩), .pointer (some ⟨C.p, 0, none⟩)]) (fun W G => ∃ s m, PR W G B C (cfOf F.cf) s m ∧ 0 ≤ s.n ∧ s.n ≤ 1000 ∧ m ≤ 1000 ∧ s.it = F.it ∧ s.nt = []) e w' := by
 have HF := Lib.hid h
 obtain ⟨f, gr, it, pu, st, ti⟩ := F
 unfold fstV
 dsimp only at HF ⊢
 obtain ⟨ai, ci, rfl, hci, hmi⟩ := HF.out.it.shape
 obtain ⟨ap, cp, rfl, hcp, hmp⟩ := HF.out.pu.shape
 obtain ⟨as', cs, rfl, hcs, hms⟩ := HF.out.st.shape
 dsimp only at hci hcp hcs
 obtain ⟨G1, e1, f1, -⟩ := alloc_ob (o0_hi w) 9 #[.int .i64 f.b, .int .i64 f.g, .int .i64 f.t, .int .i64 f.q, .int .i64 f.y, .bool gr, .slice ai it.length ci, .slice ap pu.length cp, .slice as' st.length cs, .int .i64 ti] 68 _ rfl
 obtain ⟨G2, e2, r2, k2⟩ := alloc_ob e1.hi 9 #[.pointer none, .pointer none] 62 (w.heap.size + 1) (by simp)
 obtain ⟨G3, e3, c3, k3⟩ := alloc_ob e2.hi 9 #[.int .i64 f.b, .int .i64 f.g, .int .i64 f.t, .int .i64 f.q, .int .i64 f.y] 44 (w.heap.size + 1 + 1) (by simp)
 obtain ⟨W, hW⟩ : ∃ W, W = ((w.alloc (.cells #[.int .i64 f.b, .int .i64 f.g, .int .i64 f.t, .int .i64 f.q, .int .i64 f.y, .bool gr, .slice ai it.length ci, .slice ap pu.length cp, .slice as' st.length cs, .int .i64 ti] 68)).alloc (.cells #[.pointer none, .pointer none] 62)).alloc (.cells #[.int .i64 f.b, .int .i64 f.g, .int .i64 f.t, .int .i64 f.q, .int .i64 f.y] 44) := ⟨_, rfl⟩
 have hz : W.heap.size = w.heap.size + 1 + 1 + 1 := by rw [hW]; simp
 have f3 := k3 _ _ _ (k2 _ _ _ f1)
 have r3 := k3 _ _ _ r2
 have e123 : Ext SB O0 w G3 _ := ((e1.mono fun t _ h => by subst h; exact ⟨by decide, by decide⟩).trans (e2.mono fun t _ h => by subst h; exact ⟨by decide, by decide⟩)).trans (e3.mono fun t _ h => by subst h; exact ⟨by decide, by decide⟩)
 rw [← hW] at f3 r3 c3 e123
 have FF := Lib.hid f3
 have RR := Lib.hid r3
 have KK := Lib.hid c3
 have EE := Lib.hid e123
 clear h e1 f1 e2 r2 k2 e3 k3 f3 r3 c3 e123
 obtain ⟨N, hN⟩ : ∃ N, N = w.heap.size := ⟨_, rfl⟩
 have HN := Lib.hid hN
 go_enter Tryz.func21, Tryz.ntmps21
 go_wp2_with fail
 rw [← hW, ← hN]
 rw [← hN] at hz FF RR KK
 clear hW hN
 refine (c_Other f W).mono ?_
 rintro e w1 ⟨rfl, hb1⟩
 go_wp2_with fail
 refine (c_rMay10 f w1).mono ?_
 rintro e w2 ⟨rfl, hb2⟩
 have FF2 := Lib.hid ((FF.out.below hb1).below hb2)
 have RR2 := Lib.hid ((RR.out.below hb1).below hb2)
 have KK2 := Lib.hid ((KK.out.below hb1).below hb2)
 have EE2 := Lib.hid ((EE.out.below hb1).below hb2)
 clear hb1 hb2 FF RR KK EE
 have hn1 : ¬ N + 1 + 1 = N := by omega
 have hn2 : ¬ N + 1 + 1 = N + 1 := by omega
 have c0 := KK2.out.c 0 _ rfl
 have c1 := KK2.out.c 1 _ rfl
 have c2 := KK2.out.c 2 _ rfl
 have c3 := KK2.out.c 3 _ rfl
 have c4 := KK2.out.c 4 _ rfl
 have z0 := KK2.out.f 0
 have z1 := KK2.out.f 1
 have z2 := KK2.out.f 2
 have z3 := KK2.out.f 3
 have z4 := KK2.out.f 4
 have hlt := KK2.out.lt
 have hp0 : w2.heap.size ≠ N := by omega
 have hp1 : w2.heap.size ≠ N + 1 := by omega
 have hp2 : w2.heap.size ≠ N + 1 + 1 := by omega
 obtain ⟨g, hg⟩ : ∃ g, g = cfOf f := ⟨_, rfl⟩
 have hgm : g.may := by rw [hg]; exact cfOf_may f
 cases hcf : cfB f
 · have hgD : g = cfD := by rw [hg]; unfold cfOf; rw [hcf]; rfl
   have HG := Lib.hid (show cfD = cfOf f by rw [← hg, hgD])
   rw [hgD] at hgm
   clear hg hgD hcf
   go_wp2_with fail
   obtain ⟨W3, hW3⟩ : ∃ W3, W3 = (((((w2.setCell ⟨N + 1 + 1, 0, none⟩ (.int .i64 2)).setCell ⟨N + 1 + 1, 1, none⟩ (.int .i64 8)).setCell ⟨N + 1 + 1, 2, none⟩ (.int .i64 3)).setCell ⟨N + 1 + 1, 3, none⟩ (.int .i64 1)).setCell ⟨N + 1 + 1, 4, none⟩ (.int .i64 16)) := ⟨_, rfl⟩
   have FF3 : Hid (Ob W3 G3 9 N [.int .i64 f.b, .int .i64 f.g, .int .i64 f.t, .int .i64 f.q, .int .i64 f.y, .bool gr, .slice ai it.length ci, .slice ap pu.length cp, .slice as' st.length cs, .int .i64 ti]) := Lib.hid (by rw [hW3]; exact ((((FF2.out.other hn1).other hn1).other hn1).other hn1).other hn1)
   have RR3 : Hid (Ob W3 G3 9 (N + 1) [.pointer none, .pointer none]) := Lib.hid (by rw [hW3]; exact ((((RR2.out.other hn2).other hn2).other hn2).other hn2).other hn2)
   have KK3 : Hid (Ob W3 G3 9 (N + 1 + 1) [.int .i64 2, .int .i64 8, .int .i64 3, .int .i64 1, .int .i64 16]) := Lib.hid (by rw [hW3]; exact ((((KK2.out.set 0 _ (by simp)).set 1 _ (by simp)).set 2 _ (by simp)).set 3 _ (by simp)).set 4 _ (by simp))
   have EE3 : Hid (Ext SB O0 w G3 W3) := by
    have q1 := KK2.out.set 0 (.int .i64 2) (by simp)
    have q2 := q1.set 1 (.int .i64 8) (by simp)
    have q3 := q2.set 2 (.int .i64 3) (by simp)
    have q4 := q3.set 3 (.int .i64 1) (by simp)
    have a1 := Ob.set9 EE2.out KK2.out sb9 0 (.int .i64 2)
    have a2 := Ob.set9 a1 q1 sb9 1 (.int .i64 8)
    have a3 := Ob.set9 a2 q2 sb9 2 (.int .i64 3)
    have a4 := Ob.set9 a3 q3 sb9 3 (.int .i64 1)
    exact Lib.hid (by rw [hW3]; exact Ob.set9 a4 q4 sb9 4 (.int .i64 16))
   have hM : w2.heap.size = W3.heap.size := by rw [hW3]; simp
   rw [← hW3]
   clear hW3 FF2 RR2 KK2 EE2 c0 c1 c2 c3 c4 z0 z1 z2 z3 z4
   obtain ⟨G4, e4, p4, k4⟩ := alloc_ob EE3.out.hi 9 #[.pointer none, .pointer none] 62 w2.heap.size hM
   obtain ⟨W4, hW4⟩ : ∃ W4, W4 = W3.alloc (.cells #[.pointer none, .pointer none] 62) := ⟨_, rfl⟩
   have f4 := k4 _ _ _ FF3.out
   have r4 := k4 _ _ _ RR3.out
   have q4 := k4 _ _ _ KK3.out
   rw [← hW4] at e4 p4 f4 r4 q4 ⊢
   have FF4 := Lib.hid f4
   have RR4 := Lib.hid r4
   have KK4 := Lib.hid q4
   have PP4 := Lib.hid p4
   have EE4 := Lib.hid (EE3.out.trans (e4.mono fun t _ h => by subst h; exact ⟨by decide, by decide⟩))
   clear e4 p4 f4 r4 q4 k4 hW4 FF3 RR3 KK3 EE3 hM
   refine (c_Other cfD W4).mono ?_
   rintro e w5 ⟨rfl, hb5⟩
   have FF5 := Lib.hid (FF4.out.below hb5)
   have RR5 := Lib.hid (RR4.out.below hb5)
   have KK5 := Lib.hid (KK4.out.below hb5)
   have PP5 := Lib.hid (PP4.out.below hb5)
   have EE5 := Lib.hid (EE4.out.below hb5)
   clear hb5 FF4 RR4 KK4 PP4 EE4
   go_wp2_with fail
   refine (c_RNew10 cfD w5 G4 hgm EE5.out.hi).mono ?_
   rintro e w6 ⟨C, rfl, G6, e6, rw6⟩
   have FF6 := Lib.hid (FF5.out.ext e6 sr9)
   have RR6 := Lib.hid (RR5.out.ext e6 sr9)
   have KK6 := Lib.hid (KK5.out.ext e6 sr9)
   have PP6 := Lib.hid (PP5.out.ext e6 sr9)
   have EE6 := Lib.hid (EE5.out.trans (e6.mono fun t _ h => sb_sp (sp_sr h)))
   have RW6 := Lib.hid rw6
   clear e6 rw6 FF5 RR5 KK5 PP5 EE5
   have d0 := KK6.out.c 0 _ rfl
   have d1 := KK6.out.c 1 _ rfl
   have d2 := KK6.out.c 2 _ rfl
   have d3 := KK6.out.c 3 _ rfl
   have d4 := KK6.out.c 4 _ rfl
   have y0 := PP6.out.c 0 _ rfl
   have y1 := PP6.out.c 1 _ rfl
   have g0 := PP6.out.f 0
   have g1 := PP6.out.f 1
   go_wp2_with fail
   obtain ⟨W7, hW7⟩ : ∃ W7, W7 = w6.setCell ⟨w2.heap.size, 1, none⟩ (.pointer (some ⟨C.p, 0, none⟩)) := ⟨_, rfl⟩
   have FF7 : Hid (Ob W7 G6 9 N [.int .i64 f.b, .int .i64 f.g, .int .i64 f.t, .int .i64 f.q, .int .i64 f.y, .bool gr, .slice ai it.length ci, .slice ap pu.length cp, .slice as' st.length cs, .int .i64 ti]) := Lib.hid (by rw [hW7]; exact FF6.out.other hp0)
   have RR7 : Hid (Ob W7 G6 9 (N + 1) [.pointer none, .pointer none]) := Lib.hid (by rw [hW7]; exact RR6.out.other hp1)
   have KK7 : Hid (Ob W7 G6 9 (N + 1 + 1) [.int .i64 2, .int .i64 8, .int .i64 3, .int .i64 1, .int .i64 16]) := Lib.hid (by rw [hW7]; exact KK6.out.other hp2)
   have PP7 : Hid (Ob W7 G6 9 w2.heap.size [.pointer none, .pointer (some ⟨C.p, 0, none⟩)]) := Lib.hid (by rw [hW7]; exact PP6.out.set 1 _ (by simp))
   have EE7 : Hid (Ext SB O0 w G6 W7) := Lib.hid (by rw [hW7]; exact Ob.set9 EE6.out PP6.out sb9 1 _)
   have RW7 : Hid (RW W7 G6 C cfD (aw0 cfD.b) 1) := Lib.hid (by rw [hW7]; exact RW6.out.set9 EE6.out.hi PP6.out.o)
   rw [← hW7]
   clear hW7 FF6 RR6 KK6 PP6 EE6 RW6 d0 d1 d2 d3 d4 y0 y1 g0 g1
   refine (c_WNewQ cfD W7 hgm).mono ?_
   intro e w8 hw8
   obtain ⟨B, rfl, G8, e8, pw8⟩ := hw8.rp EE7.out.hi
   have FF8 := Lib.hid (FF7.out.ext e8 sw9)
   have RR8 := Lib.hid (RR7.out.ext e8 sw9)
   have KK8 := Lib.hid (KK7.out.ext e8 sw9)
   have PP8 := Lib.hid (PP7.out.ext e8 sw9)
   have EE8 := Lib.hid (EE7.out.trans (e8.mono fun t _ h => sb_sp (sp_sw h)))
   have PR8 := Lib.hid (PR.mk pw8 (RW7.out.sw e8))
   clear hw8 e8 pw8 FF7 RR7 KK7 PP7 EE7 RW7
   have d0 := KK8.out.c 0 _ rfl
   have d1 := KK8.out.c 1 _ rfl
   have d2 := KK8.out.c 2 _ rfl
   have d3 := KK8.out.c 3 _ rfl
   have d4 := KK8.out.c 4 _ rfl
   have u5 := FF8.out.c 5 _ rfl
   have u6 := FF8.out.c 6 _ rfl
   have y0 := PP8.out.c 0 _ rfl
   have y1 := PP8.out.c 1 _ rfl
   have g0 := PP8.out.f 0
   have g1 := PP8.out.f 1
   have hgb0 := hgm.b0
   have hgb1 := hgm.b1
   go_wp2_with fail
   all_goals
    obtain ⟨W9, hW9⟩ : ∃ W9, W9 = w8.setCell ⟨w2.heap.size, 0, none⟩ (.pointer (some ⟨B.p, 0, none⟩)) := ⟨_, rfl⟩
    have FF9 : Hid (Ob W9 G8 9 N _) := Lib.hid (by rw [hW9]; exact FF8.out.other hp0)
    have RR9 : Hid (Ob W9 G8 9 (N + 1) [.pointer none, .pointer none]) := Lib.hid (by rw [hW9]; exact RR8.out.other hp1)
    have PP9 : Hid (Ob W9 G8 9 w2.heap.size [.pointer (some ⟨B.p, 0, none⟩), .pointer (some ⟨C.p, 0, none⟩)]) := Lib.hid (by rw [hW9]; exact PP8.out.set 0 _ (by simp))
    have EE9 : Hid (Ext SB O0 w G8 W9) := Lib.hid (by rw [hW9]; exact Ob.set9 EE8.out PP8.out sb9 0 _)
    have PR9 : Hid (PR W9 G8 B C cfD (aw0 cfD.b) 1) := Lib.hid (by rw [hW9]; exact ⟨PR8.out.p.set9 EE8.out.hi PP8.out.o, PR8.out.r.set9 EE8.out.hi PP8.out.o⟩)
    rw [← hW9]
    clear hW9 FF8 RR8 KK8 PP8 EE8 PR8 d0 d1 d2 d3 d4 u5 u6 y0 y1 g0 g1
   all_goals first
    | (refine (c_PStore _ _ PR9.out EE9.out.hi (by decide) (by decide) (by decide) (by first | decide | omega) (by first | decide | omega) (by show (0 : Int) ≤ 0; decide) (by show (0 : Int) ≤ 4611686018427387904; decide)).mono ?_
       rintro e w10 ⟨rfl, G10, e10, pr10⟩
       have FF10 := Lib.hid (FF9.out.ext e10 sp9)
       have RR10 := Lib.hid (RR9.out.ext e10 sp9)
       have PP10 := Lib.hid (PP9.out.ext e10 sp9)
       have EE10 := Lib.hid (EE9.out.trans (e10.mono fun t _ h => sb_sp h))
       have PR10 : Hid (∃ s m, PR w10 G10 B C cfD s m ∧ 0 ≤ s.n ∧ s.n ≤ 1 ∧ m ≤ 2 ∧ s.it = [] ∧ s.nt = []) := Lib.hid ⟨_, _, pr10, by show (0 : Int) ≤ 0 + 1; decide, by show (0 : Int) + 1 ≤ 1; decide, by decide, rfl, rfl⟩
       clear e10 pr10 FF9 RR9 PP9 EE9 PR9
       go_wp2_with fail)
    | (obtain ⟨w10, hw10⟩ : ∃ w10, w10 = W9 := ⟨_, rfl⟩
       obtain ⟨G10, hG10⟩ : ∃ G10, G10 = G8 := ⟨_, rfl⟩
       have PR10 : Hid (∃ s m, PR W9 G8 B C cfD s m ∧ 0 ≤ s.n ∧ s.n ≤ 1 ∧ m ≤ 2 ∧ s.it = [] ∧ s.nt = []) := Lib.hid ⟨_, _, PR9.out, by show (0 : Int) ≤ 0; decide, by show (0 : Int) ≤ 1; decide, by decide, rfl, rfl⟩
       have FF10 := FF9
       have RR10 := RR9
       have PP10 := PP9
       have EE10 := EE9
       rw [← hw10, ← hG10] at FF10 RR10 PP10 EE10 PR10
       rw [← hw10]
       clear hw10 hG10 FF9 RR9 PP9 EE9 PR9)
   all_goals
    go_loopw [5] (fun i wr => ∃ k : Nat, ∃ G s m, k ≤ it.length ∧ i = .int .i64 k ∧ Ob wr G 9 N [.int .i64 f.b, .int .i64 f.g, .int .i64 f.t, .int .i64 f.q, .int .i64 f.y, .bool gr, .slice ai it.length ci, .slice ap pu.length cp, .slice as' st.length cs, .int .i64 ti] ∧ Ob wr G 9 (N + 1) [.pointer none, .pointer none] ∧ Ob wr G 9 w2.heap.size [.pointer (some ⟨B.p, 0, none⟩), .pointer (some ⟨C.p, 0, none⟩)] ∧ Ext SB O0 w G wr ∧ PR wr G B C cfD s m ∧ 0 ≤ s.n ∧ s.n ≤ 1 ∧ m ≤ 2 ∧ s.it = it.take k ∧ s.nt = [])
     (fun i _ => it.length - (intOf i).toNat)
    case atStart =>
     obtain ⟨s, m, h1, h2, h3, h4, h5, h6⟩ := PR10.out
     exact ⟨0, G10, s, m, Nat.zero_le _, rfl, FF10.out, RR10.out, PP10.out, EE10.out, h1, h2, h3, h4, by simpa using h5, h6⟩
    case round =>
     clear FF10 RR10 PP10 EE10 PR10
     obtain ⟨k, G, s, m, hk, rfl, f0, r0, p0, e0, pr0, n0, n1, m1, hit, hnt⟩ := hrel
     have u6 := f0.c 6 _ rfl
     have u7 := f0.c 7 _ rfl
     have y0 := p0.c 0 _ rfl
     have y1 := p0.c 1 _ rfl
     have hl40 := HF.out.it1
     dsimp only at hl40
     have FF := Lib.hid f0
     have RR := Lib.hid r0
     have PP := Lib.hid p0
     have EE := Lib.hid e0
     have QQ := Lib.hid pr0
     have HI := Lib.hid hit
     have HT := Lib.hid hnt
     clear f0 r0 p0 e0 pr0 hit hnt
     by_cases hlt2 : k < it.length
     · obtain ⟨b', o', c', he, hcp, hmx, hbl, hx⟩ := HF.out.it.open (by dsimp only; omega) (by omega)
       cases he
       obtain ⟨x, hxe⟩ : ∃ x, x = it[k] := ⟨_, rfl⟩
       have hr : ∀ j, j < 6 → (rowOf itc it)[k * 6 + j]? = (itc x)[j]? := fun j hj => by rw [hxe]; exact rowOf_get itc_len it k j hlt2 hj
       have v0 : wr.cell? ⟨b', o' + k * 6, none⟩ = some (.string x.key) := (EE.out.cell (p := ⟨b', o' + k * 6, none⟩) hbl sb0).trans (hx _ _ (hr 0 (by omega)))
       have v1 : wr.cell? ⟨b', o' + k * 6 + 1, none⟩ = some (.string x.val) := (EE.out.cell (p := ⟨b', o' + k * 6 + 1, none⟩) hbl sb0).trans (hx _ _ (hr 1 (by omega)))
       have v2 : wr.cell? ⟨b', o' + k * 6 + 2, none⟩ = some (.int .u32 x.fl) := (EE.out.cell (p := ⟨b', o' + k * 6 + 2, none⟩) hbl sb0).trans (hx _ _ (hr 2 (by omega)))
       have v3 : wr.cell? ⟨b', o' + k * 6 + 3, none⟩ = some (.int .u64 x.id) := (EE.out.cell (p := ⟨b', o' + k * 6 + 3, none⟩) hbl sb0).trans (hx _ _ (hr 3 (by omega)))
       have v4 : wr.cell? ⟨b', o' + k * 6 + 4, none⟩ = some (.int .i64 x.dies) := (EE.out.cell (p := ⟨b', o' + k * 6 + 4, none⟩) hbl sb0).trans (hx _ _ (hr 4 (by omega)))
       have v5 : wr.cell? ⟨b', o' + k * 6 + 5, none⟩ = some (.int .i64 x.gen) := (EE.out.cell (p := ⟨b', o' + k * 6 + 5, none⟩) hbl sb0).trans (hx _ _ (hr 5 (by omega)))
       have HX := Lib.hid hxe
       have hbz : G b' = 0 := EE.out.lo b' hbl
       have hbw : b' < wr.heap.size := Nat.lt_of_lt_of_le hbl EE.out.size
       clear hx hr hxe
       go_wp2_with fail
       go_region_held3 (fun w' => w'.cell? ⟨w2.heap.size, 0, none⟩ = some (.pointer (some ⟨B.p, 0, none⟩)) ∧ w'.cell? ⟨w2.heap.size, 1, none⟩ = some (.pointer (some ⟨C.p, 0, none⟩)) ∧ w'.cell? ⟨N, 6, none⟩ = some (.slice (some ⟨b', o', none⟩) it.length ci) ∧ w'.cell? ⟨b', o' + k * 6, none⟩ = some (.string x.key) ∧ w'.cell? ⟨b', o' + k * 6 + 1, none⟩ = some (.string x.val) ∧ w'.cell? ⟨b', o' + k * 6 + 2, none⟩ = some (.int .u32 x.fl) ∧ w'.cell? ⟨b', o' + k * 6 + 3, none⟩ = some (.int .u64 x.id) ∧ w'.cell? ⟨b', o' + k * 6 + 4, none⟩ = some (.int .i64 x.dies) ∧ w'.cell? ⟨b', o' + k * 6 + 5, none⟩ = some (.int .i64 x.gen)) (go_keep)
        ((go_at_call 60
          refine (c_PItem (w := wr.drew) x (QQ.out.below EE.out.hi (drew_below wr)) EE.out.hi (by rw [HI.out]; simp; omega)).mono ?_
          rintro e w11 ⟨rfl, G11, e11, pr11⟩
          have x0 := (e11.nob sp0 hbw hbz (o' + k * 6)).trans v0
          have x1 := (e11.nob sp0 hbw hbz (o' + k * 6 + 1)).trans v1
          have x2 := (e11.nob sp0 hbw hbz (o' + k * 6 + 2)).trans v2
          have x3 := (e11.nob sp0 hbw hbz (o' + k * 6 + 3)).trans v3
          have x4 := (e11.nob sp0 hbw hbz (o' + k * 6 + 4)).trans v4
          have x5 := (e11.nob sp0 hbw hbz (o' + k * 6 + 5)).trans v5
          have FF1 := Lib.hid ((FF.out.below (drew_below wr)).ext e11 sp9)
          have RR1 := Lib.hid ((RR.out.below (drew_below wr)).ext e11 sp9)
          have PP1 := Lib.hid ((PP.out.below (drew_below wr)).ext e11 sp9)
          have EE1 := Lib.hid (EE.out.drew.trans (e11.mono fun t _ h => sb_sp h))
          have QQ1 := Lib.hid pr11
          have w0 := PP1.out.c 0 _ rfl
          have w1' := PP1.out.c 1 _ rfl
          have w6' := FF1.out.c 6 _ rfl
          clear e11 pr11))
       all_goals
        go_wp2
        go_roundw
        case rel => exact ⟨k + 1, G11, _, _, by omega, by go_num, FF1.out, RR1.out, PP1.out, EE1.out, QQ1.out, n0, n1, m1, by show s.it ++ [x] = _; rw [HI.out, HX.out]; simp, HT.out⟩
        case measure => simp [intOf]; omega
     · obtain rfl : k = it.length := by omega
       have HI' : Hid (s.it = it) := Lib.hid (by rw [HI.out]; simp)
       go_wp2_with fail
       clear u6 u7 y0 y1 hlt2
       go_loopw [6] (fun i wr => ∃ k : Nat, ∃ G s m, k ≤ pu.length ∧ i = .int .i64 k ∧ Ob wr G 9 N [.int .i64 f.b, .int .i64 f.g, .int .i64 f.t, .int .i64 f.q, .int .i64 f.y, .bool gr, .slice ai it.length ci, .slice ap pu.length cp, .slice as' st.length cs, .int .i64 ti] ∧ Ob wr G 9 (N + 1) [.pointer none, .pointer none] ∧ Ob wr G 9 w2.heap.size [.pointer (some ⟨B.p, 0, none⟩), .pointer (some ⟨C.p, 0, none⟩)] ∧ Ext SB O0 w G wr ∧ PR wr G B C cfD s m ∧ 0 ≤ s.n ∧ s.n ≤ 1 + 2 * (k : Int) ∧ m ≤ 2 + 2 * k ∧ s.it = it ∧ s.nt = [])
        (fun i _ => pu.length - (intOf i).toNat)
       case atStart => exact ⟨0, G, s, m, Nat.zero_le _, rfl, FF.out, RR.out, PP.out, EE.out, QQ.out, n0, by omega, by omega, HI'.out, HT.out⟩
       case round =>
        clear FF RR PP EE QQ HI HI' HT n0 n1 m1
        obtain ⟨k, G, s, m, hk, rfl, f0, r0, p0, e0, pr0, n0, n1, m1, hit, hnt⟩ := hrel
        have u6 := f0.c 6 _ rfl
        have u7 := f0.c 7 _ rfl
        have u9 := f0.c 9 _ rfl
        have y0 := p0.c 0 _ rfl
        have y1 := p0.c 1 _ rfl
        have hl60 := HF.out.pu1
        dsimp only at hl60
        have FF := Lib.hid f0
        have RR := Lib.hid r0
        have PP := Lib.hid p0
        have EE := Lib.hid e0
        have QQ := Lib.hid pr0
        have HI := Lib.hid hit
        have HT := Lib.hid hnt
        clear f0 r0 p0 e0 pr0 hit hnt
        by_cases hgo : k < pu.length ∧ 0 < it.length
        · obtain ⟨hkp, hip⟩ := hgo
          obtain ⟨b', o', c', he, hcp', hmx, hbl, hx⟩ := HF.out.pu.open (by dsimp only; omega) (by omega)
          cases he
          obtain ⟨x, hxe⟩ : ∃ x, x = pu[k] := ⟨_, rfl⟩
          have hr : ∀ j, j < 3 → (rowOf putc pu)[k * 3 + j]? = (putc x)[j]? := fun j hj => by rw [hxe]; exact rowOf_get (f := putc) (k := 3) (fun a => rfl) pu k j hkp hj
          have hxb := HF.out.pub x (by rw [hxe]; exact List.getElem_mem _)
          have v0 : wr.cell? ⟨b', o' + k * 3, none⟩ = some (.int .u8 x.1) := (EE.out.cell (p := ⟨b', o' + k * 3, none⟩) hbl sb0).trans (hx _ _ (hr 0 (by omega)))
          have v1 : wr.cell? ⟨b', o' + k * 3 + 1, none⟩ = some (.int .u8 x.2.1) := (EE.out.cell (p := ⟨b', o' + k * 3 + 1, none⟩) hbl sb0).trans (hx _ _ (hr 1 (by omega)))
          have v2 : wr.cell? ⟨b', o' + k * 3 + 2, none⟩ = some (.int .u8 x.2.2) := (EE.out.cell (p := ⟨b', o' + k * 3 + 2, none⟩) hbl sb0).trans (hx _ _ (hr 2 (by omega)))
          have hbz : G b' = 0 := EE.out.lo b' hbl
          have hbw : b' < wr.heap.size := Nat.lt_of_lt_of_le hbl EE.out.size
          have HL := Lib.hid HF.out.it1
          have HKy := Lib.hid HF.out.key
          have hip' : 0 < s.it.length := by rw [HI.out]; exact hip
          have hil : s.it.length ≤ 1000 := by rw [HI.out]; have := HL.out; dsimp only at this; omega
          have HKs := Lib.hid (show ∀ x ∈ s.it, x.key.size ≤ 400 from fun x hx => HKy.out x (by rw [← HI.out]; exact hx))
          have HIl := Lib.hid (show (it.length : Int) = s.it.length by rw [HI.out])
          clear hx hr hxe
          go_wp2_with fail
          go_region_held3 (fun w' => w'.cell? ⟨w2.heap.size, 0, none⟩ = some (.pointer (some ⟨B.p, 0, none⟩)) ∧ w'.cell? ⟨w2.heap.size, 1, none⟩ = some (.pointer (some ⟨C.p, 0, none⟩)) ∧ w'.cell? ⟨N, 6, none⟩ = some (.slice ai it.length ci) ∧ w'.cell? ⟨N, 7, none⟩ = some (.slice (some ⟨b', o', none⟩) pu.length cp) ∧ w'.cell? ⟨b', o' + k * 3, none⟩ = some (.int .u8 x.1) ∧ w'.cell? ⟨b', o' + k * 3 + 1, none⟩ = some (.int .u8 x.2.1) ∧ w'.cell? ⟨b', o' + k * 3 + 2, none⟩ = some (.int .u8 x.2.2)) (go_keep)
           ((go_at_call 61
             refine (c_PPut (w := wr.drew) x.1 x.2.1 x.2.2 it.length (QQ.out.below EE.out.hi (drew_below wr)) EE.out.hi HIl.out hip' HKs.out hil (by omega) n0 (by omega) hxb.1.1 hxb.1.2 hxb.2.1.1 hxb.2.1.2 hxb.2.2.1 hxb.2.2.2).mono ?_
             rintro e w11 ⟨rfl, G11, e11, s2, pr11, sn, si, sx⟩
             have x0 := (e11.nob sp0 hbw hbz (o' + k * 3)).trans v0
             have x1 := (e11.nob sp0 hbw hbz (o' + k * 3 + 1)).trans v1
             have x2 := (e11.nob sp0 hbw hbz (o' + k * 3 + 2)).trans v2
             have FF1 := Lib.hid ((FF.out.below (drew_below wr)).ext e11 sp9)
             have RR1 := Lib.hid ((RR.out.below (drew_below wr)).ext e11 sp9)
             have PP1 := Lib.hid ((PP.out.below (drew_below wr)).ext e11 sp9)
             have EE1 := Lib.hid (EE.out.drew.trans (e11.mono fun t _ h => sb_sp h))
             have QQ1 := Lib.hid pr11
             have SI1 := Lib.hid si
             have SX1 := Lib.hid sx
             have w0 := PP1.out.c 0 _ rfl
             have w1' := PP1.out.c 1 _ rfl
             have w6' := FF1.out.c 6 _ rfl
             have w7' := FF1.out.c 7 _ rfl
             clear e11 pr11 si sx))
          all_goals
           go_wp2
           go_roundw
           case rel => exact ⟨k + 1, G11, s2, _, by omega, by go_num, FF1.out, RR1.out, PP1.out, EE1.out, QQ1.out, by omega, by omega, by omega, by rw [SI1.out, HI.out], by rw [SX1.out, HT.out]⟩
           case measure => simp [intOf]; omega
        · go_upto_region 16 with fail
          go_cut [78] (fun s wx => s = .bool false ∧ wx = wr)
          case first =>
           by_cases hg1 : k < pu.length
           · have hg2 : ¬ (0 < it.length) := by omega
             clear hgo
             go_wp2_with fail
             go_meet
             exact ⟨rfl, rfl⟩
           · clear hgo
             go_wp2_with fail
             go_meet
             exact ⟨rfl, rfl⟩
          case rest =>
          obtain ⟨rfl, rfl⟩ := hcut
          go_wp2_with fail
          clear u6 u7 u9 y0 y1 hgo
          go_loopw [7] (fun i wr => ∃ k : Nat, ∃ G s m, k ≤ 40 ∧ i = .int .i64 k ∧ Ob wr G 9 N [.int .i64 f.b, .int .i64 f.g, .int .i64 f.t, .int .i64 f.q, .int .i64 f.y, .bool gr, .slice ai it.length ci, .slice ap pu.length cp, .slice as' st.length cs, .int .i64 ti] ∧ Ob wr G 9 (N + 1) [.pointer none, .pointer none] ∧ Ob wr G 9 w2.heap.size [.pointer (some ⟨B.p, 0, none⟩), .pointer (some ⟨C.p, 0, none⟩)] ∧ Ext SB O0 w G wr ∧ PR wr G B C cfD s m ∧ 0 ≤ s.n ∧ s.n ≤ 200 + (k : Int) ∧ m ≤ 200 + k ∧ s.it = it ∧ s.nt = [])
           (fun i _ => 40 - (intOf i).toNat)
          case atStart => exact ⟨0, G, s, m, Nat.zero_le _, rfl, FF.out, RR.out, PP.out, EE.out, QQ.out, n0, by omega, by omega, HI.out, HT.out⟩
          case round =>
           clear FF RR PP EE QQ HI HT n0 n1 m1 hk
           obtain ⟨k, G, s, m, hk, rfl, f0, r0, p0, e0, pr0, n0, n1, m1, hit, hnt⟩ := hrel
           have u9 := f0.c 9 _ rfl
           have y0 := p0.c 0 _ rfl
           have y1 := p0.c 1 _ rfl
           have FF := Lib.hid f0
           have RR := Lib.hid r0
           have PP := Lib.hid p0
           have EE := Lib.hid e0
           have QQ := Lib.hid pr0
           have HI := Lib.hid hit
           have HT := Lib.hid hnt
           clear f0 r0 p0 e0 pr0 hit hnt
           have hti0 := HF.out.ti0
           have hti1 := HF.out.ti1
           dsimp only at hti0 hti1
           by_cases hgo : (k : Int) < ti ∧ k < 40
           · obtain ⟨hg1, hg2⟩ := hgo
             go_wp2_with fail
             refine (c_PTick QQ.out EE.out.hi (by omega) n0 (by omega)).mono ?_
             rintro e w11 ⟨rfl, G11, e11, pr11⟩
             have FF1 := Lib.hid (FF.out.ext e11 sp9)
             have RR1 := Lib.hid (RR.out.ext e11 sp9)
             have PP1 := Lib.hid (PP.out.ext e11 sp9)
             have EE1 := Lib.hid (EE.out.trans (e11.mono fun t _ h => sb_sp h))
             have QQ1 := Lib.hid pr11
             clear e11 pr11
             go_wp2
             go_roundw
             case rel => exact ⟨k + 1, G11, _, _, by omega, by go_num, FF1.out, RR1.out, PP1.out, EE1.out, QQ1.out, by show 0 ≤ s.n + 1; omega, by show s.n + 1 ≤ _; omega, by omega, HI.out, HT.out⟩
             case measure => simp [intOf]; omega
           · go_upto_region 20 with fail
             go_cut [98] (fun s wx => s = .bool false ∧ wx = wr)
             case first =>
              by_cases hg1 : (k : Int) < ti
              · have hg2 : ¬ (k < 40) := by omega
                clear hgo
                go_wp2_with fail
                go_meet
                exact ⟨by simp; omega, rfl⟩
              · clear hgo
                go_wp2_with fail
                go_meet
                exact ⟨rfl, rfl⟩
             case rest =>
              obtain ⟨rfl, rfl⟩ := hcut
              go_wp2_with fail
              clear u9 y0 y1 hgo hti0 hti1
              go_loopw [8] (fun i wr => ∃ k : Nat, ∃ G s m, k ≤ st.length ∧ i = .int .i64 k ∧ Ob wr G 9 N [.int .i64 f.b, .int .i64 f.g, .int .i64 f.t, .int .i64 f.q, .int .i64 f.y, .bool gr, .slice ai it.length ci, .slice ap pu.length cp, .slice as' st.length cs, .int .i64 ti] ∧ Ob wr G 9 (N + 1) [.pointer none, .pointer none] ∧ Ob wr G 9 w2.heap.size [.pointer (some ⟨B.p, 0, none⟩), .pointer (some ⟨C.p, 0, none⟩)] ∧ Ext SB O0 w G wr ∧ PR wr G B C cfD s m ∧ 0 ≤ s.n ∧ s.n ≤ 300 + (k : Int) ∧ m ≤ 300 + k ∧ s.it = it ∧ s.nt = [])
               (fun i _ => st.length - (intOf i).toNat)
              case atStart => exact ⟨0, G, s, m, Nat.zero_le _, rfl, FF.out, RR.out, PP.out, EE.out, QQ.out, n0, by omega, by omega, HI.out, HT.out⟩
              case round =>
               clear FF RR PP EE QQ HI HT n0 n1 m1 hk
               obtain ⟨k, G, s, m, hk, rfl, f0, r0, p0, e0, pr0, n0, n1, m1, hit, hnt⟩ := hrel
               have u8 := f0.c 8 _ rfl
               have y0 := p0.c 0 _ rfl
               have y1 := p0.c 1 _ rfl
               have hl60 := HF.out.st1
               dsimp only at hl60
               have FF := Lib.hid f0
               have RR := Lib.hid r0
               have PP := Lib.hid p0
               have EE := Lib.hid e0
               have QQ := Lib.hid pr0
               have HI := Lib.hid hit
               have HT := Lib.hid hnt
               clear f0 r0 p0 e0 pr0 hit hnt
               by_cases hlt2 : k < st.length
               · obtain ⟨b', o', c', he, hcp, hmx, hbl, hx⟩ := HF.out.st.open (by dsimp only; omega) (by omega)
                 cases he
                 obtain ⟨x, hxe⟩ : ∃ x, x = st[k] := ⟨_, rfl⟩
                 have hr : ∀ j, j < 2 → (rowOf stoc st)[k * 2 + j]? = (stoc x)[j]? := fun j hj => by rw [hxe]; exact rowOf_get (f := stoc) (k := 2) (fun a => rfl) st k j hlt2 hj
                 have hxb := HF.out.stb x (by rw [hxe]; exact List.getElem_mem _)
                 have v0 : wr.cell? ⟨b', o' + k * 2, none⟩ = some (.int .u64 x.1) := (EE.out.cell (p := ⟨b', o' + k * 2, none⟩) hbl sb0).trans (hx _ _ (hr 0 (by omega)))
                 have v1 : wr.cell? ⟨b', o' + k * 2 + 1, none⟩ = some (.int .u64 x.2) := (EE.out.cell (p := ⟨b', o' + k * 2 + 1, none⟩) hbl sb0).trans (hx _ _ (hr 1 (by omega)))
                 have hbz : G b' = 0 := EE.out.lo b' hbl
                 have hbw : b' < wr.heap.size := Nat.lt_of_lt_of_le hbl EE.out.size
                 clear hx hr hxe
                 go_wp2_with fail
                 go_region_held3 (fun w' => w'.cell? ⟨w2.heap.size, 0, none⟩ = some (.pointer (some ⟨B.p, 0, none⟩)) ∧ w'.cell? ⟨w2.heap.size, 1, none⟩ = some (.pointer (some ⟨C.p, 0, none⟩)) ∧ w'.cell? ⟨N, 8, none⟩ = some (.slice (some ⟨b', o', none⟩) st.length cs) ∧ w'.cell? ⟨b', o' + k * 2, none⟩ = some (.int .u64 x.1) ∧ w'.cell? ⟨b', o' + k * 2 + 1, none⟩ = some (.int .u64 x.2)) (go_keep)
                  ((go_at_call 59
                    refine (c_PStore (w := wr.drew) x.1 x.2 (QQ.out.below EE.out.hi (drew_below wr)) EE.out.hi (by omega) hxb.1.1 hxb.1.2 hxb.2.1 hxb.2.2 n0 (by omega)).mono ?_
                    rintro e w11 ⟨rfl, G11, e11, pr11⟩
                    have x0 := (e11.nob sp0 hbw hbz (o' + k * 2)).trans v0
                    have x1 := (e11.nob sp0 hbw hbz (o' + k * 2 + 1)).trans v1
                    have FF1 := Lib.hid ((FF.out.below (drew_below wr)).ext e11 sp9)
                    have RR1 := Lib.hid ((RR.out.below (drew_below wr)).ext e11 sp9)
                    have PP1 := Lib.hid ((PP.out.below (drew_below wr)).ext e11 sp9)
                    have EE1 := Lib.hid (EE.out.drew.trans (e11.mono fun t _ h => sb_sp h))
                    have QQ1 := Lib.hid pr11
                    have w0 := PP1.out.c 0 _ rfl
                    have w1' := PP1.out.c 1 _ rfl
                    have w8' := FF1.out.c 8 _ rfl
                    clear e11 pr11))
                 all_goals
                  go_wp2
                  go_roundw
                  case rel => exact ⟨k + 1, G11, _, _, by omega, by go_num, FF1.out, RR1.out, PP1.out, EE1.out, QQ1.out, by show 0 ≤ s.n + 1; omega, by show s.n + 1 ≤ _; omega, by omega, HI.out, HT.out⟩
                  case measure => simp [intOf]; omega
               · have q0 := RR.out.c 0 _ rfl
                 have q1 := RR.out.c 1 _ rfl
                 have z0 := RR.out.f 0
                 have z1 := RR.out.f 1
                 have R2 := RR.out.set 0 (.pointer (some ⟨B.p, 0, none⟩)) (by simp)
                 have E2 := Ob.set9 EE.out RR.out sb9 0 (.pointer (some ⟨B.p, 0, none⟩))
                 have E3 := Lib.hid (Ob.set9 E2 R2 sb9 1 (.pointer (some ⟨C.p, 0, none⟩)))
                 have P3 := Lib.hid (PR.mk ((QQ.out.p.set9 EE.out.hi RR.out.o (j := 0) (v := .pointer (some ⟨B.p, 0, none⟩))).set9 E2.hi R2.o (j := 1) (v := .pointer (some ⟨C.p, 0, none⟩))) ((QQ.out.r.set9 EE.out.hi RR.out.o (j := 0) (v := .pointer (some ⟨B.p, 0, none⟩))).set9 E2.hi R2.o (j := 1) (v := .pointer (some ⟨C.p, 0, none⟩))))
                 clear R2 E2
                 go_wp2_with fail
                 all_goals exact bodyPost_ret (v := .agg #[.pointer (some ⟨B.p, 0, none⟩), .pointer (some ⟨C.p, 0, none⟩)]) (by simp [results, Tryz.results21, go_sem, q0, q1, z0, z1]) rfl ⟨B, C, rfl, G, E3.out, s, m, by rw [← HG.out]; exact P3.out, n0, by omega, by omega, HI.out, HT.out⟩
 · have hgD : g = f := by rw [hg]; unfold cfOf; rw [hcf]; rfl
   subst hgD
   have HG := Lib.hid hg
   clear hg hcf
   go_wp2_with fail
   obtain ⟨W3, hW3⟩ : ∃ W3, W3 = w2 := ⟨_, rfl⟩
   have FF3 := FF2
   have RR3 := RR2
   have KK3 := KK2
   have EE3 := EE2
   have hM : w2.heap.size = W3.heap.size := by rw [hW3]
   rw [← hW3] at FF3 RR3 KK3 EE3
   rw [show w2.alloc (.cells #[.pointer none, .pointer none] 62) = W3.alloc (.cells #[.pointer none, .pointer none] 62) by rw [hW3]]
   clear hW3 FF2 RR2 KK2 EE2 c0 c1 c2 c3 c4 z0 z1 z2 z3 z4
   obtain ⟨G4, e4, p4, k4⟩ := alloc_ob EE3.out.hi 9 #[.pointer none, .pointer none] 62 w2.heap.size hM
   obtain ⟨W4, hW4⟩ : ∃ W4, W4 = W3.alloc (.cells #[.pointer none, .pointer none] 62) := ⟨_, rfl⟩
   have f4 := k4 _ _ _ FF3.out
   have r4 := k4 _ _ _ RR3.out
   have q4 := k4 _ _ _ KK3.out
   rw [← hW4] at e4 p4 f4 r4 q4 ⊢
   have FF4 := Lib.hid f4
   have RR4 := Lib.hid r4
   have KK4 := Lib.hid q4
   have PP4 := Lib.hid p4
   have EE4 := Lib.hid (EE3.out.trans (e4.mono fun t _ h => by subst h; exact ⟨by decide, by decide⟩))
   clear e4 p4 f4 r4 q4 k4 hW4 FF3 RR3 KK3 EE3 hM
   refine (c_Other g W4).mono ?_
   rintro e w5 ⟨rfl, hb5⟩
   have FF5 := Lib.hid (FF4.out.below hb5)
   have RR5 := Lib.hid (RR4.out.below hb5)
   have KK5 := Lib.hid (KK4.out.below hb5)
   have PP5 := Lib.hid (PP4.out.below hb5)
   have EE5 := Lib.hid (EE4.out.below hb5)
   clear hb5 FF4 RR4 KK4 PP4 EE4
   go_wp2_with fail
   refine (c_RNew10 g w5 G4 hgm EE5.out.hi).mono ?_
   rintro e w6 ⟨C, rfl, G6, e6, rw6⟩
   have FF6 := Lib.hid (FF5.out.ext e6 sr9)
   have RR6 := Lib.hid (RR5.out.ext e6 sr9)
   have KK6 := Lib.hid (KK5.out.ext e6 sr9)
   have PP6 := Lib.hid (PP5.out.ext e6 sr9)
   have EE6 := Lib.hid (EE5.out.trans (e6.mono fun t _ h => sb_sp (sp_sr h)))
   have RW6 := Lib.hid rw6
   clear e6 rw6 FF5 RR5 KK5 PP5 EE5
   have d0 := KK6.out.c 0 _ rfl
   have d1 := KK6.out.c 1 _ rfl
   have d2 := KK6.out.c 2 _ rfl
   have d3 := KK6.out.c 3 _ rfl
   have d4 := KK6.out.c 4 _ rfl
   have y0 := PP6.out.c 0 _ rfl
   have y1 := PP6.out.c 1 _ rfl
   have g0 := PP6.out.f 0
   have g1 := PP6.out.f 1
   go_wp2_with fail
   obtain ⟨W7, hW7⟩ : ∃ W7, W7 = w6.setCell ⟨w2.heap.size, 1, none⟩ (.pointer (some ⟨C.p, 0, none⟩)) := ⟨_, rfl⟩
   have FF7 : Hid (Ob W7 G6 9 N [.int .i64 g.b, .int .i64 g.g, .int .i64 g.t, .int .i64 g.q, .int .i64 g.y, .bool gr, .slice ai it.length ci, .slice ap pu.length cp, .slice as' st.length cs, .int .i64 ti]) := Lib.hid (by rw [hW7]; exact FF6.out.other hp0)
   have RR7 : Hid (Ob W7 G6 9 (N + 1) [.pointer none, .pointer none]) := Lib.hid (by rw [hW7]; exact RR6.out.other hp1)
   have KK7 : Hid (Ob W7 G6 9 (N + 1 + 1) [.int .i64 g.b, .int .i64 g.g, .int .i64 g.t, .int .i64 g.q, .int .i64 g.y]) := Lib.hid (by rw [hW7]; exact KK6.out.other hp2)
   have PP7 : Hid (Ob W7 G6 9 w2.heap.size [.pointer none, .pointer (some ⟨C.p, 0, none⟩)]) := Lib.hid (by rw [hW7]; exact PP6.out.set 1 _ (by simp))
   have EE7 : Hid (Ext SB O0 w G6 W7) := Lib.hid (by rw [hW7]; exact Ob.set9 EE6.out PP6.out sb9 1 _)
   have RW7 : Hid (RW W7 G6 C g (aw0 g.b) 1) := Lib.hid (by rw [hW7]; exact RW6.out.set9 EE6.out.hi PP6.out.o)
   rw [← hW7]
   clear hW7 FF6 RR6 KK6 PP6 EE6 RW6 d0 d1 d2 d3 d4 y0 y1 g0 g1
   refine (c_WNewQ g W7 hgm).mono ?_
   intro e w8 hw8
   obtain ⟨B, rfl, G8, e8, pw8⟩ := hw8.rp EE7.out.hi
   have FF8 := Lib.hid (FF7.out.ext e8 sw9)
   have RR8 := Lib.hid (RR7.out.ext e8 sw9)
   have KK8 := Lib.hid (KK7.out.ext e8 sw9)
   have PP8 := Lib.hid (PP7.out.ext e8 sw9)
   have EE8 := Lib.hid (EE7.out.trans (e8.mono fun t _ h => sb_sp (sp_sw h)))
   have PR8 := Lib.hid (PR.mk pw8 (RW7.out.sw e8))
   clear hw8 e8 pw8 FF7 RR7 KK7 PP7 EE7 RW7
   have d0 := KK8.out.c 0 _ rfl
   have d1 := KK8.out.c 1 _ rfl
   have d2 := KK8.out.c 2 _ rfl
   have d3 := KK8.out.c 3 _ rfl
   have d4 := KK8.out.c 4 _ rfl
   have u5 := FF8.out.c 5 _ rfl
   have u6 := FF8.out.c 6 _ rfl
   have y0 := PP8.out.c 0 _ rfl
   have y1 := PP8.out.c 1 _ rfl
   have g0 := PP8.out.f 0
   have g1 := PP8.out.f 1
   have hgb0 := hgm.b0
   have hgb1 := hgm.b1
   go_wp2_with fail
   all_goals
    obtain ⟨W9, hW9⟩ : ∃ W9, W9 = w8.setCell ⟨w2.heap.size, 0, none⟩ (.pointer (some ⟨B.p, 0, none⟩)) := ⟨_, rfl⟩
    have FF9 : Hid (Ob W9 G8 9 N _) := Lib.hid (by rw [hW9]; exact FF8.out.other hp0)
    have RR9 : Hid (Ob W9 G8 9 (N + 1) [.pointer none, .pointer none]) := Lib.hid (by rw [hW9]; exact RR8.out.other hp1)
    have PP9 : Hid (Ob W9 G8 9 w2.heap.size [.pointer (some ⟨B.p, 0, none⟩), .pointer (some ⟨C.p, 0, none⟩)]) := Lib.hid (by rw [hW9]; exact PP8.out.set 0 _ (by simp))
    have EE9 : Hid (Ext SB O0 w G8 W9) := Lib.hid (by rw [hW9]; exact Ob.set9 EE8.out PP8.out sb9 0 _)
    have PR9 : Hid (PR W9 G8 B C g (aw0 g.b) 1) := Lib.hid (by rw [hW9]; exact ⟨PR8.out.p.set9 EE8.out.hi PP8.out.o, PR8.out.r.set9 EE8.out.hi PP8.out.o⟩)
    rw [← hW9]
    clear hW9 FF8 RR8 KK8 PP8 EE8 PR8 d0 d1 d2 d3 d4 u5 u6 y0 y1 g0 g1
   all_goals first
    | (refine (c_PStore _ _ PR9.out EE9.out.hi (by decide) (by decide) (by decide) (by first | decide | omega) (by first | decide | omega) (by show (0 : Int) ≤ 0; decide) (by show (0 : Int) ≤ 4611686018427387904; decide)).mono ?_
       rintro e w10 ⟨rfl, G10, e10, pr10⟩
       have FF10 := Lib.hid (FF9.out.ext e10 sp9)
       have RR10 := Lib.hid (RR9.out.ext e10 sp9)
       have PP10 := Lib.hid (PP9.out.ext e10 sp9)
       have EE10 := Lib.hid (EE9.out.trans (e10.mono fun t _ h => sb_sp h))
       have PR10 : Hid (∃ s m, PR w10 G10 B C g s m ∧ 0 ≤ s.n ∧ s.n ≤ 1 ∧ m ≤ 2 ∧ s.it = [] ∧ s.nt = []) := Lib.hid ⟨_, _, pr10, by show (0 : Int) ≤ 0 + 1; decide, by show (0 : Int) + 1 ≤ 1; decide, by decide, rfl, rfl⟩
       clear e10 pr10 FF9 RR9 PP9 EE9 PR9
       go_wp2_with fail)
    | (obtain ⟨w10, hw10⟩ : ∃ w10, w10 = W9 := ⟨_, rfl⟩
       obtain ⟨G10, hG10⟩ : ∃ G10, G10 = G8 := ⟨_, rfl⟩
       have PR10 : Hid (∃ s m, PR W9 G8 B C g s m ∧ 0 ≤ s.n ∧ s.n ≤ 1 ∧ m ≤ 2 ∧ s.it = [] ∧ s.nt = []) := Lib.hid ⟨_, _, PR9.out, by show (0 : Int) ≤ 0; decide, by show (0 : Int) ≤ 1; decide, by decide, rfl, rfl⟩
       have FF10 := FF9
       have RR10 := RR9
       have PP10 := PP9
       have EE10 := EE9
       rw [← hw10, ← hG10] at FF10 RR10 PP10 EE10 PR10
       rw [← hw10]
       clear hw10 hG10 FF9 RR9 PP9 EE9 PR9)
   all_goals
    go_loopw [5] (fun i wr => ∃ k : Nat, ∃ G s m, k ≤ it.length ∧ i = .int .i64 k ∧ Ob wr G 9 N [.int .i64 g.b, .int .i64 g.g, .int .i64 g.t, .int .i64 g.q, .int .i64 g.y, .bool gr, .slice ai it.length ci, .slice ap pu.length cp, .slice as' st.length cs, .int .i64 ti] ∧ Ob wr G 9 (N + 1) [.pointer none, .pointer none] ∧ Ob wr G 9 w2.heap.size [.pointer (some ⟨B.p, 0, none⟩), .pointer (some ⟨C.p, 0, none⟩)] ∧ Ext SB O0 w G wr ∧ PR wr G B C g s m ∧ 0 ≤ s.n ∧ s.n ≤ 1 ∧ m ≤ 2 ∧ s.it = it.take k ∧ s.nt = [])
     (fun i _ => it.length - (intOf i).toNat)
    case atStart =>
     obtain ⟨s, m, h1, h2, h3, h4, h5, h6⟩ := PR10.out
     exact ⟨0, G10, s, m, Nat.zero_le _, rfl, FF10.out, RR10.out, PP10.out, EE10.out, h1, h2, h3, h4, by simpa using h5, h6⟩
    case round =>
     clear FF10 RR10 PP10 EE10 PR10
     obtain ⟨k, G, s, m, hk, rfl, f0, r0, p0, e0, pr0, n0, n1, m1, hit, hnt⟩ := hrel
     have u6 := f0.c 6 _ rfl
     have u7 := f0.c 7 _ rfl
     have y0 := p0.c 0 _ rfl
     have y1 := p0.c 1 _ rfl
     have hl40 := HF.out.it1
     dsimp only at hl40
     have FF := Lib.hid f0
     have RR := Lib.hid r0
     have PP := Lib.hid p0
     have EE := Lib.hid e0
     have QQ := Lib.hid pr0
     have HI := Lib.hid hit
     have HT := Lib.hid hnt
     clear f0 r0 p0 e0 pr0 hit hnt
     by_cases hlt2 : k < it.length
     · obtain ⟨b', o', c', he, hcp, hmx, hbl, hx⟩ := HF.out.it.open (by dsimp only; omega) (by omega)
       cases he
       obtain ⟨x, hxe⟩ : ∃ x, x = it[k] := ⟨_, rfl⟩
       have hr : ∀ j, j < 6 → (rowOf itc it)[k * 6 + j]? = (itc x)[j]? := fun j hj => by rw [hxe]; exact rowOf_get itc_len it k j hlt2 hj
       have v0 : wr.cell? ⟨b', o' + k * 6, none⟩ = some (.string x.key) := (EE.out.cell (p := ⟨b', o' + k * 6, none⟩) hbl sb0).trans (hx _ _ (hr 0 (by omega)))
       have v1 : wr.cell? ⟨b', o' + k * 6 + 1, none⟩ = some (.string x.val) := (EE.out.cell (p := ⟨b', o' + k * 6 + 1, none⟩) hbl sb0).trans (hx _ _ (hr 1 (by omega)))
       have v2 : wr.cell? ⟨b', o' + k * 6 + 2, none⟩ = some (.int .u32 x.fl) := (EE.out.cell (p := ⟨b', o' + k * 6 + 2, none⟩) hbl sb0).trans (hx _ _ (hr 2 (by omega)))
       have v3 : wr.cell? ⟨b', o' + k * 6 + 3, none⟩ = some (.int .u64 x.id) := (EE.out.cell (p := ⟨b', o' + k * 6 + 3, none⟩) hbl sb0).trans (hx _ _ (hr 3 (by omega)))
       have v4 : wr.cell? ⟨b', o' + k * 6 + 4, none⟩ = some (.int .i64 x.dies) := (EE.out.cell (p := ⟨b', o' + k * 6 + 4, none⟩) hbl sb0).trans (hx _ _ (hr 4 (by omega)))
       have v5 : wr.cell? ⟨b', o' + k * 6 + 5, none⟩ = some (.int .i64 x.gen) := (EE.out.cell (p := ⟨b', o' + k * 6 + 5, none⟩) hbl sb0).trans (hx _ _ (hr 5 (by omega)))
       have HX := Lib.hid hxe
       have hbz : G b' = 0 := EE.out.lo b' hbl
       have hbw : b' < wr.heap.size := Nat.lt_of_lt_of_le hbl EE.out.size
       clear hx hr hxe
       go_wp2_with fail
       go_region_held3 (fun w' => w'.cell? ⟨w2.heap.size, 0, none⟩ = some (.pointer (some ⟨B.p, 0, none⟩)) ∧ w'.cell? ⟨w2.heap.size, 1, none⟩ = some (.pointer (some ⟨C.p, 0, none⟩)) ∧ w'.cell? ⟨N, 6, none⟩ = some (.slice (some ⟨b', o', none⟩) it.length ci) ∧ w'.cell? ⟨b', o' + k * 6, none⟩ = some (.string x.key) ∧ w'.cell? ⟨b', o' + k * 6 + 1, none⟩ = some (.string x.val) ∧ w'.cell? ⟨b', o' + k * 6 + 2, none⟩ = some (.int .u32 x.fl) ∧ w'.cell? ⟨b', o' + k * 6 + 3, none⟩ = some (.int .u64 x.id) ∧ w'.cell? ⟨b', o' + k * 6 + 4, none⟩ = some (.int .i64 x.dies) ∧ w'.cell? ⟨b', o' + k * 6 + 5, none⟩ = some (.int .i64 x.gen)) (go_keep)
        ((go_at_call 60
          refine (c_PItem (w := wr.drew) x (QQ.out.below EE.out.hi (drew_below wr)) EE.out.hi (by rw [HI.out]; simp; omega)).mono ?_
          rintro e w11 ⟨rfl, G11, e11, pr11⟩
          have x0 := (e11.nob sp0 hbw hbz (o' + k * 6)).trans v0
          have x1 := (e11.nob sp0 hbw hbz (o' + k * 6 + 1)).trans v1
          have x2 := (e11.nob sp0 hbw hbz (o' + k * 6 + 2)).trans v2
          have x3 := (e11.nob sp0 hbw hbz (o' + k * 6 + 3)).trans v3
          have x4 := (e11.nob sp0 hbw hbz (o' + k * 6 + 4)).trans v4
          have x5 := (e11.nob sp0 hbw hbz (o' + k * 6 + 5)).trans v5
          have FF1 := Lib.hid ((FF.out.below (drew_below wr)).ext e11 sp9)
          have RR1 := Lib.hid ((RR.out.below (drew_below wr)).ext e11 sp9)
          have PP1 := Lib.hid ((PP.out.below (drew_below wr)).ext e11 sp9)
          have EE1 := Lib.hid (EE.out.drew.trans (e11.mono fun t _ h => sb_sp h))
          have QQ1 := Lib.hid pr11
          have w0 := PP1.out.c 0 _ rfl
          have w1' := PP1.out.c 1 _ rfl
          have w6' := FF1.out.c 6 _ rfl
          clear e11 pr11))
       all_goals
        go_wp2
        go_roundw
        case rel => exact ⟨k + 1, G11, _, _, by omega, by go_num, FF1.out, RR1.out, PP1.out, EE1.out, QQ1.out, n0, n1, m1, by show s.it ++ [x] = _; rw [HI.out, HX.out]; simp, HT.out⟩
        case measure => simp [intOf]; omega
     · obtain rfl : k = it.length := by omega
       have HI' : Hid (s.it = it) := Lib.hid (by rw [HI.out]; simp)
       go_wp2_with fail
       clear u6 u7 y0 y1 hlt2
       go_loopw [6] (fun i wr => ∃ k : Nat, ∃ G s m, k ≤ pu.length ∧ i = .int .i64 k ∧ Ob wr G 9 N [.int .i64 g.b, .int .i64 g.g, .int .i64 g.t, .int .i64 g.q, .int .i64 g.y, .bool gr, .slice ai it.length ci, .slice ap pu.length cp, .slice as' st.length cs, .int .i64 ti] ∧ Ob wr G 9 (N + 1) [.pointer none, .pointer none] ∧ Ob wr G 9 w2.heap.size [.pointer (some ⟨B.p, 0, none⟩), .pointer (some ⟨C.p, 0, none⟩)] ∧ Ext SB O0 w G wr ∧ PR wr G B C g s m ∧ 0 ≤ s.n ∧ s.n ≤ 1 + 2 * (k : Int) ∧ m ≤ 2 + 2 * k ∧ s.it = it ∧ s.nt = [])
        (fun i _ => pu.length - (intOf i).toNat)
       case atStart => exact ⟨0, G, s, m, Nat.zero_le _, rfl, FF.out, RR.out, PP.out, EE.out, QQ.out, n0, by omega, by omega, HI'.out, HT.out⟩
       case round =>
        clear FF RR PP EE QQ HI HI' HT n0 n1 m1
        obtain ⟨k, G, s, m, hk, rfl, f0, r0, p0, e0, pr0, n0, n1, m1, hit, hnt⟩ := hrel
        have u6 := f0.c 6 _ rfl
        have u7 := f0.c 7 _ rfl
        have u9 := f0.c 9 _ rfl
        have y0 := p0.c 0 _ rfl
        have y1 := p0.c 1 _ rfl
        have hl60 := HF.out.pu1
        dsimp only at hl60
        have FF := Lib.hid f0
        have RR := Lib.hid r0
        have PP := Lib.hid p0
        have EE := Lib.hid e0
        have QQ := Lib.hid pr0
        have HI := Lib.hid hit
        have HT := Lib.hid hnt
        clear f0 r0 p0 e0 pr0 hit hnt
        by_cases hgo : k < pu.length ∧ 0 < it.length
        · obtain ⟨hkp, hip⟩ := hgo
          obtain ⟨b', o', c', he, hcp', hmx, hbl, hx⟩ := HF.out.pu.open (by dsimp only; omega) (by omega)
          cases he
          obtain ⟨x, hxe⟩ : ∃ x, x = pu[k] := ⟨_, rfl⟩
          have hr : ∀ j, j < 3 → (rowOf putc pu)[k * 3 + j]? = (putc x)[j]? := fun j hj => by rw [hxe]; exact rowOf_get (f := putc) (k := 3) (fun a => rfl) pu k j hkp hj
          have hxb := HF.out.pub x (by rw [hxe]; exact List.getElem_mem _)
          have v0 : wr.cell? ⟨b', o' + k * 3, none⟩ = some (.int .u8 x.1) := (EE.out.cell (p := ⟨b', o' + k * 3, none⟩) hbl sb0).trans (hx _ _ (hr 0 (by omega)))
          have v1 : wr.cell? ⟨b', o' + k * 3 + 1, none⟩ = some (.int .u8 x.2.1) := (EE.out.cell (p := ⟨b', o' + k * 3 + 1, none⟩) hbl sb0).trans (hx _ _ (hr 1 (by omega)))
          have v2 : wr.cell? ⟨b', o' + k * 3 + 2, none⟩ = some (.int .u8 x.2.2) := (EE.out.cell (p := ⟨b', o' + k * 3 + 2, none⟩) hbl sb0).trans (hx _ _ (hr 2 (by omega)))
          have hbz : G b' = 0 := EE.out.lo b' hbl
          have hbw : b' < wr.heap.size := Nat.lt_of_lt_of_le hbl EE.out.size
          have HL := Lib.hid HF.out.it1
          have HKy := Lib.hid HF.out.key
          have hip' : 0 < s.it.length := by rw [HI.out]; exact hip
          have hil : s.it.length ≤ 1000 := by rw [HI.out]; have := HL.out; dsimp only at this; omega
          have HKs := Lib.hid (show ∀ x ∈ s.it, x.key.size ≤ 400 from fun x hx => HKy.out x (by rw [← HI.out]; exact hx))
          have HIl := Lib.hid (show (it.length : Int) = s.it.length by rw [HI.out])
          clear hx hr hxe
          go_wp2_with fail
          go_region_held3 (fun w' => w'.cell? ⟨w2.heap.size, 0, none⟩ = some (.pointer (some ⟨B.p, 0, none⟩)) ∧ w'.cell? ⟨w2.heap.size, 1, none⟩ = some (.pointer (some ⟨C.p, 0, none⟩)) ∧ w'.cell? ⟨N, 6, none⟩ = some (.slice ai it.length ci) ∧ w'.cell? ⟨N, 7, none⟩ = some (.slice (some ⟨b', o', none⟩) pu.length cp) ∧ w'.cell? ⟨b', o' + k * 3, none⟩ = some (.int .u8 x.1) ∧ w'.cell? ⟨b', o' + k * 3 + 1, none⟩ = some (.int .u8 x.2.1) ∧ w'.cell? ⟨b', o' + k * 3 + 2, none⟩ = some (.int .u8 x.2.2)) (go_keep)
           ((go_at_call 61
             refine (c_PPut (w := wr.drew) x.1 x.2.1 x.2.2 it.length (QQ.out.below EE.out.hi (drew_below wr)) EE.out.hi HIl.out hip' HKs.out hil (by omega) n0 (by omega) hxb.1.1 hxb.1.2 hxb.2.1.1 hxb.2.1.2 hxb.2.2.1 hxb.2.2.2).mono ?_
             rintro e w11 ⟨rfl, G11, e11, s2, pr11, sn, si, sx⟩
             have x0 := (e11.nob sp0 hbw hbz (o' + k * 3)).trans v0
             have x1 := (e11.nob sp0 hbw hbz (o' + k * 3 + 1)).trans v1
             have x2 := (e11.nob sp0 hbw hbz (o' + k * 3 + 2)).trans v2
             have FF1 := Lib.hid ((FF.out.below (drew_below wr)).ext e11 sp9)
             have RR1 := Lib.hid ((RR.out.below (drew_below wr)).ext e11 sp9)
             have PP1 := Lib.hid ((PP.out.below (drew_below wr)).ext e11 sp9)
             have EE1 := Lib.hid (EE.out.drew.trans (e11.mono fun t _ h => sb_sp h))
             have QQ1 := Lib.hid pr11
             have SI1 := Lib.hid si
             have SX1 := Lib.hid sx
             have w0 := PP1.out.c 0 _ rfl
             have w1' := PP1.out.c 1 _ rfl
             have w6' := FF1.out.c 6 _ rfl
             have w7' := FF1.out.c 7 _ rfl
             clear e11 pr11 si sx))
          all_goals
           go_wp2
           go_roundw
           case rel => exact ⟨k + 1, G11, s2, _, by omega, by go_num, FF1.out, RR1.out, PP1.out, EE1.out, QQ1.out, by omega, by omega, by omega, by rw [SI1.out, HI.out], by rw [SX1.out, HT.out]⟩
           case measure => simp [intOf]; omega
        · go_upto_region 16 with fail
          go_cut [78] (fun s wx => s = .bool false ∧ wx = wr)
          case first =>
           by_cases hg1 : k < pu.length
           · have hg2 : ¬ (0 < it.length) := by omega
             clear hgo
             go_wp2_with fail
             go_meet
             exact ⟨rfl, rfl⟩
           · clear hgo
             go_wp2_with fail
             go_meet
             exact ⟨rfl, rfl⟩
          case rest =>
          obtain ⟨rfl, rfl⟩ := hcut
          go_wp2_with fail
          clear u6 u7 u9 y0 y1 hgo
          go_loopw [7] (fun i wr => ∃ k : Nat, ∃ G s m, k ≤ 40 ∧ i = .int .i64 k ∧ Ob wr G 9 N [.int .i64 g.b, .int .i64 g.g, .int .i64 g.t, .int .i64 g.q, .int .i64 g.y, .bool gr, .slice ai it.length ci, .slice ap pu.length cp, .slice as' st.length cs, .int .i64 ti] ∧ Ob wr G 9 (N + 1) [.pointer none, .pointer none] ∧ Ob wr G 9 w2.heap.size [.pointer (some ⟨B.p, 0, none⟩), .pointer (some ⟨C.p, 0, none⟩)] ∧ Ext SB O0 w G wr ∧ PR wr G B C g s m ∧ 0 ≤ s.n ∧ s.n ≤ 200 + (k : Int) ∧ m ≤ 200 + k ∧ s.it = it ∧ s.nt = [])
           (fun i _ => 40 - (intOf i).toNat)
          case atStart => exact ⟨0, G, s, m, Nat.zero_le _, rfl, FF.out, RR.out, PP.out, EE.out, QQ.out, n0, by omega, by omega, HI.out, HT.out⟩
          case round =>
           clear FF RR PP EE QQ HI HT n0 n1 m1 hk
           obtain ⟨k, G, s, m, hk, rfl, f0, r0, p0, e0, pr0, n0, n1, m1, hit, hnt⟩ := hrel
           have u9 := f0.c 9 _ rfl
           have y0 := p0.c 0 _ rfl
           have y1 := p0.c 1 _ rfl
           have FF := Lib.hid f0
           have RR := Lib.hid r0
           have PP := Lib.hid p0
           have EE := Lib.hid e0
           have QQ := Lib.hid pr0
           have HI := Lib.hid hit
           have HT := Lib.hid hnt
           clear f0 r0 p0 e0 pr0 hit hnt
           have hti0 := HF.out.ti0
           have hti1 := HF.out.ti1
           dsimp only at hti0 hti1
           by_cases hgo : (k : Int) < ti ∧ k < 40
           · obtain ⟨hg1, hg2⟩ := hgo
             go_wp2_with fail
             refine (c_PTick QQ.out EE.out.hi (by omega) n0 (by omega)).mono ?_
             rintro e w11 ⟨rfl, G11, e11, pr11⟩
             have FF1 := Lib.hid (FF.out.ext e11 sp9)
             have RR1 := Lib.hid (RR.out.ext e11 sp9)
             have PP1 := Lib.hid (PP.out.ext e11 sp9)
             have EE1 := Lib.hid (EE.out.trans (e11.mono fun t _ h => sb_sp h))
             have QQ1 := Lib.hid pr11
             clear e11 pr11
             go_wp2
             go_roundw
             case rel => exact ⟨k + 1, G11, _, _, by omega, by go_num, FF1.out, RR1.out, PP1.out, EE1.out, QQ1.out, by show 0 ≤ s.n + 1; omega, by show s.n + 1 ≤ _; omega, by omega, HI.out, HT.out⟩
             case measure => simp [intOf]; omega
           · go_upto_region 20 with fail
             go_cut [98] (fun s wx => s = .bool false ∧ wx = wr)
             case first =>
              by_cases hg1 : (k : Int) < ti
              · have hg2 : ¬ (k < 40) := by omega
                clear hgo
                go_wp2_with fail
                go_meet
                exact ⟨by simp; omega, rfl⟩
              · clear hgo
                go_wp2_with fail
                go_meet
                exact ⟨rfl, rfl⟩
             case rest =>
              obtain ⟨rfl, rfl⟩ := hcut
              go_wp2_with fail
              clear u9 y0 y1 hgo hti0 hti1
              go_loopw [8] (fun i wr => ∃ k : Nat, ∃ G s m, k ≤ st.length ∧ i = .int .i64 k ∧ Ob wr G 9 N [.int .i64 g.b, .int .i64 g.g, .int .i64 g.t, .int .i64 g.q, .int .i64 g.y, .bool gr, .slice ai it.length ci, .slice ap pu.length cp, .slice as' st.length cs, .int .i64 ti] ∧ Ob wr G 9 (N + 1) [.pointer none, .pointer none] ∧ Ob wr G 9 w2.heap.size [.pointer (some ⟨B.p, 0, none⟩), .pointer (some ⟨C.p, 0, none⟩)] ∧ Ext SB O0 w G wr ∧ PR wr G B C g s m ∧ 0 ≤ s.n ∧ s.n ≤ 300 + (k : Int) ∧ m ≤ 300 + k ∧ s.it = it ∧ s.nt = [])
               (fun i _ => st.length - (intOf i).toNat)
              case atStart => exact ⟨0, G, s, m, Nat.zero_le _, rfl, FF.out, RR.out, PP.out, EE.out, QQ.out, n0, by omega, by omega, HI.out, HT.out⟩
              case round =>
               clear FF RR PP EE QQ HI HT n0 n1 m1 hk
               obtain ⟨k, G, s, m, hk, rfl, f0, r0, p0, e0, pr0, n0, n1, m1, hit, hnt⟩ := hrel
               have u8 := f0.c 8 _ rfl
               have y0 := p0.c 0 _ rfl
               have y1 := p0.c 1 _ rfl
               have hl60 := HF.out.st1
               dsimp only at hl60
               have FF := Lib.hid f0
               have RR := Lib.hid r0
               have PP := Lib.hid p0
               have EE := Lib.hid e0
               have QQ := Lib.hid pr0
               have HI := Lib.hid hit
               have HT := Lib.hid hnt
               clear f0 r0 p0 e0 pr0 hit hnt
               by_cases hlt2 : k < st.length
               · obtain ⟨b', o', c', he, hcp, hmx, hbl, hx⟩ := HF.out.st.open (by dsimp only; omega) (by omega)
                 cases he
                 obtain ⟨x, hxe⟩ : ∃ x, x = st[k] := ⟨_, rfl⟩
                 have hr : ∀ j, j < 2 → (rowOf stoc st)[k * 2 + j]? = (stoc x)[j]? := fun j hj => by rw [hxe]; exact rowOf_get (f := stoc) (k := 2) (fun a => rfl) st k j hlt2 hj
                 have hxb := HF.out.stb x (by rw [hxe]; exact List.getElem_mem _)
                 have v0 : wr.cell? ⟨b', o' + k * 2, none⟩ = some (.int .u64 x.1) := (EE.out.cell (p := ⟨b', o' + k * 2, none⟩) hbl sb0).trans (hx _ _ (hr 0 (by omega)))
                 have v1 : wr.cell? ⟨b', o' + k * 2 + 1, none⟩ = some (.int .u64 x.2) := (EE.out.cell (p := ⟨b', o' + k * 2 + 1, none⟩) hbl sb0).trans (hx _ _ (hr 1 (by omega)))
                 have hbz : G b' = 0 := EE.out.lo b' hbl
                 have hbw : b' < wr.heap.size := Nat.lt_of_lt_of_le hbl EE.out.size
                 clear hx hr hxe
                 go_wp2_with fail
                 go_region_held3 (fun w' => w'.cell? ⟨w2.heap.size, 0, none⟩ = some (.pointer (some ⟨B.p, 0, none⟩)) ∧ w'.cell? ⟨w2.heap.size, 1, none⟩ = some (.pointer (some ⟨C.p, 0, none⟩)) ∧ w'.cell? ⟨N, 8, none⟩ = some (.slice (some ⟨b', o', none⟩) st.length cs) ∧ w'.cell? ⟨b', o' + k * 2, none⟩ = some (.int .u64 x.1) ∧ w'.cell? ⟨b', o' + k * 2 + 1, none⟩ = some (.int .u64 x.2)) (go_keep)
                  ((go_at_call 59
                    refine (c_PStore (w := wr.drew) x.1 x.2 (QQ.out.below EE.out.hi (drew_below wr)) EE.out.hi (by omega) hxb.1.1 hxb.1.2 hxb.2.1 hxb.2.2 n0 (by omega)).mono ?_
                    rintro e w11 ⟨rfl, G11, e11, pr11⟩
                    have x0 := (e11.nob sp0 hbw hbz (o' + k * 2)).trans v0
                    have x1 := (e11.nob sp0 hbw hbz (o' + k * 2 + 1)).trans v1
                    have FF1 := Lib.hid ((FF.out.below (drew_below wr)).ext e11 sp9)
                    have RR1 := Lib.hid ((RR.out.below (drew_below wr)).ext e11 sp9)
                    have PP1 := Lib.hid ((PP.out.below (drew_below wr)).ext e11 sp9)
                    have EE1 := Lib.hid (EE.out.drew.trans (e11.mono fun t _ h => sb_sp h))
                    have QQ1 := Lib.hid pr11
                    have w0 := PP1.out.c 0 _ rfl
                    have w1' := PP1.out.c 1 _ rfl
                    have w8' := FF1.out.c 8 _ rfl
                    clear e11 pr11))
                 all_goals
                  go_wp2
                  go_roundw
                  case rel => exact ⟨k + 1, G11, _, _, by omega, by go_num, FF1.out, RR1.out, PP1.out, EE1.out, QQ1.out, by show 0 ≤ s.n + 1; omega, by show s.n + 1 ≤ _; omega, by omega, HI.out, HT.out⟩
                  case measure => simp [intOf]; omega
               · have q0 := RR.out.c 0 _ rfl
                 have q1 := RR.out.c 1 _ rfl
                 have z0 := RR.out.f 0
                 have z1 := RR.out.f 1
                 have R2 := RR.out.set 0 (.pointer (some ⟨B.p, 0, none⟩)) (by simp)
                 have E2 := Ob.set9 EE.out RR.out sb9 0 (.pointer (some ⟨B.p, 0, none⟩))
                 have E3 := Lib.hid (Ob.set9 E2 R2 sb9 1 (.pointer (some ⟨C.p, 0, none⟩)))
                 have P3 := Lib.hid (PR.mk ((QQ.out.p.set9 EE.out.hi RR.out.o (j := 0) (v := .pointer (some ⟨B.p, 0, none⟩))).set9 E2.hi R2.o (j := 1) (v := .pointer (some ⟨C.p, 0, none⟩))) ((QQ.out.r.set9 EE.out.hi RR.out.o (j := 0) (v := .pointer (some ⟨B.p, 0, none⟩))).set9 E2.hi R2.o (j := 1) (v := .pointer (some ⟨C.p, 0, none⟩))))
                 clear R2 E2
                 go_wp2_with fail
                 all_goals exact bodyPost_ret (v := .agg #[.pointer (some ⟨B.p, 0, none⟩), .pointer (some ⟨C.p, 0, none⟩)]) (by simp [results, Tryz.results21, go_sem, q0, q1, z0, z1]) rfl ⟨B, C, rfl, G, E3.out, s, m, by rw [← HG.out]; exact P3.out, n0, by omega, by omega, HI.out, HT.out⟩
end
end Go.Proofs.YtifkfhnbkjkakaaGreatDoor
