/- A pair of worlds: contracts of Store, Tick, Item. -/
import Derived.Test.YtijifjiehldcaaaGreatArA
import Derived.Test.YtijifjiehldcaaaGreatTk
namespace Go.Proofs.YtijifjiehldcaaaGreat
set_option linter.unusedSimpArgs false
open Go.RowKit
set_option linter.unusedVariables false

/-- The program's world and the document's, that have the same. -/
structure PR (w : World) (O : Om) (B C : Wb) (f : Cf) (s : AW) (m : Nat) : Prop where
  p : PW w O B f s
  r : RW w O C f s m
/-- Both worlds' owners. -/
def SP (t : Nat) : Prop := 1 ≤ t ∧ t ≤ 8
theorem sp_sw {t : Nat} (h : SW t) : SP t := ⟨h.1, by have := h.2; omega⟩
theorem sp_sr {t : Nat} (h : SR t) : SP t := ⟨by have := h.1; omega, h.2⟩
section
variable {S : Nat → Prop} {O O' : Om} {w w' : World} {B C : Wb} {f : Cf} {s s1 : AW} {m : Nat}
theorem PR.ext (h : PR w O B C f s m) (e : Ext S O w O' w') (hs : ∀ t, SP t → ¬ S t) : PR w' O' B C f s m :=
  ⟨h.p.ext e (hs _ ⟨by decide, by decide⟩) (hs _ ⟨by decide, by decide⟩) (hs _ ⟨by decide, by decide⟩) (hs _ ⟨by decide, by decide⟩), h.r.ext e (hs _ ⟨by decide, by decide⟩) (hs _ ⟨by decide, by decide⟩) (hs _ ⟨by decide, by decide⟩) (hs _ ⟨by decide, by decide⟩)⟩
theorem PR.below (h : PR w O B C f s m) (hhi : ∀ j, O j ≠ 0 → j < w.heap.size) (hb : Below w.heap.size w w') : PR w' O B C f s m := ⟨h.p.below hhi hb, h.r.below hhi hb⟩
theorem RW.sw (h : RW w O C f s m) (e : Ext SW O w O' w') : RW w' O' C f s m := h.ext e (fun h => by have := h.2; omega) (fun h => by have := h.2; omega) (fun h => by have := h.2; omega) (fun h => by have := h.2; omega)
theorem PW.sr (h : PW w O B f s) (e : Ext SR O w O' w') : PW w' O' B f s := h.ext e (fun h => by have := h.1; omega) (fun h => by have := h.1; omega) (fun h => by have := h.1; omega) (fun h => by have := h.1; omega)
end
theorem zero_own {O : Om} {w : World} (h : ∀ j, O j ≠ 0 → j < w.heap.size) {j : Nat} (hj : w.heap.size ≤ j) : O j = 0 := by
  by_cases hz : O j = 0
  · exact hz
  · exact absurd (h j hz) (by omega)
set_option maxHeartbeats 2000000 in
set_option maxRecDepth 100000 in
theorem c_PStore (a v : Int) {w : World} {O : Om} {B C : Wb} {f : Cf} {s : AW} {m : Nat} (h : PR w O B C f s m) (hhi : ∀ j, O j ≠ 0 → j < w.heap.size) (hm : m ≤ 1000000) (a0 : 0 ≤ a) (a1 : a < 18446744073709551616) (v0 : 0 ≤ v) (v1 : v < 18446744073709551616) (n0 : 0 ≤ s.n) (n1 : s.n ≤ 4611686018427387904) :
    Calls Tryz.prog 13 #[.agg #[.pointer (some ⟨B.p, 0, none⟩), .pointer (some ⟨C.p, 0, none⟩)], .agg #[.int .u64 a, .int .u64 v]] w (RP SP w O (.tuple #[]) fun W G => PR W G B C f (awStore a v s) (m + 1)) := by
  obtain ⟨W, hW⟩ : ∃ W, W = (w.alloc (.cells #[.pointer (some ⟨B.p, 0, none⟩), .pointer (some ⟨C.p, 0, none⟩)] 34)).alloc (.cells #[.int .u64 a, .int .u64 v] 40) := ⟨_, rfl⟩
  have b1 : Below w.heap.size w (w.alloc (.cells #[.pointer (some ⟨B.p, 0, none⟩), .pointer (some ⟨C.p, 0, none⟩)] 34)) := (Below.refl _ _).alloc (Nat.le_refl _) _
  have b2 : Below (w.heap.size + 1) (w.alloc (.cells #[.pointer (some ⟨B.p, 0, none⟩), .pointer (some ⟨C.p, 0, none⟩)] 34)) W := by rw [hW, ← World.heap_size_alloc' w (.cells #[.pointer (some ⟨B.p, 0, none⟩), .pointer (some ⟨C.p, 0, none⟩)] 34)]; exact (Below.refl _ _).alloc (Nat.le_refl _) _
  have hB : Below w.heap.size w W := b1.trans (b2.mono (by omega))
  have hz : W.heap.size = w.heap.size + 2 := by rw [hW]; simp
  have p0 : W.cell? ⟨w.heap.size, 0, none⟩ = some (.pointer (some ⟨B.p, 0, none⟩)) := (b2.cell (p := ⟨w.heap.size, 0, none⟩) (by show w.heap.size < w.heap.size + 1; omega)).trans (cell_newA w #[.pointer (some ⟨B.p, 0, none⟩), .pointer (some ⟨C.p, 0, none⟩)] _ _ rfl 0 _ rfl)
  have p1 : W.cell? ⟨w.heap.size, 1, none⟩ = some (.pointer (some ⟨C.p, 0, none⟩)) := (b2.cell (p := ⟨w.heap.size, 1, none⟩) (by show w.heap.size < w.heap.size + 1; omega)).trans (cell_newA w #[.pointer (some ⟨B.p, 0, none⟩), .pointer (some ⟨C.p, 0, none⟩)] _ _ rfl 1 _ rfl)
  have k0 : W.cell? ⟨w.heap.size + 1, 0, none⟩ = some (.int .u64 a) := by rw [hW]; exact cell_newA _ #[.int .u64 a, .int .u64 v] _ _ (by simp) 0 _ rfl
  have k1 : W.cell? ⟨w.heap.size + 1, 1, none⟩ = some (.int .u64 v) := by rw [hW]; exact cell_newA _ #[.int .u64 a, .int .u64 v] _ _ (by simp) 1 _ rfl
  have hP := h.below hhi hB
  have E0 := Lib.hid (Ext.of_below (S := SP) hhi hB)
  have q0 := hP.p.wo.c0
  have hpl := hP.p.wo.lt
  have o1 := zero_own hhi (Nat.le_refl w.heap.size)
  have o2 := zero_own hhi (show w.heap.size ≤ w.heap.size + 1 by omega)
  have O1 := Lib.hid o1
  have O2 := Lib.hid o2
  have hl0 : w.heap.size < W.heap.size := by omega
  have hl1 : w.heap.size + 1 < W.heap.size := by omega
  have HP := Lib.hid hP
  clear h hhi hB b1 b2 hP o1 o2 hz
  go_enter Tryz.func13, Tryz.ntmps13
  go_upto_region 1 with (fail)
  rw [← hW]
  clear hW
  go_region_held3 (fun w' => w'.cell? ⟨w.heap.size, 0, none⟩ = some (.pointer (some ⟨B.p, 0, none⟩)) ∧ w'.cell? ⟨w.heap.size, 1, none⟩ = some (.pointer (some ⟨C.p, 0, none⟩)) ∧ w'.cell? ⟨w.heap.size + 1, 0, none⟩ = some (.int .u64 a) ∧ w'.cell? ⟨w.heap.size + 1, 1, none⟩ = some (.int .u64 v) ∧ w'.cell? ⟨B.p, 0, none⟩ = some (.pointer (some ⟨B.c, 0, none⟩))) (go_keep)
    ((go_at_call 36
      refine (c_StoreP (w := W.drew) a v (HP.out.p.below E0.out.hi (drew_below W)) E0.out.hi a0 a1 v0 v1 n0 n1).mono ?_
      rintro e w1 ⟨rfl, G, e1, pw⟩
      have z0 := (e1.cell (p := ⟨w.heap.size, 0, none⟩) hl0 (by show ¬ SW (O w.heap.size); rw [O1.out]; exact fun h => absurd h.1 (by decide))).trans p0
      have z1 := (e1.cell (p := ⟨w.heap.size, 1, none⟩) hl0 (by show ¬ SW (O w.heap.size); rw [O1.out]; exact fun h => absurd h.1 (by decide))).trans p1
      have z2 := (e1.cell (p := ⟨w.heap.size + 1, 0, none⟩) hl1 (by show ¬ SW (O (w.heap.size + 1)); rw [O2.out]; exact fun h => absurd h.1 (by decide))).trans k0
      have z3 := (e1.cell (p := ⟨w.heap.size + 1, 1, none⟩) hl1 (by show ¬ SW (O (w.heap.size + 1)); rw [O2.out]; exact fun h => absurd h.1 (by decide))).trans k1
      have z4 := pw.wo.c0
      have E1 := Lib.hid (E0.out.drew.trans (e1.mono fun t _ h => sp_sw h))
      have P1 := Lib.hid pw
      have R1 := Lib.hid ((HP.out.r.below E0.out.hi (drew_below W)).sw e1)
      clear e1 pw))
  all_goals
    clear p0 p1 k0 k1 q0
    go_wp2_with fail
    refine (c_rwStore a v R1.out hm a0 a1 v0 v1 E1.out.hi n0 n1).mono ?_
    rintro e w2 ⟨rfl, G2, e2, rw2⟩
    have HE := Lib.hid (And.intro (E1.out.trans (e2.mono fun t _ h => sp_sr h)) (PR.mk (P1.out.sr e2) rw2))
    clear e2 rw2
    go_wp2
    go_end0
    exact ⟨rfl, G2, HE.out⟩
set_option maxHeartbeats 2000000 in
set_option maxRecDepth 100000 in
theorem c_PTick {w : World} {O : Om} {B C : Wb} {f : Cf} {s : AW} {m : Nat} (h : PR w O B C f s m) (hhi : ∀ j, O j ≠ 0 → j < w.heap.size) (hm : m ≤ 1000000) (n0 : 0 ≤ s.n) (n1 : s.n ≤ 4611686018427387904) :
    Calls Tryz.prog 27 #[.agg #[.pointer (some ⟨B.p, 0, none⟩), .pointer (some ⟨C.p, 0, none⟩)]] w (RP SP w O (.tuple #[]) fun W G => PR W G B C f (awTick s) (m + 1)) := by
  have hB : Below w.heap.size w (w.alloc (.cells #[.pointer (some ⟨B.p, 0, none⟩), .pointer (some ⟨C.p, 0, none⟩)] 34)) := (Below.refl _ _).alloc (Nat.le_refl _) _
  have hP := h.below hhi hB
  have E0 := Lib.hid (Ext.of_below (S := SP) hhi hB)
  have O1 := Lib.hid (zero_own hhi (Nat.le_refl w.heap.size))
  have HT := Lib.hid (c_WTick _ O B f s hP.p E0.out.hi n0 n1)
  have HR := Lib.hid hP.r
  clear h hhi hB hP
  go_enter Tryz.func27, Tryz.ntmps27
  go_wp2_with fail
  refine (HT.out).mono ?_
  rintro e w1 ⟨rfl, G, e1, pw⟩
  have z1 : w1.cell? ⟨w.heap.size, 1, none⟩ = some (.pointer (some ⟨C.p, 0, none⟩)) := (e1.cell (p := ⟨w.heap.size, 1, none⟩) (by simp) (by show ¬ SW (O w.heap.size); rw [O1.out]; exact fun h => absurd h.1 (by decide))).trans (cell_newA w #[.pointer (some ⟨B.p, 0, none⟩), .pointer (some ⟨C.p, 0, none⟩)] _ _ rfl 1 _ rfl)
  have E1 := Lib.hid (E0.out.trans (e1.mono fun t _ h => sp_sw h))
  have P1 := Lib.hid pw
  have R1 := Lib.hid (HR.out.sw e1)
  clear e1 pw HT
  go_wp2_with fail
  refine (c_rwTick R1.out hm E1.out.hi n0 n1).mono ?_
  rintro e w2 ⟨rfl, G2, e2, rw2⟩
  have HE := Lib.hid (And.intro (E1.out.trans (e2.mono fun t _ h => sp_sr h)) (PR.mk (P1.out.sr e2) rw2))
  clear e2 rw2
  go_wp2
  go_end0
  exact ⟨rfl, G2, HE.out⟩
/-- A record more. -/
def awItem (x : It) (s : AW) : AW := ⟨s.M, s.n, s.la, s.tk, s.ho, s.it ++ [x], s.nt⟩
theorem PW.item {w w' : World} {O O' : Om} {B : Wb} {f : Cf} {s : AW} {l : List It} (h : PW w O B f s) (e : Ext (fun t => t = 3) O w O' w') (hc : Ar w' O' 3 B.ip l) : PW w' O' B f ⟨s.M, s.n, s.la, s.tk, s.ho, l, s.nt⟩ :=
  ⟨(e.lo _ h.wo.lt).trans h.o, h.wo.wrote e.wr (fun k => absurd (show (1 : Nat) = 3 from by have := k.1; rwa [h.o] at this) (by decide)), h.ce.ext e (by decide) (by decide), hc, h.no.ext e (by decide)⟩
theorem RW.item {w w' : World} {O O' : Om} {B : Wb} {f : Cf} {s : AW} {m : Nat} {l : List It} (h : RW w O B f s m) (e : Ext (fun t => t = 7) O w O' w') (hc : LH w' O' 7 75 6 itc B.ip l) : RW w' O' B f ⟨s.M, s.n, s.la, s.tk, s.ho, l, s.nt⟩ m :=
  ⟨(e.lo _ h.wo.lt).trans h.o, h.wo.wrote e.wr (fun k => absurd (show (5 : Nat) = 7 from by have := k.1; rwa [h.o] at this) (by decide)), h.ce.ext e (by decide), hc, h.no.ext e (by decide)⟩
set_option maxHeartbeats 4000000 in
set_option maxRecDepth 100000 in
theorem c_PItem (x : It) {w : World} {O : Om} {B C : Wb} {f : Cf} {s : AW} {m : Nat} (h : PR w O B C f s m) (hhi : ∀ j, O j ≠ 0 → j < w.heap.size) (hl : s.it.length ≤ 1000000) :
    Calls Tryz.prog 42 #[.agg #[.pointer (some ⟨B.p, 0, none⟩), .pointer (some ⟨C.p, 0, none⟩)], .agg #[.string x.key, .string x.val, .int .u32 x.fl, .int .u64 x.id, .int .i64 x.dies, .int .i64 x.gen]] w (RP SP w O (.tuple #[]) fun W G => PR W G B C f (awItem x s) m) := by
  obtain ⟨W, hW⟩ : ∃ W, W = (w.alloc (.cells #[.pointer (some ⟨B.p, 0, none⟩), .pointer (some ⟨C.p, 0, none⟩)] 34)).alloc (.cells #[.string x.key, .string x.val, .int .u32 x.fl, .int .u64 x.id, .int .i64 x.dies, .int .i64 x.gen] 75) := ⟨_, rfl⟩
  have b1 : Below w.heap.size w (w.alloc (.cells #[.pointer (some ⟨B.p, 0, none⟩), .pointer (some ⟨C.p, 0, none⟩)] 34)) := (Below.refl _ _).alloc (Nat.le_refl _) _
  have b2 : Below (w.heap.size + 1) (w.alloc (.cells #[.pointer (some ⟨B.p, 0, none⟩), .pointer (some ⟨C.p, 0, none⟩)] 34)) W := by rw [hW, ← World.heap_size_alloc' w (.cells #[.pointer (some ⟨B.p, 0, none⟩), .pointer (some ⟨C.p, 0, none⟩)] 34)]; exact (Below.refl _ _).alloc (Nat.le_refl _) _
  have hB : Below w.heap.size w W := b1.trans (b2.mono (by omega))
  have hz : W.heap.size = w.heap.size + 2 := by rw [hW]; simp
  have p0 : W.cell? ⟨w.heap.size, 0, none⟩ = some (.pointer (some ⟨B.p, 0, none⟩)) := (b2.cell (p := ⟨w.heap.size, 0, none⟩) (by show w.heap.size < w.heap.size + 1; omega)).trans (cell_newA w #[.pointer (some ⟨B.p, 0, none⟩), .pointer (some ⟨C.p, 0, none⟩)] _ _ rfl 0 _ rfl)
  have p1 : W.cell? ⟨w.heap.size, 1, none⟩ = some (.pointer (some ⟨C.p, 0, none⟩)) := (b2.cell (p := ⟨w.heap.size, 1, none⟩) (by show w.heap.size < w.heap.size + 1; omega)).trans (cell_newA w #[.pointer (some ⟨B.p, 0, none⟩), .pointer (some ⟨C.p, 0, none⟩)] _ _ rfl 1 _ rfl)
  have hx : ∀ j u, (itc x)[j]? = some u → W.cell? ⟨w.heap.size + 1, j, none⟩ = some u := fun j u hu => by rw [hW]; exact cell_newA _ #[.string x.key, .string x.val, .int .u32 x.fl, .int .u64 x.id, .int .i64 x.dies, .int .i64 x.gen] _ _ (by simp) j u (by simpa [itc] using hu)
  have x0 := hx 0 _ rfl
  have x1 := hx 1 _ rfl
  have x2 := hx 2 _ rfl
  have x3 := hx 3 _ rfl
  have x4 := hx 4 _ rfl
  have x5 := hx 5 _ rfl
  have HX := Lib.hid hx
  have hP := h.below hhi hB
  have E0 := Lib.hid (Ext.of_below (S := SP) hhi hB)
  have q0 := hP.p.wo.c1
  have hpl := hP.p.wo.lt
  have O1 := Lib.hid (zero_own hhi (Nat.le_refl w.heap.size))
  have O2 := Lib.hid (zero_own hhi (show w.heap.size ≤ w.heap.size + 1 by omega))
  have hl0 : w.heap.size < W.heap.size := by omega
  have hl1 : w.heap.size + 1 < W.heap.size := by omega
  have HP := Lib.hid hP
  clear h hhi hB b1 b2 hP hz hx
  go_enter Tryz.func42, Tryz.ntmps42
  go_upto_region 1 with (fail)
  rw [← hW]
  clear hW
  go_region_held3 (fun w' => w'.cell? ⟨w.heap.size, 0, none⟩ = some (.pointer (some ⟨B.p, 0, none⟩)) ∧ w'.cell? ⟨B.p, 1, none⟩ = some (.pointer (some ⟨B.ip, 0, none⟩)) ∧ w'.cell? ⟨w.heap.size + 1, 0, none⟩ = some (.string x.key) ∧ w'.cell? ⟨w.heap.size + 1, 1, none⟩ = some (.string x.val) ∧ w'.cell? ⟨w.heap.size + 1, 2, none⟩ = some (.int .u32 x.fl) ∧ w'.cell? ⟨w.heap.size + 1, 3, none⟩ = some (.int .u64 x.id) ∧ w'.cell? ⟨w.heap.size + 1, 4, none⟩ = some (.int .i64 x.dies) ∧ w'.cell? ⟨w.heap.size + 1, 5, none⟩ = some (.int .i64 x.gen)) (go_keep)
    ((go_at_call 90
      refine (c_IAdd (w := W.drew) x (HP.out.p.below E0.out.hi (drew_below W)).ar (by decide) hl E0.out.hi).mono ?_
      rintro e w1 ⟨rfl, G, e1, ar1⟩
      have z0 := (e1.cell (p := ⟨w.heap.size, 0, none⟩) hl0 (by show ¬ O w.heap.size = 3; rw [O1.out]; decide)).trans p0
      have z1 := (e1.cell (p := ⟨w.heap.size, 1, none⟩) hl0 (by show ¬ O w.heap.size = 3; rw [O1.out]; decide)).trans p1
      have hy : ∀ j u, (itc x)[j]? = some u → w1.cell? ⟨w.heap.size + 1, j, none⟩ = some u := fun j u hu => (e1.cell (p := ⟨w.heap.size + 1, j, none⟩) hl1 (by show ¬ O (w.heap.size + 1) = 3; rw [O2.out]; decide)).trans (HX.out j u hu)
      have y0 := hy 0 _ rfl
      have y1 := hy 1 _ rfl
      have y2 := hy 2 _ rfl
      have y3 := hy 3 _ rfl
      have y4 := hy 4 _ rfl
      have y5 := hy 5 _ rfl
      have HY := Lib.hid hy
      have E1 := Lib.hid (E0.out.drew.trans (e1.mono fun t _ h => by subst h; exact ⟨by decide, by decide⟩))
      have P1 := Lib.hid ((HP.out.p.below E0.out.hi (drew_below W)).item e1 ar1)
      have R1 := Lib.hid ((HP.out.r.below E0.out.hi (drew_below W)).ext e1 (by decide) (by decide) (by decide) (by decide))
      have z4 := P1.out.wo.c1
      have hs1 := e1.size
      have hm0 : w.heap.size < w1.heap.size := by have : W.heap.size ≤ w1.heap.size := hs1; omega
      have hm1 : w.heap.size + 1 < w1.heap.size := by have : W.heap.size ≤ w1.heap.size := hs1; omega
      have OO1 := Lib.hid ((e1.lo w.heap.size hl0).trans O1.out)
      have OO2 := Lib.hid ((e1.lo (w.heap.size + 1) hl1).trans O2.out)
      clear e1 ar1 hy hs1))
  all_goals
    clear p0 p1 x0 x1 x2 x3 x4 x5 q0
    have r0 := R1.out.wo.c1
    have hrl := R1.out.wo.lt
    go_wp2_with fail
    go_region_held3 (fun w' => w'.cell? ⟨w.heap.size, 1, none⟩ = some (.pointer (some ⟨C.p, 0, none⟩)) ∧ w'.cell? ⟨C.p, 1, none⟩ = some (.pointer (some ⟨C.ip, 0, none⟩)) ∧ w'.cell? ⟨w.heap.size + 1, 0, none⟩ = some (.string x.key) ∧ w'.cell? ⟨w.heap.size + 1, 1, none⟩ = some (.string x.val) ∧ w'.cell? ⟨w.heap.size + 1, 2, none⟩ = some (.int .u32 x.fl) ∧ w'.cell? ⟨w.heap.size + 1, 3, none⟩ = some (.int .u64 x.id) ∧ w'.cell? ⟨w.heap.size + 1, 4, none⟩ = some (.int .i64 x.dies) ∧ w'.cell? ⟨w.heap.size + 1, 5, none⟩ = some (.int .i64 x.gen)) (go_keep)
      ((go_at_call 91
        refine (c_r6Add x (R1.out.below E1.out.hi (drew_below w1)).ar (by decide) hl E1.out.drew.hi).mono ?_
        rintro e w2 ⟨rfl, G2, e2, ar2⟩
        have u0 := (e2.cell (p := ⟨w.heap.size, 1, none⟩) hm0 (by show ¬ G w.heap.size = 7; rw [OO1.out]; decide)).trans z1
        have hy2 : ∀ j u, (itc x)[j]? = some u → w2.cell? ⟨w.heap.size + 1, j, none⟩ = some u := fun j u hu => (e2.cell (p := ⟨w.heap.size + 1, j, none⟩) hm1 (by show ¬ G (w.heap.size + 1) = 7; rw [OO2.out]; decide)).trans (HY.out j u hu)
        have v0 := hy2 0 _ rfl
        have v1 := hy2 1 _ rfl
        have v2 := hy2 2 _ rfl
        have v3 := hy2 3 _ rfl
        have v4 := hy2 4 _ rfl
        have v5 := hy2 5 _ rfl
        have R2 := Lib.hid ((R1.out.below E1.out.hi (drew_below w1)).item e2 ar2)
        have P2 := Lib.hid ((P1.out.below E1.out.hi (drew_below w1)).ext e2 (by decide) (by decide) (by decide) (by decide))
        have u1 := R2.out.wo.c1
        have E2 := Lib.hid (E1.out.drew.trans (e2.mono fun t _ h => by subst h; exact ⟨by decide, by decide⟩))
        clear e2 ar2 hy2))
    all_goals
      go_wp2
      go_end0
      exact ⟨rfl, G2, E2.out, P2.out, R2.out⟩
end Go.Proofs.YtijifjiehldcaaaGreat
