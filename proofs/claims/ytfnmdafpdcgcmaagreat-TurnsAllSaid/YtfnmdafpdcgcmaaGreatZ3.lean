/- Layer 20: the program's Move: the item of a slot, and the search of a room that begins. Layer 20: the program's Move: what follows a search that found a slot. Layers 18, 20: a step of a Room that finds a free slot, what it got; a step of a search; the frame of a step of a Move. Layer 20: a step of the program's Move, line by line: lines 1, 2. Layer 20: a step of the program's Move, line by line: lines 3 (with a slot) to 7. Layer 20: a step of the program's Move, line by line: lines 5 to 7. Layer 20: a step of the program's Move, where it is told what it needs; a Move by itself. -/
import Derived.Test.YtfnmdafpdcgcmaaGreatZ2
import Derived.Test.YtfnmdafpdcgcmaaGreatZF
import Derived.Test.YtfnmdafpdcgcmaaGreatZ1
namespace Go.Proofs.YtfnmdafpdcgcmaaGreat
set_option linter.unusedSimpArgs false
section
set_option linter.unusedVariables false
set_option maxHeartbeats 4000000
set_option maxRecDepth 100000
open Go.RowKit Go.Shelf
def itZ : It := ⟨⟨#[]⟩, ⟨#[]⟩, 0, 0, 0, 0⟩
def itOf (it : List It) (r : Int) : It := if 1 ≤ r then (it[(r - 1).toNat]?).getD itZ else itZ
theorem itKey_of (it : List It) (r : Int) : itKey it r = (itOf it r).key.data.toList := by
 unfold itKey itOf
 split
 · cases it[(r - 1).toNat]? <;> rfl
 · rfl
theorem c_ItAt (r : Int) {w : World} {O : Om} {t ip : Nat} {l : List It} (h : Ar w O t ip l) (hl : l.length ≤ 1000000) :
 Calls Tryz.prog 45 #[.pointer (some ⟨ip, 0, none⟩), .int .i64 r] w fun e w' => ∃ (b : Bool) (x1 : ByteArray) (x2 x3 x4 x5 : Int), e = .returned (.tuple #[.agg #[.string (itOf l r).key, .string x1, .int .u32 x2, .int .u64 x3, .int .i64 x4, .int .i64 x5], .bool b]) ∧ Below w.heap.size w w' := by
 by_cases hr : 1 ≤ r ∧ r ≤ l.length
 · have hk : (r - 1).toNat < l.length := by omega
   refine (c_IAt_yes r (r - 1).toNat l[(r - 1).toNat] h hl (List.getElem?_eq_getElem hk) (by omega)).mono ?_
   rintro e w' ⟨rfl, hb⟩
   have e : itOf l r = l[(r - 1).toNat] := by unfold itOf; rw [if_pos hr.1, List.getElem?_eq_getElem hk]; rfl
   exact ⟨true, l[(r - 1).toNat].val, l[(r - 1).toNat].fl, l[(r - 1).toNat].id, l[(r - 1).toNat].dies, l[(r - 1).toNat].gen, by rw [e], hb⟩
 · refine (c_IAt_no r h hl hr).mono ?_
   rintro e w' ⟨rfl, hb⟩
   have e : (itOf l r).key = ⟨#[]⟩ := by
    unfold itOf
    by_cases h1 : 1 ≤ r
    · rw [if_pos h1, List.getElem?_eq_none (by omega)]
      rfl
    · rw [if_neg h1]
      rfl
   exact ⟨false, ⟨#[]⟩, 0, 0, 0, 0, by rw [e], hb⟩
theorem keepW {W W' : World} {n j : Nat} {v : Value} (hl : n < W.heap.size) (h : W.cell? ⟨n, j, none⟩ = some v) (hb : Below W.heap.size W W') : W'.cell? ⟨n, j, none⟩ = some v := (hb.cell (p := ⟨n, j, none⟩) hl).trans h
theorem belowT' {a W w : World} (k : Below a.heap.size a W) (h : Below W.heap.size W w) : Below a.heap.size a w := k.trans (h.mono k.size)
theorem keepSI {W W' : World} {n m i j : Nat} {v u : Value} (hl : n < W.heap.size) (hm : m < W.heap.size) (h : W.cell? ⟨n, i, none⟩ = some v) (k : W.cell? ⟨m, j, none⟩ = some u) (hb : Below W.heap.size W W') : W'.cell? ⟨n, i, none⟩ = some v ∧ W'.cell? ⟨m, j, none⟩ = some u := ⟨keepW hl h hb, keepW hm k hb⟩
theorem recFactsN {w v W : World} {T : TypeId} {N : Nat} (hb : Below v.heap.size v W) (hv : N = w.heap.size ∧ v = w.alloc (.cells #[.string ⟨#[]⟩, .string ⟨#[]⟩, .int .u32 0, .int .u64 0, .int .i64 0, .int .i64 0] T)) :
 W.cell? ⟨N, 0, none⟩ = some (.string ⟨#[]⟩) ∧ W.cell? ⟨N, 1, none⟩ = some (.string ⟨#[]⟩) ∧ W.cell? ⟨N, 2, none⟩ = some (.int .u32 0) ∧ W.cell? ⟨N, 3, none⟩ = some (.int .u64 0) ∧ W.cell? ⟨N, 4, none⟩ = some (.int .i64 0) ∧ W.cell? ⟨N, 5, none⟩ = some (.int .i64 0) ∧
 W.frozen? ⟨N, 0, none⟩ = false ∧ W.frozen? ⟨N, 1, none⟩ = false ∧ W.frozen? ⟨N, 2, none⟩ = false ∧ W.frozen? ⟨N, 3, none⟩ = false ∧ W.frozen? ⟨N, 4, none⟩ = false ∧ W.frozen? ⟨N, 5, none⟩ = false := by
 obtain ⟨rfl, rfl⟩ := hv
 have hl : w.heap.size < (w.alloc (.cells #[.string ⟨#[]⟩, .string ⟨#[]⟩, .int .u32 0, .int .u64 0, .int .i64 0, .int .i64 0] T)).heap.size := by simp
 have hc := fun j => hb.cell (p := ⟨w.heap.size, j, none⟩) hl
 have hf := fun j => hb.frozen (p := ⟨w.heap.size, j, none⟩) hl
 refine ⟨(hc 0).trans ?_, (hc 1).trans ?_, (hc 2).trans ?_, (hc 3).trans ?_, (hc 4).trans ?_, (hc 5).trans ?_, (hf 0).trans ?_, (hf 1).trans ?_, (hf 2).trans ?_, (hf 3).trans ?_, (hf 4).trans ?_, (hf 5).trans ?_⟩ <;> simp
theorem below6 {wd w : World} {N : Nat} {v0 v1 v2 v3 v4 v5 : Value} (hN : N = wd.heap.size) (h : Below wd.heap.size wd w) : Below wd.heap.size wd ((((((w.setCell ⟨N, 0, none⟩ v0).setCell ⟨N, 1, none⟩ v1).setCell ⟨N, 2, none⟩ v2).setCell ⟨N, 3, none⟩ v3).setCell ⟨N, 4, none⟩ v4).setCell ⟨N, 5, none⟩ v5) := by
 have hb : wd.heap.size ≤ N := by omega
 exact below_setCell' (below_setCell' (below_setCell' (below_setCell' (below_setCell' (below_setCell' h hb _ _) hb _ _) hb _ _) hb _ _) hb _ _) hb _ _
def ItCut (w : World) (key : ByteArray) (s4 : Value) (wx : World) : Prop := ∃ N, s4 = .pointer (some ⟨N, 0, none⟩) ∧ w.heap.size ≤ N ∧ N < wx.heap.size ∧ Below w.heap.size w wx ∧ wx.cell? ⟨N, 0, none⟩ = some (.string key)
theorem itCut6 {w4 wd w : World} {N : Nat} {key : ByteArray} {v1 v2 v3 v4 v5 z0' z1' z2' z3' z4' z5' : Value} (hd : Below w4.heap.size w4 wd) (hN : N = wd.heap.size) (h : Below wd.heap.size wd w) (z0 : w.cell? ⟨N, 0, none⟩ = some z0') (z1 : w.cell? ⟨N, 1, none⟩ = some z1') (z2 : w.cell? ⟨N, 2, none⟩ = some z2') (z3 : w.cell? ⟨N, 3, none⟩ = some z3') (z4 : w.cell? ⟨N, 4, none⟩ = some z4') (z5 : w.cell? ⟨N, 5, none⟩ = some z5') :
 ItCut w4 key (.pointer (some ⟨N, 0, none⟩)) ((((((w.setCell ⟨N, 0, none⟩ (.string key)).setCell ⟨N, 1, none⟩ v1).setCell ⟨N, 2, none⟩ v2).setCell ⟨N, 3, none⟩ v3).setCell ⟨N, 4, none⟩ v4).setCell ⟨N, 5, none⟩ v5) := by
 refine ⟨N, rfl, by have := hd.size; omega, ?_, belowT' hd (below6 hN h), ?_⟩
 · have := blk_lt z0
   simpa using this
 · rw [set_far (by omega), set_far (by omega), set_far (by omega), set_far (by omega), set_far (by omega)]
   exact World.cell?_setCell_same _ _ _ z0
theorem itCutA {w4 wd w : World} {key : ByteArray} {v1 v2 v3 v4 v5 : Value} {T : TypeId} (hd : Below w4.heap.size w4 wd) (h : Below wd.heap.size wd w) : ItCut w4 key (.pointer (some ⟨w.heap.size, 0, none⟩)) (w.alloc (.cells #[.string key, v1, v2, v3, v4, v5] T)) :=
 ⟨w.heap.size, rfl, Nat.le_trans hd.size h.size, by simp, belowT' hd (h.alloc h.size _), by simp⟩
section
variable {X : Nat} {w : World} {O : Om} {B : Wb} {f : Cf} {s : AW} {k : Nat}
theorem c_MvItem {now tag ref lost : Int} {p : Spt} {lv : Value} {d : Nat} {ds : List Value} (hP : PW w O B f s) (hx : Ob w O k X (mvCs now p lv tag ref lost)) (hS : Sls w O (k + 1) 1 lv 1 [IAct d]) (hd : Ob w O (k + 2) d ds) (hp : p.ok) (hnow : 0 ≤ now ∧ now ≤ 12) (hil : s.it.length ≤ 1000000) (hks : (itOf s.it (wrap64 (s.M p.item))).key.size ≤ maxLen) (hk : 10 ≤ k) (hhi : ∀ j, O j ≠ 0 → j < w.heap.size) (n0 : 0 ≤ s.n) (n1 : s.n ≤ 4611686018427387904) :
 Calls Tryz.prog 71 #[.pointer (some ⟨X, 0, none⟩), .pointer (some ⟨B.p, 0, none⟩)] w fun e w' => e = .returned (.tuple #[]) ∧ ∃ G, Ext (SX k (k + 5)) O w G w' ∧ PW w' G B f (awLoad p.item s) ∧ Ob w' G (k + 2) d ds ∧ ∃ lv', Ob w' G k X (mvCs now p lv' tag (wrap64 (s.M p.item)) lost) ∧
  ∃ e R, Sls w' G (k + 1) 1 lv' 2 [IAct d, ISearch e] ∧ Ob w' G (k + 3) e [.pointer (some ⟨X, 0, none⟩), .pointer (some ⟨R, 0, none⟩)] ∧ RoomAt w' G (k + 4) R (rmNew now (fnvHash (itOf s.it (wrap64 (s.M p.item))).key.data.toList)) := by
 have HM : Hid (Me k (k + 5) w O w O B f s k X (mvCs now p lv tag ref lost)) := Lib.hid (Me.start hhi hP hx)
 have HS := Lib.hid (And.intro hS hd)
 have p0 := hP.wo.c0
 have x1 := hx.c 1 _ rfl
 have x2 := hx.c 2 _ rfl
 have x3 := hx.c 3 _ rfl
 have hit := hp.item
 have hq2 := hp.q2
 have HT := Lib.hid (fun W => c_Item p.b p.q p.s W (by have := hp.b0; omega) (by have := hp.b1; omega) (by have := hp.q0; omega) (by omega) (by have := hp.s0; omega) (by have := hp.s1; omega))
 have hta2 : plItem p.b p.q p.s = p.item := rfl
 rw [hta2] at HT
 have hta : 0 ≤ p.item ∧ p.item < 18446744073709551616 := by omega
 obtain ⟨ia, hia⟩ : ∃ ta, ta = p.item := ⟨_, rfl⟩
 rw [← hia] at HT hta hks ⊢
 obtain ⟨r, hr⟩ : ∃ x, x = wrap64 (s.M ia) := ⟨_, rfl⟩
 have hr2 : IntKind.i64.wrap (s.M ia) = r := by rw [hr]; unfold wrap64; simp [IntKind.wrap, IntKind.bits, IntKind.signed]; omega
 rw [← hr] at hks ⊢
 obtain ⟨key, hkey⟩ : ∃ x, x = (itOf s.it r).key := ⟨_, rfl⟩
 rw [← hkey] at hks ⊢
 obtain ⟨pb, hpb⟩ : ∃ z, z = p.b := ⟨_, rfl⟩
 obtain ⟨pq, hpq⟩ : ∃ z, z = p.q := ⟨_, rfl⟩
 obtain ⟨ps, hps⟩ : ∃ z, z = p.s := ⟨_, rfl⟩
 rw [← hpb] at x1 HT
 rw [← hpq] at x2 HT
 rw [← hps] at x3 HT
 have HPP := Lib.hid (And.intro hpb (And.intro hpq hps))
 have HTA := Lib.hid hta
 have hXB : ¬ B.p = X := hP.ne_obj hx hk
 have HIL := Lib.hid hil
 have HKY := Lib.hid hkey
 have HKS := Lib.hid hks
 have hhb := fnvHash_bd key.data.toList
 have hha := fun W => c_Hash key W hks
 obtain ⟨hs, hhs⟩ : ∃ h, h = fnvHash key.data.toList := ⟨_, rfl⟩
 rw [← hhs] at hhb
 rw [← hhs]
 simp only [← hhs] at hha
 have HHB := Lib.hid hhb
 have HHA := Lib.hid hha
 clear hhs hhb hha
 obtain ⟨i0, hi, hz0, hz1, hz2⟩ := info_parts infoPart
 have HI := Lib.hid (And.intro hi (And.intro hz0 (And.intro hz1 hz2)))
 clear hi hz0 hz1 hz2
 clear hP hx hS hd hhi hp hit hq2 hta hta2 hia hr hkey hpb hpq hps hil hks
 go_enter Tryz.func71, Tryz.ntmps71
 go_wp2_with fail
 go_region_held3 (fun w' => w'.cell? ⟨B.p, 0, none⟩ = some (.pointer (some ⟨B.c, 0, none⟩)) ∧ w'.cell? ⟨X, 1, none⟩ = some (.int .i64 pb) ∧ w'.cell? ⟨X, 2, none⟩ = some (.int .i64 pq) ∧ w'.cell? ⟨X, 3, none⟩ = some (.int .i64 ps)) (go_keep)
  ((first
    | (go_at_call 48
       refine (HT.out _).mono ?_
       rintro e w1 ⟨rfl, hb1⟩
       have M1 := Lib.hid (HM.out.drew.below hb1)
       have S1 := Lib.hid (And.intro ((HS.out.1.below (drew_below _)).below hb1) ((HS.out.2.below (drew_below _)).below hb1))
       have p01 := M1.out.p.wo.c0
       have x11 := M1.out.t.c 1 _ rfl
       have x21 := M1.out.t.c 2 _ rfl
       have x31 := M1.out.t.c 3 _ rfl
       rw [← HPP.out.1] at x11
       rw [← HPP.out.2.1] at x21
       rw [← HPP.out.2.2] at x31
       clear hb1)
    | (go_at_call 70
       refine (c_LoadP ia M1.out.p M1.out.e.hi HTA.out.1 HTA.out.2 n0 n1).mono ?_
       rintro e w3 ⟨rfl, G2, e2, P2⟩
       have M3 := Lib.hid (M1.out.world hk e2 P2)
       have S3 := Lib.hid (And.intro (S1.out.1.ext e2 (by unfold SW; omega)) (S1.out.2.ext e2 (by unfold SW; omega)))
       have p03 := M3.out.p.wo.c0
       have x13 := M3.out.t.c 1 _ rfl
       have x23 := M3.out.t.c 2 _ rfl
       have x33 := M3.out.t.c 3 _ rfl
       rw [← HPP.out.1] at x13
       rw [← HPP.out.2.1] at x23
       rw [← HPP.out.2.2] at x33
       have x53 := M3.out.t.c 6 _ rfl
       have f53 := M3.out.t.f 6
       have E4 := Lib.hid (ext_set (j := 6) (v := .int .i64 r) M3.out.e.hi M3.out.t hk)
       have M4 := Lib.hid (M3.out.set hk (Nat.le_refl _) (by omega) 6 (.int .i64 r) (by simp [mvCs]))
       have p04 := M4.out.p.wo.c0
       have x14 := M4.out.t.c 1 _ rfl
       have x24 := M4.out.t.c 2 _ rfl
       have x34 := M4.out.t.c 3 _ rfl
       rw [← HPP.out.1] at x14
       rw [← HPP.out.2.1] at x24
       rw [← HPP.out.2.2] at x34
       clear e2 P2)))
 all_goals
  clear p0 x1 x2 x3 p01 x11 x21 x31 p03 x13 x23 x33 x53 f53
  go_upto_region 1 with fail
  have S4 := Lib.hid (And.intro (S3.out.1.ext E4.out (by omega)) (S3.out.2.ext E4.out (by omega)))
  obtain ⟨w4, hw4⟩ : ∃ w4, w4 = w3.setCell ⟨X, 6, none⟩ (.int .i64 r) := ⟨_, rfl⟩
  rw [← hw4] at M4 S4 ⊢
  clear hw4 E4 M3 S3 M1 S1 p04 x14 x24 x34
  have p1 := M4.out.p.wo.c1
  have x6 := M4.out.t.c 6 _ rfl
  have hXl := M4.out.t.lt
  have hBl := M4.out.p.wo.lt
  have hAr := M4.out.p.ar
  have HAt := Lib.hid (fun W (hW : Below w4.heap.size w4 W) => c_ItAt r (M4.out.p.below M4.out.e.hi hW).ar HIL.out)
  have hke : (itOf (awLoad ia s).it r).key = key := HKY.out.symm
  rw [hke] at HAt
  clear hAr hke
  go_cut [4] (fun s4 wx => ItCut w4 key s4 wx)
  case first =>
   refine wp_region_held_drew (S := fun w' => w'.cell? ⟨B.p, 1, none⟩ = some (.pointer (some ⟨B.ip, 0, none⟩)) ∧ w'.cell? ⟨X, 6, none⟩ = some (.int .i64 r)) (by kernel_rfl) ?sA (fun hH0 => ?rA)
   case sA => exact ⟨p1, x6⟩
   obtain ⟨wd, hwd0⟩ : ∃ z, z = w4.drew := ⟨_, rfl⟩
   have hwd : Hid (Below w4.heap.size w4 wd) := Lib.hid (by rw [hwd0]; exact drew_below _)
   have hBl1 : B.p < wd.heap.size := by rw [hwd0]; exact hBl
   have hXl1 : X < wd.heap.size := by rw [hwd0]; exact hXl
   rw [← hwd0] at hH0 ⊢
   clear p1 x6 hwd0
   obtain ⟨p1, x6⟩ := hH0
   have hH0 := And.intro p1 x6
   have HBd := Lib.hid (Below.refl wd.heap.size wd)
   try simp only [Act.put, List.setIfInBounds_toArray, List.set_cons_zero, List.set_cons_succ]
   refine' wpAnyH_take (i := 0) (List.getElem?_toArray.trans (List.getElem?_cons_zero)) (by kernel_rfl) (by kernel_rfl) (by kernel_rfl) (fun _ _ _ h => h) (Or.inl ⟨by rfl, ?y1⟩) hH0 ?r1
   case y1 => (intro w hSw; (try dsimp only at hSw); go_simp; try with_reducible rfl)
   try simp only [Act.put, List.setIfInBounds_toArray, List.set_cons_zero, List.set_cons_succ]
   refine' wpAnyH_take (i := 1) (List.getElem?_toArray.trans (List.getElem?_cons_succ.trans (List.getElem?_cons_zero))) (by kernel_rfl) (by kernel_rfl) (by kernel_rfl) (fun _ _ _ h => h) (Or.inl ⟨by rfl, ?y2⟩) hH0 ?r2
   case y2 => (intro w hSw; (try dsimp only at hSw); go_simp; try with_reducible rfl)
   try simp only [Act.put, List.setIfInBounds_toArray, List.set_cons_zero, List.set_cons_succ]
   refine' wpAnyH_take (i := 2) (List.getElem?_toArray.trans (List.getElem?_cons_succ.trans (List.getElem?_cons_succ.trans (List.getElem?_cons_zero)))) (by kernel_rfl) (by kernel_rfl) (by kernel_rfl) (fun _ _ _ h => h) (Or.inl ⟨by rfl, ?y3⟩) hH0 ?r3
   case y3 => (intro w hSw; (try dsimp only at hSw); go_simp; try with_reducible rfl)
   try simp only [Act.put, List.setIfInBounds_toArray, List.set_cons_zero, List.set_cons_succ]
   refine' wpAnyH_take (i := 3) (List.getElem?_toArray.trans (List.getElem?_cons_succ.trans (List.getElem?_cons_succ.trans (List.getElem?_cons_succ.trans (List.getElem?_cons_zero))))) (by kernel_rfl) (by kernel_rfl) (by kernel_rfl) (fun _ _ _ h => h) (Or.inl ⟨by rfl, ?y4⟩) hH0 ?r4
   case y4 => (intro w hSw; (try dsimp only at hSw); go_simp; try with_reducible rfl)
   try simp only [Act.put, List.setIfInBounds_toArray, List.set_cons_zero, List.set_cons_succ]
   refine' wpAnyH_take (i := 4) (List.getElem?_toArray.trans (List.getElem?_cons_succ.trans (List.getElem?_cons_succ.trans (List.getElem?_cons_succ.trans (List.getElem?_cons_succ.trans (List.getElem?_cons_zero)))))) (by kernel_rfl) (by kernel_rfl) (by kernel_rfl) (fun _ _ _ h => h) (Or.inl ⟨by rfl, ?y5⟩) hH0 ?r5
   case y5 => (intro w hSw; (try dsimp only at hSw); go_simp; try with_reducible rfl)
   try simp only [Act.put, List.setIfInBounds_toArray, List.set_cons_zero, List.set_cons_succ]
   refine' wpAnyH_take (i := 5) (List.getElem?_toArray.trans (List.getElem?_cons_succ.trans (List.getElem?_cons_succ.trans (List.getElem?_cons_succ.trans (List.getElem?_cons_succ.trans (List.getElem?_cons_succ.trans (List.getElem?_cons_zero))))))) (by kernel_rfl) (by kernel_rfl) (by kernel_rfl) (fun _ _ _ h => h) (Or.inl ⟨by rfl, ?y6⟩) hH0 ?r6
   case y6 => (intro w hSw; (try dsimp only at hSw); go_simp; try with_reducible rfl)
   try simp only [Act.put, List.setIfInBounds_toArray, List.set_cons_zero, List.set_cons_succ]
   refine' wpAnyH_take (i := 6) (List.getElem?_toArray.trans (List.getElem?_cons_succ.trans (List.getElem?_cons_succ.trans (List.getElem?_cons_succ.trans (List.getElem?_cons_succ.trans (List.getElem?_cons_succ.trans (List.getElem?_cons_succ.trans (List.getElem?_cons_zero)))))))) (by kernel_rfl) (by kernel_rfl) (by kernel_rfl) (fun _ _ _ h => h) (Or.inl ⟨by rfl, ?y7⟩) hH0 ?r7
   case y7 => (intro w hSw; (try dsimp only at hSw); go_simp; try with_reducible rfl)
   try simp only [Act.put, List.setIfInBounds_toArray, List.set_cons_zero, List.set_cons_succ]
   refine' wpAnyH_take (i := 7) (List.getElem?_toArray.trans (List.getElem?_cons_succ.trans (List.getElem?_cons_succ.trans (List.getElem?_cons_succ.trans (List.getElem?_cons_succ.trans (List.getElem?_cons_succ.trans (List.getElem?_cons_succ.trans (List.getElem?_cons_succ.trans (List.getElem?_cons_zero))))))))) (by kernel_rfl) (by kernel_rfl) (by kernel_rfl) (fun _ _ _ h => h) (Or.inl ⟨by rfl, ?y8⟩) hH0 ?r8
   case y8 => (intro w hSw; (try dsimp only at hSw); go_simp; try with_reducible rfl)
   try simp only [Act.put, List.setIfInBounds_toArray, List.set_cons_zero, List.set_cons_succ]
   refine wpAnyH_ready (rs := [8, 12]) (by kernel_rfl) (by simp) ?_
   refine' AllReadyH.cons (List.getElem?_toArray.trans (List.getElem?_cons_succ.trans (List.getElem?_cons_succ.trans (List.getElem?_cons_succ.trans (List.getElem?_cons_succ.trans (List.getElem?_cons_succ.trans (List.getElem?_cons_succ.trans (List.getElem?_cons_succ.trans (List.getElem?_cons_succ.trans (List.getElem?_cons_zero)))))))))) (fun K hK => ?st9) ?more9
   case st9 =>
    go_simp
    refine' Calls.mono (HAt.out wd (belowT' hwd.out HBd.out)) ?c10
    rintro e w10 ⟨b10, u10a, u10b, u10c, u10d, u10e, rfl, hb10⟩
    have HB10 := Lib.hid (belowT' HBd.out hb10)
    clear hb10
    try go_wp2_with fail
    refine hK.out _ _ ?s10 (fun hH10 => ?r10)
    case s10 => ((try dsimp only); exact keepSI hBl1 hXl1 p1 x6 HB10.out)
    clear hK K hH0
    try simp only [Act.put, List.setIfInBounds_toArray, List.set_cons_zero, List.set_cons_succ]
    refine' wpAnyH_take (i := 9) (List.getElem?_toArray.trans (List.getElem?_cons_succ.trans (List.getElem?_cons_succ.trans (List.getElem?_cons_succ.trans (List.getElem?_cons_succ.trans (List.getElem?_cons_succ.trans (List.getElem?_cons_succ.trans (List.getElem?_cons_succ.trans (List.getElem?_cons_succ.trans (List.getElem?_cons_succ.trans (List.getElem?_cons_zero))))))))))) (by kernel_rfl) (by kernel_rfl) (by kernel_rfl) (fun _ _ _ h => h) (Or.inl ⟨by rfl, ?y11⟩) hH10 ?r11
    case y11 => (intro w hSw; (try dsimp only at hSw); go_simp; try with_reducible rfl)
    try simp only [Act.put, List.setIfInBounds_toArray, List.set_cons_zero, List.set_cons_succ]
    refine' wpAnyH_take (i := 10) (List.getElem?_toArray.trans (List.getElem?_cons_succ.trans (List.getElem?_cons_succ.trans (List.getElem?_cons_succ.trans (List.getElem?_cons_succ.trans (List.getElem?_cons_succ.trans (List.getElem?_cons_succ.trans (List.getElem?_cons_succ.trans (List.getElem?_cons_succ.trans (List.getElem?_cons_succ.trans (List.getElem?_cons_succ.trans (List.getElem?_cons_zero)))))))))))) (by kernel_rfl) (by kernel_rfl) (by kernel_rfl) (fun _ _ _ h => h) (Or.inl ⟨by rfl, ?y12⟩) hH10 ?r12
    case y12 => (intro w hSw; (try dsimp only at hSw); go_simp; try with_reducible rfl)
    try simp only [Act.put, List.setIfInBounds_toArray, List.set_cons_zero, List.set_cons_succ]
    refine' wpAnyH_take (i := 11) (List.getElem?_toArray.trans (List.getElem?_cons_succ.trans (List.getElem?_cons_succ.trans (List.getElem?_cons_succ.trans (List.getElem?_cons_succ.trans (List.getElem?_cons_succ.trans (List.getElem?_cons_succ.trans (List.getElem?_cons_succ.trans (List.getElem?_cons_succ.trans (List.getElem?_cons_succ.trans (List.getElem?_cons_succ.trans (List.getElem?_cons_succ.trans (List.getElem?_cons_zero))))))))))))) (by kernel_rfl) (by kernel_rfl) (by kernel_rfl) (fun _ _ _ h => h) (Or.inl ⟨by rfl, ?y13⟩) hH10 ?r13
    case y13 => (intro w hSw; (try dsimp only at hSw); go_simp; try with_reducible rfl)
    try simp only [Act.put, List.setIfInBounds_toArray, List.set_cons_zero, List.set_cons_succ]
    refine wpAnyH_ready (rs := [12]) (by kernel_rfl) (by simp) ?_
    refine' AllReadyH.cons (List.getElem?_toArray.trans (List.getElem?_cons_succ.trans (List.getElem?_cons_succ.trans (List.getElem?_cons_succ.trans (List.getElem?_cons_succ.trans (List.getElem?_cons_succ.trans (List.getElem?_cons_succ.trans (List.getElem?_cons_succ.trans (List.getElem?_cons_succ.trans (List.getElem?_cons_succ.trans (List.getElem?_cons_succ.trans (List.getElem?_cons_succ.trans (List.getElem?_cons_succ.trans (List.getElem?_cons_zero)))))))))))))) (fun K hK => ?st14) ?more14
    case st14 =>
     go_simp
     refine hK.out _ _ ?s15 (fun hH15 => ?r15)
     case s15 => ((try dsimp only); exact keepSI hBl1 hXl1 p1 x6 (HB10.out.alloc HB10.out.size _))
     clear hK K hH10
     try simp only [Act.put, List.setIfInBounds_toArray, List.set_cons_zero, List.set_cons_succ]
     refine wpAnyH_ready (rs := [13]) (by kernel_rfl) (by simp) ?_
     refine' AllReadyH.cons (List.getElem?_toArray.trans (List.getElem?_cons_succ.trans (List.getElem?_cons_succ.trans (List.getElem?_cons_succ.trans (List.getElem?_cons_succ.trans (List.getElem?_cons_succ.trans (List.getElem?_cons_succ.trans (List.getElem?_cons_succ.trans (List.getElem?_cons_succ.trans (List.getElem?_cons_succ.trans (List.getElem?_cons_succ.trans (List.getElem?_cons_succ.trans (List.getElem?_cons_succ.trans (List.getElem?_cons_succ.trans (List.getElem?_cons_zero))))))))))))))) (fun K hK => ?st16) ?more16
     case st16 =>
      go_simp
      refine hK.out _ _ ?s17 (fun hH17 => ?r17)
      case s17 => ((try dsimp only); exact keepSI hBl1 hXl1 p1 x6 (HB10.out.alloc HB10.out.size _))
      clear hK K hH15
      try simp only [Act.put, List.setIfInBounds_toArray, List.set_cons_zero, List.set_cons_succ]
      refine' wpAnyH_take (i := 14) (List.getElem?_toArray.trans (List.getElem?_cons_succ.trans (List.getElem?_cons_succ.trans (List.getElem?_cons_succ.trans (List.getElem?_cons_succ.trans (List.getElem?_cons_succ.trans (List.getElem?_cons_succ.trans (List.getElem?_cons_succ.trans (List.getElem?_cons_succ.trans (List.getElem?_cons_succ.trans (List.getElem?_cons_succ.trans (List.getElem?_cons_succ.trans (List.getElem?_cons_succ.trans (List.getElem?_cons_succ.trans (List.getElem?_cons_succ.trans (List.getElem?_cons_zero)))))))))))))))) (by kernel_rfl) (by kernel_rfl) (by kernel_rfl) (fun _ _ _ h => h) (Or.inl ⟨by rfl, ?y18⟩) hH17 ?r18
      case y18 => (intro w hSw; (try dsimp only at hSw); go_simp; try with_reducible rfl)
      try simp only [Act.put, List.setIfInBounds_toArray, List.set_cons_zero, List.set_cons_succ]
      refine wpAnyH_done (by kernel_rfl) ?_ _
      go_wp2_with fail
      go_meet
      exact itCutA hwd.out HB10.out
     exact AllReadyH.nil
    exact AllReadyH.nil
   refine' AllReadyH.cons (List.getElem?_toArray.trans (List.getElem?_cons_succ.trans (List.getElem?_cons_succ.trans (List.getElem?_cons_succ.trans (List.getElem?_cons_succ.trans (List.getElem?_cons_succ.trans (List.getElem?_cons_succ.trans (List.getElem?_cons_succ.trans (List.getElem?_cons_succ.trans (List.getElem?_cons_succ.trans (List.getElem?_cons_succ.trans (List.getElem?_cons_succ.trans (List.getElem?_cons_succ.trans (List.getElem?_cons_zero)))))))))))))) (fun K hK => ?st19) ?more19
   case st19 =>
    go_simp
    refine hK.out _ _ ?s20 (fun hH20 => ?r20)
    case s20 => ((try dsimp only); exact keepSI hBl1 hXl1 p1 x6 ((Below.refl _ _).alloc (Nat.le_refl _) _))
    obtain ⟨v20, hv20⟩ : ∃ v, v = wd.alloc (.cells #[.string ⟨#[]⟩, .string ⟨#[]⟩, .int .u32 0, .int .u64 0, .int .i64 0, .int .i64 0] 83) := ⟨_, rfl⟩
    obtain ⟨N20, hn20⟩ : ∃ N, N = wd.heap.size := ⟨_, rfl⟩
    rw [← hv20] at hH20
    rw [← hv20, ← hn20]
    have HB20 : Hid (Below wd.heap.size wd v20) := Lib.hid (by rw [hv20]; exact (Below.refl _ _).alloc (Nat.le_refl _) _)
    have hN20 := Lib.hid (And.intro hn20 hv20)
    clear hv20 hn20
    clear hK K hH0
    try simp only [Act.put, List.setIfInBounds_toArray, List.set_cons_zero, List.set_cons_succ]
    refine wpAnyH_ready (rs := [8]) (by kernel_rfl) (by simp) ?_
    refine' AllReadyH.cons (List.getElem?_toArray.trans (List.getElem?_cons_succ.trans (List.getElem?_cons_succ.trans (List.getElem?_cons_succ.trans (List.getElem?_cons_succ.trans (List.getElem?_cons_succ.trans (List.getElem?_cons_succ.trans (List.getElem?_cons_succ.trans (List.getElem?_cons_succ.trans (List.getElem?_cons_zero)))))))))) (fun K hK => ?st21) ?more21
    case st21 =>
     go_simp
     refine' Calls.mono (HAt.out v20 (belowT' hwd.out HB20.out)) ?c22
     rintro e w22 ⟨b22, u22a, u22b, u22c, u22d, u22e, rfl, hb22⟩
     obtain ⟨z0, z1, z2, z3, z4, z5, zf0, zf1, zf2, zf3, zf4, zf5⟩ := recFactsN hb22 hN20.out
     have HB22 := Lib.hid (belowT' HB20.out hb22)
     clear hb22
     try go_wp2_with fail
     refine hK.out _ _ ?s22 (fun hH22 => ?r22)
     case s22 => ((try dsimp only); exact keepSI hBl1 hXl1 p1 x6 HB22.out)
     clear hK K hH20
     try simp only [Act.put, List.setIfInBounds_toArray, List.set_cons_zero, List.set_cons_succ]
     refine' wpAnyH_take (i := 9) (List.getElem?_toArray.trans (List.getElem?_cons_succ.trans (List.getElem?_cons_succ.trans (List.getElem?_cons_succ.trans (List.getElem?_cons_succ.trans (List.getElem?_cons_succ.trans (List.getElem?_cons_succ.trans (List.getElem?_cons_succ.trans (List.getElem?_cons_succ.trans (List.getElem?_cons_succ.trans (List.getElem?_cons_zero))))))))))) (by kernel_rfl) (by kernel_rfl) (by kernel_rfl) (fun _ _ _ h => h) (Or.inl ⟨by rfl, ?y23⟩) hH22 ?r23
     case y23 => (intro w hSw; (try dsimp only at hSw); go_simp; try with_reducible rfl)
     try simp only [Act.put, List.setIfInBounds_toArray, List.set_cons_zero, List.set_cons_succ]
     refine' wpAnyH_take (i := 10) (List.getElem?_toArray.trans (List.getElem?_cons_succ.trans (List.getElem?_cons_succ.trans (List.getElem?_cons_succ.trans (List.getElem?_cons_succ.trans (List.getElem?_cons_succ.trans (List.getElem?_cons_succ.trans (List.getElem?_cons_succ.trans (List.getElem?_cons_succ.trans (List.getElem?_cons_succ.trans (List.getElem?_cons_succ.trans (List.getElem?_cons_zero)))))))))))) (by kernel_rfl) (by kernel_rfl) (by kernel_rfl) (fun _ _ _ h => h) (Or.inl ⟨by rfl, ?y24⟩) hH22 ?r24
     case y24 => (intro w hSw; (try dsimp only at hSw); go_simp; try with_reducible rfl)
     try simp only [Act.put, List.setIfInBounds_toArray, List.set_cons_zero, List.set_cons_succ]
     refine' wpAnyH_take (i := 11) (List.getElem?_toArray.trans (List.getElem?_cons_succ.trans (List.getElem?_cons_succ.trans (List.getElem?_cons_succ.trans (List.getElem?_cons_succ.trans (List.getElem?_cons_succ.trans (List.getElem?_cons_succ.trans (List.getElem?_cons_succ.trans (List.getElem?_cons_succ.trans (List.getElem?_cons_succ.trans (List.getElem?_cons_succ.trans (List.getElem?_cons_succ.trans (List.getElem?_cons_zero))))))))))))) (by kernel_rfl) (by kernel_rfl) (by kernel_rfl) (fun _ _ _ h => h) (Or.inl ⟨by rfl, ?y25⟩) hH22 ?r25
     case y25 => (intro w hSw; (try dsimp only at hSw); go_simp; try with_reducible rfl)
     try simp only [Act.put, List.setIfInBounds_toArray, List.set_cons_zero, List.set_cons_succ]
     refine wpAnyH_ready (rs := [13]) (by kernel_rfl) (by simp) ?_
     refine' AllReadyH.cons (List.getElem?_toArray.trans (List.getElem?_cons_succ.trans (List.getElem?_cons_succ.trans (List.getElem?_cons_succ.trans (List.getElem?_cons_succ.trans (List.getElem?_cons_succ.trans (List.getElem?_cons_succ.trans (List.getElem?_cons_succ.trans (List.getElem?_cons_succ.trans (List.getElem?_cons_succ.trans (List.getElem?_cons_succ.trans (List.getElem?_cons_succ.trans (List.getElem?_cons_succ.trans (List.getElem?_cons_succ.trans (List.getElem?_cons_zero))))))))))))))) (fun K hK => ?st26) ?more26
     case st26 =>
      go_simp
      refine hK.out _ _ ?s27 (fun hH27 => ?r27)
      case s27 => ((try dsimp only); exact keepSI hBl1 hXl1 p1 x6 (below6 hN20.out.1 HB22.out))
      clear hK K hH22
      try simp only [Act.put, List.setIfInBounds_toArray, List.set_cons_zero, List.set_cons_succ]
      refine' wpAnyH_take (i := 14) (List.getElem?_toArray.trans (List.getElem?_cons_succ.trans (List.getElem?_cons_succ.trans (List.getElem?_cons_succ.trans (List.getElem?_cons_succ.trans (List.getElem?_cons_succ.trans (List.getElem?_cons_succ.trans (List.getElem?_cons_succ.trans (List.getElem?_cons_succ.trans (List.getElem?_cons_succ.trans (List.getElem?_cons_succ.trans (List.getElem?_cons_succ.trans (List.getElem?_cons_succ.trans (List.getElem?_cons_succ.trans (List.getElem?_cons_succ.trans (List.getElem?_cons_zero)))))))))))))))) (by kernel_rfl) (by kernel_rfl) (by kernel_rfl) (fun _ _ _ h => h) (Or.inl ⟨by rfl, ?y28⟩) hH27 ?r28
      case y28 => (intro w hSw; (try dsimp only at hSw); go_simp; try with_reducible rfl)
      try simp only [Act.put, List.setIfInBounds_toArray, List.set_cons_zero, List.set_cons_succ]
      refine wpAnyH_done (by kernel_rfl) ?_ _
      go_wp2_with fail
      go_meet
      exact itCut6 hwd.out hN20.out.1 HB22.out z0 z1 z2 z3 z4 z5
     exact AllReadyH.nil
    exact AllReadyH.nil
   exact AllReadyH.nil
  case rest =>
   obtain ⟨N, rfl, hN4, hNl, hb5, hkc⟩ := hcut
   have hz : G2 N = 0 := by
    by_cases e : G2 N = 0
    · exact e
    · have := M4.out.e.hi N e; omega
   have HZ := Lib.hid hz
   clear hz
   have M5 := Lib.hid (M4.out.below hb5)
   have S5 := Lib.hid (And.intro (S4.out.1.below hb5) (S4.out.2.below hb5))
   have x0 := M5.out.t.c 0 _ rfl
   have hXN := M5.out.t.lt
   have HNR := Lib.hid (fun (W : World) (h : ∀ j, G2 j ≠ 0 → j < W.heap.size) => c_NewRoom (k := k + 4) (w := W) (O := G2) now hs (by omega) (by omega) HHB.out.1 HHB.out.2 (by omega) h)
   clear hb5 p1 x6 hXl hBl HAt M4 S4
   go_upto_region 2 with fail
   go_region_held3 (fun w' => w'.cell? ⟨X, 0, none⟩ = some (.int .i64 now) ∧ w'.cell? ⟨N, 0, none⟩ = some (.string key)) (go_keep)
    ((first
      | (go_at_call 35
         refine (HHA.out _).mono ?_
         rintro e w6 ⟨rfl, hw6⟩
         have hb6 : Below wc.heap.size wc w6 := by rw [← hw6]; exact ((drew_below wc).trans ((Below.refl _ _).alloc (by simp) _))
         have M6 := Lib.hid (M5.out.below hb6)
         have S6 := Lib.hid (And.intro (S5.out.1.below hb6) (S5.out.2.below hb6))
         have x06 := M6.out.t.c 0 _ rfl
         have n06 := keepW hNl hkc hb6
         have hNl6 := Nat.lt_of_lt_of_le hNl hb6.size
         clear hw6 hb6)
      | (go_at_call 83
         refine (HNR.out _ M6.out.e.hi).mono ?_
         rintro e w7 ⟨R, rfl, G7, e7, r7⟩
         have M7 := Lib.hid (And.intro (M6.out.e.trans (e7.mono (T := SX k (k + 5)) fun t _ h => .inr (by omega))) (And.intro (M6.out.p.ext e7 (by omega) (by omega) (by omega) (by omega)) (And.intro (M6.out.t.ext e7 (by omega)) (And.intro (S6.out.1.ext e7 (by omega)) (And.intro (S6.out.2.ext e7 (by omega)) r7)))))
         have x07 := M7.out.2.2.1.c 0 _ rfl
         have n07 : w7.cell? ⟨N, 0, none⟩ = some (.string key) := (e7.cell (p := ⟨N, 0, none⟩) hNl6 (by dsimp only; rw [HZ.out]; omega)).trans n06
         clear e7 r7)))
   all_goals
    clear x0 x06 n06 x07 n07 hkc hNl hNl6 hN4
    obtain ⟨A, o, cp, rfl, hc1, hc2⟩ := M7.out.2.2.2.1.open (by decide)
    have x4 := M7.out.2.2.1.c 4 _ rfl
    have hXl := M7.out.2.2.1.lt
    obtain ⟨G8, e8, a8, k8⟩ := alloc_ob M7.out.1.hi (k + 3) #[.pointer (some ⟨X, 0, none⟩), .pointer (some ⟨R, 0, none⟩)] 180 w7.heap.size rfl
    have M8 := Lib.hid (And.intro (M7.out.1.trans (e8.mono (T := SX k (k + 5)) fun t _ h => .inr (by omega))) (And.intro (M7.out.2.1.ext e8 (by omega) (by omega) (by omega) (by omega)) (And.intro (k8 _ _ _ M7.out.2.2.1) (And.intro (M7.out.2.2.2.1.kept k8) (And.intro (k8 _ _ _ M7.out.2.2.2.2.1) (And.intro (M7.out.2.2.2.2.2.ext e8 (fun t q1 q2 => by omega)) a8))))))
    clear e8 a8 k8
    go_upto_region 3 with fail
    go_wp2_with (at_builtin; refine append_sls (w7.alloc (.cells #[.pointer (some ⟨X, 0, none⟩), .pointer (some ⟨R, 0, none⟩)] 180)) rfl _ _ 109 rfl 245 i0 .nilIface 1 16 Tryz.underlying109 HI.out.1 HI.out.2.1 HI.out.2.2.1 HI.out.2.2.2 rfl (by decide) G8 (k + 1) (by omega) M8.out.1.hi (.slice (some ⟨A, o, none⟩) 1 cp) 1 [IAct d] rfl M8.out.2.2.2.1 1 (by decide) [ISearch w7.heap.size] _ (by simp only [World.size_alloc]; rfl) rfl (by simp [ISearch, Value.oneCell']) (by unfold maxLen; decide) (by decide) ?_; intro b9 o9 c9 w9 G9 e9 s9; have M9 := Lib.hid (And.intro (M8.out.1.trans (e9.mono (T := SX k (k + 5)) fun t _ h => .inr (by omega))) (And.intro (M8.out.2.1.ext e9 (by omega) (by omega) (by omega) (by omega)) (And.intro (M8.out.2.2.1.ext e9 (by omega)) (And.intro s9 (And.intro (M8.out.2.2.2.2.1.ext e9 (by omega)) (And.intro (M8.out.2.2.2.2.2.1.ext e9 (fun t q1 q2 => by omega)) (M8.out.2.2.2.2.2.2.ext e9 (by omega)))))))); have x49 := M9.out.2.2.1.c 4 _ rfl; have f49 := M9.out.2.2.1.f 4; clear e9 s9)
    go_end0
    have EA := ext_set (j := 4) (v := .slice (some ⟨b9, o9, none⟩) (1 + 1) c9) M9.out.1.hi M9.out.2.2.1 hk
    have XA := M9.out.2.2.1.set 4 (.slice (some ⟨b9, o9, none⟩) (1 + 1) c9) (by simp [mvCs])
    exact ⟨rfl, G9, M9.out.1.trans (EA.mono fun t _ h => .inr (by omega)), M9.out.2.1.ext EA (by omega) (by omega) (by omega) (by omega), M9.out.2.2.2.2.1.ext EA (by omega), _, XA, _, M9.out.2.2.2.1.ext EA (by omega), R, M9.out.2.2.2.2.2.2.ext EA (by omega), M9.out.2.2.2.2.2.1.ext EA (fun t q1 q2 => by omega)⟩
end
end
section
set_option linter.unusedVariables false
set_option maxHeartbeats 20000000
set_option maxRecDepth 100000
open Go.RowKit Go.Shelf
def GoesPost (w : World) (O : Om) (k X : Nat) (now tag ref lost : Int) (p dd : Spt) (v0 : Value) (W : World) (G : Om) : Prop :=
 Ext (fun t => t = k ∨ t = k + 1 ∨ (k + 19 ≤ t ∧ t ≤ k + 24)) O w G W ∧ ∃ lv' m1 u q m2, Ob W G k X (mvCs now p lv' tag ref lost) ∧ Sls W G (k + 1) 1 lv' 5 [v0, IMark m1, IOut u, IPut q, IMark m2] ∧ MkAt W G (k + 19) m1 (mk2 p dd) ∧ OutAt W G (k + 21) u p ⟨0, 0⟩ ∧ PvAt W G (k + 22) q dd tag ref (ptNew tag ref) ∧ MkAt W G (k + 23) m2 (mk2 p dd)
section
variable {X : Nat} {w : World} {O : Om} {B : Wb} {f : Cf} {s : AW} {k : Nat}
theorem c_NewPutV (p : Spt) (tg rf : Int) (hp : p.ok) (hhi : ∀ j, O j ≠ 0 → j < w.heap.size) (t0 : 0 ≤ tg) (t1 : tg ≤ 255) (r1 : rf ≤ 9223372036854775807) : Calls Tryz.prog 36 #[.agg #[.int .i64 p.b, .int .i64 p.q, .int .i64 p.s], .int .i64 tg, .int .i64 rf] w fun e w' => ∃ U, RP (fun t => t = k) w O (.pointer (some ⟨U, 0, none⟩)) (fun W G => PvAt W G k U p tg rf (ptNew tg rf)) e w' := by
 by_cases c : 1 ≤ tg ∧ tg ≤ 255 ∧ 1 ≤ rf
 · have e : ptNew tg rf = ⟨0, 0⟩ := by unfold ptNew; rw [if_pos c]
   rw [e]
   refine (c_NewPut (k := k) hp hhi c.1 c.2.1 c.2.2 r1).mono ?_
   rintro e w' ⟨U, rfl, G, e1, u1⟩
   exact ⟨U, rfl, G, e1, fun _ => u1, fun h => absurd c h⟩
 · have e : ptNew tg rf = ⟨3, 0⟩ := by unfold ptNew; rw [if_neg c]
   rw [e]
   obtain ⟨pb, pq, ps⟩ := p
   have B1 : Below w.heap.size w (w.alloc (.cells #[.int .i64 pb, .int .i64 pq, .int .i64 ps] 56)) := (Below.refl _ _).alloc (Nat.le_refl _) _
   obtain ⟨G2, e2, x2, -⟩ := alloc_ob (Ext.of_below (S := fun t => t = k) hhi B1).hi k #[.int .u64 0, .int .u64 0, .int .i64 0, .int .u64 0, .int .i64 0, .int .i64 0, .int .i64 0] 143 (w.heap.size + 1) (by simp)
   have HE := Lib.hid (And.intro ((Ext.of_below hhi B1).trans e2) x2)
   have fin : ∃ U, RP (fun t => t = k) w O (.pointer (some ⟨U, 0, none⟩)) (fun W G => PvAt W G k U ⟨pb, pq, ps⟩ tg rf ⟨3, 0⟩) (.returned (.pointer (some ⟨w.heap.size + 1, 0, none⟩))) ((w.alloc (.cells #[.int .i64 pb, .int .i64 pq, .int .i64 ps] 56)).alloc (.cells #[.int .u64 0, .int .u64 0, .int .i64 0, .int .u64 0, .int .i64 0, .int .i64 0, .int .i64 0] 143)) := ⟨_, rfl, G2, HE.out.1, fun h => absurd h c, fun _ => HE.out.2⟩
   have FIN := Lib.hid fin
   clear e2 x2 B1 hp hhi fin e
   by_cases c1 : tg < 1
   · have d1 : decide (tg < 1) = true := by simp [c1]
     clear c c1
     go_enter Tryz.func36, Tryz.ntmps36
     go_wp2_with fail
     go_ret
     exact FIN.out
   · have d1 : decide (tg < 1) = false := by simp; omega
     have d2 : decide ((255 : Int) < tg) = false := by simp; omega
     have d3 : decide (rf < 1) = true := by simp; omega
     clear c c1
     go_enter Tryz.func36, Tryz.ntmps36
     go_wp2_with fail
     go_ret
     exact FIN.out
theorem goS {W : World} {G : Om} {k X N : Nat} {now tag ref lost : Int} {p dd : Spt} {lv : Value} (hx : Ob W G k X (mvCs now p lv tag ref lost)) (ht : Ob W G 0 N (spl dd)) :
 W.cell? ⟨X, 4, none⟩ = some lv ∧ W.cell? ⟨X, 1, none⟩ = some (.int .i64 p.b) ∧ W.cell? ⟨X, 2, none⟩ = some (.int .i64 p.q) ∧ W.cell? ⟨X, 3, none⟩ = some (.int .i64 p.s) ∧ W.cell? ⟨X, 5, none⟩ = some (.int .i64 tag) ∧ W.cell? ⟨X, 6, none⟩ = some (.int .i64 ref) ∧ W.cell? ⟨N, 0, none⟩ = some (.int .i64 dd.b) ∧ W.cell? ⟨N, 1, none⟩ = some (.int .i64 dd.q) ∧ W.cell? ⟨N, 2, none⟩ = some (.int .i64 dd.s) :=
 ⟨hx.c 4 _ rfl, hx.c 1 _ rfl, hx.c 2 _ rfl, hx.c 3 _ rfl, hx.c 5 _ rfl, hx.c 6 _ rfl, ht.c 0 _ rfl, ht.c 1 _ rfl, ht.c 2 _ rfl⟩
end
theorem share2 {I : Nat → Nat → World → Om → Prop} {T : Nat → Nat → World → Prop} {Q : Prop} (main : (∀ a b W G, I a b W G → T a b W) → Q) (tail : ∀ a b W G, I a b W G → T a b W) : Q := main tail
theorem share3 {I : Nat → Nat → Nat → World → Om → Prop} {T : Nat → Nat → Nat → World → Prop} {Q : Prop} (main : (∀ a b c W G, I a b c W G → T a b c W) → Q) (tail : ∀ a b c W G, I a b c W G → T a b c W) : Q := main tail
theorem share4 {I : Nat → Nat → Nat → Nat → World → Om → Prop} {T : Nat → Nat → Nat → Nat → World → Prop} {Q : Prop} (main : (∀ a b c d W G, I a b c d W G → T a b c d W) → Q) (tail : ∀ a b c d W G, I a b c d W G → T a b c d W) : Q := main tail
theorem share5 {I : Nat → Nat → Nat → Nat → Nat → World → Om → Prop} {T : Nat → Nat → Nat → Nat → Nat → World → Prop} {Q : Prop} (main : (∀ a b c d e W G, I a b c d e W G → T a b c d e W) → Q) (tail : ∀ a b c d e W G, I a b c d e W G → T a b c d e W) : Q := main tail
theorem share6 {I : Nat → Nat → Nat → Nat → Nat → Nat → World → Om → Prop} {T : Nat → Nat → Nat → Nat → Nat → Nat → World → Prop} {Q : Prop} (main : (∀ a b c d e f W G, I a b c d e f W G → T a b c d e f W) → Q) (tail : ∀ a b c d e f W G, I a b c d e f W G → T a b c d e f W) : Q := main tail
structure YB (w0 : World) (O0 : Om) (k X N : Nat) (now tag ref lost : Int) (p dd : Spt) (lv v0 : Value) (a c m u r q : Option Nat) (W : World) (G : Om) : Prop where
 e : Ext (fun t => t = k ∨ t = k + 1 ∨ (k + 19 ≤ t ∧ t ≤ k + 24)) O0 w0 G W
 x : Ob W G k X (mvCs now p lv tag ref lost)
 l : Sls W G (k + 1) 1 lv 1 [v0]
 t : Ob W G 0 N (spl dd)
 a : ∀ N, a = some N → Ob W G 0 N [.int .i64 p.b, .int .i64 p.q, .int .i64 dd.b, .int .i64 dd.q]
 c : ∀ N, c = some N → Ob W G 0 N [.int .i64 p.b, .int .i64 p.q, .int .i64 dd.b, .int .i64 dd.q]
 m : ∀ N, m = some N → MkAt W G (k + 19) N (mk2 p dd)
 u : ∀ N, u = some N → OutAt W G (k + 21) N p ⟨0, 0⟩
 r : ∀ N, r = some N → PvAt W G (k + 22) N dd tag ref (ptNew tag ref)
 q : ∀ N, q = some N → MkAt W G (k + 23) N (mk2 p dd)
section
variable {w0 : World} {O0 : Om} {k X N : Nat} {now tag ref lost : Int} {p dd : Spt} {lv v0 : Value} {a c m u r q : Option Nat} {W W' : World} {G G' : Om}
theorem YB.below (h : YB w0 O0 k X N now tag ref lost p dd lv v0 a c m u r q W G) (hb : Below W.heap.size W W') : YB w0 O0 k X N now tag ref lost p dd lv v0 a c m u r q W' G :=
 ⟨h.e.below hb, h.x.below hb, h.l.below hb, h.t.below hb, fun N g => (h.a N g).below hb, fun N g => (h.c N g).below hb, fun N g => (h.m N g).below hb, fun N g => (h.u N g).below hb, fun N g => (h.r N g).below hb, fun N g => (h.q N g).below hb⟩
theorem YB.setA (h : YB w0 O0 k X N now tag ref lost p dd lv v0 none c m u r q W G) : YB w0 O0 k X N now tag ref lost p dd lv v0 (some W.heap.size) c m u r q (W.alloc (.cells #[.int .i64 p.b, .int .i64 p.q, .int .i64 dd.b, .int .i64 dd.q] 51)) G := by
 have h' := h.below ((Below.refl W.heap.size W).alloc (Nat.le_refl _) (.cells #[.int .i64 p.b, .int .i64 p.q, .int .i64 dd.b, .int .i64 dd.q] 51))
 exact ⟨h'.e, h'.x, h'.l, h'.t, (fun N g => by cases g; exact (alloc_nbH (S := fun _ => False) h.e.hi #[.int .i64 p.b, .int .i64 p.q, .int .i64 dd.b, .int .i64 dd.q] 51 W.heap.size rfl).2), h'.c, h'.m, h'.u, h'.r, h'.q⟩
theorem YB.setC (h : YB w0 O0 k X N now tag ref lost p dd lv v0 a none m u r q W G) : YB w0 O0 k X N now tag ref lost p dd lv v0 a (some W.heap.size) m u r q (W.alloc (.cells #[.int .i64 p.b, .int .i64 p.q, .int .i64 dd.b, .int .i64 dd.q] 51)) G := by
 have h' := h.below ((Below.refl W.heap.size W).alloc (Nat.le_refl _) (.cells #[.int .i64 p.b, .int .i64 p.q, .int .i64 dd.b, .int .i64 dd.q] 51))
 exact ⟨h'.e, h'.x, h'.l, h'.t, h'.a, (fun N g => by cases g; exact (alloc_nbH (S := fun _ => False) h.e.hi #[.int .i64 p.b, .int .i64 p.q, .int .i64 dd.b, .int .i64 dd.q] 51 W.heap.size rfl).2), h'.m, h'.u, h'.r, h'.q⟩
theorem YB.setM {N0 : Nat} (h : YB w0 O0 k X N now tag ref lost p dd lv v0 a c none u r q W G) (e : Ext (fun t => t = k + 19 ∨ t = k + 19 + 1) G W G' W') (hm : MkAt W' G' (k + 19) N0 (mk2 p dd)) : YB w0 O0 k X N now tag ref lost p dd lv v0 a c (some N0) u r q W' G' :=
 ⟨h.e.trans (e.mono fun t _ g => by omega), h.x.ext e (by omega), h.l.ext e (by omega), h.t.ext e (by omega), fun N g => (h.a N g).ext e (by omega), fun N g => (h.c N g).ext e (by omega), (fun N g => by cases g; exact hm), fun N g => (h.u N g).ext e (by omega), fun N g => (h.r N g).ext e (by omega), fun N g => (h.q N g).ext e (by omega) (by omega)⟩
theorem YB.setU {N0 : Nat} (h : YB w0 O0 k X N now tag ref lost p dd lv v0 a c m none r q W G) (e : Ext (fun t => t = k + 21) G W G' W') (hm : OutAt W' G' (k + 21) N0 p ⟨0, 0⟩) : YB w0 O0 k X N now tag ref lost p dd lv v0 a c m (some N0) r q W' G' :=
 ⟨h.e.trans (e.mono fun t _ g => by omega), h.x.ext e (by omega), h.l.ext e (by omega), h.t.ext e (by omega), fun N g => (h.a N g).ext e (by omega), fun N g => (h.c N g).ext e (by omega), fun N g => (h.m N g).ext e (by omega) (by omega), (fun N g => by cases g; exact hm), fun N g => (h.r N g).ext e (by omega), fun N g => (h.q N g).ext e (by omega) (by omega)⟩
theorem YB.setR {N0 : Nat} (h : YB w0 O0 k X N now tag ref lost p dd lv v0 a c m u none q W G) (e : Ext (fun t => t = k + 22) G W G' W') (hm : PvAt W' G' (k + 22) N0 dd tag ref (ptNew tag ref)) : YB w0 O0 k X N now tag ref lost p dd lv v0 a c m u (some N0) q W' G' :=
 ⟨h.e.trans (e.mono fun t _ g => by omega), h.x.ext e (by omega), h.l.ext e (by omega), h.t.ext e (by omega), fun N g => (h.a N g).ext e (by omega), fun N g => (h.c N g).ext e (by omega), fun N g => (h.m N g).ext e (by omega) (by omega), fun N g => (h.u N g).ext e (by omega), (fun N g => by cases g; exact hm), fun N g => (h.q N g).ext e (by omega) (by omega)⟩
theorem YB.setQ {N0 : Nat} (h : YB w0 O0 k X N now tag ref lost p dd lv v0 a c m u r none W G) (e : Ext (fun t => t = k + 23 ∨ t = k + 23 + 1) G W G' W') (hm : MkAt W' G' (k + 23) N0 (mk2 p dd)) : YB w0 O0 k X N now tag ref lost p dd lv v0 a c m u r (some N0) W' G' :=
 ⟨h.e.trans (e.mono fun t _ g => by omega), h.x.ext e (by omega), h.l.ext e (by omega), h.t.ext e (by omega), fun N g => (h.a N g).ext e (by omega), fun N g => (h.c N g).ext e (by omega), fun N g => (h.m N g).ext e (by omega) (by omega), fun N g => (h.u N g).ext e (by omega), fun N g => (h.r N g).ext e (by omega), (fun N g => by cases g; exact hm)⟩
structure YC (w0 : World) (O0 : Om) (k X N : Nat) (now tag ref lost : Int) (p dd : Spt) (lv : Value) (m u r q : Nat) (W : World) (G : Om) : Prop where
 e : Ext (fun t => t = k ∨ t = k + 1 ∨ (k + 19 ≤ t ∧ t ≤ k + 24)) O0 w0 G W
 x : Ob W G k X (mvCs now p lv tag ref lost)
 t : Ob W G 0 N (spl dd)
 m : MkAt W G (k + 19) m (mk2 p dd)
 u : OutAt W G (k + 21) u p ⟨0, 0⟩
 r : PvAt W G (k + 22) r dd tag ref (ptNew tag ref)
 q : MkAt W G (k + 23) q (mk2 p dd)
theorem YB.app {m u r q : Nat} (h : YB w0 O0 k X N now tag ref lost p dd lv v0 a c (some m) (some u) (some r) (some q) W G) (e : Ext (fun t => t = k + 1) G W G' W') : YC w0 O0 k X N now tag ref lost p dd lv m u r q W' G' :=
 ⟨h.e.trans (e.mono fun t _ g => by omega), h.x.ext e (by omega), h.t.ext e (by omega), (h.m m rfl).ext e (by omega) (by omega), (h.u u rfl).ext e (by omega), (h.r r rfl).ext e (by omega), (h.q q rfl).ext e (by omega) (by omega)⟩
theorem YC.fin {m u r q : Nat} (h : YC w0 O0 k X N now tag ref lost p dd lv m u r q W G) (hk : 10 ≤ k) (v : Value) (hs : Sls W G (k + 1) 1 v (1 + 4) ([v0] ++ [IMark m, IOut u, IPut r, IMark q])) : GoesPost w0 O0 k X now tag ref lost p dd v0 (W.setCell ⟨X, 4, none⟩ v) G := by
 have e := ext_set (j := 4) (v := v) h.e.hi h.x hk
 exact ⟨h.e.trans (e.mono fun t _ g => .inl g), _, m, u, r, q, h.x.set 4 v (by simp [mvCs]), hs.ext e (by omega), h.m.ext e (by omega) (by omega), h.u.ext e (by omega), h.r.ext e (by omega), h.q.ext e (by omega) (by omega)⟩
end
section
variable {X : Nat} {w : World} {O : Om} {B : Wb} {f : Cf} {s : AW} {k : Nat}
theorem c_MvGoes {now tag ref lost : Int} {p dd : Spt} {lv v0 : Value} (hx : Ob w O k X (mvCs now p lv tag ref lost)) (hS : Sls w O (k + 1) 1 lv 1 [v0]) (hp : p.ok) (hdd : dd.ok) (t0 : 0 ≤ tag) (t1 : tag ≤ 255) (r1 : ref ≤ 9223372036854775807) (hk : 10 ≤ k) (hhi : ∀ j, O j ≠ 0 → j < w.heap.size) :
 Calls Tryz.prog 159 #[.pointer (some ⟨X, 0, none⟩), .agg #[.int .i64 dd.b, .int .i64 dd.q, .int .i64 dd.s], .bool true] w fun e w' => e = .returned (.tuple #[]) ∧ ∃ G, GoesPost w O k X now tag ref lost p dd v0 w' G := by
 obtain ⟨A, o, cp, rfl, hc1, hc2⟩ := hS.open (by decide)
 have HP := Lib.hid (And.intro hp hdd)
 obtain ⟨e1, t1'⟩ := alloc_nbH (S := fun t => t = k ∨ t = k + 1 ∨ (k + 19 ≤ t ∧ t ≤ k + 24)) hhi #[.int .i64 dd.b, .int .i64 dd.q, .int .i64 dd.s] 56 w.heap.size rfl
 have hb := (Below.refl w.heap.size w).alloc (Nat.le_refl _) (.cells #[.int .i64 dd.b, .int .i64 dd.q, .int .i64 dd.s] 56)
 have HE := Lib.hid e1
 have HX := Lib.hid (hx.below hb)
 have HL := Lib.hid (hS.below hb)
 have HT := Lib.hid t1'
 obtain ⟨i0, hi, hz0, hz1, hz2⟩ := info_parts infoPart
 have HI := Lib.hid (And.intro hi (And.intro hz0 (And.intro hz1 hz2)))
 clear hp hdd hhi e1 t1' hb hi hz0 hz1 hz2 hx hS
 go_enter Tryz.func159, Tryz.ntmps159
 go_upto_region 2 with fail
 obtain ⟨w1, hw1⟩ : ∃ W, W = w.alloc (.cells #[.int .i64 dd.b, .int .i64 dd.q, .int .i64 dd.s] 56) := ⟨_, rfl⟩
 rw [← hw1] at HE HX HL HT ⊢
 obtain ⟨N, hN⟩ : ∃ N, N = w.heap.size := ⟨_, rfl⟩
 rw [← hN] at HT ⊢
 clear hw1 hN
 refine' share5 (I := fun a c m u r W G => YB w O k X N now tag ref lost p dd (.slice (some ⟨A, o, none⟩) 1 cp) v0 (some a) (some c) (some m) (some u) (some r) none W G) (fun sh3 => ?_) ?t3
 rotate_left
 refine' share4 (I := fun a c m u W G => YB w O k X N now tag ref lost p dd (.slice (some ⟨A, o, none⟩) 1 cp) v0 (some a) (some c) (some m) (some u) none none W G) (fun sh2 => ?_) ?t2
 rotate_left
 refine' share3 (I := fun a c m W G => YB w O k X N now tag ref lost p dd (.slice (some ⟨A, o, none⟩) 1 cp) v0 (some a) (some c) (some m) none none none W G) (fun sh1 => ?_) ?t1
 rotate_left
 refine' share2 (I := fun a c W G => YB w O k X N now tag ref lost p dd (.slice (some ⟨A, o, none⟩) 1 cp) v0 (some a) (some c) none none none none W G) (fun sh0 => ?_) ?t0
 rotate_left
 refine wp_region_F 46 (S := fun w' => w'.cell? ⟨X, 4, none⟩ = some (.slice (some ⟨A, o, none⟩) 1 cp) ∧ w'.cell? ⟨X, 1, none⟩ = some (.int .i64 p.b) ∧ w'.cell? ⟨X, 2, none⟩ = some (.int .i64 p.q) ∧ w'.cell? ⟨X, 3, none⟩ = some (.int .i64 p.s) ∧ w'.cell? ⟨X, 5, none⟩ = some (.int .i64 tag) ∧ w'.cell? ⟨X, 6, none⟩ = some (.int .i64 ref) ∧ w'.cell? ⟨N, 0, none⟩ = some (.int .i64 dd.b) ∧ w'.cell? ⟨N, 1, none⟩ = some (.int .i64 dd.q) ∧ w'.cell? ⟨N, 2, none⟩ = some (.int .i64 dd.s)) (by kernel_rfl) ?sA (fun hH0 => ?rA)
 case sA => exact goS (HX.out.below (drew_below _)) (HT.out.below (drew_below _))
 have B0 : Hid (YB w O k X N now tag ref lost p dd (.slice (some ⟨A, o, none⟩) 1 cp) v0 none none none none none none w1.drew O) := Lib.hid ⟨HE.out.below (drew_below w1), HX.out.below (drew_below w1), HL.out.below (drew_below w1), HT.out.below (drew_below w1), (fun _ h => by cases h), (fun _ h => by cases h), (fun _ h => by cases h), (fun _ h => by cases h), (fun _ h => by cases h), (fun _ h => by cases h)⟩
 obtain ⟨wd, hwd⟩ : ∃ z, z = w1.drew := ⟨_, rfl⟩
 rw [← hwd] at hH0 B0 ⊢
 clear hwd
 try simp only [Act.put, List.setIfInBounds_toArray, List.set_cons_zero, List.set_cons_succ]
 refine' wpAnyF_take (i := 0) (List.getElem?_toArray.trans rfl) (by kernel_rfl) (by kernel_rfl) (by kernel_rfl) (by kernel_rfl) (fun _ _ _ h => h) (Or.inl ⟨by rfl, ?y1⟩) hH0 ?r1
 case y1 => (intro w hSw; (try dsimp only at hSw); go_simp; try with_reducible rfl)
 try simp only [Act.put, List.setIfInBounds_toArray, List.set_cons_zero, List.set_cons_succ]
 refine' wpAnyF_take (i := 1) (List.getElem?_toArray.trans rfl) (by kernel_rfl) (by kernel_rfl) (by kernel_rfl) (by kernel_rfl) (fun _ _ _ h => h) (Or.inl ⟨by rfl, ?y2⟩) hH0 ?r2
 case y2 => (intro w hSw; (try dsimp only at hSw); go_simp; try with_reducible rfl)
 try simp only [Act.put, List.setIfInBounds_toArray, List.set_cons_zero, List.set_cons_succ]
 refine' wpAnyF_take (i := 2) (List.getElem?_toArray.trans rfl) (by kernel_rfl) (by kernel_rfl) (by kernel_rfl) (by kernel_rfl) (fun _ _ _ h => h) (Or.inl ⟨by rfl, ?y3⟩) hH0 ?r3
 case y3 => (intro w hSw; (try dsimp only at hSw); go_simp; try with_reducible rfl)
 try simp only [Act.put, List.setIfInBounds_toArray, List.set_cons_zero, List.set_cons_succ]
 refine' wpAnyF_take (i := 3) (List.getElem?_toArray.trans rfl) (by kernel_rfl) (by kernel_rfl) (by kernel_rfl) (by kernel_rfl) (fun _ _ _ h => h) (Or.inl ⟨by rfl, ?y4⟩) hH0 ?r4
 case y4 => (intro w hSw; (try dsimp only at hSw); go_simp; try with_reducible rfl)
 try simp only [Act.put, List.setIfInBounds_toArray, List.set_cons_zero, List.set_cons_succ]
 refine' wpAnyF_take (i := 4) (List.getElem?_toArray.trans rfl) (by kernel_rfl) (by kernel_rfl) (by kernel_rfl) (by kernel_rfl) (fun _ _ _ h => h) (Or.inl ⟨by rfl, ?y5⟩) hH0 ?r5
 case y5 => (intro w hSw; (try dsimp only at hSw); go_simp; try with_reducible rfl)
 try simp only [Act.put, List.setIfInBounds_toArray, List.set_cons_zero, List.set_cons_succ]
 refine' wpAnyF_take (i := 5) (List.getElem?_toArray.trans rfl) (by kernel_rfl) (by kernel_rfl) (by kernel_rfl) (by kernel_rfl) (fun _ _ _ h => h) (Or.inl ⟨by rfl, ?y6⟩) hH0 ?r6
 case y6 => (intro w hSw; (try dsimp only at hSw); go_simp; try with_reducible rfl)
 try simp only [Act.put, List.setIfInBounds_toArray, List.set_cons_zero, List.set_cons_succ]
 refine' wpAnyF_take (i := 6) (List.getElem?_toArray.trans rfl) (by kernel_rfl) (by kernel_rfl) (by kernel_rfl) (by kernel_rfl) (fun _ _ _ h => h) (Or.inl ⟨by rfl, ?y7⟩) hH0 ?r7
 case y7 => (intro w hSw; (try dsimp only at hSw); go_simp; try with_reducible rfl)
 try simp only [Act.put, List.setIfInBounds_toArray, List.set_cons_zero, List.set_cons_succ]
 refine' wpAnyF_take (i := 7) (List.getElem?_toArray.trans rfl) (by kernel_rfl) (by kernel_rfl) (by kernel_rfl) (by kernel_rfl) (fun _ _ _ h => h) (Or.inl ⟨by rfl, ?y8⟩) hH0 ?r8
 case y8 => (intro w hSw; (try dsimp only at hSw); go_simp; try with_reducible rfl)
 try simp only [Act.put, List.setIfInBounds_toArray, List.set_cons_zero, List.set_cons_succ]
 refine' wpAnyF_take (i := 8) (List.getElem?_toArray.trans rfl) (by kernel_rfl) (by kernel_rfl) (by kernel_rfl) (by kernel_rfl) (fun _ _ _ h => h) (Or.inl ⟨by rfl, ?y9⟩) hH0 ?r9
 case y9 => (intro w hSw; (try dsimp only at hSw); go_simp; try with_reducible rfl)
 try simp only [Act.put, List.setIfInBounds_toArray, List.set_cons_zero, List.set_cons_succ]
 refine' wpAnyF_take (i := 9) (List.getElem?_toArray.trans rfl) (by kernel_rfl) (by kernel_rfl) (by kernel_rfl) (by kernel_rfl) (fun _ _ _ h => h) (Or.inl ⟨by rfl, ?y10⟩) hH0 ?r10
 case y10 => (intro w hSw; (try dsimp only at hSw); go_simp; try with_reducible rfl)
 try simp only [Act.put, List.setIfInBounds_toArray, List.set_cons_zero, List.set_cons_succ]
 refine' wpAnyF_take (i := 10) (List.getElem?_toArray.trans rfl) (by kernel_rfl) (by kernel_rfl) (by kernel_rfl) (by kernel_rfl) (fun _ _ _ h => h) (Or.inl ⟨by rfl, ?y11⟩) hH0 ?r11
 case y11 => (intro w hSw; (try dsimp only at hSw); go_simp; try with_reducible rfl)
 try simp only [Act.put, List.setIfInBounds_toArray, List.set_cons_zero, List.set_cons_succ]
 refine' wpAnyF_take (i := 11) (List.getElem?_toArray.trans rfl) (by kernel_rfl) (by kernel_rfl) (by kernel_rfl) (by kernel_rfl) (fun _ _ _ h => h) (Or.inl ⟨by rfl, ?y12⟩) hH0 ?r12
 case y12 => (intro w hSw; (try dsimp only at hSw); go_simp; try with_reducible rfl)
 try simp only [Act.put, List.setIfInBounds_toArray, List.set_cons_zero, List.set_cons_succ]
 refine' wpAnyF_take (i := 15) (List.getElem?_toArray.trans rfl) (by kernel_rfl) (by kernel_rfl) (by kernel_rfl) (by kernel_rfl) (fun _ _ _ h => h) (Or.inl ⟨by rfl, ?y13⟩) hH0 ?r13
 case y13 => (intro w hSw; (try dsimp only at hSw); go_simp; try with_reducible rfl)
 try simp only [Act.put, List.setIfInBounds_toArray, List.set_cons_zero, List.set_cons_succ]
 refine' wpAnyF_take (i := 16) (List.getElem?_toArray.trans rfl) (by kernel_rfl) (by kernel_rfl) (by kernel_rfl) (by kernel_rfl) (fun _ _ _ h => h) (Or.inl ⟨by rfl, ?y14⟩) hH0 ?r14
 case y14 => (intro w hSw; (try dsimp only at hSw); go_simp; try with_reducible rfl)
 try simp only [Act.put, List.setIfInBounds_toArray, List.set_cons_zero, List.set_cons_succ]
 refine' wpAnyF_take (i := 17) (List.getElem?_toArray.trans rfl) (by kernel_rfl) (by kernel_rfl) (by kernel_rfl) (by kernel_rfl) (fun _ _ _ h => h) (Or.inl ⟨by rfl, ?y15⟩) hH0 ?r15
 case y15 => (intro w hSw; (try dsimp only at hSw); go_simp; try with_reducible rfl)
 try simp only [Act.put, List.setIfInBounds_toArray, List.set_cons_zero, List.set_cons_succ]
 refine' wpAnyF_take (i := 18) (List.getElem?_toArray.trans rfl) (by kernel_rfl) (by kernel_rfl) (by kernel_rfl) (by kernel_rfl) (fun _ _ _ h => h) (Or.inl ⟨by rfl, ?y16⟩) hH0 ?r16
 case y16 => (intro w hSw; (try dsimp only at hSw); go_simp; try with_reducible rfl)
 try simp only [Act.put, List.setIfInBounds_toArray, List.set_cons_zero, List.set_cons_succ]
 refine' wpAnyF_take (i := 21) (List.getElem?_toArray.trans rfl) (by kernel_rfl) (by kernel_rfl) (by kernel_rfl) (by kernel_rfl) (fun _ _ _ h => h) (Or.inl ⟨by rfl, ?y17⟩) hH0 ?r17
 case y17 => (intro w hSw; (try dsimp only at hSw); go_simp; try with_reducible rfl)
 try simp only [Act.put, List.setIfInBounds_toArray, List.set_cons_zero, List.set_cons_succ]
 refine' wpAnyF_take (i := 22) (List.getElem?_toArray.trans rfl) (by kernel_rfl) (by kernel_rfl) (by kernel_rfl) (by kernel_rfl) (fun _ _ _ h => h) (Or.inl ⟨by rfl, ?y18⟩) hH0 ?r18
 case y18 => (intro w hSw; (try dsimp only at hSw); go_simp; try with_reducible rfl)
 try simp only [Act.put, List.setIfInBounds_toArray, List.set_cons_zero, List.set_cons_succ]
 refine' wpAnyF_take (i := 23) (List.getElem?_toArray.trans rfl) (by kernel_rfl) (by kernel_rfl) (by kernel_rfl) (by kernel_rfl) (fun _ _ _ h => h) (Or.inl ⟨by rfl, ?y19⟩) hH0 ?r19
 case y19 => (intro w hSw; (try dsimp only at hSw); go_simp; try with_reducible rfl)
 try simp only [Act.put, List.setIfInBounds_toArray, List.set_cons_zero, List.set_cons_succ]
 refine' wpAnyF_take (i := 24) (List.getElem?_toArray.trans rfl) (by kernel_rfl) (by kernel_rfl) (by kernel_rfl) (by kernel_rfl) (fun _ _ _ h => h) (Or.inl ⟨by rfl, ?y20⟩) hH0 ?r20
 case y20 => (intro w hSw; (try dsimp only at hSw); go_simp; try with_reducible rfl)
 try simp only [Act.put, List.setIfInBounds_toArray, List.set_cons_zero, List.set_cons_succ]
 refine' wpAnyF_take (i := 25) (List.getElem?_toArray.trans rfl) (by kernel_rfl) (by kernel_rfl) (by kernel_rfl) (by kernel_rfl) (fun _ _ _ h => h) (Or.inl ⟨by rfl, ?y21⟩) hH0 ?r21
 case y21 => (intro w hSw; (try dsimp only at hSw); go_simp; try with_reducible rfl)
 try simp only [Act.put, List.setIfInBounds_toArray, List.set_cons_zero, List.set_cons_succ]
 refine' wpAnyF_take (i := 26) (List.getElem?_toArray.trans rfl) (by kernel_rfl) (by kernel_rfl) (by kernel_rfl) (by kernel_rfl) (fun _ _ _ h => h) (Or.inl ⟨by rfl, ?y22⟩) hH0 ?r22
 case y22 => (intro w hSw; (try dsimp only at hSw); go_simp; try with_reducible rfl)
 try simp only [Act.put, List.setIfInBounds_toArray, List.set_cons_zero, List.set_cons_succ]
 refine' wpAnyF_take (i := 27) (List.getElem?_toArray.trans rfl) (by kernel_rfl) (by kernel_rfl) (by kernel_rfl) (by kernel_rfl) (fun _ _ _ h => h) (Or.inl ⟨by rfl, ?y23⟩) hH0 ?r23
 case y23 => (intro w hSw; (try dsimp only at hSw); go_simp; try with_reducible rfl)
 try simp only [Act.put, List.setIfInBounds_toArray, List.set_cons_zero, List.set_cons_succ]
 refine' wpAnyF_take (i := 28) (List.getElem?_toArray.trans rfl) (by kernel_rfl) (by kernel_rfl) (by kernel_rfl) (by kernel_rfl) (fun _ _ _ h => h) (Or.inl ⟨by rfl, ?y24⟩) hH0 ?r24
 case y24 => (intro w hSw; (try dsimp only at hSw); go_simp; try with_reducible rfl)
 try simp only [Act.put, List.setIfInBounds_toArray, List.set_cons_zero, List.set_cons_succ]
 refine' wpAnyF_take (i := 29) (List.getElem?_toArray.trans rfl) (by kernel_rfl) (by kernel_rfl) (by kernel_rfl) (by kernel_rfl) (fun _ _ _ h => h) (Or.inl ⟨by rfl, ?y25⟩) hH0 ?r25
 case y25 => (intro w hSw; (try dsimp only at hSw); go_simp; try with_reducible rfl)
 try simp only [Act.put, List.setIfInBounds_toArray, List.set_cons_zero, List.set_cons_succ]
 refine' wpAnyF_take (i := 32) (List.getElem?_toArray.trans rfl) (by kernel_rfl) (by kernel_rfl) (by kernel_rfl) (by kernel_rfl) (fun _ _ _ h => h) (Or.inl ⟨by rfl, ?y26⟩) hH0 ?r26
 case y26 => (intro w hSw; (try dsimp only at hSw); go_simp; try with_reducible rfl)
 try simp only [Act.put, List.setIfInBounds_toArray, List.set_cons_zero, List.set_cons_succ]
 refine' wpAnyF_take (i := 33) (List.getElem?_toArray.trans rfl) (by kernel_rfl) (by kernel_rfl) (by kernel_rfl) (by kernel_rfl) (fun _ _ _ h => h) (Or.inl ⟨by rfl, ?y27⟩) hH0 ?r27
 case y27 => (intro w hSw; (try dsimp only at hSw); go_simp; try with_reducible rfl)
 try simp only [Act.put, List.setIfInBounds_toArray, List.set_cons_zero, List.set_cons_succ]
 refine' wpAnyF_take (i := 34) (List.getElem?_toArray.trans rfl) (by kernel_rfl) (by kernel_rfl) (by kernel_rfl) (by kernel_rfl) (fun _ _ _ h => h) (Or.inl ⟨by rfl, ?y28⟩) hH0 ?r28
 case y28 => (intro w hSw; (try dsimp only at hSw); go_simp; try with_reducible rfl)
 try simp only [Act.put, List.setIfInBounds_toArray, List.set_cons_zero, List.set_cons_succ]
 refine' wpAnyF_take (i := 35) (List.getElem?_toArray.trans rfl) (by kernel_rfl) (by kernel_rfl) (by kernel_rfl) (by kernel_rfl) (fun _ _ _ h => h) (Or.inl ⟨by rfl, ?y29⟩) hH0 ?r29
 case y29 => (intro w hSw; (try dsimp only at hSw); go_simp; try with_reducible rfl)
 try simp only [Act.put, List.setIfInBounds_toArray, List.set_cons_zero, List.set_cons_succ]
 refine' wpAnyF_take (i := 36) (List.getElem?_toArray.trans rfl) (by kernel_rfl) (by kernel_rfl) (by kernel_rfl) (by kernel_rfl) (fun _ _ _ h => h) (Or.inl ⟨by rfl, ?y30⟩) hH0 ?r30
 case y30 => (intro w hSw; (try dsimp only at hSw); go_simp; try with_reducible rfl)
 try simp only [Act.put, List.setIfInBounds_toArray, List.set_cons_zero, List.set_cons_succ]
 refine' wpAnyF_take (i := 37) (List.getElem?_toArray.trans rfl) (by kernel_rfl) (by kernel_rfl) (by kernel_rfl) (by kernel_rfl) (fun _ _ _ h => h) (Or.inl ⟨by rfl, ?y31⟩) hH0 ?r31
 case y31 => (intro w hSw; (try dsimp only at hSw); go_simp; try with_reducible rfl)
 try simp only [Act.put, List.setIfInBounds_toArray, List.set_cons_zero, List.set_cons_succ]
 refine' wpAnyF_take (i := 38) (List.getElem?_toArray.trans rfl) (by kernel_rfl) (by kernel_rfl) (by kernel_rfl) (by kernel_rfl) (fun _ _ _ h => h) (Or.inl ⟨by rfl, ?y32⟩) hH0 ?r32
 case y32 => (intro w hSw; (try dsimp only at hSw); go_simp; try with_reducible rfl)
 try simp only [Act.put, List.setIfInBounds_toArray, List.set_cons_zero, List.set_cons_succ]
 refine wpAnyF_ready (rs := [12, 39]) (by kernel_rfl) (by simp) ?_
 refine' AllReadyF.cons (List.getElem?_toArray.trans rfl) (fun K hK => ?st33) ?more33
 case st33 =>
  go_simp
  refine hK.out _ _ ?s34 (fun hH34 => ?r34)
  case s34 => ((try dsimp only); exact goS (B0.out.x.below ((Below.refl _ _).alloc (Nat.le_refl _) _)) (B0.out.t.below ((Below.refl _ _).alloc (Nat.le_refl _) _)))
  have b34 := B0.out.setA
  obtain ⟨v34, hv34⟩ : ∃ v, v = wd.alloc (.cells #[.int .i64 p.b, .int .i64 p.q, .int .i64 dd.b, .int .i64 dd.q] 51) := ⟨_, rfl⟩
  obtain ⟨N34, hn34⟩ : ∃ x, x = wd.heap.size := ⟨_, rfl⟩
  rw [← hv34] at hH34 b34 ⊢
  rw [← hn34] at b34 ⊢
  have B34 := Lib.hid b34
  clear hv34 hn34 b34 B0
  clear hK K hH0
  try simp only [Act.put, List.setIfInBounds_toArray, List.set_cons_zero, List.set_cons_succ]
  refine wpAnyF_ready (rs := [13, 39]) (by kernel_rfl) (by simp) ?_
  refine' AllReadyF.cons (List.getElem?_toArray.trans rfl) (fun K hK => ?st35) ?more35
  case st35 =>
   go_simp
   refine' Calls.mono (c_NewMark2 p dd HP.out.1 HP.out.2 (k + 19) (by omega) (by rw [(B34.out.a _ rfl).o]; omega) ⟨Nat.le_refl _, by unfold maxLen; decide⟩ (B34.out.a _ rfl).lt ((B34.out.a _ rfl).c 0 _ rfl) ((B34.out.a _ rfl).c 1 _ rfl) ((B34.out.a _ rfl).c 2 _ rfl) ((B34.out.a _ rfl).c 3 _ rfl) B34.out.e.hi) ?c36
   rintro e w36 ⟨m36, rfl, G36, e36, a36⟩
   have B36 := Lib.hid (B34.out.setM e36 a36)
   clear a36 e36 B34
   try go_wp2_with fail
   refine hK.out _ _ ?s36 (fun hH36 => ?r36)
   case s36 => ((try dsimp only); exact goS B36.out.x B36.out.t)
   clear hK K hH34
   try simp only [Act.put, List.setIfInBounds_toArray, List.set_cons_zero, List.set_cons_succ]
   refine' wpAnyF_take (i := 14) (List.getElem?_toArray.trans rfl) (by kernel_rfl) (by kernel_rfl) (by kernel_rfl) (by kernel_rfl) (fun _ _ _ h => h) (Or.inl ⟨by rfl, ?y37⟩) hH36 ?r37
   case y37 => (intro w hSw; (try dsimp only at hSw); go_simp; try with_reducible rfl)
   try simp only [Act.put, List.setIfInBounds_toArray, List.set_cons_zero, List.set_cons_succ]
   refine wpAnyF_ready (rs := [19, 39]) (by kernel_rfl) (by simp) ?_
   refine' AllReadyF.cons (List.getElem?_toArray.trans rfl) (fun K hK => ?st38) ?more38
   case st38 =>
    go_simp
    refine' Calls.mono (c_NewOut (k := k + 21) HP.out.1 B36.out.e.hi) ?c39
    rintro e w39 ⟨m39, rfl, G39, e39, a39⟩
    have B39 := Lib.hid (B36.out.setU e39 a39)
    clear a39 e39 B36
    try go_wp2_with fail
    refine hK.out _ _ ?s39 (fun hH39 => ?r39)
    case s39 => ((try dsimp only); exact goS B39.out.x B39.out.t)
    clear hK K hH36
    try simp only [Act.put, List.setIfInBounds_toArray, List.set_cons_zero, List.set_cons_succ]
    refine' wpAnyF_take (i := 20) (List.getElem?_toArray.trans rfl) (by kernel_rfl) (by kernel_rfl) (by kernel_rfl) (by kernel_rfl) (fun _ _ _ h => h) (Or.inl ⟨by rfl, ?y40⟩) hH39 ?r40
    case y40 => (intro w hSw; (try dsimp only at hSw); go_simp; try with_reducible rfl)
    try simp only [Act.put, List.setIfInBounds_toArray, List.set_cons_zero, List.set_cons_succ]
    refine wpAnyF_ready (rs := [30, 39]) (by kernel_rfl) (by simp) ?_
    refine' AllReadyF.cons (List.getElem?_toArray.trans rfl) (fun K hK => ?st41) ?more41
    case st41 =>
     go_simp
     refine' Calls.mono (c_NewPutV (k := k + 22) dd tag ref HP.out.2 B39.out.e.hi t0 t1 r1) ?c42
     rintro e w42 ⟨m42, rfl, G42, e42, a42⟩
     have B42 := Lib.hid (B39.out.setR e42 a42)
     clear a42 e42 B39
     try go_wp2_with fail
     refine hK.out _ _ ?s42 (fun hH42 => ?r42)
     case s42 => ((try dsimp only); exact goS B42.out.x B42.out.t)
     clear hK K hH39
     try simp only [Act.put, List.setIfInBounds_toArray, List.set_cons_zero, List.set_cons_succ]
     refine' wpAnyF_take (i := 31) (List.getElem?_toArray.trans rfl) (by kernel_rfl) (by kernel_rfl) (by kernel_rfl) (by kernel_rfl) (fun _ _ _ h => h) (Or.inl ⟨by rfl, ?y43⟩) hH42 ?r43
     case y43 => (intro w hSw; (try dsimp only at hSw); go_simp; try with_reducible rfl)
     try simp only [Act.put, List.setIfInBounds_toArray, List.set_cons_zero, List.set_cons_succ]
     refine wpAnyF_ready (rs := [39]) (by kernel_rfl) (by simp) ?_
     refine' AllReadyF.cons (List.getElem?_toArray.trans rfl) (fun K hK => ?st44) ?more44
     case st44 =>
      go_simp
      refine hK.out _ _ ?s45 (fun hH45 => ?r45)
      case s45 => ((try dsimp only); exact goS (B42.out.x.below ((Below.refl _ _).alloc (Nat.le_refl _) _)) (B42.out.t.below ((Below.refl _ _).alloc (Nat.le_refl _) _)))
      have b45 := B42.out.setC
      obtain ⟨v45, hv45⟩ : ∃ v, v = w42.alloc (.cells #[.int .i64 p.b, .int .i64 p.q, .int .i64 dd.b, .int .i64 dd.q] 51) := ⟨_, rfl⟩
      obtain ⟨N45, hn45⟩ : ∃ x, x = w42.heap.size := ⟨_, rfl⟩
      rw [← hv45] at hH45 b45 ⊢
      rw [← hn45] at b45 ⊢
      have B45 := Lib.hid b45
      clear hv45 hn45 b45 B42
      clear hK K hH42
      try simp only [Act.put, List.setIfInBounds_toArray, List.set_cons_zero, List.set_cons_succ]
      exact sh3 N34 N45 m36 m39 m42 v45 G42 B45.out
     exact AllReadyF.nil
    refine' AllReadyF.cons (List.getElem?_toArray.trans rfl) (fun K hK => ?st46) ?more46
    case st46 =>
     go_simp
     refine hK.out _ _ ?s47 (fun hH47 => ?r47)
     case s47 => ((try dsimp only); exact goS (B39.out.x.below ((Below.refl _ _).alloc (Nat.le_refl _) _)) (B39.out.t.below ((Below.refl _ _).alloc (Nat.le_refl _) _)))
     have b47 := B39.out.setC
     obtain ⟨v47, hv47⟩ : ∃ v, v = w39.alloc (.cells #[.int .i64 p.b, .int .i64 p.q, .int .i64 dd.b, .int .i64 dd.q] 51) := ⟨_, rfl⟩
     obtain ⟨N47, hn47⟩ : ∃ x, x = w39.heap.size := ⟨_, rfl⟩
     rw [← hv47] at hH47 b47 ⊢
     rw [← hn47] at b47 ⊢
     have B47 := Lib.hid b47
     clear hv47 hn47 b47 B39
     clear hK K hH39
     try simp only [Act.put, List.setIfInBounds_toArray, List.set_cons_zero, List.set_cons_succ]
     exact sh2 N34 N47 m36 m39 v47 G39 B47.out
    exact AllReadyF.nil
   refine' AllReadyF.cons (List.getElem?_toArray.trans rfl) (fun K hK => ?st48) ?more48
   case st48 =>
    go_simp
    refine hK.out _ _ ?s49 (fun hH49 => ?r49)
    case s49 => ((try dsimp only); exact goS (B36.out.x.below ((Below.refl _ _).alloc (Nat.le_refl _) _)) (B36.out.t.below ((Below.refl _ _).alloc (Nat.le_refl _) _)))
    have b49 := B36.out.setC
    obtain ⟨v49, hv49⟩ : ∃ v, v = w36.alloc (.cells #[.int .i64 p.b, .int .i64 p.q, .int .i64 dd.b, .int .i64 dd.q] 51) := ⟨_, rfl⟩
    obtain ⟨N49, hn49⟩ : ∃ x, x = w36.heap.size := ⟨_, rfl⟩
    rw [← hv49] at hH49 b49 ⊢
    rw [← hn49] at b49 ⊢
    have B49 := Lib.hid b49
    clear hv49 hn49 b49 B36
    clear hK K hH36
    try simp only [Act.put, List.setIfInBounds_toArray, List.set_cons_zero, List.set_cons_succ]
    exact sh1 N34 N49 m36 v49 G36 B49.out
   exact AllReadyF.nil
  refine' AllReadyF.cons (List.getElem?_toArray.trans rfl) (fun K hK => ?st50) ?more50
  case st50 =>
   go_simp
   refine hK.out _ _ ?s51 (fun hH51 => ?r51)
   case s51 => ((try dsimp only); exact goS (B34.out.x.below ((Below.refl _ _).alloc (Nat.le_refl _) _)) (B34.out.t.below ((Below.refl _ _).alloc (Nat.le_refl _) _)))
   have b51 := B34.out.setC
   obtain ⟨v51, hv51⟩ : ∃ v, v = v34.alloc (.cells #[.int .i64 p.b, .int .i64 p.q, .int .i64 dd.b, .int .i64 dd.q] 51) := ⟨_, rfl⟩
   obtain ⟨N51, hn51⟩ : ∃ x, x = v34.heap.size := ⟨_, rfl⟩
   rw [← hv51] at hH51 b51 ⊢
   rw [← hn51] at b51 ⊢
   have B51 := Lib.hid b51
   clear hv51 hn51 b51 B34
   clear hK K hH34
   try simp only [Act.put, List.setIfInBounds_toArray, List.set_cons_zero, List.set_cons_succ]
   exact sh0 N34 N51 v51 O B51.out
  exact AllReadyF.nil
 refine' AllReadyF.cons (List.getElem?_toArray.trans rfl) (fun K hK => ?st52) ?more52
 case st52 =>
  go_simp
  refine hK.out _ _ ?s53 (fun hH53 => ?r53)
  case s53 => ((try dsimp only); exact goS (B0.out.x.below ((Below.refl _ _).alloc (Nat.le_refl _) _)) (B0.out.t.below ((Below.refl _ _).alloc (Nat.le_refl _) _)))
  have b53 := B0.out.setC
  obtain ⟨v53, hv53⟩ : ∃ v, v = wd.alloc (.cells #[.int .i64 p.b, .int .i64 p.q, .int .i64 dd.b, .int .i64 dd.q] 51) := ⟨_, rfl⟩
  obtain ⟨N53, hn53⟩ : ∃ x, x = wd.heap.size := ⟨_, rfl⟩
  rw [← hv53] at hH53 b53 ⊢
  rw [← hn53] at b53 ⊢
  have B53 := Lib.hid b53
  clear hv53 hn53 b53 B0
  clear hK K hH0
  try simp only [Act.put, List.setIfInBounds_toArray, List.set_cons_zero, List.set_cons_succ]
  refine wpAnyF_ready (rs := [12]) (by kernel_rfl) (by simp) ?_
  refine' AllReadyF.cons (List.getElem?_toArray.trans rfl) (fun K hK => ?st54) ?more54
  case st54 =>
   go_simp
   refine hK.out _ _ ?s55 (fun hH55 => ?r55)
   case s55 => ((try dsimp only); exact goS (B53.out.x.below ((Below.refl _ _).alloc (Nat.le_refl _) _)) (B53.out.t.below ((Below.refl _ _).alloc (Nat.le_refl _) _)))
   have b55 := B53.out.setA
   obtain ⟨v55, hv55⟩ : ∃ v, v = v53.alloc (.cells #[.int .i64 p.b, .int .i64 p.q, .int .i64 dd.b, .int .i64 dd.q] 51) := ⟨_, rfl⟩
   obtain ⟨N55, hn55⟩ : ∃ x, x = v53.heap.size := ⟨_, rfl⟩
   rw [← hv55] at hH55 b55 ⊢
   rw [← hn55] at b55 ⊢
   have B55 := Lib.hid b55
   clear hv55 hn55 b55 B53
   clear hK K hH53
   try simp only [Act.put, List.setIfInBounds_toArray, List.set_cons_zero, List.set_cons_succ]
   exact sh0 N55 N53 v55 O B55.out
  exact AllReadyF.nil
 exact AllReadyF.nil
 case t0 =>
  intro a_0 c_0 W_0 G_0 hB_0
  have B_0 := Lib.hid hB_0
  have hH_0 := goS hB_0.x hB_0.t
  clear hB_0
  refine wpAnyF_ready (rs := [13]) (by kernel_rfl) (by simp) ?_
  refine' AllReadyF.cons (List.getElem?_toArray.trans rfl) (fun K hK => ?st56) ?more56
  case st56 =>
   go_simp
   refine' Calls.mono (c_NewMark2 p dd HP.out.1 HP.out.2 (k + 19) (by omega) (by rw [(B_0.out.a _ rfl).o]; omega) ⟨Nat.le_refl _, by unfold maxLen; decide⟩ (B_0.out.a _ rfl).lt ((B_0.out.a _ rfl).c 0 _ rfl) ((B_0.out.a _ rfl).c 1 _ rfl) ((B_0.out.a _ rfl).c 2 _ rfl) ((B_0.out.a _ rfl).c 3 _ rfl) B_0.out.e.hi) ?c57
   rintro e w57 ⟨m57, rfl, G57, e57, a57⟩
   have B57 := Lib.hid (B_0.out.setM e57 a57)
   clear a57 e57 B_0
   try go_wp2_with fail
   refine hK.out _ _ ?s57 (fun hH57 => ?r57)
   case s57 => ((try dsimp only); exact goS B57.out.x B57.out.t)
   clear hK K hH_0
   try simp only [Act.put, List.setIfInBounds_toArray, List.set_cons_zero, List.set_cons_succ]
   refine' wpAnyF_take (i := 14) (List.getElem?_toArray.trans rfl) (by kernel_rfl) (by kernel_rfl) (by kernel_rfl) (by kernel_rfl) (fun _ _ _ h => h) (Or.inl ⟨by rfl, ?y58⟩) hH57 ?r58
   case y58 => (intro w hSw; (try dsimp only at hSw); go_simp; try with_reducible rfl)
   try simp only [Act.put, List.setIfInBounds_toArray, List.set_cons_zero, List.set_cons_succ]
   exact sh1 a_0 c_0 m57 w57 G57 B57.out
  exact AllReadyF.nil
 case t1 =>
  intro a_1 c_1 m_1 W_1 G_1 hB_1
  have B_1 := Lib.hid hB_1
  have hH_1 := goS hB_1.x hB_1.t
  clear hB_1
  refine wpAnyF_ready (rs := [19]) (by kernel_rfl) (by simp) ?_
  refine' AllReadyF.cons (List.getElem?_toArray.trans rfl) (fun K hK => ?st59) ?more59
  case st59 =>
   go_simp
   refine' Calls.mono (c_NewOut (k := k + 21) HP.out.1 B_1.out.e.hi) ?c60
   rintro e w60 ⟨m60, rfl, G60, e60, a60⟩
   have B60 := Lib.hid (B_1.out.setU e60 a60)
   clear a60 e60 B_1
   try go_wp2_with fail
   refine hK.out _ _ ?s60 (fun hH60 => ?r60)
   case s60 => ((try dsimp only); exact goS B60.out.x B60.out.t)
   clear hK K hH_1
   try simp only [Act.put, List.setIfInBounds_toArray, List.set_cons_zero, List.set_cons_succ]
   refine' wpAnyF_take (i := 20) (List.getElem?_toArray.trans rfl) (by kernel_rfl) (by kernel_rfl) (by kernel_rfl) (by kernel_rfl) (fun _ _ _ h => h) (Or.inl ⟨by rfl, ?y61⟩) hH60 ?r61
   case y61 => (intro w hSw; (try dsimp only at hSw); go_simp; try with_reducible rfl)
   try simp only [Act.put, List.setIfInBounds_toArray, List.set_cons_zero, List.set_cons_succ]
   exact sh2 a_1 c_1 m_1 m60 w60 G60 B60.out
  exact AllReadyF.nil
 case t2 =>
  intro a_2 c_2 m_2 u_2 W_2 G_2 hB_2
  have B_2 := Lib.hid hB_2
  have hH_2 := goS hB_2.x hB_2.t
  clear hB_2
  refine wpAnyF_ready (rs := [30]) (by kernel_rfl) (by simp) ?_
  refine' AllReadyF.cons (List.getElem?_toArray.trans rfl) (fun K hK => ?st62) ?more62
  case st62 =>
   go_simp
   refine' Calls.mono (c_NewPutV (k := k + 22) dd tag ref HP.out.2 B_2.out.e.hi t0 t1 r1) ?c63
   rintro e w63 ⟨m63, rfl, G63, e63, a63⟩
   have B63 := Lib.hid (B_2.out.setR e63 a63)
   clear a63 e63 B_2
   try go_wp2_with fail
   refine hK.out _ _ ?s63 (fun hH63 => ?r63)
   case s63 => ((try dsimp only); exact goS B63.out.x B63.out.t)
   clear hK K hH_2
   try simp only [Act.put, List.setIfInBounds_toArray, List.set_cons_zero, List.set_cons_succ]
   refine' wpAnyF_take (i := 31) (List.getElem?_toArray.trans rfl) (by kernel_rfl) (by kernel_rfl) (by kernel_rfl) (by kernel_rfl) (fun _ _ _ h => h) (Or.inl ⟨by rfl, ?y64⟩) hH63 ?r64
   case y64 => (intro w hSw; (try dsimp only at hSw); go_simp; try with_reducible rfl)
   try simp only [Act.put, List.setIfInBounds_toArray, List.set_cons_zero, List.set_cons_succ]
   exact sh3 a_2 c_2 m_2 u_2 m63 w63 G63 B63.out
  exact AllReadyF.nil
 case t3 =>
  intro a_3 c_3 m_3 u_3 r_3 W_3 G_3 hB_3
  have B_3 := Lib.hid hB_3
  have hH_3 := goS hB_3.x hB_3.t
  clear hB_3
  refine wpAnyF_ready (rs := [40]) (by kernel_rfl) (by simp) ?_
  refine' AllReadyF.cons (List.getElem?_toArray.trans rfl) (fun K hK => ?st65) ?more65
  case st65 =>
   go_simp
   refine' Calls.mono (c_NewMark2 p dd HP.out.1 HP.out.2 (k + 23) (by omega) (by rw [(B_3.out.c _ rfl).o]; omega) ⟨Nat.le_refl _, by unfold maxLen; decide⟩ (B_3.out.c _ rfl).lt ((B_3.out.c _ rfl).c 0 _ rfl) ((B_3.out.c _ rfl).c 1 _ rfl) ((B_3.out.c _ rfl).c 2 _ rfl) ((B_3.out.c _ rfl).c 3 _ rfl) B_3.out.e.hi) ?c66
   rintro e w66 ⟨m66, rfl, G66, e66, a66⟩
   have B66 := Lib.hid (B_3.out.setQ e66 a66)
   clear a66 e66 B_3
   try go_wp2_with fail
   refine hK.out _ _ ?s66 (fun hH66 => ?r66)
   case s66 => ((try dsimp only); exact goS B66.out.x B66.out.t)
   clear hK K hH_3
   try simp only [Act.put, List.setIfInBounds_toArray, List.set_cons_zero, List.set_cons_succ]
   refine' wpAnyF_take (i := 41) (List.getElem?_toArray.trans rfl) (by kernel_rfl) (by kernel_rfl) (by kernel_rfl) (by kernel_rfl) (fun _ _ _ h => h) (Or.inl ⟨by rfl, ?y67⟩) hH66 ?r67
   case y67 => (intro w hSw; (try dsimp only at hSw); go_simp; try with_reducible rfl)
   try simp only [Act.put, List.setIfInBounds_toArray, List.set_cons_zero, List.set_cons_succ]
   refine wpAnyF_ready (rs := [42]) (by kernel_rfl) (by simp) ?_
   refine' AllReadyF.cons (List.getElem?_toArray.trans rfl) (fun K hK => ?st68) ?more68
   case st68 =>
    go_simp
    refine hK.out _ _ ?s69 (fun hH69 => ?r69)
    case s69 => ((try dsimp only); exact goS (B66.out.x.below ((Below.refl _ _).alloc (Nat.le_refl _) _)) (B66.out.t.below ((Below.refl _ _).alloc (Nat.le_refl _) _)))
    clear hK K hH66
    try simp only [Act.put, List.setIfInBounds_toArray, List.set_cons_zero, List.set_cons_succ]
    refine wpAnyF_ready (rs := [43]) (by kernel_rfl) (by simp) ?_
    refine' AllReadyF.cons (List.getElem?_toArray.trans rfl) (fun K hK => ?st70) ?more70
    case st70 =>
     refine step_append_sls w66 (by rfl) _ _ 109 (by rfl) 245 i0 .nilIface 1 16 Tryz.underlying109 HI.out.1 HI.out.2.1 HI.out.2.2.1 HI.out.2.2.2 rfl (by decide) G66 (k + 1) (by omega) B66.out.e.hi (.slice (some ⟨A, o, none⟩) 1 cp) 1 [v0] (by rfl) B66.out.l 4 (by decide) [IMark m_3, IOut u_3, IPut r_3, IMark m66] _ (by rfl) rfl (by simp [IMark, IOut, IPut, Value.oneCell']) (by unfold maxLen; decide) (by decide) ?_
     intro b71 o71 c71 w71 G71 e71 s71
     have B71 := Lib.hid (And.intro (B66.out.app e71) s71)
     clear s71 e71 B66
     refine hK.out _ _ ?s71 (fun hH71 => ?r71)
     case s71 => ((try dsimp only); exact goS B71.out.1.x B71.out.1.t)
     have z4 := B71.out.1.x.c 4 _ rfl
     have zf := B71.out.1.x.f 4
     clear hK K hH69
     try simp only [Act.put, List.setIfInBounds_toArray, List.set_cons_zero, List.set_cons_succ]
     refine wpAnyF_ready (rs := [44]) (by kernel_rfl) (by simp) ?_
     refine' AllReadyF.cons (List.getElem?_toArray.trans rfl) (fun K hK => ?st72) ?more72
     case st72 =>
      go_simp
      refine hK.out _ _ ?s73 (fun hH73 => ?r73)
      case s73 => ((try dsimp only); exact goS B71.out.1.x B71.out.1.t)
      clear hK K hH71
      try simp only [Act.put, List.setIfInBounds_toArray, List.set_cons_zero, List.set_cons_succ]
      refine' wpAnyF_take (i := 45) (List.getElem?_toArray.trans rfl) (by kernel_rfl) (by kernel_rfl) (by kernel_rfl) (by kernel_rfl) (fun _ _ _ h => h) (Or.inl ⟨by rfl, ?y74⟩) hH73 ?r74
      case y74 => (intro w hSw; (try dsimp only at hSw); go_simp; try with_reducible rfl)
      try simp only [Act.put, List.setIfInBounds_toArray, List.set_cons_zero, List.set_cons_succ]
      refine wpAnyF_ready (rs := [46]) (by kernel_rfl) (by simp) ?_
      refine' AllReadyF.last (List.getElem?_toArray.trans rfl) (fun K hK => ?st75) ?more75
      case st75 =>
       go_simp
       refine hK.out _ _ ?_
       clear hK K
       try simp only [Act.put, List.setIfInBounds_toArray, List.set_cons_zero, List.set_cons_succ]
       refine wpAnyF_done (by kernel_rfl) ?_ _
       go_wp2_with fail
       refine bodyPost_ret (v := .tuple #[]) (results_none (by rfl) _ _ _) rfl ?_
       exact ⟨rfl, G71, B71.out.1.fin hk (.slice (some ⟨b71, o71, none⟩) (1 + 4) c71) B71.out.2⟩
      exact AllReadyF.nil
     exact AllReadyF.nil
    exact AllReadyF.nil
   exact AllReadyF.nil
  exact AllReadyF.nil
end
end
section
set_option linter.unusedVariables false
set_option maxHeartbeats 2000000
set_option maxRecDepth 100000
open Go.RowKit Go.Shelf
section
variable {X : Nat} {w : World} {O : Om} {B : Wb} {f : Cf} {s : AW} {k : Nat}
theorem c_RmStepFree {z : Rmm} {q : Int} {l : List Int} (hP : PW w O B f s) (hR : RoomAt w O k X z) (hl : z.ln = 1 ∨ z.ln = 2) (hql : rmLeft z = q :: l) (hb : 1 ≤ z.b ∧ z.b ≤ 12) (hq : 0 ≤ q ∧ q < fnvSize z.b) (hf : 0 ≤ twFree (s.M (plTags z.b q))) (hk : 10 ≤ k) (hhi : ∀ j, O j ≠ 0 → j < w.heap.size) (n0 : 0 ≤ s.n) (n1 : s.n ≤ 4611686018427387904) :
 Calls Tryz.prog 156 #[.pointer (some ⟨X, 0, none⟩), .pointer (some ⟨B.p, 0, none⟩)] w (RP (SX k (k + 14)) w O (.bool true) fun W G => PW W G B f (awLoad (plTags z.b q) s) ∧ RoomAt W G k X (rmIn z ⟨z.b, q, twFree (s.M (plTags z.b q))⟩)) := by
 obtain ⟨bv, wv, hv, h1, h2, -, -⟩ := hR.ex
 have hS := h2 hl
 rw [hql] at hS
 have hdo : rmDo z.ln = LOOKR := by unfold rmDo; rw [if_neg (by omega), if_pos (by omega)]
 rw [hdo] at h1
 have HL := Lib.hid (c_RmLookFree z.b q z.a z.c l bv wv hv z.p z.is hP h1 hS hb hq hf hk hhi n0 n1)
 have x4 := h1.c 4 _ rfl
 have hOv0 : Calls Tryz.prog 155 #[.pointer (some ⟨X, 0, none⟩)] w fun e w' => e = .returned (.bool false) ∧ w = w' := c_RmOver X LOOKR w x4 false (.inr ⟨_, _, _, rfl, rfl⟩)
 have HO0 := Lib.hid hOv0
 have hKL : ∀ args W, (callFunc 87 args).run Tryz.prog W = .ok (.enter 87 args) W := enters_of Tryz.func87 (by kernel_rfl) rfl
 have x4' : w.cell? ⟨X, 4, none⟩ = some (.func (.func 87) #[] #[]) := x4
 obtain ⟨zb, hzb⟩ : ∃ b, b = z.b := ⟨_, rfl⟩
 clear hP hR hl hql hb hq hf hhi h1 h2 hS hdo hOv0 x4
 go_enter Tryz.func156, Tryz.ntmps156
 go_wp2_with fail
 refine HO0.out.mono ?_
 rintro e w' ⟨rfl, rfl⟩
 go_wp2_with fail
 refine HL.out.mono ?_
 rintro e w1 ⟨rfl, G1, e1, P1, bv1, x1⟩
 have y4 := x1.c 4 _ rfl
 have HE := Lib.hid (And.intro e1 (And.intro P1 x1))
 have HO1 := Lib.hid (c_RmOver X .nilFunc w1 y4 true (.inl ⟨rfl, rfl⟩))
 clear e1 P1 x1 y4 x4' hKL HL HO0
 go_wp2_with fail
 refine HO1.out.mono ?_
 rintro e w' ⟨rfl, rfl⟩
 go_wp2_with fail
 go_ret
 exact ⟨rfl, G1, HE.out.1.mono fun t _ ht => SX.mono (by omega) (by omega) ht, HE.out.2.1, bv1, wv, hv, HE.out.2.2, fun h => absurd h (by unfold rmIn; dsimp only; omega), fun h => absurd h (by unfold rmIn; dsimp only; omega), fun h => absurd h (by unfold rmIn; dsimp only; omega)⟩
theorem c_RmGot {z : Rmm} (hR : RoomAt w O k X z) : Calls Tryz.prog 160 #[.pointer (some ⟨X, 0, none⟩)] w fun e w' => e = .returned (.tuple #[.agg #[.int .i64 (if z.is = true then z.p.b else 0), .int .i64 (if z.is = true then z.p.q else 0), .int .i64 (if z.is = true then z.p.s else 0)], .bool z.is]) ∧ Below w.heap.size w w' := by
 obtain ⟨bv, wv, hv, h1, -⟩ := hR.ex
 have x7 := h1.c 7 _ rfl
 have x8 := h1.c 8 _ rfl
 have x9 := h1.c 9 _ rfl
 have x10 := h1.c 10 _ rfl
 have hl := h1.lt
 have hne : ¬ X = w.heap.size := by omega
 have hne2 : ¬ w.heap.size = X := by omega
 obtain ⟨b, hb⟩ : ∃ b, b = z.is := ⟨_, rfl⟩
 obtain ⟨pb, hpb⟩ : ∃ b, b = z.p.b := ⟨_, rfl⟩
 obtain ⟨pq, hpq⟩ : ∃ b, b = z.p.q := ⟨_, rfl⟩
 obtain ⟨ps, hps⟩ : ∃ b, b = z.p.s := ⟨_, rfl⟩
 rw [← hb] at x10
 rw [← hb, ← hpb, ← hpq, ← hps]
 rw [← hpb] at x7
 rw [← hpq] at x8
 rw [← hps] at x9
 clear h1 hR hb hpb hpq hps
 cases b with
 | true =>
   simp only [if_true]
   go_enter Tryz.func160, Tryz.ntmps160
   go_wp2_with fail
   exact bodyPost_ret (v := .tuple #[.agg #[.int .i64 pb, .int .i64 pq, .int .i64 ps], .bool true]) (by simp [results, Tryz.results160, go_sem]) rfl ⟨rfl, by first | exact (Below.refl _ _).alloc (Nat.le_refl _) _ | exact ((((Below.refl _ _).alloc (Nat.le_refl _) _).setCell (p := ⟨w.heap.size, 0, none⟩) (Nat.le_refl _) _).setCell (p := ⟨w.heap.size, 1, none⟩) (Nat.le_refl _) _).setCell (p := ⟨w.heap.size, 2, none⟩) (Nat.le_refl _) _⟩
 | false =>
   simp only [Bool.false_eq_true, if_false]
   go_enter Tryz.func160, Tryz.ntmps160
   go_wp2_with fail
   exact bodyPost_ret (v := .tuple #[.agg #[.int .i64 0, .int .i64 0, .int .i64 0], .bool false]) (by simp [results, Tryz.results160, go_sem]) rfl ⟨rfl, by first | exact (Below.refl _ _).alloc (Nat.le_refl _) _ | exact ((((Below.refl _ _).alloc (Nat.le_refl _) _).setCell (p := ⟨w.heap.size, 0, none⟩) (Nat.le_refl _) _).setCell (p := ⟨w.heap.size, 1, none⟩) (Nat.le_refl _) _).setCell (p := ⟨w.heap.size, 2, none⟩) (Nat.le_refl _) _⟩
theorem c_SeStepYes {now tag ref lost : Int} {p : Spt} {lv : Value} {d R : Nat} {z1 : Rmm} {s1 : AW} (hx : Ob w O k X (mvCs now p lv tag ref lost)) (hS : Sls w O (k + 1) 1 lv 1 [ISearch d]) (hd : Ob w O (k + 3) d [.pointer (some ⟨X, 0, none⟩), .pointer (some ⟨R, 0, none⟩)])
 (HR : Calls Tryz.prog 156 #[.pointer (some ⟨R, 0, none⟩), .pointer (some ⟨B.p, 0, none⟩)] w (RP (SX (k + 4) (k + 18)) w O (.bool true) fun W G => PW W G B f s1 ∧ RoomAt W G (k + 4) R z1)) (hz : z1.ln = 0) (hi : z1.is = true) (hp : p.ok) (hto : z1.p.ok) (t0 : 0 ≤ tag) (t1 : tag ≤ 255) (r1 : ref ≤ 9223372036854775807) (hk : 10 ≤ k) (hhi : ∀ j, O j ≠ 0 → j < w.heap.size) :
 Calls Tryz.prog 158 #[.pointer (some ⟨d, 0, none⟩), .pointer (some ⟨B.p, 0, none⟩)] w fun e w' => e = .returned (.bool true) ∧ ∃ G0 W0 G, Ext (SX (k + 4) (k + 18)) O w G0 W0 ∧ GoesPost W0 G0 k X now tag ref lost p z1.p (ISearch d) w' G ∧ PW w' G B f s1 ∧ RoomAt w' G (k + 4) R z1 ∧ Ob w' G (k + 3) d [.pointer (some ⟨X, 0, none⟩), .pointer (some ⟨R, 0, none⟩)] := by
 have HX := Lib.hid (And.intro hx (And.intro hS hd))
 have HRR := Lib.hid HR
 have HPP := Lib.hid (And.intro hp hto)
 have d0 := hd.c 0 _ rfl
 have d1 := hd.c 1 _ rfl
 have HI := Lib.hid hi
 clear hx hS hd HR hp hto hhi hi
 go_enter Tryz.func158, Tryz.ntmps158
 go_wp2_with fail
 refine HRR.out.mono ?_
 rintro e w1 ⟨rfl, G1, e1, P1, r1'⟩
 have E1 := Lib.hid e1
 have H1 := Lib.hid (And.intro P1 (And.intro r1' (And.intro (HX.out.1.ext e1 (SX.not (by omega) (by omega))) (And.intro (HX.out.2.1.ext e1 (SX.not (by omega) (by omega))) (HX.out.2.2.ext e1 (SX.not (by omega) (by omega)))))))
 have d01 := H1.out.2.2.2.2.c 0 _ rfl
 have d11 := H1.out.2.2.2.2.c 1 _ rfl
 have HG := c_RmGot (w := w1.drew) (H1.out.2.1.below (drew_below w1))
 rw [HI.out] at HG
 simp only [if_true] at HG
 have HG := Lib.hid HG
 have HGO := Lib.hid (fun (W : World) (hb : Below w1.heap.size w1 W) => c_MvGoes (dd := z1.p) (H1.out.2.2.1.below hb) (H1.out.2.2.2.1.below hb) HPP.out.1 HPP.out.2 t0 t1 r1 hk (fun j hj => Nat.lt_of_lt_of_le (E1.out.hi j hj) hb.size))
 clear e1 P1 r1' d0 d1 HX HRR
 go_wp2_with fail
 go_region_held3 (fun w' => w'.cell? ⟨d, 0, none⟩ = some (.pointer (some ⟨X, 0, none⟩)) ∧ w'.cell? ⟨d, 1, none⟩ = some (.pointer (some ⟨R, 0, none⟩))) (go_keep)
  ((first
    | (go_at_call 160
       refine HG.out.mono ?_
       rintro e w2 ⟨rfl, hb2⟩
       have HB2 := Lib.hid ((drew_below w1).trans hb2)
       have D2 := Lib.hid (H1.out.2.2.2.2.below HB2.out)
       have d02 := D2.out.c 0 _ rfl
       have d12 := D2.out.c 1 _ rfl
       clear hb2)
    | (go_at_call 159
       refine (HGO.out _ HB2.out).mono ?_
       rintro e w3 ⟨rfl, G3, g3⟩
       have HG3 := Lib.hid g3
       have e3 := g3.1
       have F3 := Lib.hid (And.intro ((H1.out.1.below E1.out.hi HB2.out).ext e3 (by omega) (by omega) (by omega) (by omega)) (And.intro ((H1.out.2.1.below HB2.out).ext e3 (fun t q1 q2 => by omega)) (D2.out.ext e3 (by omega))))
       have d03 := F3.out.2.2.c 0 _ rfl
       have d13 := F3.out.2.2.c 1 _ rfl
       clear e3 g3)))
 all_goals
  clear d01 d11 d02 d12 d03 d13
  go_wp2_with fail
  go_ret
  exact ⟨rfl, G1, _, G3, E1.out.below HB2.out, HG3.out, F3.out⟩
theorem c_MvStepG {A o n c pb : Nat} {ty : TypeId} {r r' : Value} {fS : FuncId} {ov : Bool} {Q1 Q2 : World → Prop} (x4 : w.cell? ⟨X, 4, none⟩ = some (.slice (some ⟨A, o, none⟩) (n + 1) c)) (a0 : w.cell? ⟨A, o, none⟩ = some (.iface ty r))
 (hm : ∀ W, (method 371 ty r "Step").run Tryz.prog W = .ok (fS, r') W) (hK : ∀ args W, (callFunc fS args).run Tryz.prog W = .ok (.enter fS args) W)
 (HC : Calls Tryz.prog fS #[r', .pointer (some ⟨pb, 0, none⟩)] w fun e w' => ∃ v, e = .returned v ∧ Q1 w') (HO : ∀ w1, Q1 w1 → Calls Tryz.prog 138 #[.pointer (some ⟨X, 0, none⟩)] w1 fun e w' => e = .returned (.tuple #[]) ∧ Q2 w')
 (HV : ∀ w2, Q2 w2 → ∃ ao m c, w2.cell? ⟨X, 4, none⟩ = some (.slice ao m c) ∧ (m == 0) = ov) :
 Calls Tryz.prog 137 #[.pointer (some ⟨X, 0, none⟩), .pointer (some ⟨pb, 0, none⟩)] w fun e w' => e = .returned (.bool ov) ∧ Q2 w' := by
 have HCC := Lib.hid HC
 have HOO := Lib.hid HO
 have HVV := Lib.hid HV
 have hn : (0 : Int) < (n : Int) + 1 := by omega
 have HV0 := Lib.hid (c_MvOver0 x4)
 have e0 : (n + 1 == 0) = false := by simp
 clear HC HO HV
 go_enter Tryz.func137, Tryz.ntmps137
 go_wp2_with fail
 refine HV0.out.mono ?_
 rintro e w' ⟨rfl, rfl⟩
 rw [e0]
 go_wp2_with fail
 refine HCC.out.mono ?_
 rintro e w1 ⟨v, rfl, q1⟩
 have HQ1 := Lib.hid q1
 clear q1 x4 a0 hm hK
 go_wp2_with fail
 refine (HOO.out _ HQ1.out).mono ?_
 rintro e w2 ⟨rfl, q2⟩
 obtain ⟨ao, m, c2, y4, hov⟩ := HVV.out _ q2
 have HQ2 := Lib.hid q2
 have HOV := Lib.hid (c_MvOver0 y4)
 rw [hov] at HOV
 clear q2 y4 hov
 go_wp2_with fail
 refine HOV.out.mono ?_
 rintro e w' ⟨rfl, rfl⟩
 go_wp2_with fail
 go_ret
 exact ⟨rfl, HQ2.out⟩
end
end
section
set_option linter.unusedVariables false
set_option maxHeartbeats 1000000
open Go.RowKit Go.Shelf
def MvPost (w : World) (O : Om) (B : Wb) (f : Cf) (k X : Nat) (y : AW × Mvm) (W : World) : Prop := ∃ G, Ext (SX k (k + 24)) O w G W ∧ PW W G B f y.1 ∧ MvAt W G k X y.2
theorem mvStep_1 (mo : Int) (s : AW) (z : Mvm) (h : z.ln = 1) : mvStep mo (s, z) = (awLoad z.p.tags s, if twTag (s.M z.p.tags) z.p.s = 0 then mvNext ⟨1, z.lost, z.now, z.p, 0, z.ref, z.rm, z.d, z.m, z.o, z.u⟩ else ⟨2, z.lost, z.now, z.p, twTag (s.M z.p.tags) z.p.s, z.ref, z.rm, z.d, z.m, z.o, z.u⟩) := by
 unfold mvStep; dsimp only; rw [if_pos h]
theorem mvStep_2 (mo : Int) (s : AW) (z : Mvm) (h : z.ln = 2) : mvStep mo (s, z) = (awLoad z.p.item s, ⟨3, z.lost, z.now, z.p, z.tag, wrap64 (s.M z.p.item), rmNew z.now (fnvHash (itKey s.it (wrap64 (s.M z.p.item)))), z.d, z.m, z.o, z.u⟩) := by
 unfold mvStep; dsimp only; rw [if_neg (by omega), if_pos h]
section
variable {X : Nat} {w : World} {O : Om} {B : Wb} {f : Cf} {s : AW} {k : Nat}
theorem MvPost.step {y : AW × Mvm} {e : Ending} {w' : World} (h : e = .returned (.bool (mvOver y.2)) ∧ MvPost w O B f k X y w') : RP (SX k (k + 24)) w O (.bool (mvOver y.2)) (fun W G => PW W G B f y.1 ∧ MvAt W G k X y.2) e w' := by
 obtain ⟨rfl, G, h1, h2⟩ := h
 exact ⟨rfl, G, h1, h2⟩
theorem MvPost.left {y : AW × Mvm} {W : World} (h : MvPost w O B f k X y W) (h0 : 0 ≤ y.2.ln) (h1 : y.2.ln ≤ 11) : ∃ ao m c, W.cell? ⟨X, 4, none⟩ = some (.slice ao m c) ∧ (m == 0) = mvOver y.2 := by
 obtain ⟨G, -, -, hM⟩ := h
 obtain ⟨p, lv, q1, q2, q3⟩ := hM.ex
 obtain ⟨ao, n, c, rfl, hn⟩ := q3.shape h0 h1
 exact ⟨ao, n, c, q1.c 4 _ rfl, hn⟩
theorem mvNext_ln (z : Mvm) : (mvNext z).ln = 0 ∨ (mvNext z).ln = 1 := by
 unfold mvNext; dsimp only; split
 · exact .inl rfl
 · exact .inr rfl
theorem c_onNext {w1 : World} {G1 : Om} {z : Mvm} {lv : Value} {v0 : Value} {s1 : AW} (e1 : Ext (SX k (k + 24)) O w G1 w1) (hP : PW w1 G1 B f s1) (hx : Ob w1 G1 k X (mvCs z.now z.p lv z.tag z.ref z.lost)) (hS : Sls w1 G1 (k + 1) 1 lv 1 [v0]) (h0 : POver w1 G1 k v0 true) (hp : z.p.ok) (hk : 10 ≤ k) :
 Calls Tryz.prog 138 #[.pointer (some ⟨X, 0, none⟩)] w1 fun e w' => e = .returned (.tuple #[]) ∧ MvPost w O B f k X (s1, mvNext z) w' := by
 have hs0 := hp.s0
 have hs1 := hp.s1
 by_cases hs : z.p.s < 3
 · refine (c_onE hx hS h0 hs hs0 hs1 hk e1.hi).mono ?_
   rintro e w2 ⟨rfl, G2, e2, lv2, d2, x2, l2, a2⟩
   refine ⟨rfl, G2, e1.trans (e2.mono fun t _ h => .inr (by omega)), hP.ext e2 (by omega) (by omega) (by omega) (by omega), ⟨z.p.b, z.p.q, z.p.s + 1⟩, lv2, x2, fun _ => rfl, ?_⟩
   have hl : (mvNext z).ln = 1 := by unfold mvNext; dsimp only; rw [if_neg (by omega)]
   exact ⟨fun g => by (dsimp only at g; omega), fun _ => ⟨d2, l2, a2⟩, fun g => by (dsimp only at g; omega), fun g => by (dsimp only at g; omega), fun g => by (dsimp only at g; omega), fun g => by (dsimp only at g; omega)⟩
 · refine (c_onZ hx hS h0 (by omega) hs0 hs1 hk e1.hi).mono ?_
   rintro e w2 ⟨rfl, G2, e2, lv2, x2, l2⟩
   have hl : (mvNext z).ln = 0 := by unfold mvNext; dsimp only; rw [if_pos (by omega)]
   exact ⟨rfl, G2, e1.trans (e2.mono fun t _ h => .inr (by omega)), hP.ext e2 (by omega) (by omega) (by omega) (by omega), z.p, lv2, x2, fun g => absurd hl g, ⟨fun _ => l2, fun g => by (dsimp only at g; omega), fun g => by (dsimp only at g; omega), fun g => by (dsimp only at g; omega), fun g => by (dsimp only at g; omega), fun g => by (dsimp only at g; omega)⟩⟩
theorem c_Mv1 {z : Mvm} (mo : Int) (hP : PW w O B f s) (hM : MvAt w O k X z) (hl : z.ln = 1) (hp : z.p.ok) (hk : 10 ≤ k) (hhi : ∀ j, O j ≠ 0 → j < w.heap.size) (n0 : 0 ≤ s.n) (n1 : s.n ≤ 4611686018427387904) :
 Calls Tryz.prog 137 #[.pointer (some ⟨X, 0, none⟩), .pointer (some ⟨B.p, 0, none⟩)] w (RP (SX k (k + 24)) w O (.bool (mvOver (mvStep mo (s, z)).2)) fun W G => PW W G B f (mvStep mo (s, z)).1 ∧ MvAt W G k X (mvStep mo (s, z)).2) := by
 rw [mvStep_1 mo s z hl]
 obtain ⟨p, lv, hx, hpp, hparts⟩ := hM.ex
 obtain rfl := hpp (by omega)
 obtain ⟨d, hS, hd⟩ := hparts.2.1 hl
 obtain ⟨A, o, c, rfl, hc1, hc2⟩ := hS.open (by decide)
 have a0 := hS.c 0 _ rfl
 rw [Nat.add_zero] at a0
 have e0 := ext_set (j := 1) (v := .bool true) hhi hd (show 10 ≤ k + 2 by omega)
 have hd1 := hd.set 1 (.bool true) (by simp)
 have HT := c_MvTags (hP.ext e0 (by omega) (by omega) (by omega) (by omega)) (hx.ext e0 (by omega)) (hS.ext e0 (by omega)) hd1 hp hk e0.hi n0 n1
 have HA := c_ActStep hd (run_enter Tryz.func49 (by kernel_rfl) (by kernel_rfl)) HT
 have HA2 := HA.mono (fun e w' h => (⟨.bool true, h.1, h.2⟩ : ∃ v, e = .returned v ∧ _))
 by_cases ht : twTag (s.M z.p.tags) z.p.s = 0
 · rw [if_pos ht]
   refine (c_MvStepG (n := 0) (Q2 := MvPost w O B f k X (awLoad z.p.tags s, mvNext ⟨1, z.lost, z.now, z.p, 0, z.ref, z.rm, z.d, z.m, z.o, z.u⟩)) (hx.c 4 _ rfl) a0 (m_ActStep _) (run_enter Tryz.func154 (by kernel_rfl) (by kernel_rfl)) HA2 ?_ (fun w2 h2 => h2.left (by rcases mvNext_ln ⟨1, z.lost, z.now, z.p, 0, z.ref, z.rm, z.d, z.m, z.o, z.u⟩ with h | h <;> (dsimp only; omega)) (by rcases mvNext_ln ⟨1, z.lost, z.now, z.p, 0, z.ref, z.rm, z.d, z.m, z.o, z.u⟩ with h | h <;> (dsimp only; omega)))).mono fun e w' h => MvPost.step h
   rintro w1 ⟨G1, e1, P1, q1, lv1, x1, l0, -⟩
   rw [ht] at x1
   exact c_onNext (z := ⟨1, z.lost, z.now, z.p, 0, z.ref, z.rm, z.d, z.m, z.o, z.u⟩) ((e0.mono (T := SX k (k + 24)) fun t _ h => .inr (by omega)).trans (e1.mono fun t _ h => SX.mono (by omega) (by omega) h)) P1 x1 (l0 ht) (POver.act q1 (by omega)) hp hk
 · rw [if_neg ht]
   refine (c_MvStepG (n := 0) (Q2 := MvPost w O B f k X (awLoad z.p.tags s, ⟨2, z.lost, z.now, z.p, twTag (s.M z.p.tags) z.p.s, z.ref, z.rm, z.d, z.m, z.o, z.u⟩)) (hx.c 4 _ rfl) a0 (m_ActStep _) (run_enter Tryz.func154 (by kernel_rfl) (by kernel_rfl)) HA2 ?_ (fun w2 h2 => h2.left (by dsimp only; omega) (by dsimp only; omega))).mono fun e w' h => MvPost.step h
   rintro w1 ⟨G1, e1, P1, q1, lv1, x1, -, l1⟩
   obtain ⟨d', l2, a2⟩ := l1 ht
   refine (c_on1 (l := []) x1 l2 (POver.act q1 (by omega)) (POver.act a2 (by omega)) hk e1.hi).mono ?_
   rintro e w2 ⟨rfl, G2, e2, rfl, lv2, x2, s2⟩
   exact ⟨rfl, G2, (e0.mono (T := SX k (k + 24)) fun t _ h => .inr (by omega)).trans ((e1.mono fun t _ h => SX.mono (by omega) (by omega) h).trans (e2.mono fun t _ h => .inr (by omega))), P1.ext e2 (by omega) (by omega) (by omega) (by omega), z.p, lv2, x2, fun _ => rfl, ⟨fun g => absurd g (by dsimp only; omega), fun g => absurd g (by dsimp only; omega), fun _ => ⟨d', s2, a2.ext e2 (by omega)⟩, fun g => absurd g (by dsimp only; omega), fun g => absurd g (by dsimp only; omega), fun g => absurd g (by dsimp only; omega)⟩⟩
theorem c_Mv2 {z : Mvm} (mo : Int) (hP : PW w O B f s) (hM : MvAt w O k X z) (hl : z.ln = 2) (hp : z.p.ok) (hnow : 0 ≤ z.now ∧ z.now ≤ 12) (hnw : 1 ≤ z.now) (hil : s.it.length ≤ 1000000) (hks : (itOf s.it (wrap64 (s.M z.p.item))).key.size ≤ maxLen) (hk : 10 ≤ k) (hhi : ∀ j, O j ≠ 0 → j < w.heap.size) (n0 : 0 ≤ s.n) (n1 : s.n ≤ 4611686018427387904) :
 Calls Tryz.prog 137 #[.pointer (some ⟨X, 0, none⟩), .pointer (some ⟨B.p, 0, none⟩)] w (RP (SX k (k + 24)) w O (.bool (mvOver (mvStep mo (s, z)).2)) fun W G => PW W G B f (mvStep mo (s, z)).1 ∧ MvAt W G k X (mvStep mo (s, z)).2) := by
 rw [mvStep_2 mo s z hl, itKey_of]
 obtain ⟨p, lv, hx, hpp, hparts⟩ := hM.ex
 obtain rfl := hpp (by omega)
 obtain ⟨d, hS, hd⟩ := hparts.2.2.1 hl
 obtain ⟨A, o, c, rfl, hc1, hc2⟩ := hS.open (by decide)
 have a0 := hS.c 0 _ rfl
 rw [Nat.add_zero] at a0
 have e0 := ext_set (j := 1) (v := .bool true) hhi hd (show 10 ≤ k + 2 by omega)
 have hd1 := hd.set 1 (.bool true) (by simp)
 have HT := c_MvItem (hP.ext e0 (by omega) (by omega) (by omega) (by omega)) (hx.ext e0 (by omega)) (hS.ext e0 (by omega)) hd1 hp hnow hil hks hk e0.hi n0 n1
 have HA := c_ActStep hd (run_enter Tryz.func71 (by kernel_rfl) (by kernel_rfl)) HT
 have HA2 := HA.mono (fun e w' h => (⟨.bool true, h.1, h.2⟩ : ∃ v, e = .returned v ∧ _))
 refine (c_MvStepG (n := 0) (Q2 := MvPost w O B f k X (awLoad z.p.item s, ⟨3, z.lost, z.now, z.p, z.tag, wrap64 (s.M z.p.item), rmNew z.now (fnvHash (itOf s.it (wrap64 (s.M z.p.item))).key.data.toList), z.d, z.m, z.o, z.u⟩)) (hx.c 4 _ rfl) a0 (m_ActStep _) (run_enter Tryz.func154 (by kernel_rfl) (by kernel_rfl)) HA2 ?_ (fun w2 h2 => h2.left (by dsimp only; omega) (by dsimp only; omega))).mono fun e w' h => MvPost.step h
 rintro w1 ⟨G1, e1, P1, q1, lv1, x1, e, R, l1, a1, r1⟩
 have hz : (rmNew z.now (fnvHash (itOf s.it (wrap64 (s.M z.p.item))).key.data.toList)).ln = 1 := by unfold rmNew; rw [if_pos ⟨hnw, hnow.2⟩]
 have ho := POver.search (k := k) a1 r1 (by omega) (by omega)
 rw [hz] at ho
 refine (c_on1 (l := []) x1 l1 (POver.act q1 (by omega)) ho hk e1.hi).mono ?_
 rintro e' w2 ⟨rfl, G2, e2, rfl, lv2, x2, s2⟩
 exact ⟨rfl, G2, (e0.mono (T := SX k (k + 24)) fun t _ h => .inr (by omega)).trans ((e1.mono fun t _ h => SX.mono (by omega) (by omega) h).trans (e2.mono fun t _ h => .inr (by omega))), P1.ext e2 (by omega) (by omega) (by omega) (by omega), z.p, lv2, x2, fun _ => rfl, ⟨fun g => absurd g (by dsimp only; omega), fun g => absurd g (by dsimp only; omega), fun g => absurd g (by dsimp only; omega), fun _ => ⟨e, R, s2, a1.ext e2 (by omega), r1.ext e2 (fun t q1 q2 => by omega)⟩, fun g => absurd g (by dsimp only; omega), fun g => absurd g (by dsimp only; omega)⟩⟩
end
end
section
set_option linter.unusedVariables false
set_option maxHeartbeats 1000000
open Go.RowKit Go.Shelf
section
variable {X : Nat} {w : World} {O : Om} {B : Wb} {f : Cf} {s : AW} {k : Nat}
theorem mk47 {z : Mvm} {s1 : AW} {W : World} {G : Om} {lv : Value} {m1 u q m2 : Nat} (h4 : 4 ≤ z.ln) (h7 : z.ln ≤ 7) (e : Ext (SX k (k + 24)) O w G W) (hP : PW W G B f s1) (x : Ob W G k X (mvCs z.now z.p lv z.tag z.ref z.lost)) (l : Sls W G (k + 1) 1 lv (8 - z.ln).toNat ([IMark m1, IOut u, IPut q, IMark m2].drop (z.ln - 4).toNat))
 (a1 : z.ln = 4 → MkAt W G (k + 19) m1 z.m) (a2 : z.ln ≤ 5 → OutAt W G (k + 21) u z.p z.o) (a3 : z.ln ≤ 6 → PvAt W G (k + 22) q z.d z.tag z.ref z.u) (a4 : MkAt W G (k + 23) m2 (if z.ln = 7 then z.m else mk2 z.p z.d)) : MvPost w O B f k X (s1, z) W :=
 ⟨G, e, hP, z.p, lv, x, fun _ => rfl, ⟨fun g => by (dsimp only at g; omega), fun g => by (dsimp only at g; omega), fun g => by (dsimp only at g; omega), fun g => by (dsimp only at g; omega), fun _ => ⟨m1, u, q, m2, l, a1, a2, a3, a4⟩, fun g => by (dsimp only at g; omega)⟩⟩
theorem mk2_cons (p q : Spt) : ∃ a l, mk2 p q = a :: l ∧ l.length ≤ 1 := by
 unfold mk2; split
 · exact ⟨_, _, rfl, by simp⟩
 · exact ⟨_, _, rfl, by simp⟩
theorem mk2_ne (p q : Spt) : ((mk2 p q).length == 0) = false := by
 obtain ⟨a, l, h, -⟩ := mk2_cons p q
 rw [h]; rfl
theorem mk2_bd {p q : Spt} (hp : p.ok) (hq : q.ok) : ∀ a ∈ mk2 p q, 0 ≤ a ∧ a < 18446744073709551616 := by
 have h1 := hp.ver
 have h2 := hq.ver
 intro a ha
 unfold mk2 at ha
 split at ha
 · rw [List.mem_singleton.1 ha]; omega
 · rcases List.mem_cons.1 ha with h | h
   · rw [h]; omega
   · rw [List.mem_singleton.1 h]; omega
theorem mvStep_3y (mo : Int) (s s1 : AW) (z : Mvm) (rm1 : Rmm) (h : z.ln = 3) (hs : rmStep mo (s, z.rm) = (s1, rm1)) (h0 : rm1.ln = 0) (hi : rm1.is = true) : mvStep mo (s, z) = (s1, ⟨4, z.lost, z.now, z.p, z.tag, z.ref, rm1, rm1.p, mk2 z.p rm1.p, ⟨0, 0⟩, ptNew z.tag z.ref⟩) := by
 unfold mvStep; dsimp only; rw [if_neg (by omega), if_neg (by omega), if_pos h, hs]; dsimp only; rw [if_pos h0, if_pos hi]
theorem mvStep_4 (mo : Int) (s : AW) (z : Mvm) (h : z.ln = 4) : mvStep mo (s, z) = (awAdd (z.m.headD 0) 1 s, ⟨if z.m.tail = [] then 5 else 4, z.lost, z.now, z.p, z.tag, z.ref, z.rm, z.d, z.m.tail, z.o, z.u⟩) := by
 unfold mvStep; dsimp only; rw [if_neg (by omega), if_neg (by omega), if_neg (by omega), if_pos h]
theorem mvStep_5 (mo : Int) (s : AW) (z : Mvm) (h : z.ln = 5) : mvStep mo (s, z) = ((outStep z.p s z.o).1, if otOver (outStep z.p s z.o).2 = true then if otOver z.u = true then mv7 ⟨5, z.lost, z.now, z.p, z.tag, z.ref, z.rm, z.d, z.m, (outStep z.p s z.o).2, z.u⟩ else ⟨6, z.lost, z.now, z.p, z.tag, z.ref, z.rm, z.d, z.m, (outStep z.p s z.o).2, z.u⟩ else ⟨5, z.lost, z.now, z.p, z.tag, z.ref, z.rm, z.d, z.m, (outStep z.p s z.o).2, z.u⟩) := by
 unfold mvStep; dsimp only; rw [if_neg (by omega), if_neg (by omega), if_neg (by omega), if_neg (by omega), if_pos h]
theorem mvStep_6 (mo : Int) (s : AW) (z : Mvm) (h : z.ln = 6) : mvStep mo (s, z) = ((putStep z.d z.tag z.ref s z.u).1, if otOver (putStep z.d z.tag z.ref s z.u).2 = true then mv7 ⟨6, z.lost, z.now, z.p, z.tag, z.ref, z.rm, z.d, z.m, z.o, (putStep z.d z.tag z.ref s z.u).2⟩ else ⟨6, z.lost, z.now, z.p, z.tag, z.ref, z.rm, z.d, z.m, z.o, (putStep z.d z.tag z.ref s z.u).2⟩) := by
 unfold mvStep; dsimp only; rw [if_neg (by omega), if_neg (by omega), if_neg (by omega), if_neg (by omega), if_neg (by omega), if_pos h]
theorem mvStep_7 (mo : Int) (s : AW) (z : Mvm) (h : z.ln = 7) : mvStep mo (s, z) = (awAdd (z.m.headD 0) 1 s, if z.m.tail = [] then mvNext z else ⟨7, z.lost, z.now, z.p, z.tag, z.ref, z.rm, z.d, z.m.tail, z.o, z.u⟩) := by
 unfold mvStep; dsimp only; rw [if_neg (by omega), if_neg (by omega), if_neg (by omega), if_neg (by omega), if_neg (by omega), if_neg (by omega), if_pos h]
theorem c_Mv3y {z : Mvm} {s1 : AW} {rm1 : Rmm} (mo : Int) (hM : MvAt w O k X z) (hl : z.ln = 3) (hs : rmStep mo (s, z.rm) = (s1, rm1)) (h0 : rm1.ln = 0) (hi : rm1.is = true)
 (HR : ∀ R, RoomAt w O (k + 4) R z.rm → Calls Tryz.prog 156 #[.pointer (some ⟨R, 0, none⟩), .pointer (some ⟨B.p, 0, none⟩)] w (RP (SX (k + 4) (k + 18)) w O (.bool true) fun W G => PW W G B f s1 ∧ RoomAt W G (k + 4) R rm1))
 (hp : z.p.ok) (hto : rm1.p.ok) (t0 : 0 ≤ z.tag) (t1 : z.tag ≤ 255) (r1 : z.ref ≤ 9223372036854775807) (hk : 10 ≤ k) (hhi : ∀ j, O j ≠ 0 → j < w.heap.size) :
 Calls Tryz.prog 137 #[.pointer (some ⟨X, 0, none⟩), .pointer (some ⟨B.p, 0, none⟩)] w (RP (SX k (k + 24)) w O (.bool (mvOver (mvStep mo (s, z)).2)) fun W G => PW W G B f (mvStep mo (s, z)).1 ∧ MvAt W G k X (mvStep mo (s, z)).2) := by
 rw [mvStep_3y mo s s1 z rm1 hl hs h0 hi]
 obtain ⟨p, lv, hx, hpp, hparts⟩ := hM.ex
 obtain rfl := hpp (by omega)
 obtain ⟨d, R, hS, hd, hr⟩ := hparts.2.2.2.1 hl
 obtain ⟨A, o, c, rfl, hc1, hc2⟩ := hS.open (by decide)
 have a0 := hS.c 0 _ rfl
 rw [Nat.add_zero] at a0
 have HA := c_SeStepYes hx hS hd (HR R hr) h0 hi hp hto t0 t1 r1 hk hhi
 have HA2 := HA.mono (fun e w' h => (⟨.bool true, h.1, h.2⟩ : ∃ v, e = .returned v ∧ _))
 refine (c_MvStepG (n := 0) (Q2 := MvPost w O B f k X (s1, ⟨4, z.lost, z.now, z.p, z.tag, z.ref, rm1, rm1.p, mk2 z.p rm1.p, ⟨0, 0⟩, ptNew z.tag z.ref⟩)) (hx.c 4 _ rfl) a0 (m_SeStep _) (run_enter Tryz.func158 (by kernel_rfl) (by kernel_rfl)) HA2 ?_ (fun w2 h2 => h2.left (by dsimp only; omega) (by dsimp only; omega))).mono fun e w' h => MvPost.step h
 rintro w1 ⟨G0, W0, G1, e0, ⟨e1, lv1, m1, u, q, m2, x1, l1, b1, b2, b3, b4⟩, P1, r1', d1⟩
 have ho := POver.search (k := k) d1 r1' (by omega) (by omega)
 have h0b : (rm1.ln == 0) = true := by simp [h0]
 rw [h0b] at ho
 have hm := POver.mark (k := k) b1 ⟨by omega, by omega⟩
 rw [mk2_ne] at hm
 have E1 : Ext (SX k (k + 24)) O w G1 w1 := (e0.mono fun t _ h => SX.mono (by omega) (by omega) h).trans (e1.mono fun t _ h => .inr (by omega))
 refine (c_on1 (l := [IOut u, IPut q, IMark m2]) x1 l1 ho hm hk E1.hi).mono ?_
 rintro e w2 ⟨rfl, G2, e2, rfl, lv2, x2, s2⟩
 exact ⟨rfl, mk47 (by dsimp only; omega) (by dsimp only; omega) (E1.trans (e2.mono fun t _ h => .inr (by omega))) (P1.ext e2 (by omega) (by omega) (by omega) (by omega)) x2 s2 (fun _ => b1.ext e2 (by omega) (by omega)) (fun _ => b2.ext e2 (by omega)) (fun _ => b3.ext e2 (by omega)) (by dsimp only; rw [if_neg (by omega)]; exact b4.ext e2 (by omega) (by omega))⟩
theorem c_Mv4 {z : Mvm} (mo : Int) (hP : PW w O B f s) (hM : MvAt w O k X z) (hl : z.ln = 4) (hp : z.p.ok) (hm0 : z.m ≠ []) (hml : z.m.length ≤ 5) (hmb : ∀ a ∈ z.m, 0 ≤ a ∧ a < 18446744073709551616) (ho : z.o.ln < 3) (hk : 10 ≤ k) (hhi : ∀ j, O j ≠ 0 → j < w.heap.size) (n0 : 0 ≤ s.n) (n1 : s.n ≤ 4611686018427387904) :
 Calls Tryz.prog 137 #[.pointer (some ⟨X, 0, none⟩), .pointer (some ⟨B.p, 0, none⟩)] w (RP (SX k (k + 24)) w O (.bool (mvOver (mvStep mo (s, z)).2)) fun W G => PW W G B f (mvStep mo (s, z)).1 ∧ MvAt W G k X (mvStep mo (s, z)).2) := by
 rw [mvStep_4 mo s z hl]
 obtain ⟨p, lv, hx, hpp, hparts⟩ := hM.ex
 obtain rfl := hpp (by omega)
 obtain ⟨ln, lost, now, p, tag, ref, rm, dd, m, o, u⟩ := z
 dsimp only at *
 subst hl
 obtain ⟨m1, u', q, m2, hS, b1, b2, b3, b4⟩ := hparts.2.2.2.2.1 ⟨by (dsimp only; omega), by (dsimp only; omega)⟩
 dsimp only at hS b1 b2 b3 b4
 rw [if_neg (by decide)] at b4
 have b1 := b1 rfl
 have b2 := b2 (by decide)
 have b3 := b3 (by decide)
 obtain ⟨a, l, rfl⟩ : ∃ a l, m = a :: l := by cases m with
  | nil => exact absurd rfl hm0
  | cons a l => exact ⟨a, l, rfl⟩
 have hab := hmb a (by simp)
 obtain ⟨A, off, c, rfl, hc1, hc2⟩ := hS.open (by decide)
 have a0 := hS.c 0 _ rfl
 rw [Nat.add_zero] at a0
 have HA := c_MkStep a l (k + 19) hP b1 (by simp at hml; omega) (by omega) hhi hab.1 hab.2 n0 n1
 have HA2 := HA.mono (fun e w' h => (⟨_, h.1, h.2⟩ : ∃ v, e = .returned v ∧ _))
 have hf3 : (o.ln == 3) = false := by simp; omega
 simp only [List.headD_cons, List.tail_cons]
 refine (c_MvStepG (n := 3) (Q2 := MvPost w O B f k X (awAdd a 1 s, ⟨if l = [] then 5 else 4, lost, now, p, tag, ref, rm, dd, l, o, u⟩)) (hx.c 4 _ rfl) a0 (m_MkStep _) (run_enter Tryz.func168 (by kernel_rfl) (by kernel_rfl)) HA2 ?_ (fun w2 h2 => h2.left (by dsimp only; split <;> omega) (by dsimp only; split <;> omega))).mono fun e w' h => MvPost.step h
 rintro w1 ⟨G1, e1, P1, k1⟩
 have E1 : Ext (SX k (k + 24)) O w G1 w1 := e1.mono fun t _ h => SX.mono (by omega) (by omega) h
 have x1 := hx.ext e1 (SX.not (by omega) (by omega))
 have s1 := hS.ext e1 (SX.not (by omega) (by omega))
 have c2 := b2.ext e1 (SX.not (by omega) (by omega))
 have c3 := b3.ext e1 (SX.not (by omega) (by omega))
 have c4 := b4.ext e1 (SX.not (by omega) (by omega)) (SX.not (by omega) (by omega))
 have hm := POver.mark (k := k) k1 ⟨by omega, by omega⟩
 by_cases hl0 : l = []
 · subst hl0
   rw [if_pos rfl]
   have hou := POver.out (k := k) c2 hp (by omega) (by omega)
   rw [hf3] at hou
   refine (c_on1 (l := [IPut q, IMark m2]) x1 s1 hm hou hk E1.hi).mono ?_
   rintro e w2 ⟨rfl, G2, e2, rfl, lv2, x2, s2⟩
   exact ⟨rfl, mk47 (by dsimp only; omega) (by dsimp only; omega) (E1.trans (e2.mono fun t _ h => .inr (by omega))) (P1.ext e2 (by omega) (by omega) (by omega) (by omega)) x2 s2 (m1 := m1) (u := u') (fun h => absurd h (by dsimp only; omega)) (fun _ => c2.ext e2 (by omega)) (fun _ => c3.ext e2 (by omega)) (by dsimp only; rw [if_neg (by omega)]; exact c4.ext e2 (by omega) (by omega))⟩
 · rw [if_neg hl0]
   have hle : (l.length == 0) = false := by
    cases l with
    | nil => exact absurd rfl hl0
    | cons a l => rfl
   rw [hle] at hm
   refine (c_on0 (l := [IOut u', IPut q, IMark m2]) x1 s1 hm hk E1.hi).mono ?_
   rintro e w2 ⟨rfl, hb⟩
   exact ⟨rfl, mk47 (by dsimp only; omega) (by dsimp only; omega) (E1.below hb) (P1.below E1.hi hb) (x1.below hb) (s1.below hb) (fun _ => k1.below hb) (fun _ => c2.below hb) (fun _ => c3.below hb) (by dsimp only; rw [if_neg (by omega)]; exact c4.below hb)⟩
end
end
section
set_option linter.unusedVariables false
set_option maxHeartbeats 2000000
open Go.RowKit Go.Shelf
theorem m_PuStep' (a : Addr) (w : World) : (method 371 85 (.pointer (some a)) "Step").run Tryz.prog w = .ok (145, .pointer (some a)) w := m_PuStep a w
section
variable {X : Nat} {w : World} {O : Om} {B : Wb} {f : Cf} {s : AW} {k : Nat}
theorem otOver_3 {o : Otm} (h : o.ln ≤ 3) : otOver o = (o.ln == 3) := by
 unfold otOver; rw [Bool.eq_iff_iff]; simp; omega
theorem c_Mv5 {z : Mvm} (mo : Int) (hP : PW w O B f s) (hM : MvAt w O k X z) (hl : z.ln = 5) (hp : z.p.ok) (hd : z.d.ok) (ho : z.o.ln < 3) (w0 : 0 ≤ z.o.w) (w1 : z.o.w < 18446744073709551616) (hu : z.u = ptNew z.tag z.ref) (hk : 10 ≤ k) (hhi : ∀ j, O j ≠ 0 → j < w.heap.size) (n0 : 0 ≤ s.n) (n1 : s.n ≤ 4611686018427387904) :
 Calls Tryz.prog 137 #[.pointer (some ⟨X, 0, none⟩), .pointer (some ⟨B.p, 0, none⟩)] w (RP (SX k (k + 24)) w O (.bool (mvOver (mvStep mo (s, z)).2)) fun W G => PW W G B f (mvStep mo (s, z)).1 ∧ MvAt W G k X (mvStep mo (s, z)).2) := by
 rw [mvStep_5 mo s z hl]
 obtain ⟨p, lv, hx, hpp, hparts⟩ := hM.ex
 obtain rfl := hpp (by omega)
 obtain ⟨ln, lost, now, p, tag, ref, rm, dd, m, o, u⟩ := z
 dsimp only at *
 subst hl
 obtain ⟨m1, u', q, m2, hS, -, b2, b3, b4⟩ := hparts.2.2.2.2.1 ⟨by (dsimp only; omega), by (dsimp only; omega)⟩
 dsimp only at hS b2 b3 b4
 rw [if_neg (by decide)] at b4
 have b2 := b2 (by decide)
 have b3 := b3 (by decide)
 obtain ⟨A, off, c, rfl, hc1, hc2⟩ := hS.open (by decide)
 have a0 := hS.c 0 _ rfl
 rw [Nat.add_zero] at a0
 have HA := c_OutStep o hP b2 hp ho w0 w1 (show 10 ≤ k + 21 by omega) hhi n0 n1
 have HA2 := HA.mono (fun e w' h => (⟨_, h.1, h.2⟩ : ∃ v, e = .returned v ∧ _))
 have hln := outStep_ln p s o ho
 obtain ⟨y, hy⟩ : ∃ y, y = outStep p s o := ⟨_, rfl⟩
 rw [← hy] at HA2 hln ⊢
 obtain ⟨s1, o1⟩ := y
 dsimp only at HA2 hln ⊢
 have hov := otOver_3 (o := o1) (by omega)
 have huo : u.ln = 0 ∨ u.ln = 3 := by rw [hu]; unfold ptNew; split; exact .inl rfl; exact .inr rfl
 have huv : ¬ (1 ≤ tag ∧ tag ≤ 255 ∧ 1 ≤ ref) → u.ln = 3 := fun h => by rw [hu]; unfold ptNew; rw [if_neg h]
 have hovu := otOver_3 (o := u) (by omega)
 obtain ⟨z2, hz2⟩ : ∃ z2, z2 = (if otOver o1 = true then if otOver u = true then mv7 ⟨5, lost, now, p, tag, ref, rm, dd, m, o1, u⟩ else ⟨6, lost, now, p, tag, ref, rm, dd, m, o1, u⟩ else ⟨5, lost, now, p, tag, ref, rm, dd, m, o1, u⟩ : Mvm) := ⟨_, rfl⟩
 rw [← hz2]
 have hzl : 5 ≤ z2.ln ∧ z2.ln ≤ 7 := by
  rw [hz2]; split
  · split
    · unfold mv7; dsimp only; omega
    · dsimp only; omega
  · dsimp only; omega
 refine (c_MvStepG (n := 2) (Q2 := MvPost w O B f k X (s1, z2)) (hx.c 4 _ rfl) a0 (m_OuStep _) (run_enter Tryz.func171 (by kernel_rfl) (by kernel_rfl)) HA2 ?_ (fun w2 h2 => h2.left (by dsimp only; omega) (by dsimp only; omega))).mono fun e w' h => MvPost.step h
 rintro w1 ⟨G1, e1, P1, k1⟩
 have E1 : Ext (SX k (k + 24)) O w G1 w1 := e1.mono fun t _ h => SX.mono (by omega) (by omega) h
 have x1 := hx.ext e1 (SX.not (by omega) (by omega))
 have l1 := hS.ext e1 (SX.not (by omega) (by omega))
 have c3 := b3.ext e1 (SX.not (by omega) (by omega))
 have c4 := b4.ext e1 (SX.not (by omega) (by omega)) (SX.not (by omega) (by omega))
 have hou := POver.out (k := k) k1 hp (by omega) (by omega)
 have hpu := POver.put (k := k) c3 hd (by omega) (by omega) huv
 have hm2 := POver.mark (k := k) c4 ⟨by omega, by omega⟩
 rw [mk2_ne] at hm2
 by_cases h1 : o1.ln = 3
 · have b1 : (o1.ln == 3) = true := by simp [h1]
   rw [b1] at hou hov
   rw [hov, if_pos rfl] at hz2
   rcases huo with h2 | h2
   · have b5 : (u.ln == 3) = false := by simp [h2]
     rw [b5] at hpu hovu
     rw [hovu, if_neg (by decide)] at hz2
     subst hz2
     refine (c_on1 (l := [IMark m2]) x1 l1 hou hpu hk E1.hi).mono ?_
     rintro e w2 ⟨rfl, G2, e2, rfl, lv2, x2, s2⟩
     exact ⟨rfl, mk47 (m1 := m1) (u := u') (by dsimp only; omega) (by dsimp only; omega) (E1.trans (e2.mono fun t _ h => .inr (by omega))) (P1.ext e2 (by omega) (by omega) (by omega) (by omega)) x2 s2 (fun h => absurd h (by dsimp only; omega)) (fun h => absurd h (by dsimp only; omega)) (fun _ => c3.ext e2 (by omega)) (by dsimp only; rw [if_neg (by omega)]; exact c4.ext e2 (by omega) (by omega))⟩
   · have b5 : (u.ln == 3) = true := by simp [h2]
     rw [b5] at hpu hovu
     rw [hovu, if_pos rfl] at hz2
     subst hz2
     refine (c_on2 (l := []) x1 l1 hou hpu hm2 hk E1.hi).mono ?_
     rintro e w2 ⟨rfl, G2, e2, rfl, lv2, x2, s2⟩
     exact ⟨rfl, mk47 (m1 := m1) (u := u') (q := q) (by unfold mv7; dsimp only; omega) (by unfold mv7; dsimp only; omega) (E1.trans (e2.mono fun t _ h => .inr (by omega))) (P1.ext e2 (by omega) (by omega) (by omega) (by omega)) x2 s2 (fun h => absurd h (by unfold mv7; dsimp only; omega)) (fun h => absurd h (by unfold mv7; dsimp only; omega)) (fun h => absurd h (by unfold mv7; dsimp only; omega)) (by unfold mv7; dsimp only; rw [if_pos rfl]; exact c4.ext e2 (by omega) (by omega))⟩
 · have b1 : (o1.ln == 3) = false := by simp [h1]
   rw [b1] at hou hov
   rw [hov, if_neg (by decide)] at hz2
   subst hz2
   refine (c_on0 (l := [IPut q, IMark m2]) x1 l1 hou hk E1.hi).mono ?_
   rintro e w2 ⟨rfl, hb⟩
   exact ⟨rfl, mk47 (m1 := m1) (u := u') (by dsimp only; omega) (by dsimp only; omega) (E1.below hb) (P1.below E1.hi hb) (x1.below hb) (l1.below hb) (fun h => absurd h (by dsimp only; omega)) (fun _ => k1.below hb) (fun _ => c3.below hb) (by dsimp only; rw [if_neg (by omega)]; exact c4.below hb)⟩
theorem c_Mv6 {z : Mvm} (mo : Int) (hP : PW w O B f s) (hM : MvAt w O k X z) (hl : z.ln = 6) (hp : z.p.ok) (hd : z.d.ok) (hu : z.u.ln < 3) (w0 : 0 ≤ z.u.w) (w1 : z.u.w < 18446744073709551616) (hv : 1 ≤ z.tag ∧ z.tag ≤ 255 ∧ 1 ≤ z.ref) (r1 : z.ref ≤ 9223372036854775807) (hk : 10 ≤ k) (hhi : ∀ j, O j ≠ 0 → j < w.heap.size) (n0 : 0 ≤ s.n) (n1 : s.n ≤ 4611686018427387904) :
 Calls Tryz.prog 137 #[.pointer (some ⟨X, 0, none⟩), .pointer (some ⟨B.p, 0, none⟩)] w (RP (SX k (k + 24)) w O (.bool (mvOver (mvStep mo (s, z)).2)) fun W G => PW W G B f (mvStep mo (s, z)).1 ∧ MvAt W G k X (mvStep mo (s, z)).2) := by
 rw [mvStep_6 mo s z hl]
 obtain ⟨p, lv, hx, hpp, hparts⟩ := hM.ex
 obtain rfl := hpp (by omega)
 obtain ⟨ln, lost, now, p, tag, ref, rm, dd, m, o, u⟩ := z
 dsimp only at *
 subst hl
 obtain ⟨m1, u', q, m2, hS, -, -, b3, b4⟩ := hparts.2.2.2.2.1 ⟨by (dsimp only; omega), by (dsimp only; omega)⟩
 dsimp only at hS b3 b4
 rw [if_neg (by decide)] at b4
 have b3 := b3 (by decide)
 obtain ⟨A, off, c, rfl, hc1, hc2⟩ := hS.open (by decide)
 have a0 := hS.c 0 _ rfl
 rw [Nat.add_zero] at a0
 have HA := c_PutStep u hP (b3.1 hv) hd hu w0 w1 (show 10 ≤ k + 22 by omega) hhi n0 n1 (by omega) hv.2.1 (by omega) r1
 have HA2 := HA.mono (fun e w' h => (⟨_, h.1, h.2⟩ : ∃ v, e = .returned v ∧ _))
 have hln := putStep_ln dd tag ref s u hu
 obtain ⟨y, hy⟩ : ∃ y, y = putStep dd tag ref s u := ⟨_, rfl⟩
 rw [← hy] at HA2 hln ⊢
 obtain ⟨s1, u1⟩ := y
 dsimp only at HA2 hln ⊢
 have hov := otOver_3 (o := u1) (by omega)
 obtain ⟨z2, hz2⟩ : ∃ z2, z2 = (if otOver u1 = true then mv7 ⟨6, lost, now, p, tag, ref, rm, dd, m, o, u1⟩ else ⟨6, lost, now, p, tag, ref, rm, dd, m, o, u1⟩ : Mvm) := ⟨_, rfl⟩
 rw [← hz2]
 have hzl : 6 ≤ z2.ln ∧ z2.ln ≤ 7 := by
  rw [hz2]; split
  · unfold mv7; dsimp only; omega
  · dsimp only; omega
 refine (c_MvStepG (n := 1) (Q2 := MvPost w O B f k X (s1, z2)) (hx.c 4 _ rfl) a0 (m_PuStep' _) (run_enter Tryz.func145 (by kernel_rfl) (by kernel_rfl)) HA2 ?_ (fun w2 h2 => h2.left (by dsimp only; omega) (by dsimp only; omega))).mono fun e w' h => MvPost.step h
 rintro w1 ⟨G1, e1, P1, k1⟩
 have E1 : Ext (SX k (k + 24)) O w G1 w1 := e1.mono fun t _ h => SX.mono (by omega) (by omega) h
 have x1 := hx.ext e1 (SX.not (by omega) (by omega))
 have l1 := hS.ext e1 (SX.not (by omega) (by omega))
 have c4 := b4.ext e1 (SX.not (by omega) (by omega)) (SX.not (by omega) (by omega))
 have c3 : PvAt w1 G1 (k + 22) q dd tag ref u1 := ⟨fun _ => k1, fun h => absurd hv h⟩
 have hpu := POver.put (k := k) c3 hd (by omega) (by omega) (fun h => absurd hv h)
 have hm2 := POver.mark (k := k) c4 ⟨by omega, by omega⟩
 rw [mk2_ne] at hm2
 by_cases h1 : u1.ln = 3
 · have b1 : (u1.ln == 3) = true := by simp [h1]
   rw [b1] at hpu hov
   rw [hov, if_pos rfl] at hz2
   subst hz2
   refine (c_on1 (l := []) x1 l1 hpu hm2 hk E1.hi).mono ?_
   rintro e w2 ⟨rfl, G2, e2, rfl, lv2, x2, s2⟩
   exact ⟨rfl, mk47 (m1 := m1) (u := u') (q := q) (by unfold mv7; dsimp only; omega) (by unfold mv7; dsimp only; omega) (E1.trans (e2.mono fun t _ h => .inr (by omega))) (P1.ext e2 (by omega) (by omega) (by omega) (by omega)) x2 s2 (fun h => absurd h (by unfold mv7; dsimp only; omega)) (fun h => absurd h (by unfold mv7; dsimp only; omega)) (fun h => absurd h (by unfold mv7; dsimp only; omega)) (by unfold mv7; dsimp only; rw [if_pos rfl]; exact c4.ext e2 (by omega) (by omega))⟩
 · have b1 : (u1.ln == 3) = false := by simp [h1]
   rw [b1] at hpu hov
   rw [hov, if_neg (by decide)] at hz2
   subst hz2
   refine (c_on0 (l := [IMark m2]) x1 l1 hpu hk E1.hi).mono ?_
   rintro e w2 ⟨rfl, hb⟩
   exact ⟨rfl, mk47 (m1 := m1) (u := u') (by dsimp only; omega) (by dsimp only; omega) (E1.below hb) (P1.below E1.hi hb) (x1.below hb) (l1.below hb) (fun h => absurd h (by dsimp only; omega)) (fun h => absurd h (by dsimp only; omega)) (fun _ => c3.below hb) (by dsimp only; rw [if_neg (by omega)]; exact c4.below hb)⟩
theorem c_Mv7 {z : Mvm} (mo : Int) (hP : PW w O B f s) (hM : MvAt w O k X z) (hl : z.ln = 7) (hp : z.p.ok) (hm0 : z.m ≠ []) (hml : z.m.length ≤ 5) (hmb : ∀ a ∈ z.m, 0 ≤ a ∧ a < 18446744073709551616) (hk : 10 ≤ k) (hhi : ∀ j, O j ≠ 0 → j < w.heap.size) (n0 : 0 ≤ s.n) (n1 : s.n ≤ 4611686018427387904) :
 Calls Tryz.prog 137 #[.pointer (some ⟨X, 0, none⟩), .pointer (some ⟨B.p, 0, none⟩)] w (RP (SX k (k + 24)) w O (.bool (mvOver (mvStep mo (s, z)).2)) fun W G => PW W G B f (mvStep mo (s, z)).1 ∧ MvAt W G k X (mvStep mo (s, z)).2) := by
 obtain ⟨p, lv, hx, hpp, hparts⟩ := hM.ex
 obtain rfl := hpp (by omega)
 obtain ⟨ln, lost, now, p, tag, ref, rm, dd, m, o, u⟩ := z
 dsimp only at *
 subst hl
 obtain ⟨m1, u', q, m2, hS, -, -, -, b4⟩ := hparts.2.2.2.2.1 ⟨by (dsimp only; omega), by (dsimp only; omega)⟩
 dsimp only at hS b4
 rw [if_pos rfl] at b4
 obtain ⟨a, l, rfl⟩ : ∃ a l, m = a :: l := by cases m with
  | nil => exact absurd rfl hm0
  | cons a l => exact ⟨a, l, rfl⟩
 have hab := hmb a (by simp)
 obtain ⟨A, off, c, rfl, hc1, hc2⟩ := hS.open (by decide)
 have a0 := hS.c 0 _ rfl
 rw [Nat.add_zero] at a0
 have HA := c_MkStep a l (k + 23) hP b4 (by simp at hml; omega) (by omega) hhi hab.1 hab.2 n0 n1
 have HA2 := HA.mono (fun e w' h => (⟨_, h.1, h.2⟩ : ∃ v, e = .returned v ∧ _))
 obtain ⟨z2, he, hz2⟩ : ∃ z2, mvStep mo (s, ⟨7, lost, now, p, tag, ref, rm, dd, a :: l, o, u⟩) = (awAdd a 1 s, z2) ∧ ((l = [] ∧ z2 = mvNext ⟨7, lost, now, p, tag, ref, rm, dd, a :: l, o, u⟩) ∨ (l ≠ [] ∧ z2 = ⟨7, lost, now, p, tag, ref, rm, dd, l, o, u⟩)) := by
  rw [mvStep_7 mo s _ rfl]
  by_cases h : l = []
  · exact ⟨_, by rw [if_pos (show (⟨7, lost, now, p, tag, ref, rm, dd, a :: l, o, u⟩ : Mvm).m.tail = [] from h)]; rfl, .inl ⟨h, rfl⟩⟩
  · exact ⟨_, by rw [if_neg (show ¬ (⟨7, lost, now, p, tag, ref, rm, dd, a :: l, o, u⟩ : Mvm).m.tail = [] from h)]; rfl, .inr ⟨h, rfl⟩⟩
 rw [he]
 have hzl : 0 ≤ z2.ln ∧ z2.ln ≤ 7 := by
  rcases hz2 with ⟨-, hz2⟩ | ⟨-, hz2⟩ <;> rw [hz2]
  · rcases mvNext_ln ⟨7, lost, now, p, tag, ref, rm, dd, a :: l, o, u⟩ with h | h <;> omega
  · dsimp only; omega
 refine (c_MvStepG (n := 0) (Q2 := MvPost w O B f k X (awAdd a 1 s, z2)) (hx.c 4 _ rfl) a0 (m_MkStep _) (run_enter Tryz.func168 (by kernel_rfl) (by kernel_rfl)) HA2 ?_ (fun w2 h2 => h2.left (by dsimp only; omega) (by dsimp only; omega))).mono fun e w' h => MvPost.step h
 rintro w1 ⟨G1, e1, P1, k1⟩
 have E1 : Ext (SX k (k + 24)) O w G1 w1 := e1.mono fun t _ h => SX.mono (by omega) (by omega) h
 have x1 := hx.ext e1 (SX.not (by omega) (by omega))
 have l1 := hS.ext e1 (SX.not (by omega) (by omega))
 have hm := POver.mark (k := k) k1 ⟨by omega, by omega⟩
 rcases hz2 with ⟨hl0, hz2⟩ | ⟨hl0, hz2⟩
 · subst hl0
   subst hz2
   exact c_onNext (z := ⟨7, lost, now, p, tag, ref, rm, dd, [a], o, u⟩) E1 P1 x1 l1 hm hp hk
 · subst hz2
   have hle : (l.length == 0) = false := by
    cases l with
    | nil => exact absurd rfl hl0
    | cons a l => rfl
   rw [hle] at hm
   refine (c_on0 (l := []) x1 l1 hm hk E1.hi).mono ?_
   rintro e w2 ⟨rfl, hb⟩
   exact ⟨rfl, mk47 (m1 := m1) (u := u') (q := q) (by dsimp only; omega) (by dsimp only; omega) (E1.below hb) (P1.below E1.hi hb) (x1.below hb) (l1.below hb) (fun h => absurd h (by dsimp only; omega)) (fun h => absurd h (by dsimp only; omega)) (fun h => absurd h (by dsimp only; omega)) (by dsimp only; rw [if_pos rfl]; exact k1.below hb)⟩
end
end
section
set_option linter.unusedVariables false
open Go.RowKit Go.Shelf
def sptP (p : Spt) : Prop := 1 ≤ p.b ∧ p.b ≤ 12 ∧ 0 ≤ p.q ∧ p.q < fnvSize p.b ∧ 0 ≤ p.s ∧ p.s ≤ 3
theorem sptP_ok {p : Spt} (h : sptP p) : p.ok := ⟨h.1, h.2.1, h.2.2.1, h.2.2.2.1, h.2.2.2.2.1, h.2.2.2.2.2⟩
instance (p : Spt) : Decidable (sptP p) := by unfold sptP; exact inferInstance
theorem otm_eq : ∀ {u v : Otm}, u.ln = v.ln → u.w = v.w → u = v
 | ⟨_, _⟩, ⟨_, _⟩, h1, h2 => by dsimp only at h1 h2; rw [h1, h2]
def MvPre2 (y : AW × Mvm) : Prop := 1 ≤ y.2.now ∧ y.2.now ≤ 12 ∧ y.1.it.length ≤ 1000 ∧ (itOf y.1.it (wrap64 (y.1.M y.2.p.item))).key.size ≤ 1000
instance (y : AW × Mvm) : Decidable (MvPre2 y) := by unfold MvPre2; exact inferInstance
def MvPre3 (y : AW × Mvm) : Prop := y.2.rm.ln = 1 ∧ (1 ≤ y.2.rm.b ∧ y.2.rm.b ≤ 12) ∧ (0 ≤ y.2.rm.a ∧ y.2.rm.a < fnvSize y.2.rm.b) ∧ 0 ≤ twFree (y.1.M (plTags y.2.rm.b y.2.rm.a)) ∧ 0 ≤ y.2.tag ∧ y.2.tag ≤ 255 ∧ y.2.ref ≤ 9223372036854775807
instance (y : AW × Mvm) : Decidable (MvPre3 y) := by unfold MvPre3; exact inferInstance
def MvPre4 (y : AW × Mvm) : Prop := y.2.m ≠ [] ∧ y.2.m.length ≤ 5 ∧ ∀ a ∈ y.2.m, 0 ≤ a ∧ a < 18446744073709551616
instance (y : AW × Mvm) : Decidable (MvPre4 y) := by unfold MvPre4; exact inferInstance
def MvPre5 (y : AW × Mvm) : Prop := sptP y.2.d ∧ y.2.o.ln < 3 ∧ 0 ≤ y.2.o.w ∧ y.2.o.w < 18446744073709551616 ∧ y.2.u.ln = (ptNew y.2.tag y.2.ref).ln ∧ y.2.u.w = (ptNew y.2.tag y.2.ref).w
instance (y : AW × Mvm) : Decidable (MvPre5 y) := by unfold MvPre5; exact inferInstance
def MvPre6 (y : AW × Mvm) : Prop := sptP y.2.d ∧ y.2.u.ln < 3 ∧ 0 ≤ y.2.u.w ∧ y.2.u.w < 18446744073709551616 ∧ (1 ≤ y.2.tag ∧ y.2.tag ≤ 255 ∧ 1 ≤ y.2.ref) ∧ y.2.ref ≤ 9223372036854775807
instance (y : AW × Mvm) : Decidable (MvPre6 y) := by unfold MvPre6; exact inferInstance
def MvPre (y : AW × Mvm) : Prop :=
 (1 ≤ y.2.ln ∧ y.2.ln ≤ 7) ∧ sptP y.2.p ∧ (0 ≤ y.1.n ∧ y.1.n ≤ 1000) ∧ (y.2.ln = 2 → MvPre2 y) ∧ (y.2.ln = 3 → MvPre3 y) ∧ (y.2.ln = 4 ∨ y.2.ln = 7 → MvPre4 y) ∧ (y.2.ln = 4 → y.2.o.ln < 3) ∧ (y.2.ln = 5 → MvPre5 y) ∧ (y.2.ln = 6 → MvPre6 y)
instance (y : AW × Mvm) : Decidable (MvPre y) := by unfold MvPre; exact inferInstance
theorem rmStep_1f (mo : Int) (s : AW) (z : Rmm) (h : z.ln = 1) (hf : 0 ≤ twFree (s.M (plTags z.b z.a))) : rmStep mo (s, z) = (awLoad (plTags z.b z.a) s, rmIn z ⟨z.b, z.a, twFree (s.M (plTags z.b z.a))⟩) := by
 unfold rmStep rmTg; dsimp only; rw [if_pos h, if_pos hf]
section
variable {X : Nat} {w : World} {O : Om} {B : Wb} {f : Cf} {s : AW} {k : Nat}
theorem c_MvStepP {z : Mvm} (mo : Int) (hpre : MvPre (s, z)) (hP : PW w O B f s) (hM : MvAt w O k X z) (hk : 10 ≤ k) (hhi : ∀ j, O j ≠ 0 → j < w.heap.size) :
 Calls Tryz.prog 137 #[.pointer (some ⟨X, 0, none⟩), .pointer (some ⟨B.p, 0, none⟩)] w (RP (SX k (k + 24)) w O (.bool (mvOver (mvStep mo (s, z)).2)) fun W G => PW W G B f (mvStep mo (s, z)).1 ∧ MvAt W G k X (mvStep mo (s, z)).2) := by
 obtain ⟨hl, hp, hn, h2, h3, h47, h4, h5, h6⟩ := hpre
 dsimp only at hl hp hn h2 h3 h47 h4 h5 h6
 have hp := sptP_ok hp
 have n0 := hn.1
 have n1 : s.n ≤ 4611686018427387904 := by omega
 have hc : z.ln = 1 ∨ z.ln = 2 ∨ z.ln = 3 ∨ z.ln = 4 ∨ z.ln = 5 ∨ z.ln = 6 ∨ z.ln = 7 := by omega
 rcases hc with g | g | g | g | g | g | g
 · exact c_Mv1 mo hP hM g hp hk hhi n0 n1
 · obtain ⟨a, b, c, d⟩ := h2 g
   dsimp only at a b c d
   exact c_Mv2 mo hP hM g hp ⟨by omega, b⟩ a (by omega) (by unfold maxLen; omega) hk hhi n0 n1
 · obtain ⟨a, b, c, d, t0, t1, r1⟩ := h3 g
   dsimp only at a b c d t0 t1 r1
   have hfb := twFree_bd (s.M (plTags z.rm.b z.rm.a))
   refine c_Mv3y mo hM g (rmStep_1f mo s z.rm a d) rfl rfl (fun R hR => ?_) hp ⟨b.1, b.2, c.1, c.2, d, hfb.2⟩ t0 t1 r1 hk hhi
   have hql : ∃ l, rmLeft z.rm = z.rm.a :: l := by
    unfold rmLeft; rw [if_pos a]; split
    · exact ⟨_, rfl⟩
    · exact ⟨_, rfl⟩
   obtain ⟨l, hql⟩ := hql
   exact (c_RmStepFree hP hR (.inl a) hql b c d (by omega) hhi n0 n1).mono fun e w' hh => hh.mono (fun t _ ht => SX.mono (by omega) (by omega) ht) (fun _ _ q => q)
 · obtain ⟨a, b, c⟩ := h47 (.inl g)
   exact c_Mv4 mo hP hM g hp a b c (h4 g) hk hhi n0 n1
 · obtain ⟨a, b, c, d, e1, e2⟩ := h5 g
   have hu : z.u = ptNew z.tag z.ref := otm_eq e1 e2
   exact c_Mv5 mo hP hM g hp (sptP_ok a) b c d hu hk hhi n0 n1
 · obtain ⟨a, b, c, d, e1, e2⟩ := h6 g
   exact c_Mv6 mo hP hM g hp (sptP_ok a) b c d e1 e2 hk hhi n0 n1
 · obtain ⟨a, b, c⟩ := h47 (.inr g)
   exact c_Mv7 mo hP hM g hp a b c hk hhi n0 n1
end
def One (s t : AW) : Prop := t.n ≤ s.n + 1 ∧ s.n ≤ t.n
theorem One.load (a : Int) (s : AW) : One s (awLoad a s) := ⟨Int.le_refl _, by show s.n ≤ s.n + 1; omega⟩
theorem One.store (a v : Int) (s : AW) : One s (awStore a v s) := ⟨Int.le_refl _, by show s.n ≤ s.n + 1; omega⟩
theorem One.add (a v : Int) (s : AW) : One s (awAdd a v s) := ⟨Int.le_refl _, by show s.n ≤ s.n + 1; omega⟩
theorem One.refl (s : AW) : One s s := ⟨by omega, by omega⟩
theorem One.note {s t : AW} (a b c d e g : Int) (h : One s t) : One s (awNote a b c d e g t) := h
theorem One.out (p : Spt) (s : AW) (o : Otm) : One s (outStep p s o).1 := by
 unfold outStep
 split
 · exact One.load _ _
 · split
   · exact One.store _ _ _
   · split
     · exact One.store _ _ _
     · exact One.refl _
theorem One.put (p : Spt) (tg rf : Int) (s : AW) (o : Otm) : One s (putStep p tg rf s o).1 := by
 unfold putStep
 split
 · exact One.store _ _ _
 · split
   · exact One.load _ _
   · split
     · exact One.store _ _ _
     · exact One.refl _
theorem One.wy (x : AW × Wym) : One x.1 (wyStep x).1 := by
 unfold wyStep
 split
 · exact One.refl _
 · split
   · exact One.load _ _
   · exact One.load _ _
theorem One.ho (x : AW × Hom) : One x.1 (hoStep x).1 := by
 unfold hoStep
 split
 · exact One.load _ _
 · split
   · exact One.load _ _
   · split
     · exact One.add _ _ _
     · split
       · exact One.out _ _ _
       · split
         · exact One.put _ _ _ _ _
         · split
           · exact One.add _ _ _
           · exact One.refl _
theorem One.rm (mo : Int) (x : AW × Rmm) : One x.1 (rmStep mo x).1 := by
 unfold rmStep
 split
 · exact One.load _ _
 · split
   · exact One.load _ _
   · split
     · split
       · dsimp only
         split
         · exact (One.wy (x.1, x.2.wy)).note _ _ _ _ _ _
         · exact One.wy (x.1, x.2.wy)
       · exact One.wy (x.1, x.2.wy)
     · split
       · exact One.ho (x.1, x.2.ho)
       · exact One.refl _
theorem One.mv (mo : Int) (x : AW × Mvm) : One x.1 (mvStep mo x).1 := by
 obtain ⟨s, z⟩ := x
 unfold mvStep
 dsimp only
 by_cases h1 : z.ln = 1
 · rw [if_pos h1]
   exact One.load _ _
 rw [if_neg h1]
 by_cases h2 : z.ln = 2
 · rw [if_pos h2]
   exact One.load _ _
 rw [if_neg h2]
 by_cases h3 : z.ln = 3
 · rw [if_pos h3]
   exact One.rm mo (s, z.rm)
 rw [if_neg h3]
 by_cases h4 : z.ln = 4
 · rw [if_pos h4]
   exact One.add _ _ _
 rw [if_neg h4]
 by_cases h5 : z.ln = 5
 · rw [if_pos h5]
   exact One.out _ _ _
 rw [if_neg h5]
 by_cases h6 : z.ln = 6
 · rw [if_pos h6]
   exact One.put _ _ _ _ _
 rw [if_neg h6]
 by_cases h7 : z.ln = 7
 · rw [if_pos h7]
   exact One.add _ _ _
 rw [if_neg h7]
 by_cases h8 : z.ln = 8
 · rw [if_pos h8]
   exact One.add _ _ _
 rw [if_neg h8]
 by_cases h9 : z.ln = 9
 · rw [if_pos h9]
   dsimp only; by_cases g : z.o.ln = 1
   · rw [if_pos g]; exact (One.out _ _ _).note _ _ _ _ _ _
   · rw [if_neg g]; exact One.out _ _ _
 rw [if_neg h9]
 by_cases h10 : z.ln = 10
 · rw [if_pos h10]
   exact One.add _ _ _
 rw [if_neg h10]
 by_cases h11 : z.ln = 11
 · rw [if_pos h11]
   exact (One.add 6 18446744073709551615 s).note _ _ _ _ _ _
 rw [if_neg h11]
 exact One.refl _
theorem m_MvOver (a : Addr) (w : World) : (method 371 57 (.pointer (some a)) "Over").run Tryz.prog w = .ok (20, .pointer (some a)) w := by kernel_rfl
theorem m_MvStep (a : Addr) (w : World) : (method 371 57 (.pointer (some a)) "Step").run Tryz.prog w = .ok (137, .pointer (some a)) w := by kernel_rfl
def mvIt (mo : Int) : Nat → AW × Mvm → AW × Mvm
 | 0, y => y
 | i + 1, y => mvStep mo (mvIt mo i y)
theorem c_MvRun {w : World} {O : Om} {B : Wb} {f : Cf} {s : AW} {k : Nat} (X : Nat) (z : Mvm) (m N : Nat) (mo : Int) (hpre : ∀ i, i < N → MvPre (mvIt mo i (s, z))) (hov : mvOver (mvIt mo N (s, z)).2 = true) (hln : ∀ i, i ≤ N → 0 ≤ (mvIt mo i (s, z)).2.ln ∧ (mvIt mo i (s, z)).2.ln ≤ 11)
 (hP : PW w O B f s) (hX : MvAt w O k X z) (hk : 10 ≤ k) (hhi : ∀ j, O j ≠ 0 → j < w.heap.size) (n0 : 0 ≤ s.n) (n1 : s.n + m ≤ 4611686018427387904) :
 Calls Tryz.prog 19 #[.pointer (some ⟨B.p, 0, none⟩), .iface 57 (.pointer (some ⟨X, 0, none⟩)), .int .i64 m] w (RP (SX k (k + 24)) w O (.int .i64 (runN mvOver (mvStep mo) m (s, z)).1) fun W G => PW W G B f (runN mvOver (mvStep mo) m (s, z)).2.1 ∧ MvAt W G k X (runN mvOver (mvStep mo) m (s, z)).2.2) := by
 refine (c_RunG mvOver (mvStep mo) (SX k (k + 24)) (fun W G y => PW W G B f y.1 ∧ MvAt W G k X y.2 ∧ ∃ i, i ≤ N ∧ y = mvIt mo i (s, z)) B.p X 57 20 137 (m_MvOver _) (m_MvStep _)
  (run_enter Tryz.func20 (by kernel_rfl) (by kernel_rfl)) (run_enter Tryz.func137 (by kernel_rfl) (by kernel_rfl)) ?_ ?_ (fun y => One.mv mo y) w O m (s, z) ⟨hP, hX, 0, Nat.zero_le _, rfl⟩ hhi n0 n1).mono ?_
 · rintro W G y ⟨h1, h2, i, hi, rfl⟩
   exact c_MvOver h2 (hln i hi).1 (hln i hi).2
 · rintro W G y ⟨h1, h2, i, hi, hy⟩ ho hh q0 q1
   have hiN : i < N := by
    by_cases e : i = N
    · rw [hy, e, hov] at ho; cases ho
    · omega
   have hq := hpre i hiN
   rw [← hy] at hq
   obtain ⟨s1, z1⟩ := y
   refine (c_MvStepP mo hq h1 h2 hk hh).mono ?_
   intro e w' hp2
   exact ⟨_, RP.mono hp2 (fun _ _ h => h) fun W1 G1 h => ⟨h.1, h.2, i + 1, hiN, by rw [hy]; rfl⟩⟩
 · intro e w' hp2
   exact RP.mono hp2 (fun _ _ h => h) fun W1 G1 h => ⟨h.1, h.2.1⟩
end
end Go.Proofs.YtfnmdafpdcgcmaaGreat
