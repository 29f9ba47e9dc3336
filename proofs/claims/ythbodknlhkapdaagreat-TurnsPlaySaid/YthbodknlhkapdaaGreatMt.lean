/- Layer 20. -/
import Derived.Test.YthbodknlhkapdaaGreatG1
import Derived.Test.YthbodknlhkapdaaGreatG2
import Derived.Test.YthbodknlhkapdaaGreatBaG
namespace Go.Proofs.YthbodknlhkapdaaGreat
set_option linter.unusedSimpArgs false
set_option linter.unusedVariables false
set_option maxHeartbeats 4000000
set_option maxRecDepth 100000
open Go.RowKit Go.Shelf
def itZ : It := ⟨⟨#[]⟩, ⟨#[]⟩, 0, 0, 0, 0⟩
def Adz (it : List It) (r : Int) : It := if 1 ≤ r then (it[(r - 1).toNat]?).getD itZ else itZ
theorem Ao2 (it : List It) (r : Int) : Aqe it r = (Adz it r).key.data.toList := by
 unfold Aqe Adz
 split
 · cases it[(r - 1).toNat]? <;> rfl
 rfl
theorem Bbr (r : Int) {w : World} {O : Om} {t ip : Nat} {l : List It} (h : Ar w O t ip l) (hl : l.length ≤ 1000000) :
 Calls Tryz.prog 52 #[.pointer (some ⟨ip, 0, none⟩), .int .i64 r] w fun e w' => ∃ (b : Bool) (x1 : ByteArray) (x2 x3 x4 x5 : Int), e = .returned (.tuple #[.agg #[.string (Adz l r).key, .string x1, .int .u32 x2, .int .u64 x3, .int .i64 x4, .int .i64 x5], .bool b]) ∧ Below w.heap.size w w' := by
 by_cases hr : 1 ≤ r ∧ r ≤ l.length
 · have hk : (r - 1).toNat < l.length := by omega
   refine (Ams r (r - 1).toNat l[(r - 1).toNat] h hl (List.getElem?_eq_getElem hk) (by omega)).mono ?_
   rintro e w' ⟨rfl, hb⟩
   have e : Adz l r = l[(r - 1).toNat] := by unfold Adz; rw [if_pos hr.1, List.getElem?_eq_getElem hk]; rfl
   exact ⟨true, l[(r - 1).toNat].val, l[(r - 1).toNat].fl, l[(r - 1).toNat].id, l[(r - 1).toNat].dies, l[(r - 1).toNat].gen, by rw [e], hb⟩
 refine (Aps r h hl hr).mono ?_
 rintro e w' ⟨rfl, hb⟩
 have e : (Adz l r).key = ⟨#[]⟩ := by
  unfold Adz
  by_cases h1 : 1 ≤ r
  · rw [if_pos h1, List.getElem?_eq_none (by omega)]
    rfl
  rw [if_neg h1]
  rfl
 exact ⟨false, ⟨#[]⟩, 0, 0, 0, 0, by rw [e], hb⟩
theorem Agj {W W' : World} {n j : Nat} {v : Value} (hl : n < W.heap.size) (h : W.cell? ⟨n, j, none⟩ = some v) (hb : Below W.heap.size W W') : W'.cell? ⟨n, j, none⟩ = some v := (hb.cell (p := ⟨n, j, none⟩) hl).trans h
theorem Agt {a W w : World} (k : Below a.heap.size a W) (h : Below W.heap.size W w) : Below a.heap.size a w := k.trans (h.mono k.size)
theorem Ajq {W W' : World} {n m i j : Nat} {v u : Value} (hl : n < W.heap.size) (hm : m < W.heap.size) (h : W.cell? ⟨n, i, none⟩ = some v) (k : W.cell? ⟨m, j, none⟩ = some u) (hb : Below W.heap.size W W') : W'.cell? ⟨n, i, none⟩ = some v ∧ W'.cell? ⟨m, j, none⟩ = some u := ⟨Agj hl h hb, Agj hm k hb⟩
theorem Aru {w v W : World} {T : TypeId} {N : Nat} (hb : Below v.heap.size v W) (hv : N = w.heap.size ∧ v = w.alloc (.cells #[.string ⟨#[]⟩, .string ⟨#[]⟩, .int .u32 0, .int .u64 0, .int .i64 0, .int .i64 0] T)) :
 W.cell? ⟨N, 0, none⟩ = some (.string ⟨#[]⟩) ∧ W.cell? ⟨N, 1, none⟩ = some (.string ⟨#[]⟩) ∧ W.cell? ⟨N, 2, none⟩ = some (.int .u32 0) ∧ W.cell? ⟨N, 3, none⟩ = some (.int .u64 0) ∧ W.cell? ⟨N, 4, none⟩ = some (.int .i64 0) ∧ W.cell? ⟨N, 5, none⟩ = some (.int .i64 0) ∧
 W.frozen? ⟨N, 0, none⟩ = false ∧ W.frozen? ⟨N, 1, none⟩ = false ∧ W.frozen? ⟨N, 2, none⟩ = false ∧ W.frozen? ⟨N, 3, none⟩ = false ∧ W.frozen? ⟨N, 4, none⟩ = false ∧ W.frozen? ⟨N, 5, none⟩ = false := by
 obtain ⟨rfl, rfl⟩ := hv
 have hl : w.heap.size < (w.alloc (.cells #[.string ⟨#[]⟩, .string ⟨#[]⟩, .int .u32 0, .int .u64 0, .int .i64 0, .int .i64 0] T)).heap.size := by simp
 have hc := fun j => hb.cell (p := ⟨w.heap.size, j, none⟩) hl
 have hf := fun j => hb.frozen (p := ⟨w.heap.size, j, none⟩) hl
 refine ⟨(hc 0).trans ?_, (hc 1).trans ?_, (hc 2).trans ?_, (hc 3).trans ?_, (hc 4).trans ?_, (hc 5).trans ?_, (hf 0).trans ?_, (hf 1).trans ?_, (hf 2).trans ?_, (hf 3).trans ?_, (hf 4).trans ?_, (hf 5).trans ?_⟩ <;> simp
theorem Awz {wd w : World} {N : Nat} {v0 v1 v2 v3 v4 v5 : Value} (hN : N = wd.heap.size) (h : Below wd.heap.size wd w) : Below wd.heap.size wd ((((((w.setCell ⟨N, 0, none⟩ v0).setCell ⟨N, 1, none⟩ v1).setCell ⟨N, 2, none⟩ v2).setCell ⟨N, 3, none⟩ v3).setCell ⟨N, 4, none⟩ v4).setCell ⟨N, 5, none⟩ v5) := by
 have hb : wd.heap.size ≤ N := by omega
 exact Abp (Abp (Abp (Abp (Abp (Abp h hb _ _) hb _ _) hb _ _) hb _ _) hb _ _) hb _ _
def Azr (w : World) (key : ByteArray) (s4 : Value) (wx : World) : Prop := ∃ N, s4 = .pointer (some ⟨N, 0, none⟩) ∧ w.heap.size ≤ N ∧ N < wx.heap.size ∧ Below w.heap.size w wx ∧ wx.cell? ⟨N, 0, none⟩ = some (.string key)
theorem Bao {w4 wd w : World} {N : Nat} {key : ByteArray} {v1 v2 v3 v4 v5 z0' z1' z2' z3' z4' z5' : Value} (hd : Below w4.heap.size w4 wd) (hN : N = wd.heap.size) (h : Below wd.heap.size wd w) (z0 : w.cell? ⟨N, 0, none⟩ = some z0') (z1 : w.cell? ⟨N, 1, none⟩ = some z1') (z2 : w.cell? ⟨N, 2, none⟩ = some z2') (z3 : w.cell? ⟨N, 3, none⟩ = some z3') (z4 : w.cell? ⟨N, 4, none⟩ = some z4') (z5 : w.cell? ⟨N, 5, none⟩ = some z5') :
 Azr w4 key (.pointer (some ⟨N, 0, none⟩)) ((((((w.setCell ⟨N, 0, none⟩ (.string key)).setCell ⟨N, 1, none⟩ v1).setCell ⟨N, 2, none⟩ v2).setCell ⟨N, 3, none⟩ v3).setCell ⟨N, 4, none⟩ v4).setCell ⟨N, 5, none⟩ v5) := by
 refine ⟨N, rfl, by have := hd.size; omega, ?_, Agt hd (Awz hN h), ?_⟩
 · have := Aj0 z0
   simpa using this
 rw [Aa9 (by omega), Aa9 (by omega), Aa9 (by omega), Aa9 (by omega), Aa9 (by omega)]
 exact World.cell?_setCell_same _ _ _ z0
theorem Ban {w4 wd w : World} {key : ByteArray} {v1 v2 v3 v4 v5 : Value} {T : TypeId} (hd : Below w4.heap.size w4 wd) (h : Below wd.heap.size wd w) : Azr w4 key (.pointer (some ⟨w.heap.size, 0, none⟩)) (w.alloc (.cells #[.string key, v1, v2, v3, v4, v5] T)) :=
 ⟨w.heap.size, rfl, Nat.le_trans hd.size h.size, by simp, Agt hd (h.alloc h.size _), by simp⟩
section
variable {X : Nat} {w : World} {O : Om} {B : Wb} {f : Cf} {s : AW} {k : Nat}
theorem Awa {now tag ref lost : Int} {p : Spt} {lv : Value} {d : Nat} {ds : List Value} (hP : PW w O B f s) (hx : Ob w O k X (Ac6 now p lv tag ref lost)) (hS : Sls w O (k + 1) 1 lv 1 [Afo d]) (hd : Ob w O (k + 2) d ds) (hp : p.ok) (hnow : 0 ≤ now ∧ now ≤ 12) (hil : s.it.length ≤ 1000000) (hks : (Adz s.it (wrap64 (s.M p.item))).key.size ≤ maxLen) (hk : 10 ≤ k) (hhi : Hh O w) (n0 : 0 ≤ s.n) (n1 : s.n ≤ 4611686018427387904) :
 C2 125 X B.p w fun e w' => e = .returned (.tuple #[]) ∧ ∃ G, Ext (SX k (k + 5)) O w G w' ∧ PW w' G B f (Aan p.item s) ∧ Ob w' G (k + 2) d ds ∧ ∃ lv', Ob w' G k X (Ac6 now p lv' tag (wrap64 (s.M p.item)) lost) ∧
  ∃ e R, Sls w' G (k + 1) 1 lv' 2 [Afo d, Aeg e] ∧ Ob w' G (k + 3) e [.pointer (some ⟨X, 0, none⟩), .pointer (some ⟨R, 0, none⟩)] ∧ Aa1 w' G (k + 4) R (Afc now (Acn (Adz s.it (wrap64 (s.M p.item))).key.data.toList)) := by
 have HM : Hid (Me k (k + 5) w O w O B f s k X (Ac6 now p lv tag ref lost)) := hQd (Me.start hhi hP hx)
 have HS := hQd (aN hS hd)
 have p0 := hP.wo.c0
 obtain ⟨-, x1, x2, x3⟩ := hx.c4
 have hit := hp.item
 have hq2 := hp.q2
 have HT := hQd (fun W => At2 p.b p.q p.s W (by have := hp.b0; omega) (by have := hp.b1; omega) (by have := hp.q0; omega) (by omega) (by have := hp.s0; omega) (by have := hp.s1; omega))
 have hta2 : Aca p.b p.q p.s = p.item := rfl
 rw [hta2] at HT
 have hta : 0 ≤ p.item ∧ p.item < 18446744073709551616 := by omega
 obtain ⟨ia, hia⟩ := exq p.item
 rw [← hia] at HT hta hks ⊢
 obtain ⟨r, hr⟩ := exq (wrap64 (s.M ia))
 have hr2 : IntKind.i64.wrap (s.M ia) = r := by rw [hr]; unfold wrap64; simp [IntKind.wrap, IntKind.bits, IntKind.signed]; omega
 rw [← hr] at hks ⊢
 obtain ⟨key, hkey⟩ := exq ((Adz s.it r).key)
 rw [← hkey] at hks ⊢
 obtain ⟨pb, hpb⟩ := exq p.b
 obtain ⟨pq, hpq⟩ := exq p.q
 obtain ⟨ps, hps⟩ := exq p.s
 rw [← hpb] at x1 HT
 rw [← hpq] at x2 HT
 rw [← hps] at x3 HT
 have HPP := hQd (aN hpb (aN hpq hps))
 have HTA := hQd hta
 have hXB : ¬ B.p = X := hP.ne_obj hx hk
 have HIL := hQd hil
 have HKY := hQd hkey
 have HKS := hQd hks
 have hhb := Ae8 key.data.toList
 have hha := fun W => Bbu key W hks
 obtain ⟨hs, hhs⟩ := exq (Acn key.data.toList)
 rw [← hhs] at hhb
 rw [← hhs]
 simp only [← hhs] at hha
 have HHB := hQd hhb
 have HHA := hQd hha
 clear hhs hhb hha
 obtain ⟨i0, hi, hz0, hz1, hz2⟩ := info_parts Ahm
 have HI := hQd (aN hi (aN hz0 (aN hz1 hz2)))
 clear hi hz0 hz1 hz2
 clear hP hx hS hd hhi hp hit hq2 hta hta2 hia hr hkey hpb hpq hps hil hks
 go_enter Tryz.func125, Tryz.ntmps125
 go_wp2_with fail
 go_region_held3 (fun w' => w'.cell? ⟨B.p, 0, none⟩ = some (.pointer (some ⟨B.c, 0, none⟩)) ∧ w'.cell? ⟨X, 1, none⟩ = some (.int .i64 pb) ∧ w'.cell? ⟨X, 2, none⟩ = some (.int .i64 pq) ∧ w'.cell? ⟨X, 3, none⟩ = some (.int .i64 ps)) (go_keep)
  ((first
    | (go_at_call 155
       refine (HT.out _).mono ?_
       rintro e w1 ⟨rfl, hb1⟩
       have M1 := hQd (HM.out.drew.below hb1)
       have S1 := hQd (aN ((HS.out.1.below (Aaa _)).below hb1) ((HS.out.2.below (Aaa _)).below hb1))
       have p01 := M1.out.p.wo.c0
       obtain ⟨-, x11, x21, x31⟩ := M1.out.t.c4
       rw [← HPP.out.1] at x11
       rw [← HPP.out.2.1] at x21
       rw [← HPP.out.2.2] at x31
       clear hb1)
    | (go_at_call 37
       refine (Ac9 ia M1.out.p M1.out.e.hi HTA.out.1 HTA.out.2 n0 n1).mono ?_
       rintro e w3 ⟨rfl, G2, e2, P2⟩
       have M3 := hQd (M1.out.world hk e2 P2)
       have S3 := hQd (aN (S1.out.1.ext e2 (by unfold SW; omega)) (S1.out.2.ext e2 (by unfold SW; omega)))
       have p03 := M3.out.p.wo.c0
       obtain ⟨-, x13, x23, x33⟩ := M3.out.t.c4
       rw [← HPP.out.1] at x13
       rw [← HPP.out.2.1] at x23
       rw [← HPP.out.2.2] at x33
       have x53 := M3.out.t.c 6 _ rfl
       have f53 := M3.out.t.f 6
       have E4 := hQd (Aaf (j := 6) (v := .int .i64 r) M3.out.e.hi M3.out.t hk)
       have M4 := hQd (M3.out.set hk (Nat.le_refl _) (by omega) 6 (.int .i64 r) (by simp [Ac6]))
       have p04 := M4.out.p.wo.c0
       obtain ⟨-, x14, x24, x34⟩ := M4.out.t.c4
       rw [← HPP.out.1] at x14
       rw [← HPP.out.2.1] at x24
       rw [← HPP.out.2.2] at x34
       clear e2 P2)))
 all_goals
  clear p0 x1 x2 x3 p01 x11 x21 x31 p03 x13 x23 x33 x53 f53
  go_upto_region 1 with fail
  have S4 := hQd (aN (S3.out.1.ext E4.out) (S3.out.2.ext E4.out))
  obtain ⟨w4, hw4⟩ := exq (w3.setCell ⟨X, 6, none⟩ (.int .i64 r))
  rw [← hw4] at M4 S4 ⊢
  clear hw4 E4 M3 S3 M1 S1 p04 x14 x24 x34
  have p1 := M4.out.p.wo.c1
  have x6 := M4.out.t.c 6 _ rfl
  have hXl := M4.out.t.lt
  have hBl := M4.out.p.wo.lt
  have hAr := M4.out.p.ar
  have HAt := hQd (fun W (hW : Below w4.heap.size w4 W) => Bbr r (M4.out.p.below M4.out.e.hi hW).ar HIL.out)
  have hke : (Adz (Aan ia s).it r).key = key := HKY.out.symm
  rw [hke] at HAt
  clear hAr hke
  go_cut [4] (fun s4 wx => Azr w4 key s4 wx)
  case first =>
   refine wp_region_held_drew (S := fun w' => w'.cell? ⟨B.p, 1, none⟩ = some (.pointer (some ⟨B.ip, 0, none⟩)) ∧ w'.cell? ⟨X, 6, none⟩ = some (.int .i64 r)) (by kernel_rfl) ?sA (fun hH0 => ?rA)
   case sA => exact ⟨p1, x6⟩
   obtain ⟨wd, hwd0⟩ := exq w4.drew
   have hwd : Hid (Below w4.heap.size w4 wd) := hQd (by rw [hwd0]; exact Aaa _)
   have hBl1 : B.p < wd.heap.size := by rw [hwd0]; exact hBl
   have hXl1 : X < wd.heap.size := by rw [hwd0]; exact hXl
   rw [← hwd0] at hH0 ⊢
   clear p1 x6 hwd0
   obtain ⟨p1, x6⟩ := hH0
   have hH0 := aN p1 x6
   have HBd := hQd (Below.refl wd.heap.size wd)
   refine' Az7 [0,1,2,3,4,5,6,7] (by kernel_rfl) (fun _ _ _ _ h => h) hH0 ?_
   iterate 8 ((try simp only [zz]); refine' tky (List.getElem?_toArray.trans rfl) (Or.inl ⟨by rfl, ?_⟩) ?_; rotate_left; · intro w hSw; (try dsimp only at hSw); go_simp; try with_reducible rfl)
   refine tk0 ?_
   try simp only [zz, Adk]
   refine wpAnyH_ready (rs := [8, 12]) (by kernel_rfl) (by simp) ?_
   refine' AllReadyH.cons (List.getElem?_toArray.trans rfl) (fun K hK => ?st9) ?more9
   case st9 =>
    go_simp
    refine' Calls.mono (HAt.out wd (Agt hwd.out HBd.out)) ?c10
    rintro e w10 ⟨b10, u10a, u10b, u10c, u10d, u10e, rfl, hb10⟩
    have HB10 := hQd (Agt HBd.out hb10)
    clear hb10
    try go_wp2_with fail
    refine hK.out _ _ ?s10 (fun hH10 => ?r10)
    case s10 => ((try dsimp only); exact Ajq hBl1 hXl1 p1 x6 HB10.out)
    clear hK K hH0
    refine' Az7 [9,10,11] (by kernel_rfl) (fun _ _ _ _ h => h) hH10 ?_
    iterate 3 ((try simp only [zz]); refine' tky (List.getElem?_toArray.trans rfl) (Or.inl ⟨by rfl, ?_⟩) ?_; rotate_left; · intro w hSw; (try dsimp only at hSw); go_simp; try with_reducible rfl)
    refine tk0 ?_
    try simp only [zz, Adk]
    refine wpAnyH_ready (rs := [12]) (by kernel_rfl) (by simp) ?_
    refine' AllReadyH.cons (List.getElem?_toArray.trans rfl) (fun K hK => ?st14) ?more14
    case st14 =>
     go_simp
     refine hK.out _ _ ?s15 (fun hH15 => ?r15)
     case s15 => ((try dsimp only); exact Ajq hBl1 hXl1 p1 x6 (HB10.out.alloc HB10.out.size _))
     clear hK K hH10
     try simp only [zz]
     refine wpAnyH_ready (rs := [13]) (by kernel_rfl) (by simp) ?_
     refine' AllReadyH.cons (List.getElem?_toArray.trans rfl) (fun K hK => ?st16) ?more16
     case st16 =>
      go_simp
      refine hK.out _ _ ?s17 (fun hH17 => ?r17)
      case s17 => ((try dsimp only); exact Ajq hBl1 hXl1 p1 x6 (HB10.out.alloc HB10.out.size _))
      clear hK K hH15
      refine' Az7 [14] (by kernel_rfl) (fun _ _ _ _ h => h) hH17 ?_
      iterate 1 ((try simp only [zz]); refine' tky (List.getElem?_toArray.trans rfl) (Or.inl ⟨by rfl, ?_⟩) ?_; rotate_left; · intro w hSw; (try dsimp only at hSw); go_simp; try with_reducible rfl)
      refine tk0 ?_
      try simp only [zz, Adk]
      refine wpAnyH_done (by kernel_rfl) ?_ _
      go_wp2_with fail
      go_meet
      exact Ban hwd.out HB10.out
     exact AllReadyH.nil
    exact AllReadyH.nil
   refine' AllReadyH.cons (List.getElem?_toArray.trans rfl) (fun K hK => ?st19) ?more19
   case st19 =>
    go_simp
    refine hK.out _ _ ?s20 (fun hH20 => ?r20)
    case s20 => ((try dsimp only); exact Ajq hBl1 hXl1 p1 x6 (bal _ _))
    obtain ⟨v20, hv20⟩ := exq (wd.alloc (.cells #[.string ⟨#[]⟩, .string ⟨#[]⟩, .int .u32 0, .int .u64 0, .int .i64 0, .int .i64 0] 58))
    obtain ⟨N20, hn20⟩ := exq wd.heap.size
    rw [← hv20] at hH20
    rw [← hv20, ← hn20]
    have HB20 : Hid (Below wd.heap.size wd v20) := hQd (by rw [hv20]; exact bal _ _)
    have hN20 := hQd (aN hn20 hv20)
    clear hv20 hn20
    clear hK K hH0
    try simp only [zz]
    refine wpAnyH_ready (rs := [8]) (by kernel_rfl) (by simp) ?_
    refine' AllReadyH.cons (List.getElem?_toArray.trans rfl) (fun K hK => ?st21) ?more21
    case st21 =>
     go_simp
     refine' Calls.mono (HAt.out v20 (Agt hwd.out HB20.out)) ?c22
     rintro e w22 ⟨b22, u22a, u22b, u22c, u22d, u22e, rfl, hb22⟩
     obtain ⟨z0, z1, z2, z3, z4, z5, zf0, zf1, zf2, zf3, zf4, zf5⟩ := Aru hb22 hN20.out
     have HB22 := hQd (Agt HB20.out hb22)
     clear hb22
     try go_wp2_with fail
     refine hK.out _ _ ?s22 (fun hH22 => ?r22)
     case s22 => ((try dsimp only); exact Ajq hBl1 hXl1 p1 x6 HB22.out)
     clear hK K hH20
     refine' Az7 [9,10,11] (by kernel_rfl) (fun _ _ _ _ h => h) hH22 ?_
     iterate 3 ((try simp only [zz]); refine' tky (List.getElem?_toArray.trans rfl) (Or.inl ⟨by rfl, ?_⟩) ?_; rotate_left; · intro w hSw; (try dsimp only at hSw); go_simp; try with_reducible rfl)
     refine tk0 ?_
     try simp only [zz, Adk]
     refine wpAnyH_ready (rs := [13]) (by kernel_rfl) (by simp) ?_
     refine' AllReadyH.cons (List.getElem?_toArray.trans rfl) (fun K hK => ?st26) ?more26
     case st26 =>
      go_simp
      refine hK.out _ _ ?s27 (fun hH27 => ?r27)
      case s27 => ((try dsimp only); exact Ajq hBl1 hXl1 p1 x6 (Awz hN20.out.1 HB22.out))
      clear hK K hH22
      refine' Az7 [14] (by kernel_rfl) (fun _ _ _ _ h => h) hH27 ?_
      iterate 1 ((try simp only [zz]); refine' tky (List.getElem?_toArray.trans rfl) (Or.inl ⟨by rfl, ?_⟩) ?_; rotate_left; · intro w hSw; (try dsimp only at hSw); go_simp; try with_reducible rfl)
      refine tk0 ?_
      try simp only [zz, Adk]
      refine wpAnyH_done (by kernel_rfl) ?_ _
      go_wp2_with fail
      go_meet
      exact Bao hwd.out hN20.out.1 HB22.out z0 z1 z2 z3 z4 z5
     exact AllReadyH.nil
    exact AllReadyH.nil
   exact AllReadyH.nil
  obtain ⟨N, rfl, hN4, hNl, hb5, hkc⟩ := hcut
  have hz : G2 N = 0 := by
   by_cases e : G2 N = 0
   · exact e
   have := M4.out.e.hi N e; omega
  have HZ := hQd hz
  clear hz
  have M5 := hQd (M4.out.below hb5)
  have S5 := hQd (aN (S4.out.1.below hb5) (S4.out.2.below hb5))
  have x0 := M5.out.t.c 0 _ rfl
  have hXN := M5.out.t.lt
  have HNR := hQd (fun (W : World) (h : Hh G2 W) => Aty (k := k + 4) (w := W) (O := G2) now hs (by omega) (by omega) HHB.out.1 HHB.out.2 (by omega) h)
  clear hb5 p1 x6 hXl hBl HAt M4 S4
  go_upto_region 2 with fail
  go_region_held3 (fun w' => w'.cell? ⟨X, 0, none⟩ = some (.int .i64 now) ∧ w'.cell? ⟨N, 0, none⟩ = some (.string key)) (go_keep)
   ((first
     | (go_at_call 157
        refine (HHA.out _).mono ?_
        rintro e w6 ⟨rfl, hw6⟩
        have hb6 : Below wc.heap.size wc w6 := by rw [← hw6]; exact ((Aaa wc).trans ((Below.refl _ _).alloc (by simp) _))
        have M6 := hQd (M5.out.below hb6)
        have S6 := hQd (aN (S5.out.1.below hb6) (S5.out.2.below hb6))
        have x06 := M6.out.t.c 0 _ rfl
        have n06 := Agj hNl hkc hb6
        have hNl6 := Nat.lt_of_lt_of_le hNl hb6.size
        clear hw6 hb6)
     | (go_at_call 156
        refine (HNR.out _ M6.out.e.hi).mono ?_
        rintro e w7 ⟨R, rfl, G7, e7, r7⟩
        have M7 := hQd (aN (M6.out.e.trans (e7.mono (T := SX k (k + 5)) fun t _ h => .inr (by omega))) (aN (M6.out.p.ext e7) (aN (M6.out.t.ext e7) (aN (S6.out.1.ext e7) (aN (S6.out.2.ext e7) r7)))))
        have x07 := M7.out.2.2.1.c 0 _ rfl
        have n07 : w7.cell? ⟨N, 0, none⟩ = some (.string key) := (e7.cell (p := ⟨N, 0, none⟩) hNl6 (by dsimp only; rw [HZ.out]; omega)).trans n06
        clear e7 r7)))
  all_goals
   clear x0 x06 n06 x07 n07 hkc hNl hNl6 hN4
   obtain ⟨A, o, cp, rfl, hc1, hc2⟩ := M7.out.2.2.2.1.open (by decide)
   have x4 := M7.out.2.2.1.c 4 _ rfl
   have hXl := M7.out.2.2.1.lt
   obtain ⟨G8, e8, a8, k8⟩ := Aar M7.out.1.hi (k + 3) #[.pointer (some ⟨X, 0, none⟩), .pointer (some ⟨R, 0, none⟩)] 267 w7.heap.size rfl
   have M8 := hQd (aN (M7.out.1.trans (e8.mono (T := SX k (k + 5)) fun t _ h => .inr (by omega))) (aN (M7.out.2.1.ext e8) (aN (k8 _ _ _ M7.out.2.2.1) (aN (M7.out.2.2.2.1.kept k8) (aN (k8 _ _ _ M7.out.2.2.2.2.1) (aN (M7.out.2.2.2.2.2.ext e8 (fun t q1 q2 => by omega)) a8))))))
   clear e8 a8 k8
   go_upto_region 3 with fail
   go_wp2_with (at_builtin; refine Ad3 (w7.alloc (.cells #[.pointer (some ⟨X, 0, none⟩), .pointer (some ⟨R, 0, none⟩)] 267)) rfl _ _ 181 rfl 188 i0 .nilIface 1 16 Tryz.underlying181 HI.out.1 HI.out.2.1 HI.out.2.2.1 HI.out.2.2.2 rfl (by decide) G8 (k + 1) (by omega) M8.out.1.hi (.slice (some ⟨A, o, none⟩) 1 cp) 1 [Afo d] rfl M8.out.2.2.2.1 1 (by decide) [Aeg w7.heap.size] _ (by simp only [World.size_alloc]; rfl) rfl (by simp [Aeg, Value.oneCell']) (by unfold maxLen; decide) (by decide) ?_; intro b9 o9 c9 w9 G9 e9 s9; have M9 := hQd (aN (M8.out.1.trans (e9.mono (T := SX k (k + 5)) fun t _ h => .inr (by omega))) (aN (M8.out.2.1.ext e9) (aN (M8.out.2.2.1.ext e9) (aN s9 (aN (M8.out.2.2.2.2.1.ext e9) (aN (M8.out.2.2.2.2.2.1.ext e9 (fun t q1 q2 => by omega)) (M8.out.2.2.2.2.2.2.ext e9))))))); have x49 := M9.out.2.2.1.c 4 _ rfl; have f49 := M9.out.2.2.1.f 4; clear e9 s9)
   go_end0
   have EA := Aaf (j := 4) (v := .slice (some ⟨b9, o9, none⟩) (1 + 1) c9) M9.out.1.hi M9.out.2.2.1 hk
   have XA := M9.out.2.2.1.set 4 (.slice (some ⟨b9, o9, none⟩) (1 + 1) c9) (by simp [Ac6])
   exact ⟨rfl, G9, M9.out.1.trans (EA.mono fun t _ h => .inr (by omega)), M9.out.2.1.ext EA, M9.out.2.2.2.2.1.ext EA, _, XA, _, M9.out.2.2.2.1.ext EA, R, M9.out.2.2.2.2.2.2.ext EA, M9.out.2.2.2.2.2.1.ext EA (fun t q1 q2 => by omega)⟩
end
end Go.Proofs.YthbodknlhkapdaaGreat
