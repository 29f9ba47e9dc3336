/- Parts of the walk. -/
import Derived.Test.YthbodknlhkapdaaGreatW1
import Derived.Test.YthbodknlhkapdaaGreatMg
import Derived.Test.YthbodknlhkapdaaGreatG6
import Derived.Test.YthbodknlhkapdaaGreatG1
import Derived.Deep.DeepCutAuto
import Derived.Test.YthbodknlhkapdaaGreatG4
namespace Go.Proofs.YthbodknlhkapdaaGreat
set_option linter.unusedVariables false
set_option linter.unusedSimpArgs false
set_option maxHeartbeats 20000000
set_option maxRecDepth 100000
section
open Go.RowKit Go.Shelf
section
variable {X : Nat} {w : World} {O : Om} {B : Wb} {f : Cf} {s : AW} {k : Nat}
theorem Awt (p q : Spt) (hp : p.ok) (hq : q.ok) {N1 N2 : Nat} (k : Nat) (hk : 10 ≤ k) (n1 : Ob w O 0 N1 (spl p)) (n2 : Ob w O 0 N2 (spl q)) (hhi : Hh O w) :
 C2 206 N1 N2 w fun e w' => ∃ m G, e = .returned (Abb m) ∧ Ext (fun t => t = k ∨ t = k + 1) O w G w' ∧ Ada w' G k m (mk2 p q) := by
 obtain ⟨a0, a1⟩ := n1.c2
 obtain ⟨b0, b1⟩ := n2.c2
 obtain ⟨pb, hpb⟩ := exq p.b
 obtain ⟨pq, hpq⟩ := exq p.q
 obtain ⟨qb, hqb⟩ := exq q.b
 obtain ⟨qq, hqq⟩ := exq q.q
 rw [← hpb] at a0
 rw [← hpq] at a1
 rw [← hqb] at b0
 rw [← hqq] at b1
 obtain ⟨e1, t1⟩ := Aau (S := fun t => t = k ∨ t = k + 1) hhi #[.int .i64 pb, .int .i64 pq, .int .i64 qb, .int .i64 qq] 93 w.heap.size rfl
 have HE := hQd (aN e1 t1)
 obtain ⟨W, hW⟩ := exq (w.alloc (.cells #[.int .i64 pb, .int .i64 pq, .int .i64 qb, .int .i64 qq] 93))
 have HC : Hid (Calls Tryz.prog 207 #[.slice (some ⟨w.heap.size, 0, none⟩) 2 2] W fun e w' => ∃ X, RP (fun t => t = k ∨ t = k + 1) W O (.pointer (some ⟨X, 0, none⟩)) (fun W G => Ada W G k X (mk2 p q)) e w') := by
  rw [← hW] at e1 t1
  subst hpb hpq hqb hqq
  exact hQd (Ae9 p q hp hq k hk (by rw [t1.o]; omega) ⟨Nat.le_refl _, by unfold maxLen; decide⟩ t1.lt (t1.c 0 _ rfl) (t1.c 1 _ rfl) (t1.c 2 _ rfl) (t1.c 3 _ rfl) e1.hi)
 clear hp hq n1 n2 hhi e1 t1 hpb hpq hqb hqq
 go_enter Tryz.func206, Tryz.ntmps206
 go_wp2_with fail
 rw [← hW] at HE ⊢
 refine HC.out.mono ?_
 rintro e w' ⟨m, rfl, G, e2, m2⟩
 have H2 := hQd (aN (HE.out.1.trans e2) m2)
 clear e2 m2 hW
 go_wp2_with fail
 go_ret
 exact ⟨m, G, rfl, H2.out.1, H2.out.2⟩
end
end
section
open Go.RowKit Go.Shelf
def Azp (w : World) (O : Om) (k X : Nat) (wv : Value) (lf tg rf : Int) (ld : Bool) (p dd : Spt) (W : World) (G : Om) : Prop :=
 Ext (fun t => t = k ∨ (k + 2 ≤ t ∧ t ≤ k + 8)) O w G W ∧ ∃ lv' m1 u q m2, Ob W G k X (Afp wv lf tg ld lv') ∧ Sls W G (k + 2) 1 lv' 4 [Abb m1, Ak9 u, Aht q, Abb m2] ∧ Ada W G (k + 3) m1 (mk2 p dd) ∧ Abx W G (k + 5) u p ⟨0, 0⟩ ∧ Ai6 W G (k + 6) q dd tg rf (Abe tg rf) ∧ Ada W G (k + 7) m2 (mk2 p dd)
theorem Awm {W : World} {G : Om} {k X N1 N2 : Nat} {wv dv : Value} {lf tg : Int} {ld : Bool} {p dd : Spt} (hx : Ob W G k X (Afp wv lf tg ld dv)) (h1 : Ob W G 0 N1 (spl p)) (h2 : Ob W G 0 N2 (spl dd)) :
 W.cell? ⟨X, 2, none⟩ = some (.int .i64 tg) ∧ W.cell? ⟨N1, 0, none⟩ = some (.int .i64 p.b) ∧ W.cell? ⟨N1, 1, none⟩ = some (.int .i64 p.q) ∧ W.cell? ⟨N1, 2, none⟩ = some (.int .i64 p.s) ∧ W.cell? ⟨N2, 0, none⟩ = some (.int .i64 dd.b) ∧ W.cell? ⟨N2, 1, none⟩ = some (.int .i64 dd.q) ∧ W.cell? ⟨N2, 2, none⟩ = some (.int .i64 dd.s) :=
 ⟨hx.c 2 _ rfl, h1.c 0 _ rfl, h1.c 1 _ rfl, h1.c 2 _ rfl, h2.c 0 _ rfl, h2.c 1 _ rfl, h2.c 2 _ rfl⟩
def Bbx (w : World) (O : Om) (k : Nat) (p dd : Spt) (N1 N2 : Nat) (wx : World) : Prop := Ext (fun t => t = k ∨ (k + 2 ≤ t ∧ t ≤ k + 8)) O w O wx ∧ Ob wx O 0 N1 (spl p) ∧ Ob wx O 0 N2 (spl dd) ∧ Below w.heap.size w wx
section
variable {X : Nat} {w : World} {O : Om} {B : Wb} {f : Cf} {s : AW} {k : Nat}
theorem Bck {tg rf : Int} {ld : Bool} {p dd : Spt} {wv dv : Value} {way : List Spt} (i : Nat) (hx : Ob w O k X (Afp wv ((i : Int) + 1) tg ld dv)) (hS : Sls w O (k + 1) 3 wv way.length (way.flatMap spl)) (hl : way.length ≤ 8192) (hi : way[i]? = some p) (hi1 : way[i + 1]? = some dd) (hp : p.ok) (hdd : dd.ok) (t0 : 0 ≤ tg) (t1 : tg ≤ 255) (r0 : -9223372036854775808 ≤ rf) (r1 : rf ≤ 9223372036854775807) (hk : 10 ≤ k) (hhi : Hh O w) :
 Calls Tryz.prog 204 #[.pointer (some ⟨X, 0, none⟩), .int .i64 rf] w fun e w' => e = .returned (.tuple #[]) ∧ ∃ G, Azp w O k X wv ((i : Int) + 1) tg rf ld p dd w' G := by
 have hil := (List.getElem?_eq_some_iff.1 hi1).1
 obtain ⟨A, o, c, rfl, -⟩ := hS.open (by omega)
 obtain ⟨a1, a2, a3⟩ := Abu way i p hi
 obtain ⟨b1, b2, b3⟩ := Abu way (i + 1) dd hi1
 have u1 := hS.c _ _ a1
 have u2 := hS.c _ _ a2
 have u3 := hS.c _ _ a3
 have v1 := hS.c _ _ b1
 have v2 := hS.c _ _ b2
 have v3 := hS.c _ _ b3
 rw [← Nat.add_assoc] at u2 u3 v2 v3
 obtain ⟨n, hn⟩ := exq way.length
 rw [← hn] at hil hl hx hS ⊢
 obtain ⟨x0, x1⟩ := hx.c2
 have hj : (i : Int) + 1 < n := by omega
 have hj1 : (i : Int) < n := by omega
 have hwi : IntKind.i64.wrap (i : Int) = (i : Int) := by simp [IntKind.wrap, IntKind.bits, IntKind.signed]; omega
 have hi0 : (0 : Int) ≤ (i : Int) := by omega
 have hXl : X < w.heap.size := hx.lt
 have hAl : A < w.heap.size := hS.lt.1
 obtain ⟨j, hje⟩ := exq (i + 1)
 have hje2 : (i : Int) + 1 = (j : Int) := by omega
 have hje3 : (j : Int) - 1 = (i : Int) := by omega
 rw [← hje] at v1 v2 v3
 rw [hje2] at x1 hj hx ⊢
 have HX := hQd (aN hx hS)
 have HP := hQd (aN hp hdd)
 have HH := hQd hhi
 have HR := hQd (aN t0 (aN t1 r1))
 obtain ⟨pb, hpb⟩ := exq p.b
 obtain ⟨pq, hpq⟩ := exq p.q
 obtain ⟨ps, hps⟩ := exq p.s
 obtain ⟨qb, hqb⟩ := exq dd.b
 obtain ⟨qq, hqq⟩ := exq dd.q
 obtain ⟨qs, hqs⟩ := exq dd.s
 rw [← hpb] at u1
 rw [← hpq] at u2
 rw [← hps] at u3
 rw [← hqb] at v1
 rw [← hqq] at v2
 rw [← hqs] at v3
 have HPE := hQd (aN hpb (aN hpq (aN hps (aN hqb (aN hqq hqs)))))
 clear hx hS hp hdd hhi hil hi hi1 a1 a2 a3 b1 b2 b3 hn hje hpb hpq hps hqb hqq hqs t0 t1 r1 r0
 go_enter Tryz.func204, Tryz.ntmps204
 go_wp2_with fail
 go_cut [4, 5] (fun a b wx => ∃ N1 N2 : Nat, a = .pointer (some ⟨N1, 0, none⟩) ∧ b = .pointer (some ⟨N2, 0, none⟩) ∧ Bbx w O k p dd N1 N2 wx)
 case first =>
  go_region
  · go_wp2_with fail
    go_meet
    case rel =>
     refine ⟨w.heap.size, w.heap.size + 1, rfl, rfl, ?_⟩
     obtain ⟨rfl, rfl, rfl, rfl, rfl, rfl⟩ := HPE.out
     obtain ⟨e1, a1⟩ := Aau (S := fun t => t = k ∨ (k + 2 ≤ t ∧ t ≤ k + 8)) HH.out #[.int .i64 p.b, .int .i64 p.q, .int .i64 p.s] 95 w.heap.size rfl
     obtain ⟨e2, a2⟩ := Aau (S := fun t => t = k ∨ (k + 2 ≤ t ∧ t ≤ k + 8)) e1.hi #[.int .i64 dd.b, .int .i64 dd.q, .int .i64 dd.s] 95 (w.heap.size + 1) (by simp)
     have b2 := (Below.refl _ (w.alloc (.cells #[.int .i64 p.b, .int .i64 p.q, .int .i64 p.s] 95))).alloc (Nat.le_refl _) (.cells #[.int .i64 dd.b, .int .i64 dd.q, .int .i64 dd.s] 95)
     have b3 := Aaa ((w.alloc (.cells #[.int .i64 p.b, .int .i64 p.q, .int .i64 p.s] 95)).alloc (.cells #[.int .i64 dd.b, .int .i64 dd.q, .int .i64 dd.s] 95))
     have x1 := (a1.below b2).below b3
     have x2 := a2.below b3
     exact ⟨(e1.trans e2).below b3, x1, x2, ((bal _ _).trans (b2.mono (by simp <;> omega))).trans (b3.mono (by simp <;> omega))⟩
  go_wp2_with fail
  go_meet
  case rel =>
   refine ⟨w.heap.size + 1, w.heap.size, rfl, rfl, ?_⟩
   obtain ⟨rfl, rfl, rfl, rfl, rfl, rfl⟩ := HPE.out
   obtain ⟨e1, a1⟩ := Aau (S := fun t => t = k ∨ (k + 2 ≤ t ∧ t ≤ k + 8)) HH.out #[.int .i64 dd.b, .int .i64 dd.q, .int .i64 dd.s] 95 w.heap.size rfl
   obtain ⟨e2, a2⟩ := Aau (S := fun t => t = k ∨ (k + 2 ≤ t ∧ t ≤ k + 8)) e1.hi #[.int .i64 p.b, .int .i64 p.q, .int .i64 p.s] 95 (w.heap.size + 1) (by simp)
   have b2 := (Below.refl _ (w.alloc (.cells #[.int .i64 dd.b, .int .i64 dd.q, .int .i64 dd.s] 95))).alloc (Nat.le_refl _) (.cells #[.int .i64 p.b, .int .i64 p.q, .int .i64 p.s] 95)
   have b3 := Aaa ((w.alloc (.cells #[.int .i64 dd.b, .int .i64 dd.q, .int .i64 dd.s] 95)).alloc (.cells #[.int .i64 p.b, .int .i64 p.q, .int .i64 p.s] 95))
   have x2 := (a1.below b2).below b3
   have x1 := a2.below b3
   exact ⟨(e1.trans e2).below b3, x1, x2, ((bal _ _).trans (b2.mono (by simp <;> omega))).trans (b3.mono (by simp <;> omega))⟩
 case rest =>
 obtain ⟨N1, N2, rfl, rfl, hcc⟩ := hcut
 have H0 := hQd (aN hcc.1 (aN hcc.2.1 (aN hcc.2.2.1 (HX.out.1.below hcc.2.2.2))))
 obtain ⟨W, rfl⟩ := exq wc
 clear hcc x0 x1 u1 u2 u3 v1 v2 v3 hj hj1 hje2 hje3 hwi hi0 HX HPE HH
 go_upto_region 2 with fail
 refine Ad7 19 (S := fun w' => w'.cell? ⟨X, 2, none⟩ = some (.int .i64 tg) ∧ w'.cell? ⟨N1, 0, none⟩ = some (.int .i64 p.b) ∧ w'.cell? ⟨N1, 1, none⟩ = some (.int .i64 p.q) ∧ w'.cell? ⟨N1, 2, none⟩ = some (.int .i64 p.s) ∧ w'.cell? ⟨N2, 0, none⟩ = some (.int .i64 dd.b) ∧ w'.cell? ⟨N2, 1, none⟩ = some (.int .i64 dd.q) ∧ w'.cell? ⟨N2, 2, none⟩ = some (.int .i64 dd.s)) (by kernel_rfl) ?sA (fun hH0 => ?rA)
 case sA => exact Awm (H0.out.2.2.2.below (Aaa _)) (H0.out.2.1.below (Aaa _)) (H0.out.2.2.1.below (Aaa _))
 have E0 := hQd (H0.out.1.below (Aaa W))
 have X0 := hQd (H0.out.2.2.2.below (Aaa W))
 have A0 := hQd (H0.out.2.1.below (Aaa W))
 have C0 := hQd (H0.out.2.2.1.below (Aaa W))
 obtain ⟨wd, hwd⟩ := exq W.drew
 rw [← hwd] at hH0 E0 X0 A0 C0 ⊢
 clear hwd H0
 refine' Aem [0,1,3,6,7,8,9,10,11,14] (by kernel_rfl) (fun _ _ _ _ h => h) hH0 ?_
 iterate 10 ((try simp only [zz]); refine' tky (List.getElem?_toArray.trans rfl) (Or.inl ⟨by rfl, ?_⟩) ?_; rotate_left; · intro w hSw; (try dsimp only at hSw); go_simp; try with_reducible rfl)
 refine tk0 ?_
 try simp only [zz, Adk]
 refine Aad (rs := [2]) (by kernel_rfl) (by simp) ?_
 refine' Aab.cons (List.getElem?_toArray.trans rfl) (fun K hK => ?st11) ?more11
 case st11 =>
  go_simp
  refine' Calls.mono (Awt p dd HP.out.1 HP.out.2 (k + 3) (by omega) A0.out C0.out E0.out.hi) ?c12
  rintro e w12 ⟨m12, G12, rfl, e12, a12⟩
  have E12 := hQd (E0.out.trans (e12.mono (T := fun t => t = k ∨ (k + 2 ≤ t ∧ t ≤ k + 8)) (fun t _ h => by omega)))
  have X12 := hQd (X0.out.ext e12)
  have A12 := hQd (A0.out.ext e12)
  have C12 := hQd (C0.out.ext e12)
  have M12 := hQd a12
  clear a12 e12 E0 X0 A0 C0
  try go_wp2_with fail
  refine hK.out _ _ ?s12 (fun hH12 => ?r12)
  case s12 => ((try dsimp only); exact Awm X12.out A12.out C12.out)
  clear hK K hH0
  try simp only [zz]
  refine Aad (rs := [4]) (by kernel_rfl) (by simp) ?_
  refine' Aab.cons (List.getElem?_toArray.trans rfl) (fun K hK => ?st13) ?more13
  case st13 =>
   go_simp
   refine' Calls.mono (Aee (k := k + 5) HP.out.1 E12.out.hi) ?c14
   rintro e w14 ⟨m14, rfl, G14, e14, a14⟩
   have E14 := hQd (E12.out.trans (e14.mono (T := fun t => t = k ∨ (k + 2 ≤ t ∧ t ≤ k + 8)) (fun t _ h => by omega)))
   have X14 := hQd (X12.out.ext e14)
   have A14 := hQd (A12.out.ext e14)
   have C14 := hQd (C12.out.ext e14)
   have M14 := hQd (M12.out.ext e14)
   have U14 := hQd a14
   clear a14 e14 E12 X12 A12 C12 M12
   try go_wp2_with fail
   refine hK.out _ _ ?s14 (fun hH14 => ?r14)
   case s14 => ((try dsimp only); exact Awm X14.out A14.out C14.out)
   clear hK K hH12
   refine' Aem [5] (by kernel_rfl) (fun _ _ _ _ h => h) hH14 ?_
   iterate 1 ((try simp only [zz]); refine' tky (List.getElem?_toArray.trans rfl) (Or.inl ⟨by rfl, ?_⟩) ?_; rotate_left; · intro w hSw; (try dsimp only at hSw); go_simp; try with_reducible rfl)
   refine tk0 ?_
   try simp only [zz, Adk]
   refine Aad (rs := [12]) (by kernel_rfl) (by simp) ?_
   refine' Aab.cons (List.getElem?_toArray.trans rfl) (fun K hK => ?st16) ?more16
   case st16 =>
    go_simp
    refine' Calls.mono (Ai0 (k := k + 6) dd tg rf HP.out.2 E14.out.hi HR.out.1 HR.out.2.1 HR.out.2.2) ?c17
    rintro e w17 ⟨m17, rfl, G17, e17, a17⟩
    have E17 := hQd (E14.out.trans (e17.mono (T := fun t => t = k ∨ (k + 2 ≤ t ∧ t ≤ k + 8)) (fun t _ h => by omega)))
    have X17 := hQd (X14.out.ext e17)
    have A17 := hQd (A14.out.ext e17)
    have C17 := hQd (C14.out.ext e17)
    have M17 := hQd (M14.out.ext e17)
    have U17 := hQd (U14.out.ext e17)
    have P17 := hQd a17
    clear a17 e17 E14 X14 A14 C14 M14 U14
    try go_wp2_with fail
    refine hK.out _ _ ?s17 (fun hH17 => ?r17)
    case s17 => ((try dsimp only); exact Awm X17.out A17.out C17.out)
    clear hK K hH14
    refine' Aem [13] (by kernel_rfl) (fun _ _ _ _ h => h) hH17 ?_
    iterate 1 ((try simp only [zz]); refine' tky (List.getElem?_toArray.trans rfl) (Or.inl ⟨by rfl, ?_⟩) ?_; rotate_left; · intro w hSw; (try dsimp only at hSw); go_simp; try with_reducible rfl)
    refine tk0 ?_
    try simp only [zz, Adk]
    refine Aad (rs := [15]) (by kernel_rfl) (by simp) ?_
    refine' Aab.cons (List.getElem?_toArray.trans rfl) (fun K hK => ?st19) ?more19
    case st19 =>
     go_simp
     refine' Calls.mono (Awt p dd HP.out.1 HP.out.2 (k + 7) (by omega) A17.out C17.out E17.out.hi) ?c20
     rintro e w20 ⟨m20, G20, rfl, e20, a20⟩
     have E20 := hQd (E17.out.trans (e20.mono (T := fun t => t = k ∨ (k + 2 ≤ t ∧ t ≤ k + 8)) (fun t _ h => by omega)))
     have X20 := hQd (X17.out.ext e20)
     have A20 := hQd (A17.out.ext e20)
     have C20 := hQd (C17.out.ext e20)
     have M20 := hQd (M17.out.ext e20)
     have U20 := hQd (U17.out.ext e20)
     have P20 := hQd (P17.out.ext e20)
     have Q20 := hQd a20
     clear a20 e20 E17 X17 A17 C17 M17 U17 P17
     try go_wp2_with fail
     refine hK.out _ _ ?s20 (fun hH20 => ?r20)
     case s20 => ((try dsimp only); exact Awm X20.out A20.out C20.out)
     clear hK K hH17
     try simp only [zz]
     refine Aad (rs := [16]) (by kernel_rfl) (by simp) ?_
     refine' Aab.cons (List.getElem?_toArray.trans rfl) (fun K hK => ?st21) ?more21
     case st21 =>
      go_simp
      refine hK.out _ _ ?s22 (fun hH22 => ?r22)
      case s22 => ((try dsimp only); exact Awm (X20.out.below (bal _ _)) (A20.out.below (bal _ _)) (C20.out.below (bal _ _)))
      obtain ⟨H22, ea22, ta22, ka22⟩ := Aar E20.out.hi (k + 2) #[Abb m12, Ak9 m14, Aht m17, Abb m20] 317 w20.heap.size rfl
      obtain ⟨v22, hv22⟩ := exq (w20.alloc (.cells #[Abb m12, Ak9 m14, Aht m17, Abb m20] 317))
      obtain ⟨N22, hn22⟩ := exq w20.heap.size
      change Ac3 _ _ _ _ _ _ _ _ _ (w20.alloc (.cells #[Abb m12, Ak9 m14, Aht m17, Abb m20] 317))
      rw [← hv22] at ea22 ta22 ka22 ⊢
      rw [← hn22] at ta22 ⊢
      have E22 := hQd (E20.out.trans (ea22.mono (T := fun t => t = k ∨ (k + 2 ≤ t ∧ t ≤ k + 8)) (fun t _ h => by omega)))
      have X22 := hQd (X20.out.ext ea22)
      have A22 := hQd (A20.out.ext ea22)
      have C22 := hQd (C20.out.ext ea22)
      have M22 := hQd (M20.out.ext ea22)
      have U22 := hQd (U20.out.ext ea22)
      have P22 := hQd (P20.out.ext ea22)
      have Q22 := hQd (Q20.out.ext ea22)
      have L22 := hQd (Sls.of_ob (size := 1) (n := 4) ta22 rfl (by unfold maxLen; decide))
      replace hH22 := Awm X22.out A22.out C22.out
      have z4 := X22.out.c 4 _ rfl
      have zf := X22.out.f 4
      clear hv22 hn22 ea22 ta22 ka22 E20 X20 A20 C20 M20 U20 P20 Q20
      clear hK K hH20
      try simp only [zz]
      refine Aad (rs := [17]) (by kernel_rfl) (by simp) ?_
      refine' Aab.cons (List.getElem?_toArray.trans rfl) (fun K hK => ?st23) ?more23
      case st23 =>
       go_simp
       refine hK.out _ _ ?s24 (fun hH24 => ?r24)
       case s24 => ((try dsimp only); exact Awm X22.out A22.out C22.out)
       clear hK K hH22
       refine' Aem [18] (by kernel_rfl) (fun _ _ _ _ h => h) hH24 ?_
       iterate 1 ((try simp only [zz]); refine' tky (List.getElem?_toArray.trans rfl) (Or.inl ⟨by rfl, ?_⟩) ?_; rotate_left; · intro w hSw; (try dsimp only at hSw); go_simp; try with_reducible rfl)
       refine tk0 ?_
       try simp only [zz, Adk]
       refine Aad (rs := [19]) (by kernel_rfl) (by simp) ?_
       refine' Aab.last (List.getElem?_toArray.trans rfl) (fun K hK => ?st26) ?more26
       case st26 =>
        go_simp
        refine hK.out _ _ ?_
        clear hK K
        try simp only [zz]
        refine Ad8 (by kernel_rfl) ?_ _
        go_wp2_with fail
        go_end0
        have E7 := Aaf (j := 4) (v := .slice (some ⟨N22, 0, none⟩) 4 4) E22.out.hi X22.out hk
        exact ⟨rfl, H22, E22.out.trans (E7.mono fun t _ h => .inl h), _, m12, m14, m17, m20, X22.out.set 4 (.slice (some ⟨N22, 0, none⟩) 4 4) (by simp [Afp]), L22.out.ext E7, M22.out.ext E7, U22.out.ext E7, P22.out.ext E7, Q22.out.ext E7⟩
       exact Aab.nil
      exact Aab.nil
     exact Aab.nil
    exact Aab.nil
   exact Aab.nil
  exact Aab.nil
 exact Aab.nil
end
end
section
open Go.RowKit Go.Shelf
def Adi (w : World) (O : Om) (B : Wb) (f : Cf) (k X : Nat) (y : AW × Hom) (W : World) : Prop := ∃ G, Ext (SX k (k + 8)) O w G W ∧ PW W G B f y.1 ∧ Amx W G k X y.2
section
variable {X : Nat} {w : World} {O : Om} {B : Wb} {f : Cf} {s : AW} {k : Nat}
theorem Agb {i A o n c pb : Nat} {tg : Int} {ld : Bool} {wv : Value} {way : List Spt} {p : Spt} {ty : TypeId} {r r' : Value} {fS : FuncId} {ov : Bool} {Q1 Q2 : World → Prop}
 (hx : Ob w O k X (Afp wv ((i : Int) + 1) tg ld (.slice (some ⟨A, o, none⟩) (n + 1) c))) (hA : A < w.heap.size) (hW : Sls w O (k + 1) 3 wv way.length (way.flatMap spl)) (hl : way.length ≤ 8192) (hi : way[i]? = some p)
 (a0 : w.cell? ⟨A, o, none⟩ = some (.iface ty r)) (hm : ∀ W, (method 464 ty r "Step").run Tryz.prog W = .ok (fS, r') W) (hK : ∀ args W, (callFunc fS args).run Tryz.prog W = .ok (.enter fS args) W)
 (HC : ∀ W, Below w.heap.size w W → Calls Tryz.prog fS #[r', .pointer (some ⟨pb, 0, none⟩)] W fun e w' => ∃ v, e = .returned v ∧ Q1 w') (HO : ∀ w1, Q1 w1 → C1 205 X w1 fun e w' => e = .returned (.tuple #[]) ∧ Q2 w')
 (HV : ∀ w2, Q2 w2 → ∃ n : Int, w2.cell? ⟨X, 1, none⟩ = some (.int .i64 n) ∧ (n == 0) = ov) :
 C2 202 X pb w fun e w' => e = .returned (.bool ov) ∧ Q2 w' := by
 have HCC := hQd HC
 have HOO := hQd HO
 have HVV := hQd HV
 have hil := (List.getElem?_eq_some_iff.1 hi).1
 obtain ⟨A2, o2, c2, rfl, -⟩ := hW.open (by omega)
 obtain ⟨b1, b2, b3⟩ := Abu way i p hi
 have u1 := hW.c _ _ b1
 have u2 := hW.c _ _ b2
 have u3 := hW.c _ _ b3
 rw [← Nat.add_assoc] at u2 u3
 have hXl : X < w.heap.size := hx.lt
 have hAl : A2 < w.heap.size := hW.lt.1
 obtain ⟨x0, x1, -, -, x4⟩ := hx.c5
 have hj1 : (i : Int) < way.length := by omega
 have hwi : IntKind.i64.wrap (i : Int) = (i : Int) := by simp [IntKind.wrap, IntKind.bits, IntKind.signed]; omega
 have hi0 : (0 : Int) ≤ (i : Int) := by omega
 have hi1 : (i : Int) + 1 - 1 = (i : Int) := by omega
 have hn : (0 : Int) < (n : Int) + 1 := by omega
 have hne : ((i : Int) + 1 == 0) = false := by simp; omega
 have HV0 := hQd (Afb x1)
 obtain ⟨pb', hpb⟩ := exq p.b
 obtain ⟨pq, hpq⟩ := exq p.q
 obtain ⟨ps, hps⟩ := exq p.s
 rw [← hpb] at u1
 rw [← hpq] at u2
 rw [← hps] at u3
 rw [hne] at HV0
 clear HC HO HV hx hW hi hil b1 b2 b3 hpb hpq hps
 go_enter Tryz.func202, Tryz.ntmps202
 go_wp2_with fail
 refine HV0.out.mono ?_
 rintro e w' ⟨rfl, rfl⟩
 go_wp2_with fail
 go_region
 have hb1 := bal w (.cells #[.int .i64 pb', .int .i64 pq, .int .i64 ps] 95)
 have hb2 := Aaa (w.alloc (.cells #[.int .i64 pb', .int .i64 pq, .int .i64 ps] 95))
 have hb3 := hb1.trans (hb2.mono (by simp <;> omega))
 have y4 := (hb3.cell (p := ⟨X, 4, none⟩) hXl).trans x4
 have y0 := (hb3.cell (p := ⟨A, o, none⟩) hA).trans a0
 have HB := hQd hb3
 clear hb1 hb2 hb3 x0 x1 x4 a0 u1 u2 u3 hXl hAl hA hj1 hwi hi0 hi1 hne
 generalize (w.alloc (.cells #[.int .i64 pb', .int .i64 pq, .int .i64 ps] 95)).drew = W at y4 y0 HB ⊢
 go_wp2_with fail
 refine (HCC.out _ HB.out).mono ?_
 rintro e w1 ⟨v, rfl, q1⟩
 have HQ1 := hQd q1
 clear q1 y4 y0 hm hK hn
 go_wp2_with fail
 refine (HOO.out _ HQ1.out).mono ?_
 rintro e w2 ⟨rfl, q2⟩
 obtain ⟨m, y1, hov⟩ := HVV.out _ q2
 have HQ2 := hQd q2
 have HOV := hQd (Afb y1)
 rw [hov] at HOV
 clear q2 y1 hov
 go_wp2_with fail
 refine HOV.out.mono ?_
 rintro e w' ⟨rfl, rfl⟩
 go_wp2_with fail
 go_ret
 exact ⟨rfl, HQ2.out⟩
theorem Avf {z : Hom} {s1 : AW} {W : World} {G : Om} {wv lv : Value} {m1 u q m2 : Nat} (h3 : 3 ≤ z.ln) (h6 : z.ln ≤ 6) (hk0 : 0 ≤ z.k) (e : Ext (SX k (k + 8)) O w G W) (hP : PW W G B f s1) (x : Ob W G k X (Afp wv (z.k + 1) z.tag true lv)) (hw : Sls W G (k + 1) 3 wv z.way.length (z.way.flatMap spl)) (l : Sls W G (k + 2) 1 lv (7 - z.ln).toNat ([Abb m1, Ak9 u, Aht q, Abb m2].drop (z.ln - 3).toNat))
 (b1 : z.ln = 3 → Ada W G (k + 3) m1 z.m1) (b2 : z.ln ≤ 4 → Abx W G (k + 5) u z.s z.o) (b3 : z.ln ≤ 5 → Ai6 W G (k + 6) q z.t z.tag z.ref z.u) (b4 : Ada W G (k + 7) m2 z.m2) : Adi w O B f k X (s1, z) W := by
 refine ⟨G, e, hP, wv, lv, true, ?_, fun _ => hw, fun g => ?_, fun _ => rfl, fun g => ?_, fun _ => ⟨m1, u, q, m2, l, b1, b2, b3, fun _ => b4⟩⟩
 · rw [show max (z.k + 1) 0 = z.k + 1 from by omega]; exact x
 · dsimp only at g; omega
 dsimp only at g; omega
theorem Adi.left {y : AW × Hom} {W : World} (h : Adi w O B f k X y W) (hk : Ahh y.2) : ∃ n : Int, W.cell? ⟨X, 1, none⟩ = some (.int .i64 n) ∧ (n == 0) = (y.2.ln == 0) := by
 obtain ⟨G, e, P, wv, dv, ld, x, -⟩ := h
 refine ⟨_, x.c 1 _ rfl, ?_⟩
 rw [Bool.eq_iff_iff]
 simp only [beq_iff_eq]
 have h1 := hk.k
 have h2 := hk.z0
 omega
theorem Bdb {z : Hom} (hz : Ahh z) (hP : PW w O B f s) (hM : Amx w O k X z) (hl : z.ln = 3) (hk : 10 ≤ k) (hhi : Hh O w) (n0 : 0 ≤ s.n) (n1 : s.n ≤ 4611686018427387904) :
 C2 202 X B.p w fun e w' => e = .returned (.bool ((Aas (s, z)).2.ln == 0)) ∧ Adi w O B f k X (Aas (s, z)) w' := by
 have hz2 := hz.step (s := s) hP.bd
 have hkk := hz.k (by omega)
 have hlen := hz.len
 have hm1 := hz.m1 hl
 have ho3 := hz.o (by omega) (by omega)
 have hu0 := hz.u0 (by omega) (by omega)
 have hsk := hz.sok (by omega)
 have hm2 := hz.m2 (by omega)
 rw [Akt s z hl] at hz2 ⊢
 obtain ⟨wv, dv, ld, hx, hw, -, hld, -, hparts⟩ := hM.ex
 obtain ⟨m1, u', q, m2, hS, b1, b2, b3, b4⟩ := hparts (by omega)
 replace hw := hw (by omega)
 obtain rfl := hld (by omega)
 replace b1 := b1 hl
 replace b2 := b2 (by omega)
 replace b3 := b3 (by omega)
 replace b4 := b4 (by omega)
 rw [show max (z.k + 1) 0 = z.k + 1 from by omega] at hx
 obtain ⟨ln, kk, way, tag, ref, l1, o, u, l2⟩ := z
 have hsp : Ag1 way kk = Hom.s ⟨ln, kk, way, tag, ref, l1, o, u, l2⟩ := rfl
 dsimp only at *
 subst hl
 obtain ⟨i, rfl⟩ : ∃ i : Nat, kk = i := ⟨kk.toNat, by omega⟩
 obtain ⟨a, l, rfl, ha0, ha1⟩ := hm1.head
 obtain ⟨A, off, c, rfl, hc1, hc2⟩ := hS.open (by decide)
 have a0 := hS.c 0 _ rfl
 rw [Nat.add_zero] at a0
 have hil : i < way.length := by omega
 simp only [List.headD_cons, List.tail_cons] at hz2 ⊢
 refine Agb (n := 3) (i := i) (p := way[i]) (Q1 := fun w1 => ∃ G1, Ext (SX k (k + 8)) O w G1 w1 ∧ PW w1 G1 B f (Ab0 a 1 s) ∧ Ada w1 G1 (k + 3) m1 l ∧ Ob w1 G1 k X (Afp wv ((i : Int) + 1) tag true (.slice (some ⟨A, off, none⟩) 4 c)) ∧ Sls w1 G1 (k + 1) 3 wv way.length (way.flatMap spl) ∧ Sls w1 G1 (k + 2) 1 (.slice (some ⟨A, off, none⟩) 4 c) 4 [Abb m1, Ak9 u', Aht q, Abb m2] ∧ Abx w1 G1 (k + 5) u' (Ag1 way i) o ∧ Ai6 w1 G1 (k + 6) q (Ag1 way (i + 1)) tag ref u ∧ Ada w1 G1 (k + 7) m2 l2) (Q2 := Adi w O B f k X (Ab0 a 1 s, ⟨if l = [] then 4 else 3, i, way, tag, ref, l, o, u, l2⟩)) hx hS.lt.1 hw hlen (List.getElem?_eq_getElem hil) a0 (Ae6 _) (Aao Tryz.func249 (by kernel_rfl) (by kernel_rfl)) (fun W hb => ?_) ?_ (fun w2 h2 => h2.left hz2)
 · refine (Afa a l (k + 3) (hP.below hhi hb) (b1.below hb) (by have := hm1.2.1; simp at this; omega) (by omega) (Ext.of_below (S := fun _ => False) hhi hb).hi ha0 ha1 n0 n1).mono ?_
   rintro e w1 ⟨rfl, G1, e1, P1, k1⟩
   exact ⟨_, rfl, G1, (Ext.of_below hhi hb).trans (e1.mono fun t _ h => SX.mono (by omega) (by omega) h), P1, k1, (hx.below hb).ext e1 (SX.not (by omega) (by omega)), (hw.below hb).ext e1 (SX.not (by omega) (by omega)), (hS.below hb).ext e1 (SX.not (by omega) (by omega)), (b2.below hb).ext e1 (SX.not (by omega) (by omega)), (b3.below hb).ext e1 (SX.not (by omega) (by omega)), (b4.below hb).ext e1 (SX.not (by omega) (by omega)) (SX.not (by omega) (by omega))⟩
 rintro w1 ⟨G1, E1, P1, k1, x1, w1', s1, c2, c3, c4⟩
 have hm := Aa4.mark (k := k) k1 ⟨by omega, by omega⟩
 by_cases hl0 : l = []
 · subst hl0
   have hou := Aa4.out (k := k) c2 hsk (by omega) (by omega)
   rw [show (o.ln == 3) = false from by simp; omega] at hou
   rw [if_pos rfl]
   refine (Asx (l := [Aht q, Abb m2]) x1 s1 hm hou hk E1.hi).mono ?_
   rintro e w2 ⟨rfl, G2, e2, rfl, lv2, x2, s2⟩
   exact ⟨rfl, Avf (m1 := m1) (u := u') (q := q) (m2 := m2) (by dsimp only; omega) (by dsimp only; omega) (by dsimp only; omega) (E1.trans (e2.mono fun t _ h => .inr (by omega))) (P1.ext e2) x2 (w1'.ext e2) s2 (fun h => absurd h (by dsimp only; omega)) (fun _ => c2.ext e2) (fun _ => c3.ext e2) (c4.ext e2)⟩
 rw [show (l.length == 0) = false from by cases l with
  | nil => exact absurd rfl hl0
  | cons a l => rfl] at hm
 rw [if_neg hl0]
 refine (Ami (l := [Ak9 u', Aht q, Abb m2]) x1 s1 hm hk E1.hi).mono ?_
 rintro e w2 ⟨rfl, hb⟩
 exact ⟨rfl, Avf (m1 := m1) (u := u') (q := q) (m2 := m2) (by dsimp only; omega) (by dsimp only; omega) (by dsimp only; omega) (E1.below hb) (P1.below E1.hi hb) (x1.below hb) (w1'.below hb) (s1.below hb) (fun _ => k1.below hb) (fun _ => c2.below hb) (fun _ => c3.below hb) (c4.below hb)⟩
theorem Bda {z : Hom} (hz : Ahh z) (hP : PW w O B f s) (hM : Amx w O k X z) (hl : z.ln = 4) (hk : 10 ≤ k) (hhi : Hh O w) (n0 : 0 ≤ s.n) (n1 : s.n ≤ 4611686018427387904) :
 C2 202 X B.p w fun e w' => e = .returned (.bool ((Aas (s, z)).2.ln == 0)) ∧ Adi w O B f k X (Aas (s, z)) w' := by
 have hz2 := hz.step (s := s) hP.bd
 have hkk := hz.k (by omega)
 have hlen := hz.len
 have ho3 := hz.o (by omega) (by omega)
 have hu0 := hz.u0 (by omega) (by omega)
 have hsk := hz.sok (by omega)
 have htk := hz.tok (by omega)
 have hm2 := hz.m2 (by omega)
 rw [Aks s z hl] at hz2 ⊢
 obtain ⟨wv, dv, ld, hx, hw, -, hld, -, hparts⟩ := hM.ex
 obtain ⟨m1, u', q, m2, hS, -, b2, b3, b4⟩ := hparts (by omega)
 replace hw := hw (by omega)
 obtain rfl := hld (by omega)
 replace b2 := b2 (by omega)
 replace b3 := b3 (by omega)
 replace b4 := b4 (by omega)
 rw [show max (z.k + 1) 0 = z.k + 1 from by omega] at hx
 obtain ⟨p, hpe⟩ := exq z.s
 rw [← hpe] at hsk b2 hz2 ⊢
 obtain ⟨ln, kk, way, tag, ref, l1, o, u, l2⟩ := z
 dsimp only at *
 subst hl
 obtain ⟨i, rfl⟩ : ∃ i : Nat, kk = i := ⟨kk.toNat, by omega⟩
 have hpe2 : p = Ag1 way i := hpe
 obtain ⟨A, off, c, rfl, hc1, hc2⟩ := hS.open (by decide)
 have a0 := hS.c 0 _ rfl
 rw [Nat.add_zero] at a0
 have hil : i < way.length := by omega
 have hln := Ab5 p s o ho3.1
 have HA := fun (W : World) (hb : Below w.heap.size w W) => Aiy o (hP.below hhi hb) (b2.below hb) hsk ho3.1 ho3.2.1 ho3.2.2 (show 10 ≤ k + 5 by omega) (Ext.of_below (S := fun _ => False) hhi hb).hi n0 n1
 obtain ⟨y, hy⟩ := exq (Aaj p s o)
 rw [← hy] at HA hln hz2 ⊢
 obtain ⟨s1, o1⟩ := y
 dsimp only at HA hln hz2 ⊢
 have hov := Abt (o := o1) (by omega)
 have huo : u.ln = 0 ∨ u.ln = 3 := by rw [hu0]; unfold Abe; split; exact .inl rfl; exact .inr rfl
 have huv : ¬ (1 ≤ tag ∧ tag ≤ 255 ∧ 1 ≤ ref) → u.ln = 3 := fun h => by rw [hu0]; unfold Abe; rw [if_neg h]
 have hovu := Abt (o := u) (by omega)
 obtain ⟨ln2, hln2⟩ : ∃ x : Int, x = (if Aa7 o1 = true then (if Aa7 u = true then 6 else 5) else 4) := ⟨_, rfl⟩
 rw [← hln2] at hz2 ⊢
 refine Agb (n := 2) (i := i) (p := way[i]) (Q1 := fun w1 => ∃ G1, Ext (SX k (k + 8)) O w G1 w1 ∧ PW w1 G1 B f s1 ∧ Abx w1 G1 (k + 5) u' p o1 ∧ Ob w1 G1 k X (Afp wv ((i : Int) + 1) tag true (.slice (some ⟨A, off, none⟩) 3 c)) ∧ Sls w1 G1 (k + 1) 3 wv way.length (way.flatMap spl) ∧ Sls w1 G1 (k + 2) 1 (.slice (some ⟨A, off, none⟩) 3 c) 3 [Ak9 u', Aht q, Abb m2] ∧ Ai6 w1 G1 (k + 6) q (Ag1 way (i + 1)) tag ref u ∧ Ada w1 G1 (k + 7) m2 l2) (Q2 := Adi w O B f k X (s1, ⟨ln2, i, way, tag, ref, l1, o1, u, l2⟩)) hx hS.lt.1 hw hlen (List.getElem?_eq_getElem hil) a0 (Ao0 _) (Aao Tryz.func252 (by kernel_rfl) (by kernel_rfl)) (fun W hb => ?_) ?_ (fun w2 h2 => h2.left hz2)
 · refine (HA W hb).mono ?_
   rintro e w1 ⟨rfl, G1, e1, P1, k1⟩
   exact ⟨_, rfl, G1, (Ext.of_below hhi hb).trans (e1.mono fun t _ h => SX.mono (by omega) (by omega) h), P1, k1, (hx.below hb).ext e1 (SX.not (by omega) (by omega)), (hw.below hb).ext e1 (SX.not (by omega) (by omega)), (hS.below hb).ext e1 (SX.not (by omega) (by omega)), (b3.below hb).ext e1 (SX.not (by omega) (by omega)), (b4.below hb).ext e1 (SX.not (by omega) (by omega)) (SX.not (by omega) (by omega))⟩
 rintro w1 ⟨G1, E1, P1, k1, x1, w1', s1', c3, c4⟩
 have hou := Aa4.out (k := k) k1 hsk (by omega) (by omega)
 have hpu := Aa4.put (k := k) c3 htk (by omega) (by omega) huv
 have hm := Aa4.mark (k := k) c4 ⟨by omega, by omega⟩
 rw [show (l2.length == 0) = false from by cases l2 with
  | nil => exact absurd rfl hm2.1
  | cons a l => rfl] at hm
 by_cases h1 : o1.ln = 3
 · have b1 : (o1.ln == 3) = true := by simp [h1]
   rw [b1] at hou hov
   rw [hov, if_pos rfl] at hln2
   rcases huo with h2 | h2
   · have b5 : (u.ln == 3) = false := by simp [h2]
     rw [b5] at hpu hovu
     rw [hovu, if_neg (by decide)] at hln2
     subst hln2
     refine (Asx (l := [Abb m2]) x1 s1' hou hpu hk E1.hi).mono ?_
     rintro e w2 ⟨rfl, G2, e2, rfl, lv2, x2, s2⟩
     exact ⟨rfl, Avf (m1 := m1) (u := u') (q := q) (m2 := m2) (by dsimp only; omega) (by dsimp only; omega) (by dsimp only; omega) (E1.trans (e2.mono fun t _ h => .inr (by omega))) (P1.ext e2) x2 (w1'.ext e2) s2 (fun h => absurd h (by dsimp only; omega)) (fun h => absurd h (by dsimp only; omega)) (fun _ => c3.ext e2) (c4.ext e2)⟩
   have b5 : (u.ln == 3) = true := by simp [h2]
   rw [b5] at hpu hovu
   rw [hovu, if_pos rfl] at hln2
   subst hln2
   refine (Ba5 (l := []) x1 s1' hou hpu hm hk E1.hi).mono ?_
   rintro e w2 ⟨rfl, G2, e2, rfl, lv2, x2, s2⟩
   exact ⟨rfl, Avf (m1 := m1) (u := u') (q := q) (m2 := m2) (by dsimp only; omega) (by dsimp only; omega) (by dsimp only; omega) (E1.trans (e2.mono fun t _ h => .inr (by omega))) (P1.ext e2) x2 (w1'.ext e2) s2 (fun h => absurd h (by dsimp only; omega)) (fun h => absurd h (by dsimp only; omega)) (fun h => absurd h (by dsimp only; omega)) (c4.ext e2)⟩
 have b1 : (o1.ln == 3) = false := by simp [h1]
 rw [b1] at hou hov
 rw [hov, if_neg (by decide)] at hln2
 subst hln2
 subst hpe2
 refine (Ami (l := [Aht q, Abb m2]) x1 s1' hou hk E1.hi).mono ?_
 rintro e w2 ⟨rfl, hb⟩
 exact ⟨rfl, Avf (m1 := m1) (u := u') (q := q) (m2 := m2) (by dsimp only; omega) (by dsimp only; omega) (by dsimp only; omega) (E1.below hb) (P1.below E1.hi hb) (x1.below hb) (w1'.below hb) (s1'.below hb) (fun h => absurd h (by dsimp only; omega)) (fun _ => k1.below hb) (fun _ => c3.below hb) (c4.below hb)⟩
theorem Bc9 {z : Hom} (hz : Ahh z) (hP : PW w O B f s) (hM : Amx w O k X z) (hl : z.ln = 5) (hk : 10 ≤ k) (hhi : Hh O w) (n0 : 0 ≤ s.n) (n1 : s.n ≤ 4611686018427387904) :
 C2 202 X B.p w fun e w' => e = .returned (.bool ((Aas (s, z)).2.ln == 0)) ∧ Adi w O B f k X (Aas (s, z)) w' := by
 have hz2 := hz.step (s := s) hP.bd
 have hkk := hz.k (by omega)
 have hlen := hz.len
 have hu := hz.u hl
 have ht0 := hz.t0
 have hrf := hz.rf
 have htk := hz.tok (by omega)
 have hm2 := hz.m2 (by omega)
 rw [Akr s z hl] at hz2 ⊢
 obtain ⟨wv, dv, ld, hx, hw, -, hld, -, hparts⟩ := hM.ex
 obtain ⟨m1, u', q, m2, hS, -, -, b3, b4⟩ := hparts (by omega)
 replace hw := hw (by omega)
 obtain rfl := hld (by omega)
 replace b3 := b3 (by omega)
 replace b4 := b4 (by omega)
 rw [show max (z.k + 1) 0 = z.k + 1 from by omega] at hx
 obtain ⟨p, hpe⟩ := exq z.t
 rw [← hpe] at htk b3 hz2 ⊢
 obtain ⟨ln, kk, way, tag, ref, l1, o, u, l2⟩ := z
 dsimp only at *
 subst hl
 obtain ⟨i, rfl⟩ : ∃ i : Nat, kk = i := ⟨kk.toNat, by omega⟩
 have hpe2 : p = Ag1 way (i + 1) := hpe
 obtain ⟨A, off, c, rfl, hc1, hc2⟩ := hS.open (by decide)
 have a0 := hS.c 0 _ rfl
 rw [Nat.add_zero] at a0
 have hil : i < way.length := by omega
 have hv : 1 ≤ tag ∧ tag ≤ 255 ∧ 1 ≤ ref := ⟨hu.2.2.2.1, ht0.2, hu.2.2.2.2⟩
 have hln := Acw p tag ref s u hu.1
 have HA := fun (W : World) (hb : Below w.heap.size w W) => Aiw u (hP.below hhi hb) ((b3.below hb).1 hv) htk hu.1 hu.2.1 hu.2.2.1 (show 10 ≤ k + 6 by omega) (Ext.of_below (S := fun _ => False) hhi hb).hi n0 n1 ht0.1 ht0.2 (by omega) hrf.2
 obtain ⟨y, hy⟩ := exq (Aap p tag ref s u)
 rw [← hy] at HA hln hz2 ⊢
 obtain ⟨s1, u1⟩ := y
 dsimp only at HA hln hz2 ⊢
 have hov := Abt (o := u1) (by omega)
 obtain ⟨ln2, hln2⟩ : ∃ x : Int, x = (if Aa7 u1 = true then 6 else 5) := ⟨_, rfl⟩
 rw [← hln2] at hz2 ⊢
 refine Agb (n := 1) (i := i) (p := way[i]) (Q1 := fun w1 => ∃ G1, Ext (SX k (k + 8)) O w G1 w1 ∧ PW w1 G1 B f s1 ∧ Adu w1 G1 (k + 6) q p tag ref u1 ∧ Ob w1 G1 k X (Afp wv ((i : Int) + 1) tag true (.slice (some ⟨A, off, none⟩) 2 c)) ∧ Sls w1 G1 (k + 1) 3 wv way.length (way.flatMap spl) ∧ Sls w1 G1 (k + 2) 1 (.slice (some ⟨A, off, none⟩) 2 c) 2 [Aht q, Abb m2] ∧ Ada w1 G1 (k + 7) m2 l2) (Q2 := Adi w O B f k X (s1, ⟨ln2, i, way, tag, ref, l1, o, u1, l2⟩)) hx hS.lt.1 hw hlen (List.getElem?_eq_getElem hil) a0 (Aly _) (Aao Tryz.func261 (by kernel_rfl) (by kernel_rfl)) (fun W hb => ?_) ?_ (fun w2 h2 => h2.left hz2)
 · refine (HA W hb).mono ?_
   rintro e w1 ⟨rfl, G1, e1, P1, k1⟩
   exact ⟨_, rfl, G1, (Ext.of_below hhi hb).trans (e1.mono fun t _ h => SX.mono (by omega) (by omega) h), P1, k1, (hx.below hb).ext e1 (SX.not (by omega) (by omega)), (hw.below hb).ext e1 (SX.not (by omega) (by omega)), (hS.below hb).ext e1 (SX.not (by omega) (by omega)), (b4.below hb).ext e1 (SX.not (by omega) (by omega)) (SX.not (by omega) (by omega))⟩
 rintro w1 ⟨G1, E1, P1, k1, x1, w1', s1', c4⟩
 have c3 : Ai6 w1 G1 (k + 6) q p tag ref u1 := ⟨fun _ => k1, fun h => absurd hv h⟩
 have hpu := Aa4.put (k := k) c3 htk (by omega) (by omega) (fun h => absurd hv h)
 have hm := Aa4.mark (k := k) c4 ⟨by omega, by omega⟩
 rw [show (l2.length == 0) = false from by cases l2 with
  | nil => exact absurd rfl hm2.1
  | cons a l => rfl] at hm
 by_cases h1 : u1.ln = 3
 · have b1 : (u1.ln == 3) = true := by simp [h1]
   rw [b1] at hpu hov
   rw [hov, if_pos rfl] at hln2
   subst hln2
   refine (Asx (l := []) x1 s1' hpu hm hk E1.hi).mono ?_
   rintro e w2 ⟨rfl, G2, e2, rfl, lv2, x2, s2⟩
   exact ⟨rfl, Avf (m1 := m1) (u := u') (q := q) (m2 := m2) (by dsimp only; omega) (by dsimp only; omega) (by dsimp only; omega) (E1.trans (e2.mono fun t _ h => .inr (by omega))) (P1.ext e2) x2 (w1'.ext e2) s2 (fun h => absurd h (by dsimp only; omega)) (fun h => absurd h (by dsimp only; omega)) (fun h => absurd h (by dsimp only; omega)) (c4.ext e2)⟩
 have b1 : (u1.ln == 3) = false := by simp [h1]
 rw [b1] at hpu hov
 rw [hov, if_neg (by decide)] at hln2
 subst hln2
 subst hpe2
 refine (Ami (l := [Abb m2]) x1 s1' hpu hk E1.hi).mono ?_
 rintro e w2 ⟨rfl, hb⟩
 exact ⟨rfl, Avf (m1 := m1) (u := u') (q := q) (m2 := m2) (by dsimp only; omega) (by dsimp only; omega) (by dsimp only; omega) (E1.below hb) (P1.below E1.hi hb) (x1.below hb) (w1'.below hb) (s1'.below hb) (fun h => absurd h (by dsimp only; omega)) (fun h => absurd h (by dsimp only; omega)) (fun _ => c3.below hb) (c4.below hb)⟩
theorem Bc8 {z : Hom} (hz : Ahh z) (hP : PW w O B f s) (hM : Amx w O k X z) (hl : z.ln = 6) (hk : 10 ≤ k) (hhi : Hh O w) (n0 : 0 ≤ s.n) (n1 : s.n ≤ 4611686018427387904) :
 C2 202 X B.p w fun e w' => e = .returned (.bool ((Aas (s, z)).2.ln == 0)) ∧ Adi w O B f k X (Aas (s, z)) w' := by
 have hz2 := hz.step (s := s) hP.bd
 have hkk := hz.k (by omega)
 have hlen := hz.len
 have hm2 := hz.m2 (by omega)
 obtain ⟨y, hy⟩ := exq (Aas (s, z))
 have hy2 := hy.trans (Akq s z hl)
 rw [← hy] at hz2 ⊢
 clear hy
 obtain ⟨wv, dv, ld, hx, hw, -, hld, -, hparts⟩ := hM.ex
 obtain ⟨m1, u', q, m2, hS, -, -, -, b4⟩ := hparts (by omega)
 replace hw := hw (by omega)
 obtain rfl := hld (by omega)
 replace b4 := b4 (by omega)
 rw [show max (z.k + 1) 0 = z.k + 1 from by omega] at hx
 obtain ⟨ln, kk, way, tag, ref, l1, o, u, l2⟩ := z
 dsimp only at *
 subst hl
 obtain ⟨i, rfl⟩ : ∃ i : Nat, kk = i := ⟨kk.toNat, by omega⟩
 obtain ⟨a, l, rfl, ha0, ha1⟩ := hm2.head
 obtain ⟨A, off, c, rfl, hc1, hc2⟩ := hS.open (by decide)
 have a0 := hS.c 0 _ rfl
 rw [Nat.add_zero] at a0
 have hil : i < way.length := by omega
 refine Agb (n := 0) (i := i) (p := way[i]) (Q1 := fun w1 => ∃ G1, Ext (SX k (k + 8)) O w G1 w1 ∧ PW w1 G1 B f (Ab0 a 1 s) ∧ Ada w1 G1 (k + 7) m2 l ∧ Ob w1 G1 k X (Afp wv ((i : Int) + 1) tag true (.slice (some ⟨A, off, none⟩) 1 c)) ∧ Sls w1 G1 (k + 1) 3 wv way.length (way.flatMap spl) ∧ Sls w1 G1 (k + 2) 1 (.slice (some ⟨A, off, none⟩) 1 c) 1 [Abb m2]) (Q2 := Adi w O B f k X y) hx hS.lt.1 hw hlen (List.getElem?_eq_getElem hil) a0 (Ae6 _) (Aao Tryz.func249 (by kernel_rfl) (by kernel_rfl)) (fun W hb => ?_) ?_ (fun w2 h2 => h2.left hz2)
 · refine (Afa a l (k + 7) (hP.below hhi hb) (b4.below hb) (by have := hm2.2.1; simp at this; omega) (by omega) (Ext.of_below (S := fun _ => False) hhi hb).hi ha0 ha1 n0 n1).mono ?_
   rintro e w1 ⟨rfl, G1, e1, P1, k1⟩
   exact ⟨_, rfl, G1, (Ext.of_below hhi hb).trans (e1.mono fun t _ h => SX.mono (by omega) (by omega) h), P1, k1, (hx.below hb).ext e1 (SX.not (by omega) (by omega)), (hw.below hb).ext e1 (SX.not (by omega) (by omega)), (hS.below hb).ext e1 (SX.not (by omega) (by omega))⟩
 rintro w1 ⟨G1, E1, P1, k1, x1, w1', s1⟩
 have hm := Aa4.mark (k := k) k1 ⟨by omega, by omega⟩
 by_cases hl0 : l = []
 · subst hl0
   have hz2e : y = (Ab0 a 1 s, ⟨if (i : Int) - 1 < 0 then 0 else 1, (i : Int) - 1, way, tag, ref, l1, o, u, []⟩) := by rw [hy2]; rfl
   refine (Ba4 x1 s1 hm (by omega) (by omega) hk E1.hi).mono ?_
   rintro e w2 ⟨rfl, G2, e2, rfl, lv2, x2, s2⟩
   subst hz2e
   refine ⟨rfl, _, E1.trans (e2.mono fun t _ h => .inr (by omega)), P1.ext e2, wv, lv2, false, ?_, fun _ => w1'.ext e2, fun _ => rfl, fun h => absurd h (by dsimp only; split <;> omega), fun _ => ⟨0, s2, rfl⟩, fun h => absurd h (by dsimp only; split <;> omega)⟩
   dsimp only
   rw [show max ((i : Int) - 1 + 1) 0 = (i : Int) + 1 - 1 from by omega]
   exact x2
 rw [show (l.length == 0) = false from by cases l with
  | nil => exact absurd rfl hl0
  | cons a l => rfl] at hm
 have hz2e : y = (Ab0 a 1 s, ⟨6, i, way, tag, ref, l1, o, u, l⟩) := by
  rw [hy2]
  show (Ab0 a 1 s, if l = [] then _ else _) = _
  rw [if_neg hl0]
  rfl
 subst hz2e
 refine (Ami (l := []) x1 s1 hm hk E1.hi).mono ?_
 rintro e w2 ⟨rfl, hb⟩
 exact ⟨rfl, Avf (m1 := m1) (u := u') (q := q) (m2 := m2) (by dsimp only; omega) (by dsimp only; omega) (by dsimp only; omega) (E1.below hb) (P1.below E1.hi hb) (x1.below hb) (w1'.below hb) (s1.below hb) (fun h => absurd h (by dsimp only; omega)) (fun h => absurd h (by dsimp only; omega)) (fun h => absurd h (by dsimp only; omega)) (k1.below hb)⟩
end
end
end Go.Proofs.YthbodknlhkapdaaGreat
