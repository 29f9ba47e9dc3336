/- Layer 17: what the program's Hops do with an item. Layer 17: what a hop does with an item: the parts. Layer 17: a step of the program's Hops: lines 3 to 6. Layer 17: a step of the program's Hops: lines 1 and 2; the whole step. Layer 18: a step of the program's Room, whole. -/
import Derived.Test.YtfnmdafpdcgcmaaGreatZ4
import Derived.Test.YtfnmdafpdcgcmaaGreatZ3
import Derived.Test.YtfnmdafpdcgcmaaGreatZ5
import Derived.Test.YtfnmdafpdcgcmaaGreatZ1
import Derived.Deep.DeepCutAuto
namespace Go.Proofs.YtfnmdafpdcgcmaaGreat
set_option linter.unusedSimpArgs false
section
set_option linter.unusedVariables false
set_option maxHeartbeats 2000000
set_option maxRecDepth 100000
open Go.RowKit Go.Shelf
section
variable {X : Nat} {w : World} {O : Om} {B : Wb} {f : Cf} {s : AW} {k : Nat}
theorem c_row1 (p q : Spt) (hp : p.ok) (hq : q.ok) {N1 N2 : Nat} (k : Nat) (hk : 10 ≤ k) (n1 : Ob w O 0 N1 (spl p)) (n2 : Ob w O 0 N2 (spl q)) (hhi : ∀ j, O j ≠ 0 → j < w.heap.size) :
 Calls Tryz.prog 112 #[.pointer (some ⟨N1, 0, none⟩), .pointer (some ⟨N2, 0, none⟩)] w fun e w' => ∃ m G, e = .returned (IMark m) ∧ Ext (fun t => t = k ∨ t = k + 1) O w G w' ∧ MkAt w' G k m (mk2 p q) := by
 have a0 := n1.c 0 _ rfl
 have a1 := n1.c 1 _ rfl
 have b0 := n2.c 0 _ rfl
 have b1 := n2.c 1 _ rfl
 obtain ⟨pb, hpb⟩ : ∃ z, z = p.b := ⟨_, rfl⟩
 obtain ⟨pq, hpq⟩ : ∃ z, z = p.q := ⟨_, rfl⟩
 obtain ⟨qb, hqb⟩ : ∃ z, z = q.b := ⟨_, rfl⟩
 obtain ⟨qq, hqq⟩ : ∃ z, z = q.q := ⟨_, rfl⟩
 rw [← hpb] at a0
 rw [← hpq] at a1
 rw [← hqb] at b0
 rw [← hqq] at b1
 obtain ⟨e1, t1⟩ := alloc_nbH (S := fun t => t = k ∨ t = k + 1) hhi #[.int .i64 pb, .int .i64 pq, .int .i64 qb, .int .i64 qq] 51 w.heap.size rfl
 have HE := Lib.hid (And.intro e1 t1)
 obtain ⟨W, hW⟩ : ∃ W, W = w.alloc (.cells #[.int .i64 pb, .int .i64 pq, .int .i64 qb, .int .i64 qq] 51) := ⟨_, rfl⟩
 have HC : Hid (Calls Tryz.prog 113 #[.slice (some ⟨w.heap.size, 0, none⟩) 2 2] W fun e w' => ∃ X, RP (fun t => t = k ∨ t = k + 1) W O (.pointer (some ⟨X, 0, none⟩)) (fun W G => MkAt W G k X (mk2 p q)) e w') := by
  rw [← hW] at e1 t1
  subst hpb hpq hqb hqq
  exact Lib.hid (c_NewMark2 p q hp hq k hk (by rw [t1.o]; omega) ⟨Nat.le_refl _, by unfold maxLen; decide⟩ t1.lt (t1.c 0 _ rfl) (t1.c 1 _ rfl) (t1.c 2 _ rfl) (t1.c 3 _ rfl) e1.hi)
 clear hp hq n1 n2 hhi e1 t1 hpb hpq hqb hqq
 go_enter Tryz.func112, Tryz.ntmps112
 go_wp2_with fail
 rw [← hW] at HE ⊢
 refine HC.out.mono ?_
 rintro e w' ⟨m, rfl, G, e2, m2⟩
 have H2 := Lib.hid (And.intro (HE.out.1.trans e2) m2)
 clear e2 m2 hW
 go_wp2_with fail
 go_ret
 exact ⟨m, G, rfl, H2.out.1, H2.out.2⟩
end
end
section
set_option linter.unusedVariables false
set_option maxHeartbeats 20000000
set_option maxRecDepth 100000
open Go.RowKit Go.Shelf
def RowPost (w : World) (O : Om) (k X : Nat) (wv : Value) (lf tg rf : Int) (ld : Bool) (p dd : Spt) (W : World) (G : Om) : Prop :=
 Ext (fun t => t = k ∨ (k + 2 ≤ t ∧ t ≤ k + 8)) O w G W ∧ ∃ lv' m1 u q m2, Ob W G k X (hoCs wv lf tg ld lv') ∧ Sls W G (k + 2) 1 lv' 4 [IMark m1, IOut u, IPut q, IMark m2] ∧ MkAt W G (k + 3) m1 (mk2 p dd) ∧ OutAt W G (k + 5) u p ⟨0, 0⟩ ∧ PvAt W G (k + 6) q dd tg rf (ptNew tg rf) ∧ MkAt W G (k + 7) m2 (mk2 p dd)
theorem rowS {W : World} {G : Om} {k X N1 N2 : Nat} {wv dv : Value} {lf tg : Int} {ld : Bool} {p dd : Spt} (hx : Ob W G k X (hoCs wv lf tg ld dv)) (h1 : Ob W G 0 N1 (spl p)) (h2 : Ob W G 0 N2 (spl dd)) :
 W.cell? ⟨X, 2, none⟩ = some (.int .i64 tg) ∧ W.cell? ⟨N1, 0, none⟩ = some (.int .i64 p.b) ∧ W.cell? ⟨N1, 1, none⟩ = some (.int .i64 p.q) ∧ W.cell? ⟨N1, 2, none⟩ = some (.int .i64 p.s) ∧ W.cell? ⟨N2, 0, none⟩ = some (.int .i64 dd.b) ∧ W.cell? ⟨N2, 1, none⟩ = some (.int .i64 dd.q) ∧ W.cell? ⟨N2, 2, none⟩ = some (.int .i64 dd.s) :=
 ⟨hx.c 2 _ rfl, h1.c 0 _ rfl, h1.c 1 _ rfl, h1.c 2 _ rfl, h2.c 0 _ rfl, h2.c 1 _ rfl, h2.c 2 _ rfl⟩
def RowCut (w : World) (O : Om) (k : Nat) (p dd : Spt) (N1 N2 : Nat) (wx : World) : Prop := Ext (fun t => t = k ∨ (k + 2 ≤ t ∧ t ≤ k + 8)) O w O wx ∧ Ob wx O 0 N1 (spl p) ∧ Ob wx O 0 N2 (spl dd) ∧ Below w.heap.size w wx
section
variable {X : Nat} {w : World} {O : Om} {B : Wb} {f : Cf} {s : AW} {k : Nat}
theorem c_row {tg rf : Int} {ld : Bool} {p dd : Spt} {wv dv : Value} {way : List Spt} (i : Nat) (hx : Ob w O k X (hoCs wv ((i : Int) + 1) tg ld dv)) (hS : Sls w O (k + 1) 3 wv way.length (way.flatMap spl)) (hl : way.length ≤ 8192) (hi : way[i]? = some p) (hi1 : way[i + 1]? = some dd) (hp : p.ok) (hdd : dd.ok) (t0 : 0 ≤ tg) (t1 : tg ≤ 255) (r0 : -9223372036854775808 ≤ rf) (r1 : rf ≤ 9223372036854775807) (hk : 10 ≤ k) (hhi : ∀ j, O j ≠ 0 → j < w.heap.size) :
 Calls Tryz.prog 110 #[.pointer (some ⟨X, 0, none⟩), .int .i64 rf] w fun e w' => e = .returned (.tuple #[]) ∧ ∃ G, RowPost w O k X wv ((i : Int) + 1) tg rf ld p dd w' G := by
 have hil := (List.getElem?_eq_some_iff.1 hi1).1
 obtain ⟨A, o, c, rfl, -⟩ := hS.open (by omega)
 obtain ⟨a1, a2, a3⟩ := flat3_at way i p hi
 obtain ⟨b1, b2, b3⟩ := flat3_at way (i + 1) dd hi1
 have u1 := hS.c _ _ a1
 have u2 := hS.c _ _ a2
 have u3 := hS.c _ _ a3
 have v1 := hS.c _ _ b1
 have v2 := hS.c _ _ b2
 have v3 := hS.c _ _ b3
 rw [← Nat.add_assoc] at u2 u3 v2 v3
 obtain ⟨n, hn⟩ : ∃ n, n = way.length := ⟨_, rfl⟩
 rw [← hn] at hil hl hx hS ⊢
 have x0 := hx.c 0 _ rfl
 have x1 := hx.c 1 _ rfl
 have hj : (i : Int) + 1 < n := by omega
 have hj1 : (i : Int) < n := by omega
 have hwi : IntKind.i64.wrap (i : Int) = (i : Int) := by simp [IntKind.wrap, IntKind.bits, IntKind.signed]; omega
 have hi0 : (0 : Int) ≤ (i : Int) := by omega
 have hXl : X < w.heap.size := hx.lt
 have hAl : A < w.heap.size := hS.lt.1
 obtain ⟨j, hje⟩ : ∃ j, j = i + 1 := ⟨_, rfl⟩
 have hje2 : (i : Int) + 1 = (j : Int) := by omega
 have hje3 : (j : Int) - 1 = (i : Int) := by omega
 rw [← hje] at v1 v2 v3
 rw [hje2] at x1 hj hx ⊢
 have HX := Lib.hid (And.intro hx hS)
 have HP := Lib.hid (And.intro hp hdd)
 have HH := Lib.hid hhi
 have HR := Lib.hid (And.intro t0 (And.intro t1 r1))
 obtain ⟨pb, hpb⟩ : ∃ z, z = p.b := ⟨_, rfl⟩
 obtain ⟨pq, hpq⟩ : ∃ z, z = p.q := ⟨_, rfl⟩
 obtain ⟨ps, hps⟩ : ∃ z, z = p.s := ⟨_, rfl⟩
 obtain ⟨qb, hqb⟩ : ∃ z, z = dd.b := ⟨_, rfl⟩
 obtain ⟨qq, hqq⟩ : ∃ z, z = dd.q := ⟨_, rfl⟩
 obtain ⟨qs, hqs⟩ : ∃ z, z = dd.s := ⟨_, rfl⟩
 rw [← hpb] at u1
 rw [← hpq] at u2
 rw [← hps] at u3
 rw [← hqb] at v1
 rw [← hqq] at v2
 rw [← hqs] at v3
 have HPE := Lib.hid (And.intro hpb (And.intro hpq (And.intro hps (And.intro hqb (And.intro hqq hqs)))))
 clear hx hS hp hdd hhi hil hi hi1 a1 a2 a3 b1 b2 b3 hn hje hpb hpq hps hqb hqq hqs t0 t1 r1 r0
 go_enter Tryz.func110, Tryz.ntmps110
 go_wp2_with fail
 go_cut [4, 5] (fun a b wx => ∃ N1 N2 : Nat, a = .pointer (some ⟨N1, 0, none⟩) ∧ b = .pointer (some ⟨N2, 0, none⟩) ∧ RowCut w O k p dd N1 N2 wx)
 case first =>
  go_region
  · go_wp2_with fail
    go_meet
    case rel =>
     refine ⟨w.heap.size, w.heap.size + 1, rfl, rfl, ?_⟩
     obtain ⟨rfl, rfl, rfl, rfl, rfl, rfl⟩ := HPE.out
     obtain ⟨e1, a1⟩ := alloc_nbH (S := fun t => t = k ∨ (k + 2 ≤ t ∧ t ≤ k + 8)) HH.out #[.int .i64 p.b, .int .i64 p.q, .int .i64 p.s] 56 w.heap.size rfl
     obtain ⟨e2, a2⟩ := alloc_nbH (S := fun t => t = k ∨ (k + 2 ≤ t ∧ t ≤ k + 8)) e1.hi #[.int .i64 dd.b, .int .i64 dd.q, .int .i64 dd.s] 56 (w.heap.size + 1) (by simp)
     have b2 := (Below.refl _ (w.alloc (.cells #[.int .i64 p.b, .int .i64 p.q, .int .i64 p.s] 56))).alloc (Nat.le_refl _) (.cells #[.int .i64 dd.b, .int .i64 dd.q, .int .i64 dd.s] 56)
     have b3 := drew_below ((w.alloc (.cells #[.int .i64 p.b, .int .i64 p.q, .int .i64 p.s] 56)).alloc (.cells #[.int .i64 dd.b, .int .i64 dd.q, .int .i64 dd.s] 56))
     have x1 := (a1.below b2).below b3
     have x2 := a2.below b3
     exact ⟨(e1.trans e2).below b3, x1, x2, (((Below.refl _ _).alloc (Nat.le_refl _) _).trans (b2.mono (by simp <;> omega))).trans (b3.mono (by simp <;> omega))⟩
  · go_wp2_with fail
    go_meet
    case rel =>
     refine ⟨w.heap.size + 1, w.heap.size, rfl, rfl, ?_⟩
     obtain ⟨rfl, rfl, rfl, rfl, rfl, rfl⟩ := HPE.out
     obtain ⟨e1, a1⟩ := alloc_nbH (S := fun t => t = k ∨ (k + 2 ≤ t ∧ t ≤ k + 8)) HH.out #[.int .i64 dd.b, .int .i64 dd.q, .int .i64 dd.s] 56 w.heap.size rfl
     obtain ⟨e2, a2⟩ := alloc_nbH (S := fun t => t = k ∨ (k + 2 ≤ t ∧ t ≤ k + 8)) e1.hi #[.int .i64 p.b, .int .i64 p.q, .int .i64 p.s] 56 (w.heap.size + 1) (by simp)
     have b2 := (Below.refl _ (w.alloc (.cells #[.int .i64 dd.b, .int .i64 dd.q, .int .i64 dd.s] 56))).alloc (Nat.le_refl _) (.cells #[.int .i64 p.b, .int .i64 p.q, .int .i64 p.s] 56)
     have b3 := drew_below ((w.alloc (.cells #[.int .i64 dd.b, .int .i64 dd.q, .int .i64 dd.s] 56)).alloc (.cells #[.int .i64 p.b, .int .i64 p.q, .int .i64 p.s] 56))
     have x2 := (a1.below b2).below b3
     have x1 := a2.below b3
     exact ⟨(e1.trans e2).below b3, x1, x2, (((Below.refl _ _).alloc (Nat.le_refl _) _).trans (b2.mono (by simp <;> omega))).trans (b3.mono (by simp <;> omega))⟩
 case rest =>
 obtain ⟨N1, N2, rfl, rfl, hcc⟩ := hcut
 have H0 := Lib.hid (And.intro hcc.1 (And.intro hcc.2.1 (And.intro hcc.2.2.1 (HX.out.1.below hcc.2.2.2))))
 obtain ⟨W, rfl⟩ : ∃ W, W = wc := ⟨_, rfl⟩
 clear hcc x0 x1 u1 u2 u3 v1 v2 v3 hj hj1 hje2 hje3 hwi hi0 HX HPE HH
 go_upto_region 2 with fail
 refine wp_region_F 19 (S := fun w' => w'.cell? ⟨X, 2, none⟩ = some (.int .i64 tg) ∧ w'.cell? ⟨N1, 0, none⟩ = some (.int .i64 p.b) ∧ w'.cell? ⟨N1, 1, none⟩ = some (.int .i64 p.q) ∧ w'.cell? ⟨N1, 2, none⟩ = some (.int .i64 p.s) ∧ w'.cell? ⟨N2, 0, none⟩ = some (.int .i64 dd.b) ∧ w'.cell? ⟨N2, 1, none⟩ = some (.int .i64 dd.q) ∧ w'.cell? ⟨N2, 2, none⟩ = some (.int .i64 dd.s)) (by kernel_rfl) ?sA (fun hH0 => ?rA)
 case sA => exact rowS (H0.out.2.2.2.below (drew_below _)) (H0.out.2.1.below (drew_below _)) (H0.out.2.2.1.below (drew_below _))
 have E0 := Lib.hid (H0.out.1.below (drew_below W))
 have X0 := Lib.hid (H0.out.2.2.2.below (drew_below W))
 have A0 := Lib.hid (H0.out.2.1.below (drew_below W))
 have C0 := Lib.hid (H0.out.2.2.1.below (drew_below W))
 obtain ⟨wd, hwd⟩ : ∃ z, z = W.drew := ⟨_, rfl⟩
 rw [← hwd] at hH0 E0 X0 A0 C0 ⊢
 clear hwd H0
 try simp only [Act.put, List.setIfInBounds_toArray, List.set_cons_zero, List.set_cons_succ]
 refine' wpAnyF_take (i := 0) (List.getElem?_toArray.trans rfl) (by kernel_rfl) (by kernel_rfl) (by kernel_rfl) (by kernel_rfl) (fun _ _ _ h => h) (Or.inl ⟨by rfl, ?y1⟩) hH0 ?r1
 case y1 => (intro w hSw; (try dsimp only at hSw); go_simp; try with_reducible rfl)
 try simp only [Act.put, List.setIfInBounds_toArray, List.set_cons_zero, List.set_cons_succ]
 refine' wpAnyF_take (i := 1) (List.getElem?_toArray.trans rfl) (by kernel_rfl) (by kernel_rfl) (by kernel_rfl) (by kernel_rfl) (fun _ _ _ h => h) (Or.inl ⟨by rfl, ?y2⟩) hH0 ?r2
 case y2 => (intro w hSw; (try dsimp only at hSw); go_simp; try with_reducible rfl)
 try simp only [Act.put, List.setIfInBounds_toArray, List.set_cons_zero, List.set_cons_succ]
 refine' wpAnyF_take (i := 3) (List.getElem?_toArray.trans rfl) (by kernel_rfl) (by kernel_rfl) (by kernel_rfl) (by kernel_rfl) (fun _ _ _ h => h) (Or.inl ⟨by rfl, ?y3⟩) hH0 ?r3
 case y3 => (intro w hSw; (try dsimp only at hSw); go_simp; try with_reducible rfl)
 try simp only [Act.put, List.setIfInBounds_toArray, List.set_cons_zero, List.set_cons_succ]
 refine' wpAnyF_take (i := 6) (List.getElem?_toArray.trans rfl) (by kernel_rfl) (by kernel_rfl) (by kernel_rfl) (by kernel_rfl) (fun _ _ _ h => h) (Or.inl ⟨by rfl, ?y4⟩) hH0 ?r4
 case y4 => (intro w hSw; (try dsimp only at hSw); go_simp; try with_reducible rfl)
 try simp only [Act.put, List.setIfInBounds_toArray, List.set_cons_zero, List.set_cons_succ]
 refine' wpAnyF_take (i := 7) (List.getElem?_toArray.trans rfl) (by kernel_rfl) (by kernel_rfl) (by kernel_rfl) (by kernel_rfl) (fun _ _ _ h => h) (Or.inl ⟨by rfl, ?y5⟩) hH0 ?r5
 case y5 => (intro w hSw; (try dsimp only at hSw); go_simp; try with_reducible rfl)
 try simp only [Act.put, List.setIfInBounds_toArray, List.set_cons_zero, List.set_cons_succ]
 refine' wpAnyF_take (i := 8) (List.getElem?_toArray.trans rfl) (by kernel_rfl) (by kernel_rfl) (by kernel_rfl) (by kernel_rfl) (fun _ _ _ h => h) (Or.inl ⟨by rfl, ?y6⟩) hH0 ?r6
 case y6 => (intro w hSw; (try dsimp only at hSw); go_simp; try with_reducible rfl)
 try simp only [Act.put, List.setIfInBounds_toArray, List.set_cons_zero, List.set_cons_succ]
 refine' wpAnyF_take (i := 9) (List.getElem?_toArray.trans rfl) (by kernel_rfl) (by kernel_rfl) (by kernel_rfl) (by kernel_rfl) (fun _ _ _ h => h) (Or.inl ⟨by rfl, ?y7⟩) hH0 ?r7
 case y7 => (intro w hSw; (try dsimp only at hSw); go_simp; try with_reducible rfl)
 try simp only [Act.put, List.setIfInBounds_toArray, List.set_cons_zero, List.set_cons_succ]
 refine' wpAnyF_take (i := 10) (List.getElem?_toArray.trans rfl) (by kernel_rfl) (by kernel_rfl) (by kernel_rfl) (by kernel_rfl) (fun _ _ _ h => h) (Or.inl ⟨by rfl, ?y8⟩) hH0 ?r8
 case y8 => (intro w hSw; (try dsimp only at hSw); go_simp; try with_reducible rfl)
 try simp only [Act.put, List.setIfInBounds_toArray, List.set_cons_zero, List.set_cons_succ]
 refine' wpAnyF_take (i := 11) (List.getElem?_toArray.trans rfl) (by kernel_rfl) (by kernel_rfl) (by kernel_rfl) (by kernel_rfl) (fun _ _ _ h => h) (Or.inl ⟨by rfl, ?y9⟩) hH0 ?r9
 case y9 => (intro w hSw; (try dsimp only at hSw); go_simp; try with_reducible rfl)
 try simp only [Act.put, List.setIfInBounds_toArray, List.set_cons_zero, List.set_cons_succ]
 refine' wpAnyF_take (i := 14) (List.getElem?_toArray.trans rfl) (by kernel_rfl) (by kernel_rfl) (by kernel_rfl) (by kernel_rfl) (fun _ _ _ h => h) (Or.inl ⟨by rfl, ?y10⟩) hH0 ?r10
 case y10 => (intro w hSw; (try dsimp only at hSw); go_simp; try with_reducible rfl)
 try simp only [Act.put, List.setIfInBounds_toArray, List.set_cons_zero, List.set_cons_succ]
 refine wpAnyF_ready (rs := [2]) (by kernel_rfl) (by simp) ?_
 refine' AllReadyF.cons (List.getElem?_toArray.trans rfl) (fun K hK => ?st11) ?more11
 case st11 =>
  go_simp
  refine' Calls.mono (c_row1 p dd HP.out.1 HP.out.2 (k + 3) (by omega) A0.out C0.out E0.out.hi) ?c12
  rintro e w12 ⟨m12, G12, rfl, e12, a12⟩
  have E12 := Lib.hid (E0.out.trans (e12.mono (T := fun t => t = k ∨ (k + 2 ≤ t ∧ t ≤ k + 8)) (fun t _ h => by omega)))
  have X12 := Lib.hid (X0.out.ext e12 (by omega))
  have A12 := Lib.hid (A0.out.ext e12 (by omega))
  have C12 := Lib.hid (C0.out.ext e12 (by omega))
  have M12 := Lib.hid a12
  clear a12 e12 E0 X0 A0 C0
  try go_wp2_with fail
  refine hK.out _ _ ?s12 (fun hH12 => ?r12)
  case s12 => ((try dsimp only); exact rowS X12.out A12.out C12.out)
  clear hK K hH0
  try simp only [Act.put, List.setIfInBounds_toArray, List.set_cons_zero, List.set_cons_succ]
  refine wpAnyF_ready (rs := [4]) (by kernel_rfl) (by simp) ?_
  refine' AllReadyF.cons (List.getElem?_toArray.trans rfl) (fun K hK => ?st13) ?more13
  case st13 =>
   go_simp
   refine' Calls.mono (c_NewOut (k := k + 5) HP.out.1 E12.out.hi) ?c14
   rintro e w14 ⟨m14, rfl, G14, e14, a14⟩
   have E14 := Lib.hid (E12.out.trans (e14.mono (T := fun t => t = k ∨ (k + 2 ≤ t ∧ t ≤ k + 8)) (fun t _ h => by omega)))
   have X14 := Lib.hid (X12.out.ext e14 (by omega))
   have A14 := Lib.hid (A12.out.ext e14 (by omega))
   have C14 := Lib.hid (C12.out.ext e14 (by omega))
   have M14 := Lib.hid (M12.out.ext e14 (by omega) (by omega))
   have U14 := Lib.hid a14
   clear a14 e14 E12 X12 A12 C12 M12
   try go_wp2_with fail
   refine hK.out _ _ ?s14 (fun hH14 => ?r14)
   case s14 => ((try dsimp only); exact rowS X14.out A14.out C14.out)
   clear hK K hH12
   try simp only [Act.put, List.setIfInBounds_toArray, List.set_cons_zero, List.set_cons_succ]
   refine' wpAnyF_take (i := 5) (List.getElem?_toArray.trans rfl) (by kernel_rfl) (by kernel_rfl) (by kernel_rfl) (by kernel_rfl) (fun _ _ _ h => h) (Or.inl ⟨by rfl, ?y15⟩) hH14 ?r15
   case y15 => (intro w hSw; (try dsimp only at hSw); go_simp; try with_reducible rfl)
   try simp only [Act.put, List.setIfInBounds_toArray, List.set_cons_zero, List.set_cons_succ]
   refine wpAnyF_ready (rs := [12]) (by kernel_rfl) (by simp) ?_
   refine' AllReadyF.cons (List.getElem?_toArray.trans rfl) (fun K hK => ?st16) ?more16
   case st16 =>
    go_simp
    refine' Calls.mono (c_NewPutV (k := k + 6) dd tg rf HP.out.2 E14.out.hi HR.out.1 HR.out.2.1 HR.out.2.2) ?c17
    rintro e w17 ⟨m17, rfl, G17, e17, a17⟩
    have E17 := Lib.hid (E14.out.trans (e17.mono (T := fun t => t = k ∨ (k + 2 ≤ t ∧ t ≤ k + 8)) (fun t _ h => by omega)))
    have X17 := Lib.hid (X14.out.ext e17 (by omega))
    have A17 := Lib.hid (A14.out.ext e17 (by omega))
    have C17 := Lib.hid (C14.out.ext e17 (by omega))
    have M17 := Lib.hid (M14.out.ext e17 (by omega) (by omega))
    have U17 := Lib.hid (U14.out.ext e17 (by omega))
    have P17 := Lib.hid a17
    clear a17 e17 E14 X14 A14 C14 M14 U14
    try go_wp2_with fail
    refine hK.out _ _ ?s17 (fun hH17 => ?r17)
    case s17 => ((try dsimp only); exact rowS X17.out A17.out C17.out)
    clear hK K hH14
    try simp only [Act.put, List.setIfInBounds_toArray, List.set_cons_zero, List.set_cons_succ]
    refine' wpAnyF_take (i := 13) (List.getElem?_toArray.trans rfl) (by kernel_rfl) (by kernel_rfl) (by kernel_rfl) (by kernel_rfl) (fun _ _ _ h => h) (Or.inl ⟨by rfl, ?y18⟩) hH17 ?r18
    case y18 => (intro w hSw; (try dsimp only at hSw); go_simp; try with_reducible rfl)
    try simp only [Act.put, List.setIfInBounds_toArray, List.set_cons_zero, List.set_cons_succ]
    refine wpAnyF_ready (rs := [15]) (by kernel_rfl) (by simp) ?_
    refine' AllReadyF.cons (List.getElem?_toArray.trans rfl) (fun K hK => ?st19) ?more19
    case st19 =>
     go_simp
     refine' Calls.mono (c_row1 p dd HP.out.1 HP.out.2 (k + 7) (by omega) A17.out C17.out E17.out.hi) ?c20
     rintro e w20 ⟨m20, G20, rfl, e20, a20⟩
     have E20 := Lib.hid (E17.out.trans (e20.mono (T := fun t => t = k ∨ (k + 2 ≤ t ∧ t ≤ k + 8)) (fun t _ h => by omega)))
     have X20 := Lib.hid (X17.out.ext e20 (by omega))
     have A20 := Lib.hid (A17.out.ext e20 (by omega))
     have C20 := Lib.hid (C17.out.ext e20 (by omega))
     have M20 := Lib.hid (M17.out.ext e20 (by omega) (by omega))
     have U20 := Lib.hid (U17.out.ext e20 (by omega))
     have P20 := Lib.hid (P17.out.ext e20 (by omega))
     have Q20 := Lib.hid a20
     clear a20 e20 E17 X17 A17 C17 M17 U17 P17
     try go_wp2_with fail
     refine hK.out _ _ ?s20 (fun hH20 => ?r20)
     case s20 => ((try dsimp only); exact rowS X20.out A20.out C20.out)
     clear hK K hH17
     try simp only [Act.put, List.setIfInBounds_toArray, List.set_cons_zero, List.set_cons_succ]
     refine wpAnyF_ready (rs := [16]) (by kernel_rfl) (by simp) ?_
     refine' AllReadyF.cons (List.getElem?_toArray.trans rfl) (fun K hK => ?st21) ?more21
     case st21 =>
      go_simp
      refine hK.out _ _ ?s22 (fun hH22 => ?r22)
      case s22 => ((try dsimp only); exact rowS (X20.out.below ((Below.refl _ _).alloc (Nat.le_refl _) _)) (A20.out.below ((Below.refl _ _).alloc (Nat.le_refl _) _)) (C20.out.below ((Below.refl _ _).alloc (Nat.le_refl _) _)))
      obtain ⟨H22, ea22, ta22, ka22⟩ := alloc_ob E20.out.hi (k + 2) #[IMark m12, IOut m14, IPut m17, IMark m20] 214 w20.heap.size rfl
      obtain ⟨v22, hv22⟩ : ∃ v, v = w20.alloc (.cells #[IMark m12, IOut m14, IPut m17, IMark m20] 214) := ⟨_, rfl⟩
      obtain ⟨N22, hn22⟩ : ∃ x, x = w20.heap.size := ⟨_, rfl⟩
      change wpAnyF _ _ _ _ _ _ _ _ _ (w20.alloc (.cells #[IMark m12, IOut m14, IPut m17, IMark m20] 214))
      rw [← hv22] at ea22 ta22 ka22 ⊢
      rw [← hn22] at ta22 ⊢
      have E22 := Lib.hid (E20.out.trans (ea22.mono (T := fun t => t = k ∨ (k + 2 ≤ t ∧ t ≤ k + 8)) (fun t _ h => by omega)))
      have X22 := Lib.hid (X20.out.ext ea22 (by omega))
      have A22 := Lib.hid (A20.out.ext ea22 (by omega))
      have C22 := Lib.hid (C20.out.ext ea22 (by omega))
      have M22 := Lib.hid (M20.out.ext ea22 (by omega) (by omega))
      have U22 := Lib.hid (U20.out.ext ea22 (by omega))
      have P22 := Lib.hid (P20.out.ext ea22 (by omega))
      have Q22 := Lib.hid (Q20.out.ext ea22 (by omega) (by omega))
      have L22 := Lib.hid (Sls.of_ob (size := 1) (n := 4) ta22 rfl (by unfold maxLen; decide))
      replace hH22 := rowS X22.out A22.out C22.out
      have z4 := X22.out.c 4 _ rfl
      have zf := X22.out.f 4
      clear hv22 hn22 ea22 ta22 ka22 E20 X20 A20 C20 M20 U20 P20 Q20
      clear hK K hH20
      try simp only [Act.put, List.setIfInBounds_toArray, List.set_cons_zero, List.set_cons_succ]
      refine wpAnyF_ready (rs := [17]) (by kernel_rfl) (by simp) ?_
      refine' AllReadyF.cons (List.getElem?_toArray.trans rfl) (fun K hK => ?st23) ?more23
      case st23 =>
       go_simp
       refine hK.out _ _ ?s24 (fun hH24 => ?r24)
       case s24 => ((try dsimp only); exact rowS X22.out A22.out C22.out)
       clear hK K hH22
       try simp only [Act.put, List.setIfInBounds_toArray, List.set_cons_zero, List.set_cons_succ]
       refine' wpAnyF_take (i := 18) (List.getElem?_toArray.trans rfl) (by kernel_rfl) (by kernel_rfl) (by kernel_rfl) (by kernel_rfl) (fun _ _ _ h => h) (Or.inl ⟨by rfl, ?y25⟩) hH24 ?r25
       case y25 => (intro w hSw; (try dsimp only at hSw); go_simp; try with_reducible rfl)
       try simp only [Act.put, List.setIfInBounds_toArray, List.set_cons_zero, List.set_cons_succ]
       refine wpAnyF_ready (rs := [19]) (by kernel_rfl) (by simp) ?_
       refine' AllReadyF.last (List.getElem?_toArray.trans rfl) (fun K hK => ?st26) ?more26
       case st26 =>
        go_simp
        refine hK.out _ _ ?_
        clear hK K
        try simp only [Act.put, List.setIfInBounds_toArray, List.set_cons_zero, List.set_cons_succ]
        refine wpAnyF_done (by kernel_rfl) ?_ _
        go_wp2_with fail
        go_end0
        have E7 := ext_set (j := 4) (v := .slice (some ⟨N22, 0, none⟩) 4 4) E22.out.hi X22.out hk
        exact ⟨rfl, H22, E22.out.trans (E7.mono fun t _ h => .inl h), _, m12, m14, m17, m20, X22.out.set 4 (.slice (some ⟨N22, 0, none⟩) 4 4) (by simp [hoCs]), L22.out.ext E7 (by omega), M22.out.ext E7 (by omega) (by omega), U22.out.ext E7 (by omega), P22.out.ext E7 (by omega), Q22.out.ext E7 (by omega) (by omega)⟩
       exact AllReadyF.nil
      exact AllReadyF.nil
     exact AllReadyF.nil
    exact AllReadyF.nil
   exact AllReadyF.nil
  exact AllReadyF.nil
 exact AllReadyF.nil
end
end
section
set_option linter.unusedVariables false
set_option maxHeartbeats 2000000
set_option maxRecDepth 100000
open Go.RowKit Go.Shelf
def HoPost (w : World) (O : Om) (B : Wb) (f : Cf) (k X : Nat) (y : AW × Hom) (W : World) : Prop := ∃ G, Ext (SX k (k + 8)) O w G W ∧ PW W G B f y.1 ∧ HoAt W G k X y.2
section
variable {X : Nat} {w : World} {O : Om} {B : Wb} {f : Cf} {s : AW} {k : Nat}
theorem c_HoStepG {i A o n c pb : Nat} {tg : Int} {ld : Bool} {wv : Value} {way : List Spt} {p : Spt} {ty : TypeId} {r r' : Value} {fS : FuncId} {ov : Bool} {Q1 Q2 : World → Prop}
 (hx : Ob w O k X (hoCs wv ((i : Int) + 1) tg ld (.slice (some ⟨A, o, none⟩) (n + 1) c))) (hA : A < w.heap.size) (hW : Sls w O (k + 1) 3 wv way.length (way.flatMap spl)) (hl : way.length ≤ 8192) (hi : way[i]? = some p)
 (a0 : w.cell? ⟨A, o, none⟩ = some (.iface ty r)) (hm : ∀ W, (method 371 ty r "Step").run Tryz.prog W = .ok (fS, r') W) (hK : ∀ args W, (callFunc fS args).run Tryz.prog W = .ok (.enter fS args) W)
 (HC : ∀ W, Below w.heap.size w W → Calls Tryz.prog fS #[r', .pointer (some ⟨pb, 0, none⟩)] W fun e w' => ∃ v, e = .returned v ∧ Q1 w') (HO : ∀ w1, Q1 w1 → Calls Tryz.prog 111 #[.pointer (some ⟨X, 0, none⟩)] w1 fun e w' => e = .returned (.tuple #[]) ∧ Q2 w')
 (HV : ∀ w2, Q2 w2 → ∃ n : Int, w2.cell? ⟨X, 1, none⟩ = some (.int .i64 n) ∧ (n == 0) = ov) :
 Calls Tryz.prog 106 #[.pointer (some ⟨X, 0, none⟩), .pointer (some ⟨pb, 0, none⟩)] w fun e w' => e = .returned (.bool ov) ∧ Q2 w' := by
 have HCC := Lib.hid HC
 have HOO := Lib.hid HO
 have HVV := Lib.hid HV
 have hil := (List.getElem?_eq_some_iff.1 hi).1
 obtain ⟨A2, o2, c2, rfl, -⟩ := hW.open (by omega)
 obtain ⟨b1, b2, b3⟩ := flat3_at way i p hi
 have u1 := hW.c _ _ b1
 have u2 := hW.c _ _ b2
 have u3 := hW.c _ _ b3
 rw [← Nat.add_assoc] at u2 u3
 have hXl : X < w.heap.size := hx.lt
 have hAl : A2 < w.heap.size := hW.lt.1
 have x0 := hx.c 0 _ rfl
 have x1 := hx.c 1 _ rfl
 have x4 := hx.c 4 _ rfl
 have hj1 : (i : Int) < way.length := by omega
 have hwi : IntKind.i64.wrap (i : Int) = (i : Int) := by simp [IntKind.wrap, IntKind.bits, IntKind.signed]; omega
 have hi0 : (0 : Int) ≤ (i : Int) := by omega
 have hi1 : (i : Int) + 1 - 1 = (i : Int) := by omega
 have hn : (0 : Int) < (n : Int) + 1 := by omega
 have hne : ((i : Int) + 1 == 0) = false := by simp; omega
 have HV0 := Lib.hid (c_HoOver x1)
 obtain ⟨pb', hpb⟩ : ∃ z, z = p.b := ⟨_, rfl⟩
 obtain ⟨pq, hpq⟩ : ∃ z, z = p.q := ⟨_, rfl⟩
 obtain ⟨ps, hps⟩ : ∃ z, z = p.s := ⟨_, rfl⟩
 rw [← hpb] at u1
 rw [← hpq] at u2
 rw [← hps] at u3
 rw [hne] at HV0
 clear HC HO HV hx hW hi hil b1 b2 b3 hpb hpq hps
 go_enter Tryz.func106, Tryz.ntmps106
 go_wp2_with fail
 refine HV0.out.mono ?_
 rintro e w' ⟨rfl, rfl⟩
 go_wp2_with fail
 go_region
 have hb1 := (Below.refl w.heap.size w).alloc (Nat.le_refl _) (.cells #[.int .i64 pb', .int .i64 pq, .int .i64 ps] 56)
 have hb2 := drew_below (w.alloc (.cells #[.int .i64 pb', .int .i64 pq, .int .i64 ps] 56))
 have hb3 := hb1.trans (hb2.mono (by simp <;> omega))
 have y4 := (hb3.cell (p := ⟨X, 4, none⟩) hXl).trans x4
 have y0 := (hb3.cell (p := ⟨A, o, none⟩) hA).trans a0
 have HB := Lib.hid hb3
 clear hb1 hb2 hb3 x0 x1 x4 a0 u1 u2 u3 hXl hAl hA hj1 hwi hi0 hi1 hne
 obtain ⟨W, hWe⟩ : ∃ W, W = (w.alloc (.cells #[.int .i64 pb', .int .i64 pq, .int .i64 ps] 56)).drew := ⟨_, rfl⟩
 rw [← hWe] at y4 y0 HB ⊢
 clear hWe
 go_wp2_with fail
 refine (HCC.out _ HB.out).mono ?_
 rintro e w1 ⟨v, rfl, q1⟩
 have HQ1 := Lib.hid q1
 clear q1 y4 y0 hm hK hn
 go_wp2_with fail
 refine (HOO.out _ HQ1.out).mono ?_
 rintro e w2 ⟨rfl, q2⟩
 obtain ⟨m, y1, hov⟩ := HVV.out _ q2
 have HQ2 := Lib.hid q2
 have HOV := Lib.hid (c_HoOver y1)
 rw [hov] at HOV
 clear q2 y1 hov
 go_wp2_with fail
 refine HOV.out.mono ?_
 rintro e w' ⟨rfl, rfl⟩
 go_wp2_with fail
 go_ret
 exact ⟨rfl, HQ2.out⟩
theorem ho36 {z : Hom} {s1 : AW} {W : World} {G : Om} {wv lv : Value} {m1 u q m2 : Nat} (h3 : 3 ≤ z.ln) (h6 : z.ln ≤ 6) (hk0 : 0 ≤ z.k) (e : Ext (SX k (k + 8)) O w G W) (hP : PW W G B f s1) (x : Ob W G k X (hoCs wv (z.k + 1) z.tag true lv)) (hw : Sls W G (k + 1) 3 wv z.way.length (z.way.flatMap spl)) (l : Sls W G (k + 2) 1 lv (7 - z.ln).toNat ([IMark m1, IOut u, IPut q, IMark m2].drop (z.ln - 3).toNat))
 (b1 : z.ln = 3 → MkAt W G (k + 3) m1 z.m1) (b2 : z.ln ≤ 4 → OutAt W G (k + 5) u z.s z.o) (b3 : z.ln ≤ 5 → PvAt W G (k + 6) q z.t z.tag z.ref z.u) (b4 : MkAt W G (k + 7) m2 z.m2) : HoPost w O B f k X (s1, z) W := by
 refine ⟨G, e, hP, wv, lv, true, ?_, fun _ => hw, fun g => ?_, fun _ => rfl, fun g => ?_, fun _ => ⟨m1, u, q, m2, l, b1, b2, b3, fun _ => b4⟩⟩
 · rw [show max (z.k + 1) 0 = z.k + 1 from by omega]; exact x
 · dsimp only at g; omega
 · dsimp only at g; omega
theorem HoPost.left {y : AW × Hom} {W : World} (h : HoPost w O B f k X y W) (hk : HoOk y.2) : ∃ n : Int, W.cell? ⟨X, 1, none⟩ = some (.int .i64 n) ∧ (n == 0) = (y.2.ln == 0) := by
 obtain ⟨G, e, P, wv, dv, ld, x, -⟩ := h
 refine ⟨_, x.c 1 _ rfl, ?_⟩
 rw [Bool.eq_iff_iff]
 simp only [beq_iff_eq]
 have h1 := hk.k
 have h2 := hk.z0
 omega
theorem c_Ho3 {z : Hom} (hz : HoOk z) (hP : PW w O B f s) (hM : HoAt w O k X z) (hl : z.ln = 3) (hk : 10 ≤ k) (hhi : ∀ j, O j ≠ 0 → j < w.heap.size) (n0 : 0 ≤ s.n) (n1 : s.n ≤ 4611686018427387904) :
 Calls Tryz.prog 106 #[.pointer (some ⟨X, 0, none⟩), .pointer (some ⟨B.p, 0, none⟩)] w fun e w' => e = .returned (.bool ((hoStep (s, z)).2.ln == 0)) ∧ HoPost w O B f k X (hoStep (s, z)) w' := by
 have hz2 := hz.step (s := s) hP.bd
 have hkk := hz.k (by omega)
 have hlen := hz.len
 have hm1 := hz.m1 hl
 have ho3 := hz.o (by omega) (by omega)
 have hu0 := hz.u0 (by omega) (by omega)
 have hsk := hz.sok (by omega)
 have hm2 := hz.m2 (by omega)
 rw [hoStep_3 s z hl] at hz2 ⊢
 obtain ⟨wv, dv, ld, hx, hw, -, hld, -, hparts⟩ := hM.ex
 obtain ⟨m1, u', q, m2, hS, b1, b2, b3, b4⟩ := hparts (by omega)
 replace hw := hw (by omega)
 obtain rfl := hld (by omega)
 replace b1 := b1 hl
 replace b2 := b2 (by omega)
 replace b3 := b3 (by omega)
 replace b4 := b4 (by omega)
 rw [show max (z.k + 1) 0 = z.k + 1 from by omega] at hx
 obtain ⟨ln, kk, way, tag, ref, l1, o, u, l2⟩ := z
 have hsp : hoAt way kk = Hom.s ⟨ln, kk, way, tag, ref, l1, o, u, l2⟩ := rfl
 dsimp only at *
 subst hl
 obtain ⟨i, rfl⟩ : ∃ i : Nat, kk = i := ⟨kk.toNat, by omega⟩
 obtain ⟨a, l, rfl, ha0, ha1⟩ := hm1.head
 obtain ⟨A, off, c, rfl, hc1, hc2⟩ := hS.open (by decide)
 have a0 := hS.c 0 _ rfl
 rw [Nat.add_zero] at a0
 have hil : i < way.length := by omega
 simp only [List.headD_cons, List.tail_cons] at hz2 ⊢
 refine c_HoStepG (n := 3) (i := i) (p := way[i]) (Q1 := fun w1 => ∃ G1, Ext (SX k (k + 8)) O w G1 w1 ∧ PW w1 G1 B f (awAdd a 1 s) ∧ MkAt w1 G1 (k + 3) m1 l ∧ Ob w1 G1 k X (hoCs wv ((i : Int) + 1) tag true (.slice (some ⟨A, off, none⟩) 4 c)) ∧ Sls w1 G1 (k + 1) 3 wv way.length (way.flatMap spl) ∧ Sls w1 G1 (k + 2) 1 (.slice (some ⟨A, off, none⟩) 4 c) 4 [IMark m1, IOut u', IPut q, IMark m2] ∧ OutAt w1 G1 (k + 5) u' (hoAt way i) o ∧ PvAt w1 G1 (k + 6) q (hoAt way (i + 1)) tag ref u ∧ MkAt w1 G1 (k + 7) m2 l2) (Q2 := HoPost w O B f k X (awAdd a 1 s, ⟨if l = [] then 4 else 3, i, way, tag, ref, l, o, u, l2⟩)) hx hS.lt.1 hw hlen (List.getElem?_eq_getElem hil) a0 (m_MkStep _) (run_enter Tryz.func168 (by kernel_rfl) (by kernel_rfl)) (fun W hb => ?_) ?_ (fun w2 h2 => h2.left hz2)
 · refine (c_MkStep a l (k + 3) (hP.below hhi hb) (b1.below hb) (by have := hm1.2.1; simp at this; omega) (by omega) (Ext.of_below (S := fun _ => False) hhi hb).hi ha0 ha1 n0 n1).mono ?_
   rintro e w1 ⟨rfl, G1, e1, P1, k1⟩
   exact ⟨_, rfl, G1, (Ext.of_below hhi hb).trans (e1.mono fun t _ h => SX.mono (by omega) (by omega) h), P1, k1, (hx.below hb).ext e1 (SX.not (by omega) (by omega)), (hw.below hb).ext e1 (SX.not (by omega) (by omega)), (hS.below hb).ext e1 (SX.not (by omega) (by omega)), (b2.below hb).ext e1 (SX.not (by omega) (by omega)), (b3.below hb).ext e1 (SX.not (by omega) (by omega)), (b4.below hb).ext e1 (SX.not (by omega) (by omega)) (SX.not (by omega) (by omega))⟩
 · rintro w1 ⟨G1, E1, P1, k1, x1, w1', s1, c2, c3, c4⟩
   have hm := POver.mark (k := k) k1 ⟨by omega, by omega⟩
   by_cases hl0 : l = []
   · subst hl0
     have hou := POver.out (k := k) c2 hsk (by omega) (by omega)
     rw [show (o.ln == 3) = false from by simp; omega] at hou
     rw [if_pos rfl]
     refine (c_hon1 (l := [IPut q, IMark m2]) x1 s1 hm hou hk E1.hi).mono ?_
     rintro e w2 ⟨rfl, G2, e2, rfl, lv2, x2, s2⟩
     exact ⟨rfl, ho36 (m1 := m1) (u := u') (q := q) (m2 := m2) (by dsimp only; omega) (by dsimp only; omega) (by dsimp only; omega) (E1.trans (e2.mono fun t _ h => .inr (by omega))) (P1.ext e2 (by omega) (by omega) (by omega) (by omega)) x2 (w1'.ext e2 (by omega)) s2 (fun h => absurd h (by dsimp only; omega)) (fun _ => c2.ext e2 (by omega)) (fun _ => c3.ext e2 (by omega)) (c4.ext e2 (by omega) (by omega))⟩
   · rw [show (l.length == 0) = false from by cases l with
      | nil => exact absurd rfl hl0
      | cons a l => rfl] at hm
     rw [if_neg hl0]
     refine (c_hon0 (l := [IOut u', IPut q, IMark m2]) x1 s1 hm hk E1.hi).mono ?_
     rintro e w2 ⟨rfl, hb⟩
     exact ⟨rfl, ho36 (m1 := m1) (u := u') (q := q) (m2 := m2) (by dsimp only; omega) (by dsimp only; omega) (by dsimp only; omega) (E1.below hb) (P1.below E1.hi hb) (x1.below hb) (w1'.below hb) (s1.below hb) (fun _ => k1.below hb) (fun _ => c2.below hb) (fun _ => c3.below hb) (c4.below hb)⟩
theorem c_Ho4 {z : Hom} (hz : HoOk z) (hP : PW w O B f s) (hM : HoAt w O k X z) (hl : z.ln = 4) (hk : 10 ≤ k) (hhi : ∀ j, O j ≠ 0 → j < w.heap.size) (n0 : 0 ≤ s.n) (n1 : s.n ≤ 4611686018427387904) :
 Calls Tryz.prog 106 #[.pointer (some ⟨X, 0, none⟩), .pointer (some ⟨B.p, 0, none⟩)] w fun e w' => e = .returned (.bool ((hoStep (s, z)).2.ln == 0)) ∧ HoPost w O B f k X (hoStep (s, z)) w' := by
 have hz2 := hz.step (s := s) hP.bd
 have hkk := hz.k (by omega)
 have hlen := hz.len
 have ho3 := hz.o (by omega) (by omega)
 have hu0 := hz.u0 (by omega) (by omega)
 have hsk := hz.sok (by omega)
 have htk := hz.tok (by omega)
 have hm2 := hz.m2 (by omega)
 rw [hoStep_4 s z hl] at hz2 ⊢
 obtain ⟨wv, dv, ld, hx, hw, -, hld, -, hparts⟩ := hM.ex
 obtain ⟨m1, u', q, m2, hS, -, b2, b3, b4⟩ := hparts (by omega)
 replace hw := hw (by omega)
 obtain rfl := hld (by omega)
 replace b2 := b2 (by omega)
 replace b3 := b3 (by omega)
 replace b4 := b4 (by omega)
 rw [show max (z.k + 1) 0 = z.k + 1 from by omega] at hx
 obtain ⟨p, hpe⟩ : ∃ p, p = z.s := ⟨_, rfl⟩
 rw [← hpe] at hsk b2 hz2 ⊢
 obtain ⟨ln, kk, way, tag, ref, l1, o, u, l2⟩ := z
 dsimp only at *
 subst hl
 obtain ⟨i, rfl⟩ : ∃ i : Nat, kk = i := ⟨kk.toNat, by omega⟩
 have hpe2 : p = hoAt way i := hpe
 obtain ⟨A, off, c, rfl, hc1, hc2⟩ := hS.open (by decide)
 have a0 := hS.c 0 _ rfl
 rw [Nat.add_zero] at a0
 have hil : i < way.length := by omega
 have hln := outStep_ln p s o ho3.1
 have HA := fun (W : World) (hb : Below w.heap.size w W) => c_OutStep o (hP.below hhi hb) (b2.below hb) hsk ho3.1 ho3.2.1 ho3.2.2 (show 10 ≤ k + 5 by omega) (Ext.of_below (S := fun _ => False) hhi hb).hi n0 n1
 obtain ⟨y, hy⟩ : ∃ y, y = outStep p s o := ⟨_, rfl⟩
 rw [← hy] at HA hln hz2 ⊢
 obtain ⟨s1, o1⟩ := y
 dsimp only at HA hln hz2 ⊢
 have hov := otOver_3 (o := o1) (by omega)
 have huo : u.ln = 0 ∨ u.ln = 3 := by rw [hu0]; unfold ptNew; split; exact .inl rfl; exact .inr rfl
 have huv : ¬ (1 ≤ tag ∧ tag ≤ 255 ∧ 1 ≤ ref) → u.ln = 3 := fun h => by rw [hu0]; unfold ptNew; rw [if_neg h]
 have hovu := otOver_3 (o := u) (by omega)
 obtain ⟨ln2, hln2⟩ : ∃ x : Int, x = (if otOver o1 = true then (if otOver u = true then 6 else 5) else 4) := ⟨_, rfl⟩
 rw [← hln2] at hz2 ⊢
 refine c_HoStepG (n := 2) (i := i) (p := way[i]) (Q1 := fun w1 => ∃ G1, Ext (SX k (k + 8)) O w G1 w1 ∧ PW w1 G1 B f s1 ∧ OutAt w1 G1 (k + 5) u' p o1 ∧ Ob w1 G1 k X (hoCs wv ((i : Int) + 1) tag true (.slice (some ⟨A, off, none⟩) 3 c)) ∧ Sls w1 G1 (k + 1) 3 wv way.length (way.flatMap spl) ∧ Sls w1 G1 (k + 2) 1 (.slice (some ⟨A, off, none⟩) 3 c) 3 [IOut u', IPut q, IMark m2] ∧ PvAt w1 G1 (k + 6) q (hoAt way (i + 1)) tag ref u ∧ MkAt w1 G1 (k + 7) m2 l2) (Q2 := HoPost w O B f k X (s1, ⟨ln2, i, way, tag, ref, l1, o1, u, l2⟩)) hx hS.lt.1 hw hlen (List.getElem?_eq_getElem hil) a0 (m_OuStep _) (run_enter Tryz.func171 (by kernel_rfl) (by kernel_rfl)) (fun W hb => ?_) ?_ (fun w2 h2 => h2.left hz2)
 · refine (HA W hb).mono ?_
   rintro e w1 ⟨rfl, G1, e1, P1, k1⟩
   exact ⟨_, rfl, G1, (Ext.of_below hhi hb).trans (e1.mono fun t _ h => SX.mono (by omega) (by omega) h), P1, k1, (hx.below hb).ext e1 (SX.not (by omega) (by omega)), (hw.below hb).ext e1 (SX.not (by omega) (by omega)), (hS.below hb).ext e1 (SX.not (by omega) (by omega)), (b3.below hb).ext e1 (SX.not (by omega) (by omega)), (b4.below hb).ext e1 (SX.not (by omega) (by omega)) (SX.not (by omega) (by omega))⟩
 · rintro w1 ⟨G1, E1, P1, k1, x1, w1', s1', c3, c4⟩
   have hou := POver.out (k := k) k1 hsk (by omega) (by omega)
   have hpu := POver.put (k := k) c3 htk (by omega) (by omega) huv
   have hm := POver.mark (k := k) c4 ⟨by omega, by omega⟩
   rw [show (l2.length == 0) = false from by cases l2 with
    | nil => exact absurd rfl hm2.1
    | cons a l => rfl] at hm
   by_cases h1 : o1.ln = 3
   · have b1 : (o1.ln == 3) = true := by simp [h1]
     rw [b1] at hou hov
     rw [hov, if_pos rfl] at hln2
     rcases huo with h2 | h2
     · have b5 : (u.ln == 3) = false := by simp [h2]
       rw [b5] at hpu hovu
       rw [hovu, if_neg (by decide)] at hln2
       subst hln2
       refine (c_hon1 (l := [IMark m2]) x1 s1' hou hpu hk E1.hi).mono ?_
       rintro e w2 ⟨rfl, G2, e2, rfl, lv2, x2, s2⟩
       exact ⟨rfl, ho36 (m1 := m1) (u := u') (q := q) (m2 := m2) (by dsimp only; omega) (by dsimp only; omega) (by dsimp only; omega) (E1.trans (e2.mono fun t _ h => .inr (by omega))) (P1.ext e2 (by omega) (by omega) (by omega) (by omega)) x2 (w1'.ext e2 (by omega)) s2 (fun h => absurd h (by dsimp only; omega)) (fun h => absurd h (by dsimp only; omega)) (fun _ => c3.ext e2 (by omega)) (c4.ext e2 (by omega) (by omega))⟩
     · have b5 : (u.ln == 3) = true := by simp [h2]
       rw [b5] at hpu hovu
       rw [hovu, if_pos rfl] at hln2
       subst hln2
       refine (c_hon2 (l := []) x1 s1' hou hpu hm hk E1.hi).mono ?_
       rintro e w2 ⟨rfl, G2, e2, rfl, lv2, x2, s2⟩
       exact ⟨rfl, ho36 (m1 := m1) (u := u') (q := q) (m2 := m2) (by dsimp only; omega) (by dsimp only; omega) (by dsimp only; omega) (E1.trans (e2.mono fun t _ h => .inr (by omega))) (P1.ext e2 (by omega) (by omega) (by omega) (by omega)) x2 (w1'.ext e2 (by omega)) s2 (fun h => absurd h (by dsimp only; omega)) (fun h => absurd h (by dsimp only; omega)) (fun h => absurd h (by dsimp only; omega)) (c4.ext e2 (by omega) (by omega))⟩
   · have b1 : (o1.ln == 3) = false := by simp [h1]
     rw [b1] at hou hov
     rw [hov, if_neg (by decide)] at hln2
     subst hln2
     subst hpe2
     refine (c_hon0 (l := [IPut q, IMark m2]) x1 s1' hou hk E1.hi).mono ?_
     rintro e w2 ⟨rfl, hb⟩
     exact ⟨rfl, ho36 (m1 := m1) (u := u') (q := q) (m2 := m2) (by dsimp only; omega) (by dsimp only; omega) (by dsimp only; omega) (E1.below hb) (P1.below E1.hi hb) (x1.below hb) (w1'.below hb) (s1'.below hb) (fun h => absurd h (by dsimp only; omega)) (fun _ => k1.below hb) (fun _ => c3.below hb) (c4.below hb)⟩
theorem c_Ho5 {z : Hom} (hz : HoOk z) (hP : PW w O B f s) (hM : HoAt w O k X z) (hl : z.ln = 5) (hk : 10 ≤ k) (hhi : ∀ j, O j ≠ 0 → j < w.heap.size) (n0 : 0 ≤ s.n) (n1 : s.n ≤ 4611686018427387904) :
 Calls Tryz.prog 106 #[.pointer (some ⟨X, 0, none⟩), .pointer (some ⟨B.p, 0, none⟩)] w fun e w' => e = .returned (.bool ((hoStep (s, z)).2.ln == 0)) ∧ HoPost w O B f k X (hoStep (s, z)) w' := by
 have hz2 := hz.step (s := s) hP.bd
 have hkk := hz.k (by omega)
 have hlen := hz.len
 have hu := hz.u hl
 have ht0 := hz.t0
 have hrf := hz.rf
 have htk := hz.tok (by omega)
 have hm2 := hz.m2 (by omega)
 rw [hoStep_5 s z hl] at hz2 ⊢
 obtain ⟨wv, dv, ld, hx, hw, -, hld, -, hparts⟩ := hM.ex
 obtain ⟨m1, u', q, m2, hS, -, -, b3, b4⟩ := hparts (by omega)
 replace hw := hw (by omega)
 obtain rfl := hld (by omega)
 replace b3 := b3 (by omega)
 replace b4 := b4 (by omega)
 rw [show max (z.k + 1) 0 = z.k + 1 from by omega] at hx
 obtain ⟨p, hpe⟩ : ∃ p, p = z.t := ⟨_, rfl⟩
 rw [← hpe] at htk b3 hz2 ⊢
 obtain ⟨ln, kk, way, tag, ref, l1, o, u, l2⟩ := z
 dsimp only at *
 subst hl
 obtain ⟨i, rfl⟩ : ∃ i : Nat, kk = i := ⟨kk.toNat, by omega⟩
 have hpe2 : p = hoAt way (i + 1) := hpe
 obtain ⟨A, off, c, rfl, hc1, hc2⟩ := hS.open (by decide)
 have a0 := hS.c 0 _ rfl
 rw [Nat.add_zero] at a0
 have hil : i < way.length := by omega
 have hv : 1 ≤ tag ∧ tag ≤ 255 ∧ 1 ≤ ref := ⟨hu.2.2.2.1, ht0.2, hu.2.2.2.2⟩
 have hln := putStep_ln p tag ref s u hu.1
 have HA := fun (W : World) (hb : Below w.heap.size w W) => c_PutStep u (hP.below hhi hb) ((b3.below hb).1 hv) htk hu.1 hu.2.1 hu.2.2.1 (show 10 ≤ k + 6 by omega) (Ext.of_below (S := fun _ => False) hhi hb).hi n0 n1 ht0.1 ht0.2 (by omega) hrf.2
 obtain ⟨y, hy⟩ : ∃ y, y = putStep p tag ref s u := ⟨_, rfl⟩
 rw [← hy] at HA hln hz2 ⊢
 obtain ⟨s1, u1⟩ := y
 dsimp only at HA hln hz2 ⊢
 have hov := otOver_3 (o := u1) (by omega)
 obtain ⟨ln2, hln2⟩ : ∃ x : Int, x = (if otOver u1 = true then 6 else 5) := ⟨_, rfl⟩
 rw [← hln2] at hz2 ⊢
 refine c_HoStepG (n := 1) (i := i) (p := way[i]) (Q1 := fun w1 => ∃ G1, Ext (SX k (k + 8)) O w G1 w1 ∧ PW w1 G1 B f s1 ∧ PutAt w1 G1 (k + 6) q p tag ref u1 ∧ Ob w1 G1 k X (hoCs wv ((i : Int) + 1) tag true (.slice (some ⟨A, off, none⟩) 2 c)) ∧ Sls w1 G1 (k + 1) 3 wv way.length (way.flatMap spl) ∧ Sls w1 G1 (k + 2) 1 (.slice (some ⟨A, off, none⟩) 2 c) 2 [IPut q, IMark m2] ∧ MkAt w1 G1 (k + 7) m2 l2) (Q2 := HoPost w O B f k X (s1, ⟨ln2, i, way, tag, ref, l1, o, u1, l2⟩)) hx hS.lt.1 hw hlen (List.getElem?_eq_getElem hil) a0 (m_PuStep' _) (run_enter Tryz.func145 (by kernel_rfl) (by kernel_rfl)) (fun W hb => ?_) ?_ (fun w2 h2 => h2.left hz2)
 · refine (HA W hb).mono ?_
   rintro e w1 ⟨rfl, G1, e1, P1, k1⟩
   exact ⟨_, rfl, G1, (Ext.of_below hhi hb).trans (e1.mono fun t _ h => SX.mono (by omega) (by omega) h), P1, k1, (hx.below hb).ext e1 (SX.not (by omega) (by omega)), (hw.below hb).ext e1 (SX.not (by omega) (by omega)), (hS.below hb).ext e1 (SX.not (by omega) (by omega)), (b4.below hb).ext e1 (SX.not (by omega) (by omega)) (SX.not (by omega) (by omega))⟩
 · rintro w1 ⟨G1, E1, P1, k1, x1, w1', s1', c4⟩
   have c3 : PvAt w1 G1 (k + 6) q p tag ref u1 := ⟨fun _ => k1, fun h => absurd hv h⟩
   have hpu := POver.put (k := k) c3 htk (by omega) (by omega) (fun h => absurd hv h)
   have hm := POver.mark (k := k) c4 ⟨by omega, by omega⟩
   rw [show (l2.length == 0) = false from by cases l2 with
    | nil => exact absurd rfl hm2.1
    | cons a l => rfl] at hm
   by_cases h1 : u1.ln = 3
   · have b1 : (u1.ln == 3) = true := by simp [h1]
     rw [b1] at hpu hov
     rw [hov, if_pos rfl] at hln2
     subst hln2
     refine (c_hon1 (l := []) x1 s1' hpu hm hk E1.hi).mono ?_
     rintro e w2 ⟨rfl, G2, e2, rfl, lv2, x2, s2⟩
     exact ⟨rfl, ho36 (m1 := m1) (u := u') (q := q) (m2 := m2) (by dsimp only; omega) (by dsimp only; omega) (by dsimp only; omega) (E1.trans (e2.mono fun t _ h => .inr (by omega))) (P1.ext e2 (by omega) (by omega) (by omega) (by omega)) x2 (w1'.ext e2 (by omega)) s2 (fun h => absurd h (by dsimp only; omega)) (fun h => absurd h (by dsimp only; omega)) (fun h => absurd h (by dsimp only; omega)) (c4.ext e2 (by omega) (by omega))⟩
   · have b1 : (u1.ln == 3) = false := by simp [h1]
     rw [b1] at hpu hov
     rw [hov, if_neg (by decide)] at hln2
     subst hln2
     subst hpe2
     refine (c_hon0 (l := [IMark m2]) x1 s1' hpu hk E1.hi).mono ?_
     rintro e w2 ⟨rfl, hb⟩
     exact ⟨rfl, ho36 (m1 := m1) (u := u') (q := q) (m2 := m2) (by dsimp only; omega) (by dsimp only; omega) (by dsimp only; omega) (E1.below hb) (P1.below E1.hi hb) (x1.below hb) (w1'.below hb) (s1'.below hb) (fun h => absurd h (by dsimp only; omega)) (fun h => absurd h (by dsimp only; omega)) (fun _ => c3.below hb) (c4.below hb)⟩
theorem c_Ho6 {z : Hom} (hz : HoOk z) (hP : PW w O B f s) (hM : HoAt w O k X z) (hl : z.ln = 6) (hk : 10 ≤ k) (hhi : ∀ j, O j ≠ 0 → j < w.heap.size) (n0 : 0 ≤ s.n) (n1 : s.n ≤ 4611686018427387904) :
 Calls Tryz.prog 106 #[.pointer (some ⟨X, 0, none⟩), .pointer (some ⟨B.p, 0, none⟩)] w fun e w' => e = .returned (.bool ((hoStep (s, z)).2.ln == 0)) ∧ HoPost w O B f k X (hoStep (s, z)) w' := by
 have hz2 := hz.step (s := s) hP.bd
 have hkk := hz.k (by omega)
 have hlen := hz.len
 have hm2 := hz.m2 (by omega)
 obtain ⟨y, hy⟩ : ∃ y, y = hoStep (s, z) := ⟨_, rfl⟩
 have hy2 := hy.trans (hoStep_6 s z hl)
 rw [← hy] at hz2 ⊢
 clear hy
 obtain ⟨wv, dv, ld, hx, hw, -, hld, -, hparts⟩ := hM.ex
 obtain ⟨m1, u', q, m2, hS, -, -, -, b4⟩ := hparts (by omega)
 replace hw := hw (by omega)
 obtain rfl := hld (by omega)
 replace b4 := b4 (by omega)
 rw [show max (z.k + 1) 0 = z.k + 1 from by omega] at hx
 obtain ⟨ln, kk, way, tag, ref, l1, o, u, l2⟩ := z
 dsimp only at *
 subst hl
 obtain ⟨i, rfl⟩ : ∃ i : Nat, kk = i := ⟨kk.toNat, by omega⟩
 obtain ⟨a, l, rfl, ha0, ha1⟩ := hm2.head
 obtain ⟨A, off, c, rfl, hc1, hc2⟩ := hS.open (by decide)
 have a0 := hS.c 0 _ rfl
 rw [Nat.add_zero] at a0
 have hil : i < way.length := by omega
 refine c_HoStepG (n := 0) (i := i) (p := way[i]) (Q1 := fun w1 => ∃ G1, Ext (SX k (k + 8)) O w G1 w1 ∧ PW w1 G1 B f (awAdd a 1 s) ∧ MkAt w1 G1 (k + 7) m2 l ∧ Ob w1 G1 k X (hoCs wv ((i : Int) + 1) tag true (.slice (some ⟨A, off, none⟩) 1 c)) ∧ Sls w1 G1 (k + 1) 3 wv way.length (way.flatMap spl) ∧ Sls w1 G1 (k + 2) 1 (.slice (some ⟨A, off, none⟩) 1 c) 1 [IMark m2]) (Q2 := HoPost w O B f k X y) hx hS.lt.1 hw hlen (List.getElem?_eq_getElem hil) a0 (m_MkStep _) (run_enter Tryz.func168 (by kernel_rfl) (by kernel_rfl)) (fun W hb => ?_) ?_ (fun w2 h2 => h2.left hz2)
 · refine (c_MkStep a l (k + 7) (hP.below hhi hb) (b4.below hb) (by have := hm2.2.1; simp at this; omega) (by omega) (Ext.of_below (S := fun _ => False) hhi hb).hi ha0 ha1 n0 n1).mono ?_
   rintro e w1 ⟨rfl, G1, e1, P1, k1⟩
   exact ⟨_, rfl, G1, (Ext.of_below hhi hb).trans (e1.mono fun t _ h => SX.mono (by omega) (by omega) h), P1, k1, (hx.below hb).ext e1 (SX.not (by omega) (by omega)), (hw.below hb).ext e1 (SX.not (by omega) (by omega)), (hS.below hb).ext e1 (SX.not (by omega) (by omega))⟩
 · rintro w1 ⟨G1, E1, P1, k1, x1, w1', s1⟩
   have hm := POver.mark (k := k) k1 ⟨by omega, by omega⟩
   by_cases hl0 : l = []
   · subst hl0
     have hz2e : y = (awAdd a 1 s, ⟨if (i : Int) - 1 < 0 then 0 else 1, (i : Int) - 1, way, tag, ref, l1, o, u, []⟩) := by rw [hy2]; rfl
     refine (c_honE x1 s1 hm (by omega) (by omega) hk E1.hi).mono ?_
     rintro e w2 ⟨rfl, G2, e2, rfl, lv2, x2, s2⟩
     subst hz2e
     refine ⟨rfl, _, E1.trans (e2.mono fun t _ h => .inr (by omega)), P1.ext e2 (by omega) (by omega) (by omega) (by omega), wv, lv2, false, ?_, fun _ => w1'.ext e2 (by omega), fun _ => rfl, fun h => absurd h (by dsimp only; split <;> omega), fun _ => ⟨0, s2, rfl⟩, fun h => absurd h (by dsimp only; split <;> omega)⟩
     dsimp only
     rw [show max ((i : Int) - 1 + 1) 0 = (i : Int) + 1 - 1 from by omega]
     exact x2
   · rw [show (l.length == 0) = false from by cases l with
      | nil => exact absurd rfl hl0
      | cons a l => rfl] at hm
     have hz2e : y = (awAdd a 1 s, ⟨6, i, way, tag, ref, l1, o, u, l⟩) := by
      rw [hy2]
      show (awAdd a 1 s, if l = [] then _ else _) = _
      rw [if_neg hl0]
      rfl
     subst hz2e
     refine (c_hon0 (l := []) x1 s1 hm hk E1.hi).mono ?_
     rintro e w2 ⟨rfl, hb⟩
     exact ⟨rfl, ho36 (m1 := m1) (u := u') (q := q) (m2 := m2) (by dsimp only; omega) (by dsimp only; omega) (by dsimp only; omega) (E1.below hb) (P1.below E1.hi hb) (x1.below hb) (w1'.below hb) (s1.below hb) (fun h => absurd h (by dsimp only; omega)) (fun h => absurd h (by dsimp only; omega)) (fun h => absurd h (by dsimp only; omega)) (k1.below hb)⟩
end
end
section
set_option linter.unusedVariables false
set_option maxHeartbeats 4000000
set_option maxRecDepth 100000
open Go.RowKit Go.Shelf
section
variable {X : Nat} {w : World} {O : Om} {B : Wb} {f : Cf} {s : AW} {k : Nat}
theorem ob_setP {g : Nat} {cs : List Value} (hx : Ob w O g X cs) (hk : 10 ≤ g) (hhi : ∀ j, O j ≠ 0 → j < w.heap.size) (j : Nat) (v : Value) (hj : j < cs.length) : Ext (fun t => t = g) O w O (w.setCell ⟨X, j, none⟩ v) ∧ Ob (w.setCell ⟨X, j, none⟩ v) O g X (cs.set j v) := ⟨ext_set hhi hx hk, hx.set j v hj⟩
theorem c_Ho1 {z : Hom} (hz : HoOk z) (hP : PW w O B f s) (hM : HoAt w O k X z) (hl : z.ln = 1) (hk : 10 ≤ k) (hhi : ∀ j, O j ≠ 0 → j < w.heap.size) (n0 : 0 ≤ s.n) (n1 : s.n ≤ 4611686018427387904) :
 Calls Tryz.prog 106 #[.pointer (some ⟨X, 0, none⟩), .pointer (some ⟨B.p, 0, none⟩)] w fun e w' => e = .returned (.bool ((hoStep (s, z)).2.ln == 0)) ∧ HoPost w O B f k X (hoStep (s, z)) w' := by
 have hkk := hz.k (by omega)
 have hlen := hz.len
 have hsk := hz.sok (by omega)
 have htk := hz.tok (by omega)
 have ht0 := hz.t0
 rw [hoStep_1 s z hl]
 obtain ⟨wv, dv, ld, hx, hw, hl1, hl2, hd0, -⟩ := hM.ex
 replace hw := hw (by omega)
 obtain ⟨n9, hd1, rfl⟩ := hd0 (by omega)
 obtain ⟨dao, dc, rfl, -⟩ := hd1.shape
 rw [show max (z.k + 1) 0 = z.k + 1 from by omega] at hx
 obtain ⟨p, hpe⟩ : ∃ p, p = z.s := ⟨_, rfl⟩
 rw [← hpe] at hsk ⊢
 obtain ⟨ln, kk, way, tag, ref, l1, o, u, l2⟩ := z
 dsimp only at hkk hlen ht0 hx hw hl1 hl2 hl ⊢
 subst hl
 obtain ⟨i, rfl⟩ : ∃ i : Nat, kk = i := ⟨kk.toNat, by omega⟩
 have hil : i < way.length := by omega
 have hpi : way[i]? = some p := by
  rw [hpe]
  show way[i]? = some (hoAt way i)
  unfold hoAt
  rw [if_neg (by omega), Int.toNat_natCast, List.getD, List.getElem?_eq_getElem hil]
  rfl
 obtain rfl := hl1 rfl
 have HT := Lib.hid (fun W => c_Tags p.b p.q W (by have := hsk.b0; omega) (by have := hsk.b1; omega) (by have := hsk.q0; omega) (by have := hsk.q2; omega))
 have hta2 : plTags p.b p.q = p.tags := rfl
 rw [hta2] at HT
 have hbt := hP.bd p.tags
 have HTG := Lib.hid (fun W => c_TwTag (s.M p.tags) p.s W hbt.1 hbt.2 hsk.s0 hsk.s1)
 obtain ⟨A2, o2, c2, rfl, -⟩ := hw.open (by omega)
 obtain ⟨b1, b2, b3⟩ := flat3_at way i p hpi
 have u1 := hw.c _ _ b1
 have u2 := hw.c _ _ b2
 have u3 := hw.c _ _ b3
 rw [← Nat.add_assoc] at u2 u3
 have hXl : X < w.heap.size := hx.lt
 have hAl : A2 < w.heap.size := hw.lt.1
 have x0 := hx.c 0 _ rfl
 have x1 := hx.c 1 _ rfl
 have x4 := hx.c 4 _ rfl
 have x3 := hx.c 3 _ rfl
 have hj1 : (i : Int) < way.length := by omega
 have hwi : IntKind.i64.wrap (i : Int) = (i : Int) := by simp [IntKind.wrap, IntKind.bits, IntKind.signed]; omega
 have hi0 : (0 : Int) ≤ (i : Int) := by omega
 have hi1 : (i : Int) + 1 - 1 = (i : Int) := by omega
 have hne : ((i : Int) + 1 == 0) = false := by simp; omega
 have HV0 := Lib.hid (c_HoOver x1)
 rw [hne] at HV0
 have htg := hsk.tags
 have hit := hsk.item
 have hq2 := hsk.q2
 have hs0 := hsk.s0
 have hs1 := hsk.s1
 obtain ⟨pb, hpb⟩ : ∃ z, z = p.b := ⟨_, rfl⟩
 obtain ⟨pq, hpq⟩ : ∃ z, z = p.q := ⟨_, rfl⟩
 obtain ⟨ps, hps⟩ : ∃ z, z = p.s := ⟨_, rfl⟩
 rw [← hpb] at u1
 rw [← hpq] at u2
 rw [← hps] at u3
 have hb1 := (Below.refl w.heap.size w).alloc (Nat.le_refl _) (.cells #[.int .i64 pb, .int .i64 pq, .int .i64 ps] 56)
 have hb2 := drew_below (w.alloc (.cells #[.int .i64 pb, .int .i64 pq, .int .i64 ps] 56))
 have hb := hb1.trans (hb2.mono (by simp <;> omega))
 obtain ⟨-, t1⟩ := alloc_nbH (S := fun _ => False) hhi #[.int .i64 pb, .int .i64 pq, .int .i64 ps] 56 w.heap.size rfl
 have t2 := t1.below hb2
 have hti : Ob (w.alloc (.cells #[.int .i64 pb, .int .i64 pq, .int .i64 ps] 56)).drew O 0 w.heap.size (spl p) := by rw [hpb, hpq, hps] at t2 ⊢; exact t2
 have HM : Hid (Me k (k + 8) w O (w.alloc (.cells #[.int .i64 pb, .int .i64 pq, .int .i64 ps] 56)).drew O B f s k X (hoCs (.slice (some ⟨A2, o2, none⟩) way.length c2) ((i : Int) + 1) tag false (.slice dao 0 dc))) := Lib.hid ⟨Ext.of_below hhi hb, hP.below hhi hb, hx.below hb⟩
 have HS : Hid (Sls (w.alloc (.cells #[.int .i64 pb, .int .i64 pq, .int .i64 ps] 56)).drew O (k + 1) 3 (.slice (some ⟨A2, o2, none⟩) way.length c2) way.length (way.flatMap spl) ∧ Sls (w.alloc (.cells #[.int .i64 pb, .int .i64 pq, .int .i64 ps] 56)).drew O (k + 2) 1 (.slice dao 0 dc) 0 [] ∧ Ob (w.alloc (.cells #[.int .i64 pb, .int .i64 pq, .int .i64 ps] 56)).drew O 0 w.heap.size (spl p)) := Lib.hid ⟨hw.below hb, hd1.below hb, hti⟩
 have hta : 0 ≤ p.tags ∧ p.tags < 18446744073709551616 := by omega
 obtain ⟨ta, hta3⟩ : ∃ ta, ta = p.tags := ⟨_, rfl⟩
 rw [← hta3] at HT HTG hta ⊢
 obtain ⟨tg, htg2⟩ : ∃ x, x = twTag (s.M ta) p.s := ⟨_, rfl⟩
 rw [← htg2] at HTG ⊢
 rw [← hpb, ← hpq] at HT
 rw [← hps] at HTG
 have HTA := Lib.hid hta
 have HPP := Lib.hid (And.intro hpb (And.intro hpq hps))
 obtain ⟨W, hW⟩ : ∃ W, W = (w.alloc (.cells #[.int .i64 pb, .int .i64 pq, .int .i64 ps] 56)).drew := ⟨_, rfl⟩
 rw [← hW] at HM HS
 obtain ⟨T, hTe⟩ : ∃ T, T = w.heap.size := ⟨_, rfl⟩
 clear hP hM hx hw hd0 hd1 hhi hsk htk ht0 hil hpi hpe b1 b2 b3 htg hit hq2 hs0 hs1 hb1 hb2 hb t1 t2 hti hta hta2 hta3 htg2 hbt hpb hpq hps hl1 hl2
 go_enter Tryz.func106, Tryz.ntmps106
 go_wp2_with fail
 refine HV0.out.mono ?_
 rintro e w' ⟨rfl, rfl⟩
 go_wp2_with fail
 go_region
 rw [← hW]
 rw [← hTe] at HS ⊢
 clear hW hTe x0 x1 x3 x4 u1 u2 u3 hXl hAl hj1 hwi hi0 hi1 hne HV0
 have y3 := HM.out.t.c 3 _ rfl
 have y4 := HM.out.t.c 4 _ rfl
 have t0 := HS.out.2.2.c 0 _ rfl
 have t1 := HS.out.2.2.c 1 _ rfl
 have t2 := HS.out.2.2.c 2 _ rfl
 have p0 := HM.out.p.wo.c0
 rw [← HPP.out.1] at t0
 rw [← HPP.out.2.1] at t1
 rw [← HPP.out.2.2] at t2
 have hXB : ¬ B.p = X := HM.out.p.ne_obj HM.out.t hk
 have hXB2 : ¬ X = B.p := fun e => hXB e.symm
 have hXT : ¬ T = X := HS.out.2.2.ne HM.out.t (by omega)
 have hXT2 : ¬ X = T := fun e => hXT e.symm
 go_upto_region 8 with fail
 go_region_held3 (fun w' => w'.cell? ⟨B.p, 0, none⟩ = some (.pointer (some ⟨B.c, 0, none⟩)) ∧ w'.cell? ⟨T, 0, none⟩ = some (.int .i64 pb) ∧ w'.cell? ⟨T, 1, none⟩ = some (.int .i64 pq) ∧ w'.cell? ⟨T, 2, none⟩ = some (.int .i64 ps)) (go_keep)
  ((first
    | (go_at_call 25
       refine (HT.out _).mono ?_
       rintro e w1 ⟨rfl, hb1⟩
       have M1 := Lib.hid (HM.out.drew.below hb1)
       have S1 := Lib.hid (And.intro ((HS.out.1.below (drew_below _)).below hb1) (And.intro ((HS.out.2.1.below (drew_below _)).below hb1) ((HS.out.2.2.below (drew_below _)).below hb1)))
       have p01 := M1.out.p.wo.c0
       have t01 := S1.out.2.2.c 0 _ rfl
       have t11 := S1.out.2.2.c 1 _ rfl
       have t21 := S1.out.2.2.c 2 _ rfl
       rw [← HPP.out.1] at t01
       rw [← HPP.out.2.1] at t11
       rw [← HPP.out.2.2] at t21
       clear hb1)
    | (go_at_call 70
       refine (c_LoadP ta M1.out.p M1.out.e.hi HTA.out.1 HTA.out.2 n0 n1).mono ?_
       rintro e w2 ⟨rfl, G2, e2, P2⟩
       have M2 := Lib.hid (M1.out.world hk e2 P2)
       have S2 := Lib.hid (And.intro (S1.out.1.ext e2 (by unfold SW; omega)) (And.intro (S1.out.2.1.ext e2 (by unfold SW; omega)) (S1.out.2.2.ext e2 (by unfold SW; omega))))
       have p02 := M2.out.p.wo.c0
       have t02 := S2.out.2.2.c 0 _ rfl
       have t12 := S2.out.2.2.c 1 _ rfl
       have t22 := S2.out.2.2.c 2 _ rfl
       rw [← HPP.out.1] at t02
       rw [← HPP.out.2.1] at t12
       rw [← HPP.out.2.2] at t22
       clear e2 P2)
    | (go_at_call 47
       refine (HTG.out _).mono ?_
       rintro e w3 ⟨rfl, hb3⟩
       have M3 := Lib.hid (M2.out.below hb3)
       have S3 := Lib.hid (And.intro (S2.out.1.below hb3) (And.intro (S2.out.2.1.below hb3) (S2.out.2.2.below hb3)))
       have p03 := M3.out.p.wo.c0
       have t03 := S3.out.2.2.c 0 _ rfl
       have t13 := S3.out.2.2.c 1 _ rfl
       have t23 := S3.out.2.2.c 2 _ rfl
       rw [← HPP.out.1] at t03
       rw [← HPP.out.2.1] at t13
       rw [← HPP.out.2.2] at t23
       have x23 := M3.out.t.c 2 _ rfl
       have f23 := M3.out.t.f 2
       clear hb3)))
 all_goals
  clear p0 y3 y4 t0 t1 t2 p01 t01 t11 t21 p02 t02 t12 t22 p03 t03 t13 t23 x23 f23 M1 S1 M2 S2 HM HS HT HTG
  have x2 := M3.out.t.c 2 _ rfl
  have f2 := M3.out.t.f 2
  have x3 := M3.out.t.c 3 _ rfl
  have f3 := M3.out.t.f 3
  go_wp2_with fail
  go_ret
  obtain ⟨e1, y1⟩ := ob_setP M3.out.t hk M3.out.e.hi 2 (.int .i64 tg) (by simp [hoCs])
  obtain ⟨e2, y2⟩ := ob_setP y1 hk e1.hi 3 (.bool true) (by simp [hoCs])
  have e12 := e1.trans e2
  refine ⟨rfl, G2, M3.out.e.trans (e12.mono fun t _ h => .inr (by omega)), M3.out.p.ext e12 (by omega) (by omega) (by omega) (by omega), _, _, true, ?_, fun _ => S3.out.1.ext e12 (by omega), fun h => absurd h (by show ¬ (2 : Int) = 1; decide), fun _ => rfl, fun _ => ⟨0, S3.out.2.1.ext e12 (by omega), rfl⟩, fun h => absurd h (by show ¬ (3 : Int) ≤ 2; decide)⟩
  dsimp only
  rw [show max ((i : Int) + 1) 0 = (i : Int) + 1 from by omega]
  exact y2
theorem c_Ho2 {z : Hom} (hz : HoOk z) (hP : PW w O B f s) (hM : HoAt w O k X z) (hl : z.ln = 2) (hk : 10 ≤ k) (hhi : ∀ j, O j ≠ 0 → j < w.heap.size) (n0 : 0 ≤ s.n) (n1 : s.n ≤ 4611686018427387904) :
 Calls Tryz.prog 106 #[.pointer (some ⟨X, 0, none⟩), .pointer (some ⟨B.p, 0, none⟩)] w fun e w' => e = .returned (.bool ((hoStep (s, z)).2.ln == 0)) ∧ HoPost w O B f k X (hoStep (s, z)) w' := by
 have hkk := hz.k (by omega)
 have hlen := hz.len
 have hsk := hz.sok (by omega)
 have htk := hz.tok (by omega)
 have ht0 := hz.t0
 rw [hoStep_2 s z hl]
 obtain ⟨wv, dv, ld, hx, hw, hl1, hl2, hd0, -⟩ := hM.ex
 replace hw := hw (by omega)
 obtain ⟨n9, hd1, rfl⟩ := hd0 (by omega)
 obtain ⟨dao, dc, rfl, -⟩ := hd1.shape
 rw [show max (z.k + 1) 0 = z.k + 1 from by omega] at hx
 obtain ⟨p, hpe⟩ : ∃ p, p = z.s := ⟨_, rfl⟩
 rw [← hpe] at hsk ⊢
 obtain ⟨ln, kk, way, tag, ref, l1, o, u, l2⟩ := z
 dsimp only at hkk hlen ht0 hx hw hl1 hl2 hl ⊢
 subst hl
 obtain ⟨i, rfl⟩ : ∃ i : Nat, kk = i := ⟨kk.toNat, by omega⟩
 have hil : i < way.length := by omega
 have hpi : way[i]? = some p := by
  rw [hpe]
  show way[i]? = some (hoAt way i)
  unfold hoAt
  rw [if_neg (by omega), Int.toNat_natCast, List.getD, List.getElem?_eq_getElem hil]
  rfl
 obtain rfl := hl2 (by decide)
 have hpi1 : way[i + 1]? = some (hoAt way (i + 1)) := by
  unfold hoAt
  have hi2 : i + 1 < way.length := by omega
  rw [if_neg (by omega), show ((i : Int) + 1).toNat = i + 1 from by omega, List.getD, List.getElem?_eq_getElem hi2]
  rfl
 obtain ⟨dd, hdd⟩ : ∃ dd, dd = hoAt way (i + 1) := ⟨_, rfl⟩
 have htd : Hom.t ⟨2, i, way, tag, ref, l1, o, u, l2⟩ = dd := hdd.symm
 rw [htd] at htk ⊢
 rw [← hdd] at hpi1
 have HI := Lib.hid (fun W => c_Item p.b p.q p.s W (by have := hsk.b0; omega) (by have := hsk.b1; omega) (by have := hsk.q0; omega) (by have := hsk.q2; omega) (by have := hsk.s0; omega) (by have := hsk.s1; omega))
 have hia2 : plItem p.b p.q p.s = p.item := rfl
 rw [hia2] at HI
 have hbt := hP.bd p.item
 obtain ⟨A2, o2, c2, rfl, -⟩ := hw.open (by omega)
 obtain ⟨b1, b2, b3⟩ := flat3_at way i p hpi
 have u1 := hw.c _ _ b1
 have u2 := hw.c _ _ b2
 have u3 := hw.c _ _ b3
 rw [← Nat.add_assoc] at u2 u3
 have hXl : X < w.heap.size := hx.lt
 have hAl : A2 < w.heap.size := hw.lt.1
 have x0 := hx.c 0 _ rfl
 have x1 := hx.c 1 _ rfl
 have x4 := hx.c 4 _ rfl
 have x3 := hx.c 3 _ rfl
 have hj1 : (i : Int) < way.length := by omega
 have hwi : IntKind.i64.wrap (i : Int) = (i : Int) := by simp [IntKind.wrap, IntKind.bits, IntKind.signed]; omega
 have hi0 : (0 : Int) ≤ (i : Int) := by omega
 have hi1 : (i : Int) + 1 - 1 = (i : Int) := by omega
 have hne : ((i : Int) + 1 == 0) = false := by simp; omega
 have HV0 := Lib.hid (c_HoOver x1)
 rw [hne] at HV0
 have htg := hsk.tags
 have hit := hsk.item
 have hq2 := hsk.q2
 have hs0 := hsk.s0
 have hs1 := hsk.s1
 obtain ⟨pb, hpb⟩ : ∃ z, z = p.b := ⟨_, rfl⟩
 obtain ⟨pq, hpq⟩ : ∃ z, z = p.q := ⟨_, rfl⟩
 obtain ⟨ps, hps⟩ : ∃ z, z = p.s := ⟨_, rfl⟩
 rw [← hpb] at u1
 rw [← hpq] at u2
 rw [← hps] at u3
 have hb1 := (Below.refl w.heap.size w).alloc (Nat.le_refl _) (.cells #[.int .i64 pb, .int .i64 pq, .int .i64 ps] 56)
 have hb2 := drew_below (w.alloc (.cells #[.int .i64 pb, .int .i64 pq, .int .i64 ps] 56))
 have hb := hb1.trans (hb2.mono (by simp <;> omega))
 obtain ⟨-, t1⟩ := alloc_nbH (S := fun _ => False) hhi #[.int .i64 pb, .int .i64 pq, .int .i64 ps] 56 w.heap.size rfl
 have t2 := t1.below hb2
 have hti : Ob (w.alloc (.cells #[.int .i64 pb, .int .i64 pq, .int .i64 ps] 56)).drew O 0 w.heap.size (spl p) := by rw [hpb, hpq, hps] at t2 ⊢; exact t2
 have HM : Hid (Me k (k + 8) w O (w.alloc (.cells #[.int .i64 pb, .int .i64 pq, .int .i64 ps] 56)).drew O B f s k X (hoCs (.slice (some ⟨A2, o2, none⟩) way.length c2) ((i : Int) + 1) tag true (.slice dao 0 dc))) := Lib.hid ⟨Ext.of_below hhi hb, hP.below hhi hb, hx.below hb⟩
 have HS : Hid (Sls (w.alloc (.cells #[.int .i64 pb, .int .i64 pq, .int .i64 ps] 56)).drew O (k + 1) 3 (.slice (some ⟨A2, o2, none⟩) way.length c2) way.length (way.flatMap spl) ∧ Sls (w.alloc (.cells #[.int .i64 pb, .int .i64 pq, .int .i64 ps] 56)).drew O (k + 2) 1 (.slice dao 0 dc) 0 [] ∧ Ob (w.alloc (.cells #[.int .i64 pb, .int .i64 pq, .int .i64 ps] 56)).drew O 0 w.heap.size (spl p)) := Lib.hid ⟨hw.below hb, hd1.below hb, hti⟩
 have hia : 0 ≤ p.item ∧ p.item < 18446744073709551616 := by omega
 have HPK := Lib.hid (And.intro hsk (And.intro htk (And.intro hpi (And.intro hpi1 hdd))))
 obtain ⟨ia, hia3⟩ : ∃ ia, ia = p.item := ⟨_, rfl⟩
 rw [← hia3] at HI hia hbt ⊢
 obtain ⟨rf, hrf⟩ : ∃ x, x = wrap64 (s.M ia) := ⟨_, rfl⟩
 have hrf2 : IntKind.i64.wrap (s.M ia) = rf := by rw [hrf]; unfold wrap64; simp [IntKind.wrap, IntKind.bits, IntKind.signed]; omega
 have HRF : Hid (-9223372036854775808 ≤ rf ∧ rf ≤ 9223372036854775807) := Lib.hid (by rw [hrf]; exact wrap64_bd _)
 rw [← hrf]
 rw [← hpb, ← hpq, ← hps] at HI
 have HIA := Lib.hid hia
 have HPP := Lib.hid (And.intro hpb (And.intro hpq hps))
 have HT0 := Lib.hid (And.intro ht0 hlen)
 obtain ⟨W, hW⟩ : ∃ W, W = (w.alloc (.cells #[.int .i64 pb, .int .i64 pq, .int .i64 ps] 56)).drew := ⟨_, rfl⟩
 rw [← hW] at HM HS
 obtain ⟨T, hTe⟩ : ∃ T, T = w.heap.size := ⟨_, rfl⟩
 clear hP hM hx hw hd0 hd1 hhi hsk htk ht0 hil hpi hpi1 hpe htd hdd b1 b2 b3 htg hit hq2 hs0 hs1 hb1 hb2 hb t1 t2 hti hia hia2 hia3 hbt hpb hpq hps hl1 hl2 hrf
 go_enter Tryz.func106, Tryz.ntmps106
 go_wp2_with fail
 refine HV0.out.mono ?_
 rintro e w' ⟨rfl, rfl⟩
 go_wp2_with fail
 go_region
 rw [← hW]
 rw [← hTe] at HS ⊢
 clear hW hTe x0 x1 x3 x4 u1 u2 u3 hXl hAl hj1 hwi hi0 hi1 hne HV0
 have y3 := HM.out.t.c 3 _ rfl
 have y4 := HM.out.t.c 4 _ rfl
 have t0 := HS.out.2.2.c 0 _ rfl
 have t1 := HS.out.2.2.c 1 _ rfl
 have t2 := HS.out.2.2.c 2 _ rfl
 have p0 := HM.out.p.wo.c0
 rw [← HPP.out.1] at t0
 rw [← HPP.out.2.1] at t1
 rw [← HPP.out.2.2] at t2
 go_upto_region 4 with fail
 go_region_held3 (fun w' => w'.cell? ⟨B.p, 0, none⟩ = some (.pointer (some ⟨B.c, 0, none⟩)) ∧ w'.cell? ⟨T, 0, none⟩ = some (.int .i64 pb) ∧ w'.cell? ⟨T, 1, none⟩ = some (.int .i64 pq) ∧ w'.cell? ⟨T, 2, none⟩ = some (.int .i64 ps)) (go_keep)
  ((first
    | (go_at_call 48
       refine (HI.out _).mono ?_
       rintro e w1 ⟨rfl, hb1⟩
       have M1 := Lib.hid (HM.out.drew.below hb1)
       have S1 := Lib.hid (And.intro ((HS.out.1.below (drew_below _)).below hb1) (And.intro ((HS.out.2.1.below (drew_below _)).below hb1) ((HS.out.2.2.below (drew_below _)).below hb1)))
       have p01 := M1.out.p.wo.c0
       have t01 := S1.out.2.2.c 0 _ rfl
       have t11 := S1.out.2.2.c 1 _ rfl
       have t21 := S1.out.2.2.c 2 _ rfl
       rw [← HPP.out.1] at t01
       rw [← HPP.out.2.1] at t11
       rw [← HPP.out.2.2] at t21
       clear hb1)
    | (go_at_call 70
       refine (c_LoadP ia M1.out.p M1.out.e.hi HIA.out.1 HIA.out.2 n0 n1).mono ?_
       rintro e w2 ⟨rfl, G2, e2, P2⟩
       have M2 := Lib.hid (M1.out.world hk e2 P2)
       have S2 := Lib.hid (And.intro (S1.out.1.ext e2 (by unfold SW; omega)) (And.intro (S1.out.2.1.ext e2 (by unfold SW; omega)) (S1.out.2.2.ext e2 (by unfold SW; omega))))
       have p02 := M2.out.p.wo.c0
       have t02 := S2.out.2.2.c 0 _ rfl
       have t12 := S2.out.2.2.c 1 _ rfl
       have t22 := S2.out.2.2.c 2 _ rfl
       rw [← HPP.out.1] at t02
       rw [← HPP.out.2.1] at t12
       rw [← HPP.out.2.2] at t22
       clear e2 P2)
    | (go_at_call 110
       refine (c_row i M2.out.t S2.out.1 HT0.out.2 HPK.out.2.2.1 HPK.out.2.2.2.1 HPK.out.1 HPK.out.2.1 HT0.out.1.1 HT0.out.1.2 HRF.out.1 HRF.out.2 hk M2.out.e.hi).mono ?_
       rintro e w3 ⟨rfl, G3, e3, lv, m1, u', q, m2, x3, l3, k1, k2, k3, k4⟩
       have M3 := Lib.hid (And.intro (M2.out.e.trans (e3.mono (T := SX k (k + 8)) fun t _ h => .inr (by omega))) (And.intro (M2.out.p.ext e3 (by omega) (by omega) (by omega) (by omega)) (And.intro x3 (And.intro l3 (And.intro k1 (And.intro k2 (And.intro k3 (And.intro k4 (S2.out.1.ext e3 (by omega))))))))))
       have p03 := M3.out.2.1.wo.c0
       have t03 := (S2.out.2.2.ext e3 (by omega)).c 0 _ rfl
       have t13 := (S2.out.2.2.ext e3 (by omega)).c 1 _ rfl
       have t23 := (S2.out.2.2.ext e3 (by omega)).c 2 _ rfl
       rw [← HPP.out.1] at t03
       rw [← HPP.out.2.1] at t13
       rw [← HPP.out.2.2] at t23
       clear e3 x3 l3 k1 k2 k3 k4)))
 all_goals
  clear p0 y3 y4 t0 t1 t2 p01 t01 t11 t21 p02 t02 t12 t22 p03 t03 t13 t23 M1 S1 M2 S2 HM HS HI
  have hmk := POver.mark (k := k) M3.out.2.2.2.2.1 ⟨by omega, by omega⟩
  rw [mk2_ne] at hmk
  have HON := Lib.hid (c_hon0 (l := [IOut u', IPut q, IMark m2]) M3.out.2.2.1 M3.out.2.2.2.1 hmk hk M3.out.1.hi)
  clear hmk
  go_wp2_with fail
  refine HON.out.mono ?_
  rintro e w4 ⟨rfl, hb⟩
  have x14 := (M3.out.2.2.1.below hb).c 1 _ rfl
  have HV4 := Lib.hid (c_HoOver x14)
  rw [show ((i : Int) + 1 == 0) = false from by simp; omega] at HV4
  have HF : Hid (HoPost w O B f k X (awLoad ia s, ⟨3, i, way, tag, rf, mk2 p dd, ⟨0, 0⟩, ptNew tag rf, mk2 p dd⟩) w4) := Lib.hid (by
   have hp3 : Hom.s ⟨3, i, way, tag, rf, mk2 p dd, ⟨0, 0⟩, ptNew tag rf, mk2 p dd⟩ = p := by
    have := HPK.out.2.2.1
    show hoAt way i = p
    have hil := (List.getElem?_eq_some_iff.1 this).1
    unfold hoAt
    rw [if_neg (by omega), Int.toNat_natCast, List.getD, this]
    rfl
   have ht3 : Hom.t ⟨3, i, way, tag, rf, mk2 p dd, ⟨0, 0⟩, ptNew tag rf, mk2 p dd⟩ = dd := HPK.out.2.2.2.2.symm
   exact ho36 (m1 := m1) (u := u') (q := q) (m2 := m2) (by dsimp only; omega) (by dsimp only; omega) (by dsimp only; omega) (M3.out.1.below hb) (M3.out.2.1.below M3.out.1.hi hb) (M3.out.2.2.1.below hb) (M3.out.2.2.2.2.2.2.2.2.below hb) (M3.out.2.2.2.1.below hb) (fun _ => M3.out.2.2.2.2.1.below hb) (fun _ => by rw [hp3]; exact M3.out.2.2.2.2.2.1.below hb) (fun _ => by rw [ht3]; exact M3.out.2.2.2.2.2.2.1.below hb) (M3.out.2.2.2.2.2.2.2.1.below hb))
  clear hb x14 HON M3
  go_wp2_with fail
  refine HV4.out.mono ?_
  rintro e w' ⟨rfl, rfl⟩
  go_wp2_with fail
  go_ret
  exact ⟨rfl, HF.out⟩
theorem c_HoStep {z : Hom} (hz : HoOk z) (hP : PW w O B f s) (hM : HoAt w O k X z) (hl : z.ln ≠ 0) (hk : 10 ≤ k) (hhi : ∀ j, O j ≠ 0 → j < w.heap.size) (n0 : 0 ≤ s.n) (n1 : s.n ≤ 4611686018427387904) :
 Calls Tryz.prog 106 #[.pointer (some ⟨X, 0, none⟩), .pointer (some ⟨B.p, 0, none⟩)] w fun e w' => e = .returned (.bool ((hoStep (s, z)).2.ln == 0)) ∧ HoPost w O B f k X (hoStep (s, z)) w' := by
 have h0 := hz.l0
 have h6 := hz.l6
 have hc : z.ln = 1 ∨ z.ln = 2 ∨ z.ln = 3 ∨ z.ln = 4 ∨ z.ln = 5 ∨ z.ln = 6 := by omega
 rcases hc with e | e | e | e | e | e
 · exact c_Ho1 hz hP hM e hk hhi n0 n1
 · exact c_Ho2 hz hP hM e hk hhi n0 n1
 · exact c_Ho3 hz hP hM e hk hhi n0 n1
 · exact c_Ho4 hz hP hM e hk hhi n0 n1
 · exact c_Ho5 hz hP hM e hk hhi n0 n1
 · exact c_Ho6 hz hP hM e hk hhi n0 n1
theorem c_RmHop {z : Rmm} (mo : Int) (hR : RoomAt w O k X z) (hl : z.ln = 4) (hz : HoOk z.ho) (hz0 : z.ho.ln ≠ 0) (hP : PW w O B f s) (hk : 10 ≤ k) (hhi : ∀ j, O j ≠ 0 → j < w.heap.size) (n0 : 0 ≤ s.n) (n1 : s.n ≤ 4611686018427387904) :
 Calls Tryz.prog 97 #[.pointer (some ⟨X, 0, none⟩), .pointer (some ⟨B.p, 0, none⟩)] w (RmPost mo k X B f s z w O) := by
 obtain ⟨bv, wv, hv, h1, -, -, h4⟩ := hR.ex
 obtain ⟨Y, rfl, hY⟩ := h4 hl
 have HST := Lib.hid (c_HoStep (k := k + 6) hz hP hY hz0 (by omega) hhi n0 n1)
 have HMS : Hid (rmStep mo (s, z) = ((hoStep (s, z.ho)).1, ⟨if (hoStep (s, z.ho)).2.ln = 0 then 0 else 4, z.b, z.a, z.c, z.wy, (hoStep (s, z.ho)).2, z.p, if (hoStep (s, z.ho)).2.ln = 0 then true else z.is⟩)) := Lib.hid (by
  unfold rmStep; dsimp only; rw [if_neg (by omega), if_neg (by omega), if_neg (by omega), if_pos hl])
 unfold RmPost
 obtain ⟨s1, zh, hsz⟩ : ∃ s1 zh, hoStep (s, z.ho) = (s1, zh) := ⟨_, _, rfl⟩
 rw [hsz] at HST HMS
 dsimp only at HST HMS
 have hdo : rmDo z.ln = HOPR := by rw [hl]; rfl
 rw [hdo] at h1
 have x6 := h1.c 6 _ rfl
 have HX := Lib.hid h1
 clear hR hz hz0 hP hhi hsz h4 hY h1 hdo
 go_enter Tryz.func97, Tryz.ntmps97
 go_wp2_with fail
 refine HST.out.mono ?_
 rintro e w1 ⟨rfl, G1, e1, P1, Y1⟩
 have x1 := HX.out.ext e1 (fun h => by rcases h with h | h <;> omega)
 have H1 := Lib.hid (And.intro (e1.mono (T := SX k (k + 14)) fun t _ h => h.imp id fun h => by omega) (And.intro P1 (And.intro Y1 x1)))
 clear e1 P1 Y1 x1 HST HX x6
 by_cases hz0 : zh.ln = 0
 · have HMS2 := Lib.hid HMS.out
   rw [if_pos hz0, if_pos hz0] at HMS2
   have x7 := H1.out.2.2.2.c 7 _ rfl
   have x8 := H1.out.2.2.2.c 8 _ rfl
   have x9 := H1.out.2.2.2.c 9 _ rfl
   have HEN := Lib.hid (c_RmEnds _ _ _ _ z.b z.a z.c z.p z.p z.is H1.out.2.2.2 hk H1.out.1.hi)
   have d0 : (zh.ln == 0) = true := by simp [hz0]
   rw [d0]
   clear hz0 HMS
   go_wp2_with fail
   refine HEN.out.mono ?_
   rintro e w6 ⟨rfl, G6, e6, r6⟩
   have H6 := Lib.hid (And.intro (H1.out.1.trans (e6.mono (T := SX k (k + 14)) fun t _ h => .inr (by omega))) (And.intro (H1.out.2.1.ext e6 (by omega) (by omega) (by omega) (by omega)) r6))
   clear e6 r6 HEN H1 x7 x8 x9
   go_wp2_with fail
   go_end0
   rw [HMS2.out]
   exact ⟨rfl, G6, H6.out.1, H6.out.2.1, bv, _, _, H6.out.2.2, fun h => absurd h (by show ¬ ((0 : Int) = 1 ∨ (0 : Int) = 2); decide), fun h => absurd h (by show ¬ (0 : Int) = 3; decide), fun h => absurd h (by show ¬ (0 : Int) = 4; decide)⟩
 · have HMS2 := Lib.hid HMS.out
   rw [if_neg hz0, if_neg hz0] at HMS2
   have d0 : (zh.ln == 0) = false := by simp [hz0]
   rw [d0]
   clear hz0 HMS
   go_wp2_with fail
   go_end0
   rw [HMS2.out]
   exact ⟨rfl, G1, H1.out.1, H1.out.2.1, bv, _, _, H1.out.2.2.2, fun h => absurd h (by show ¬ ((4 : Int) = 1 ∨ (4 : Int) = 2); decide), fun h => absurd h (by show ¬ (4 : Int) = 3; decide), fun _ => ⟨Y, rfl, H1.out.2.2.1⟩⟩
end
end
section
set_option linter.unusedVariables false
open Go.RowKit Go.Shelf
section
variable {X : Nat} {w : World} {O : Om} {B : Wb} {f : Cf} {s : AW} {k : Nat}
theorem c_RmStep {z : Rmm} (hz : RmOk z) (hP : PW w O B f s) (hR : RoomAt w O k X z) (hl : z.ln ≠ 0) (hk : 10 ≤ k) (hhi : ∀ j, O j ≠ 0 → j < w.heap.size) (n0 : 0 ≤ s.n) (n1 : s.n ≤ 4611686018427387904) :
 Calls Tryz.prog 156 #[.pointer (some ⟨X, 0, none⟩), .pointer (some ⟨B.p, 0, none⟩)] w (RP (SX k (k + 14)) w O (.bool ((rmStep f.y (s, z)).2.ln == 0)) fun W G => PW W G B f (rmStep f.y (s, z)).1 ∧ RoomAt W G k X (rmStep f.y (s, z)).2) := by
 have h0 := hz.l0
 have h4 := hz.l4
 have hg : RmGo f z := hz.go hl
 have hc : z.ln = 1 ∨ z.ln = 2 ∨ z.ln = 3 ∨ z.ln = 4 := by omega
 rcases hc with e | e | e | e
 · by_cases hf : 0 ≤ twFree (s.M (plTags z.b z.a))
   · have hst := rmStep_1 f.y s z e
     rw [if_pos hf] at hst
     rw [hst]
     have hql : rmLeft z = z.a :: (if z.c = z.a then [] else [z.c]) := by unfold rmLeft; rw [if_pos e]; split <;> rfl
     exact c_RmStepFree hP hR (.inl e) hql (hz.b hl) (hz.a hl) hf hk hhi n0 n1
   · exact c_RmStepOn hR (.inl e) hg (by rw [if_pos e]; exact hf) hP hk hhi n0 n1
 · by_cases hf : 0 ≤ twFree (s.M (plTags z.b z.c))
   · have hst := rmStep_2 f.y s z e
     rw [if_pos hf] at hst
     rw [hst]
     have hql : rmLeft z = z.c :: [] := by unfold rmLeft; rw [if_neg (by omega), if_pos e]
     exact c_RmStepFree hP hR (.inr e) hql (hz.b hl) (hz.c hl) hf hk hhi n0 n1
   · exact c_RmStepOn hR (.inr e) hg (by rw [if_neg (by omega)]; exact hf) hP hk hhi n0 n1
 · refine c_RmStep3 hR e hg hP hk hhi n0 n1 ?_
   rcases (hz.y e).step (s := s) with g | g
   · have := g.2.2; omega
   · have := g.2.way; rw [this]; simp
 · exact c_RmStepBy 97 hR (by unfold rmDo; rw [if_neg (by omega), if_neg (by omega), if_neg (by omega)]; rfl) (enters_of Tryz.func97 (by kernel_rfl) rfl) (c_RmHop f.y hR e (hz.h e).1 (hz.h e).2 hP hk hhi n0 n1)
end
end
end Go.Proofs.YtfnmdafpdcgcmaaGreat
