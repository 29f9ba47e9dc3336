/- Parts of the walk. -/
import Derived.Test.YthbodknlhkapdaaGreatBaG
import Derived.Test.YthbodknlhkapdaaGreatG1
import Derived.Test.YthbodknlhkapdaaGreatG6
import Derived.Deep.Upon
namespace Go.Proofs.YthbodknlhkapdaaGreat
set_option linter.unusedVariables false
set_option linter.unusedSimpArgs false
set_option maxHeartbeats 4000000
set_option maxRecDepth 100000
section
open Go.RowKit Go.Shelf
section
variable {w : World} {O : Om}
theorem Bax (p q : Spt) (hp : p.ok) (hq : q.ok) {b o c : Nat} (g : Nat) (hg : g ≠ 0) (hob : O b ≠ g) (hc : 2 ≤ c ∧ c ≤ maxLen) (hb : b < w.heap.size) (x0 : w.cell? ⟨b, o, none⟩ = some (.int .i64 p.b)) (x1 : w.cell? ⟨b, o + 1, none⟩ = some (.int .i64 p.q)) (x2 : w.cell? ⟨b, o + 2, none⟩ = some (.int .i64 q.b)) (x3 : w.cell? ⟨b, o + 2 + 1, none⟩ = some (.int .i64 q.q)) (hhi : Hh O w) :
 Calls Tryz.prog 151 #[.slice (some ⟨b, o, none⟩) 2 c] w fun e w' => ∃ A cp, e = .returned (.slice (some ⟨A, 0, none⟩) (mk2 p q).length cp) ∧ ∃ G, Ext (fun j => j = g) O w G w' ∧ Ob w' G g A (Awj (mk2 p q)) := by
 obtain ⟨i0, hi, hz0, hz1, hz2⟩ := info_parts Ao5
 have HI := hQd (aN hi (aN hz0 (aN hz1 hz2)))
 have hq2 := hp.q2
 have hq3 := hq.q2
 have hv := hp.ver
 have hw := hq.ver
 have HV := hQd (fun W => Agp p.b p.q W (by have := hp.b0; omega) (by have := hp.b1; omega) (by have := hp.q0; omega) (by omega))
 have HW := hQd (fun W => Agp q.b q.q W (by have := hq.b0; omega) (by have := hq.b1; omega) (by have := hq.q0; omega) (by omega))
 unfold mk2
 obtain ⟨ve, hve⟩ := exq p.ver
 have hve2 : Abm p.b p.q = ve := hve.symm
 rw [hve2] at HV
 rw [← hve] at hv ⊢
 obtain ⟨vf, hvf⟩ := exq q.ver
 have hvf2 : Abm q.b q.q = vf := hvf.symm
 rw [hvf2] at HW
 rw [← hvf] at hw ⊢
 obtain ⟨pb, hpb⟩ := exq p.b
 obtain ⟨pq, hpq⟩ := exq p.q
 rw [← hpb, ← hpq] at HV
 rw [← hpb] at x0
 rw [← hpq] at x1
 obtain ⟨qb, hqb⟩ := exq q.b
 obtain ⟨qq, hqq⟩ := exq q.q
 rw [← hqb, ← hqq] at HW
 rw [← hqb] at x2
 rw [← hqq] at x3
 have dv : (ve == 0) = false := by rw [beq_eq_false_iff_ne]; omega
 have dw : (vf == 0) = false := by rw [beq_eq_false_iff_ne]; omega
 have HH := hQd hhi
 clear hp hq hv hw hq2 hq3 hve hve2 hvf hvf2 hpb hpq hqb hqq hhi hi hz0 hz1 hz2
 by_cases hvv : vf = ve
 · rw [if_pos hvv]
   have hcv : (ve == vf) = true := by simp [hvv]
   clear hvv
   go_enter Tryz.func151, Tryz.ntmps151
   go_wp2_with fail
   refine wp_loop_rounds 3 ?_
   rw [rounds_succ]
   go_wp2_with fail
   refine (HV.out _).mono ?_
   rintro e w1 ⟨rfl, hb1⟩
   have HB1 : Hid (Below w.heap.size w w1) := hQd (by first | exact (bal _ _).trans (hb1.mono (by simp)) | exact hb1)
   have E1 := hQd (Ext.of_below (S := fun j => j = g) HH.out HB1.out)
   clear hb1
   go_wp2_with fail
   refine wp_loop_rounds 1 ?_
   rw [rounds_succ]
   go_wp2_with (at_builtin; refine Ace w1 rfl _ _ 170 rfl 38 i0 (.int .u64 0) 1 8 Tryz.underlying170 HI.out.1 HI.out.2.1 HI.out.2.2.1 HI.out.2.2.2 rfl (by decide) (by decide) O g hg E1.out.hi (.slice none 0 0) 0 [] rfl (Row.nil _ _ _ _ _) [.int .u64 ve] _ rfl rfl (by simp [Value.oneCell']) (by omega) ?_; intro gg cap w2 G2 e2 r2; have HR2 := hQd r2; have E2 := hQd (E1.out.trans e2); clear e2 r2)
   have y2 := (E2.out.cell (p := ⟨b, o + 2, none⟩) hb hob).trans x2
   have y3 := (E2.out.cell (p := ⟨b, o + 2 + 1, none⟩) hb hob).trans x3
   rw [rounds_succ]
   go_wp2_with fail
   refine (HW.out _).mono ?_
   rintro e w3 ⟨rfl, hb3⟩
   have HB3 : Hid (Below w2.heap.size w2 w3) := hQd (by first | exact (bal _ _).trans (hb3.mono (by simp)) | exact hb3)
   have HR3 := hQd (HR2.out.below HB3.out)
   have E3 := hQd (E2.out.below HB3.out)
   have gc := (HR3.out.ob (by decide)).c 0 _ rfl
   clear hb3 HB3
   go_wp2_with fail
   refine wp_loop_rounds 2 ?_
   rw [rounds_succ]
   go_wp2_with fail
   rw [rounds_succ]
   go_wp2_with fail
   rw [rounds_succ]
   go_wp2_with fail
   go_ret
   exact ⟨gg, cap, rfl, G2, E3.out, HR3.out.ob (by decide)⟩
 rw [if_neg hvv]
 have hcv : (ve == vf) = false := by rw [beq_eq_false_iff_ne]; exact fun e => hvv e.symm
 clear hvv
 go_enter Tryz.func151, Tryz.ntmps151
 go_wp2_with fail
 refine wp_loop_rounds 3 ?_
 rw [rounds_succ]
 go_wp2_with fail
 refine (HV.out _).mono ?_
 rintro e w1 ⟨rfl, hb1⟩
 have HB1 : Hid (Below w.heap.size w w1) := hQd (by first | exact (bal _ _).trans (hb1.mono (by simp)) | exact hb1)
 have E1 := hQd (Ext.of_below (S := fun j => j = g) HH.out HB1.out)
 clear hb1
 go_wp2_with fail
 refine wp_loop_rounds 1 ?_
 rw [rounds_succ]
 go_wp2_with (at_builtin; refine Ace w1 rfl _ _ 170 rfl 38 i0 (.int .u64 0) 1 8 Tryz.underlying170 HI.out.1 HI.out.2.1 HI.out.2.2.1 HI.out.2.2.2 rfl (by decide) (by decide) O g hg E1.out.hi (.slice none 0 0) 0 [] rfl (Row.nil _ _ _ _ _) [.int .u64 ve] _ rfl rfl (by simp [Value.oneCell']) (by omega) ?_; intro gg cap w2 G2 e2 r2; have HR2 := hQd r2; have E2 := hQd (E1.out.trans e2); clear e2 r2)
 have y2 := (E2.out.cell (p := ⟨b, o + 2, none⟩) hb hob).trans x2
 have y3 := (E2.out.cell (p := ⟨b, o + 2 + 1, none⟩) hb hob).trans x3
 rw [rounds_succ]
 go_wp2_with fail
 refine (HW.out _).mono ?_
 rintro e w3 ⟨rfl, hb3⟩
 have HB3 : Hid (Below w2.heap.size w2 w3) := hQd (by first | exact (bal _ _).trans (hb3.mono (by simp)) | exact hb3)
 have HR3 := hQd (HR2.out.below HB3.out)
 have E3 := hQd (E2.out.below HB3.out)
 have gc := (HR3.out.ob (by decide)).c 0 _ rfl
 clear hb3 HB3
 go_wp2_with fail
 refine wp_loop_rounds 2 ?_
 rw [rounds_succ]
 go_wp2_with fail
 rw [rounds_succ]
 go_wp2_with (at_builtin; refine Ace w3 rfl _ _ 170 rfl 38 i0 (.int .u64 0) 1 8 Tryz.underlying170 HI.out.1 HI.out.2.1 HI.out.2.2.1 HI.out.2.2.2 rfl (by decide) (by decide) G2 g hg E3.out.hi (.slice (some ⟨gg, 0, none⟩) 1 cap) 1 [.int .u64 ve] rfl HR3.out [.int .u64 vf] _ rfl rfl (by simp [Value.oneCell']) (by omega) ?_; intro g4 cap4 w4 G4 e4 r4; have HR4 := hQd r4; have E4 := hQd (E3.out.trans e4); clear e4 r4)
 rw [rounds_succ]
 go_wp2_with fail
 go_ret
 exact ⟨g4, cap4, rfl, G4, E4.out, HR4.out.ob (by decide)⟩
theorem Aec (p q : Spt) (hp : p.ok) (hq : q.ok) {b o c : Nat} (k : Nat) (hk : 10 ≤ k) (hob : O b ≠ k + 1) (hc : 2 ≤ c ∧ c ≤ maxLen) (hb : b < w.heap.size) (x0 : w.cell? ⟨b, o, none⟩ = some (.int .i64 p.b)) (x1 : w.cell? ⟨b, o + 1, none⟩ = some (.int .i64 p.q)) (x2 : w.cell? ⟨b, o + 2, none⟩ = some (.int .i64 q.b)) (x3 : w.cell? ⟨b, o + 2 + 1, none⟩ = some (.int .i64 q.q)) (hhi : Hh O w) :
 Calls Tryz.prog 119 #[.slice (some ⟨b, o, none⟩) 2 c] w fun e w' => ∃ X, RP (fun t => t = k ∨ t = k + 1) w O (.pointer (some ⟨X, 0, none⟩)) (fun W G => Ajd W G k X (mk2 p q)) e w' := by
 have HO := hQd (Bax p q hp hq (k + 1) (by omega) hob hc hb x0 x1 x2 x3 hhi)
 have hl2 := Asb p q
 obtain ⟨l, hl⟩ := exq (mk2 p q)
 rw [← hl] at HO hl2 ⊢
 have hne : l ≠ [] := by intro e; rw [e] at hl2; simp at hl2
 have hl10 : l.length ≤ 10 := by omega
 obtain ⟨n, hn⟩ := exq l.length
 rw [← hn] at HO hl2
 have hn0 : (0 : Int) < (n : Int) := by omega
 have HN := hQd (aN hn (aN hne hl10))
 clear hp hq hb x0 x1 x2 x3 hhi hl hn hne hl10 hl2
 go_enter Tryz.func119, Tryz.ntmps119
 go_wp2_with fail
 refine HO.out.mono ?_
 rintro e w1 ⟨A, cp, rfl, G1, e1, a1⟩
 obtain ⟨G2, e2, x2, k2⟩ := Aar e1.hi k #[.int .i64 1, .slice (some ⟨A, 0, none⟩) n cp, .int .i64 0] 172 w1.heap.size rfl
 have HE := hQd (aN ((e1.mono (T := fun t => t = k ∨ t = k + 1) fun t _ h => .inr h).trans (e2.mono fun t _ h => .inl h)) (aN x2 (k2 _ _ _ a1)))
 clear e1 a1 e2 x2 k2
 go_wp2_with fail
 go_ret
 exact ⟨_, rfl, G2, HE.out.1, ⟨A, 0, cp, l, by rw [if_neg HN.out.2.1, ← HN.out.1]; exact HE.out.2.1, HE.out.2.2, rfl, HN.out.2.2⟩⟩
end
def Awl (p : Spt) (tg rf : Int) (o : Otm) : List Value := [.int .i64 (if o.ln = 3 then 0 else (o.ln : Int) + 1), .bool false, .bool false, .int .i64 p.b, .int .i64 p.q, .int .i64 p.s, .int .i64 tg, .int .i64 rf, .int .u64 o.w]
structure Ai5 (W : World) (G : Om) (k R : Nat) (p : Spt) (tg rf : Int) (o : Otm) : Prop where
 ob : Ob W G k R (Awl p tg rf o)
theorem Ai5.ext {S : Nat → Prop} {O O' : Om} {w w' : World} {k U : Nat} {p : Spt} {tg rf : Int} {o : Otm} (h : Ai5 w O k U p tg rf o) (e : Ext S O w O' w') (h1 : ¬ S k := by omega) : Ai5 w' O' k U p tg rf o := ⟨h.ob.ext e h1⟩
theorem Ai5.below {O : Om} {w w' : World} {k U : Nat} {p : Spt} {tg rf : Int} {o : Otm} (h : Ai5 w O k U p tg rf o) (hb : Below w.heap.size w w') : Ai5 w' O k U p tg rf o := ⟨h.ob.below hb⟩
section
variable {R : Nat} {w : World} {O : Om} {C : Wb} {f : Cf} {s : AW} {m k : Nat} {p : Spt} {tg rf : Int}
theorem Ame (hp : p.ok) (hk : 10 ≤ k) (hhi : Hh O w) : Calls Tryz.prog 121 #[.agg #[.int .i64 p.b, .int .i64 p.q, .int .i64 p.s], .int .i64 tg, .int .i64 rf] w fun e w' => ∃ U, RP (fun t => t = k) w O (.pointer (some ⟨U, 0, none⟩)) (fun W G => Ai5 W G k U p tg rf (Abe tg rf)) e w' := by
 have hit := hp.item
 have hq2 := hp.q2
 have HI := hQd (fun W => Adh p.b p.q p.s W (by have := hp.b0; omega) (by have := hp.b1; omega) (by have := hp.q0; omega) (by omega) (by have := hp.s0; omega) (by have := hp.s1; omega))
 obtain ⟨ia, hia⟩ := exq p.item
 have hia2 : Aca p.b p.q p.s = ia := hia.symm
 rw [hia2] at HI
 rw [← hia] at hit
 have di : (ia != 0) = true := by simp; omega
 obtain ⟨b, hb⟩ := exq p.b
 obtain ⟨q, hq⟩ := exq p.q
 obtain ⟨sl, hs⟩ := exq p.s
 rw [← hb, ← hq, ← hs] at HI
 rw [← hb, ← hq, ← hs]
 obtain ⟨O1, e1, -, -⟩ := Aar hhi 0 #[.int .i64 b, .int .i64 q, .int .i64 sl] 95 w.heap.size rfl
 have hhi1 : ∀ (o : Obj) (j : Nat), O j ≠ 0 → j < (w.alloc o).heap.size := fun o j hj => by have := hhi j hj; simp; omega
 obtain ⟨O2, e2, x2, -⟩ := Aar (hhi1 (.cells #[.int .i64 b, .int .i64 q, .int .i64 sl] 95)) k #[.int .i64 0, .bool false, .bool false, .int .i64 b, .int .i64 q, .int .i64 sl, .int .i64 tg, .int .i64 rf, .int .u64 0] 174 (w.heap.size + 1) (by simp)
 have E0 : Ext (fun t => t = k) O w O (w.alloc (.cells #[.int .i64 b, .int .i64 q, .int .i64 sl] 95)) := Ext.of_below hhi (bal _ _)
 have HE := hQd (aN (E0.trans e2) x2)
 have HP := hQd (aN hb (aN hq hs))
 clear hit hq2 hia hia2 hp hb hq hs e1 e2 x2 hhi1 E0 hhi
 by_cases hv : 1 ≤ tg ∧ tg ≤ 255 ∧ 1 ≤ rf
 · have hp : Abe tg rf = ⟨0, 0⟩ := by unfold Abe; rw [if_pos hv]
   have HPN := hQd hp
   have d1 : decide (0 < tg) = true := by simp; omega
   have d2 : decide (tg < 256) = true := by simp; omega
   have d3 : decide (0 < rf) = true := by simp; omega
   clear hv hp
   go_enter Tryz.func121, Tryz.ntmps121
   go_wp2_with fail
   generalize (w.alloc (.cells #[.int .i64 b, .int .i64 q, .int .i64 sl] 95)).alloc (.cells #[.int .i64 0, .bool false, .bool false, .int .i64 b, .int .i64 q, .int .i64 sl, .int .i64 tg, .int .i64 rf, .int .u64 0] 174) = W at HE ⊢
   refine (HI.out _).mono ?_
   rintro e w1 ⟨rfl, hb1⟩
   have X1 := hQd (HE.out.2.below hb1)
   have E1 := hQd (HE.out.1.below hb1)
   have y0 := X1.out.c 0 _ rfl
   have f0 := X1.out.f 0
   clear hb1
   go_wp2_with fail
   go_ret
   have E3 := Aaf (j := 0) (v := .int .i64 1) E1.out.hi X1.out hk
   have x3 := X1.out.set 0 (.int .i64 1) (by simp)
   rw [HP.out.1, HP.out.2.1, HP.out.2.2] at x3
   rw [HPN.out]
   exact ⟨_, rfl, O2, E1.out.trans E3, ⟨x3⟩⟩
 have hp : Abe tg rf = ⟨3, 0⟩ := by unfold Abe; rw [if_neg hv]
 have HPN := hQd hp
 have fin : ∀ w1, Below ((w.alloc (.cells #[.int .i64 b, .int .i64 q, .int .i64 sl] 95)).alloc (.cells #[.int .i64 0, .bool false, .bool false, .int .i64 b, .int .i64 q, .int .i64 sl, .int .i64 tg, .int .i64 rf, .int .u64 0] 174)).heap.size ((w.alloc (.cells #[.int .i64 b, .int .i64 q, .int .i64 sl] 95)).alloc (.cells #[.int .i64 0, .bool false, .bool false, .int .i64 b, .int .i64 q, .int .i64 sl, .int .i64 tg, .int .i64 rf, .int .u64 0] 174)) w1 → ∃ U, RP (fun t => t = k) w O (.pointer (some ⟨U, 0, none⟩)) (fun W G => Ai5 W G k U p tg rf (Abe tg rf)) (.returned (.pointer (some ⟨w.heap.size + 1, 0, none⟩))) w1 := by
  intro w1 hb1
  have x3 := HE.out.2.below hb1
  rw [HP.out.1, HP.out.2.1, HP.out.2.2] at x3
  rw [HPN.out]
  exact ⟨_, rfl, O2, HE.out.1.below hb1, ⟨x3⟩⟩
 have FIN := hQd fin
 clear fin hp
 obtain ⟨W, hW⟩ := exq ((w.alloc (.cells #[.int .i64 b, .int .i64 q, .int .i64 sl] 95)).alloc (.cells #[.int .i64 0, .bool false, .bool false, .int .i64 b, .int .i64 q, .int .i64 sl, .int .i64 tg, .int .i64 rf, .int .u64 0] 174))
 by_cases c1 : 0 < tg
 · have d1 : decide (0 < tg) = true := by simp; omega
   by_cases c2 : tg < 256
   · have d2 : decide (tg < 256) = true := by simp; omega
     have d3 : decide (0 < rf) = false := by simp; omega
     clear hv c1 c2
     go_enter Tryz.func121, Tryz.ntmps121
     go_wp2_with fail
     rw [← hW] at HE FIN ⊢
     clear hW
     refine (HI.out _).mono ?_
     rintro e w1 ⟨rfl, hb1⟩
     have HB := hQd hb1
     clear hb1
     go_wp2_with fail
     go_ret
     exact FIN.out _ HB.out
   have d2 : decide (tg < 256) = false := by simp; omega
   clear hv c1 c2
   go_enter Tryz.func121, Tryz.ntmps121
   go_wp2_with fail
   rw [← hW] at HE FIN ⊢
   clear hW
   refine (HI.out _).mono ?_
   rintro e w1 ⟨rfl, hb1⟩
   have HB := hQd hb1
   clear hb1
   go_wp2_with fail
   go_ret
   exact FIN.out _ HB.out
 have d1 : decide (0 < tg) = false := by simp; omega
 clear hv c1
 go_enter Tryz.func121, Tryz.ntmps121
 go_wp2_with fail
 rw [← hW] at HE FIN ⊢
 clear hW
 refine (HI.out _).mono ?_
 rintro e w1 ⟨rfl, hb1⟩
 have HB := hQd hb1
 clear hb1
 go_wp2_with fail
 go_ret
 exact FIN.out _ HB.out
theorem Ayf (o : Otm) (h : RW w O C f s m) (hR : Ai5 w O k R p tg rf o) (hp : p.ok) (hv : 1 ≤ tg ∧ tg ≤ 255 ∧ 1 ≤ rf ∧ rf ≤ 9223372036854775807) (ho : o.ln = 0) (hk : 10 ≤ k) (hm : m ≤ 900000) (hhi : Hh O w) (n0 : 0 ≤ s.n) (n1 : s.n ≤ 4611686018427387904) :
 C2 85 R C.p w (RP (SD k k) w O (.tuple #[]) fun W G => RW W G C f (Aap p tg rf s o).1 (m + 1) ∧ Ai5 W G k R p tg rf (Aap p tg rf s o).2) := by
 obtain ⟨oln, ow⟩ := o
 dsimp only at ho
 subst ho
 have hx := hR.ob
 have HM : Hid (Md k k w O w O C f s m k R (Awl p tg rf ⟨0, ow⟩)) := hQd (Md.start hhi h hx)
 have hit := hp.item
 have htg := hp.tags
 have hq2 := hp.q2
 have hs0 := hp.s0
 have hs1 := hp.s1
 have HI := hQd (fun W => Adh p.b p.q p.s W (by have := hp.b0; omega) (by have := hp.b1; omega) (by have := hp.q0; omega) (by omega) (by omega) (by omega))
 have HT := hQd (fun W => Ac8 p.b p.q W (by have := hp.b0; omega) (by have := hp.b1; omega) (by have := hp.q0; omega) (by omega))
 obtain ⟨x0, x1, x2, x3, x4, x5, -, -, x8⟩ := hx.c9
 obtain ⟨-, -, -, -, -, -, x6, x7⟩ := hx.c8
 obtain ⟨ia, hia⟩ := exq p.item
 obtain ⟨ta, hta⟩ := exq p.tags
 have hia2 : Aca p.b p.q p.s = ia := hia.symm
 have hta2 : Aai p.b p.q = ta := hta.symm
 rw [hia2] at HI
 rw [hta2] at HT
 rw [← hia] at hit
 rw [← hta] at htg
 have hib : 0 ≤ ia ∧ ia < 18446744073709551616 := by omega
 have htb : 0 ≤ ta ∧ ta < 18446744073709551616 := by omega
 obtain ⟨b, hb⟩ := exq p.b
 obtain ⟨q, hq⟩ := exq p.q
 obtain ⟨sl, hs⟩ := exq p.s
 rw [← hb, ← hq, ← hs] at HI
 rw [← hb, ← hq] at HT
 rw [← hb] at x3
 rw [← hq] at x4
 rw [← hs] at x5 hs0 hs1
 dsimp only at x0 x1 x8
 have HEQ := hQd (aN hia (aN hta (aN hb (aN hq hs))))
 have x0 : w.cell? ⟨R, 0, none⟩ = some (.int .i64 1) := x0
 have x1 : w.cell? ⟨R, 1, none⟩ = some (.bool false) := x1
 have hrl := hx.lt
 have HRF : Hid (0 ≤ rf ∧ rf < 18446744073709551616) := hQd (by omega)
 have hwr : IntKind.u64.wrap rf = rf := by simp [IntKind.wrap, IntKind.bits, IntKind.signed]; omega
 clear h hR hp hv hhi hx hit htg hq2 hia hta hia2 hta2 hb hq hs
 go_enter Tryz.func85, Tryz.ntmps85
 go_wp2_with fail
 refine (HT.out _).mono ?_
 rintro e w1 ⟨rfl, hb1⟩
 have M1 := hQd (HM.out.below hb1)
 have k3 := (hb1.cell (p := ⟨R, 3, none⟩) hrl).trans x3
 have k4 := (hb1.cell (p := ⟨R, 4, none⟩) hrl).trans x4
 have k5 := (hb1.cell (p := ⟨R, 5, none⟩) hrl).trans x5
 have k0 := (hb1.cell (p := ⟨R, 0, none⟩) hrl).trans x0
 have k1 := (hb1.cell (p := ⟨R, 1, none⟩) hrl).trans x1
 have k2 := (hb1.cell (p := ⟨R, 2, none⟩) hrl).trans x2
 have k8 := (hb1.cell (p := ⟨R, 8, none⟩) hrl).trans x8
 have k6 := (hb1.cell (p := ⟨R, 6, none⟩) hrl).trans x6
 have k7 := (hb1.cell (p := ⟨R, 7, none⟩) hrl).trans x7
 have hrl1 : R < w1.heap.size := Nat.lt_of_lt_of_le hrl hb1.size
 clear hb1 x0 x1 x2 x3 x4 x5 x8 x6 x7 hrl
 go_wp2_with fail
 refine (HI.out _).mono ?_
 rintro e w2 ⟨rfl, hb2⟩
 have M2 := hQd (M1.out.below hb2)
 have x0 := (hb2.cell (p := ⟨R, 0, none⟩) hrl1).trans k0
 have x1 := (hb2.cell (p := ⟨R, 1, none⟩) hrl1).trans k1
 have x2 := (hb2.cell (p := ⟨R, 2, none⟩) hrl1).trans k2
 have x5 := (hb2.cell (p := ⟨R, 5, none⟩) hrl1).trans k5
 have x8 := (hb2.cell (p := ⟨R, 8, none⟩) hrl1).trans k8
 have x6 := (hb2.cell (p := ⟨R, 6, none⟩) hrl1).trans k6
 have x7 := (hb2.cell (p := ⟨R, 7, none⟩) hrl1).trans k7
 clear hb2 k0 k1 k2 k3 k4 k5 k8 k6 k7 hrl1
 go_wp2_with fail
 refine (Adg ia rf M2.out.p (by omega) hib.1 hib.2 HRF.out.1 HRF.out.2 M2.out.e.hi n0 n1).mono ?_
 rintro e w3 ⟨rfl, G3, e3, P3⟩
 have M3 := hQd (M2.out.world hk e3 P3)
 have y0 := M3.out.t.c 0 _ rfl
 have f0 := M3.out.t.f 0
 have M5 := hQd (M3.out.set hk (Nat.le_refl _) (Nat.le_refl _) 0 (.int .i64 2) (by simp [Awl]))
 have y0 : w3.cell? ⟨R, 0, none⟩ = some (.int .i64 1) := y0
 clear e3 P3 x0 x1 x2 x5 x8 x6 x7
 go_wp2_with fail
 go_end0
 obtain ⟨e0, G, E, P, T⟩ := M5.out.rp (v := .tuple #[])
 refine ⟨rfl, G, E, ?_, ⟨T⟩⟩
 have := P
 rw [HEQ.out.1] at this
 exact this
theorem Aye (o : Otm) (h : RW w O C f s m) (hR : Ai5 w O k R p tg rf o) (hp : p.ok) (hv : 1 ≤ tg ∧ tg ≤ 255 ∧ 1 ≤ rf ∧ rf ≤ 9223372036854775807) (ho : o.ln = 1) (hk : 10 ≤ k) (hm : m ≤ 900000) (hhi : Hh O w) (n0 : 0 ≤ s.n) (n1 : s.n ≤ 4611686018427387904) :
 C2 85 R C.p w (RP (SD k k) w O (.tuple #[]) fun W G => RW W G C f (Aap p tg rf s o).1 (m + 1) ∧ Ai5 W G k R p tg rf (Aap p tg rf s o).2) := by
 obtain ⟨oln, ow⟩ := o
 dsimp only at ho
 subst ho
 have hx := hR.ob
 have HM : Hid (Md k k w O w O C f s m k R (Awl p tg rf ⟨1, ow⟩)) := hQd (Md.start hhi h hx)
 have hit := hp.item
 have htg := hp.tags
 have hq2 := hp.q2
 have hs0 := hp.s0
 have hs1 := hp.s1
 have HI := hQd (fun W => Adh p.b p.q p.s W (by have := hp.b0; omega) (by have := hp.b1; omega) (by have := hp.q0; omega) (by omega) (by omega) (by omega))
 have HT := hQd (fun W => Ac8 p.b p.q W (by have := hp.b0; omega) (by have := hp.b1; omega) (by have := hp.q0; omega) (by omega))
 obtain ⟨x0, x1, x2, x3, x4, x5, -, -, x8⟩ := hx.c9
 obtain ⟨-, -, -, -, -, -, x6, x7⟩ := hx.c8
 obtain ⟨ia, hia⟩ := exq p.item
 obtain ⟨ta, hta⟩ := exq p.tags
 have hia2 : Aca p.b p.q p.s = ia := hia.symm
 have hta2 : Aai p.b p.q = ta := hta.symm
 rw [hia2] at HI
 rw [hta2] at HT
 rw [← hia] at hit
 rw [← hta] at htg
 have hib : 0 ≤ ia ∧ ia < 18446744073709551616 := by omega
 have htb : 0 ≤ ta ∧ ta < 18446744073709551616 := by omega
 obtain ⟨b, hb⟩ := exq p.b
 obtain ⟨q, hq⟩ := exq p.q
 obtain ⟨sl, hs⟩ := exq p.s
 rw [← hb, ← hq, ← hs] at HI
 rw [← hb, ← hq] at HT
 rw [← hb] at x3
 rw [← hq] at x4
 rw [← hs] at x5 hs0 hs1
 dsimp only at x0 x1 x8
 have HEQ := hQd (aN hia (aN hta (aN hb (aN hq hs))))
 have x0 : w.cell? ⟨R, 0, none⟩ = some (.int .i64 2) := x0
 have x1 : w.cell? ⟨R, 1, none⟩ = some (.bool false) := x1
 have hrl := hx.lt
 clear h hR hp hhi hx hit htg hq2 hia hta hia2 hta2 hb hq hs
 go_enter Tryz.func85, Tryz.ntmps85
 go_wp2_with fail
 refine (HT.out _).mono ?_
 rintro e w1 ⟨rfl, hb1⟩
 have M1 := hQd (HM.out.below hb1)
 have k3 := (hb1.cell (p := ⟨R, 3, none⟩) hrl).trans x3
 have k4 := (hb1.cell (p := ⟨R, 4, none⟩) hrl).trans x4
 have k5 := (hb1.cell (p := ⟨R, 5, none⟩) hrl).trans x5
 have k0 := (hb1.cell (p := ⟨R, 0, none⟩) hrl).trans x0
 have k1 := (hb1.cell (p := ⟨R, 1, none⟩) hrl).trans x1
 have k2 := (hb1.cell (p := ⟨R, 2, none⟩) hrl).trans x2
 have k8 := (hb1.cell (p := ⟨R, 8, none⟩) hrl).trans x8
 have k6 := (hb1.cell (p := ⟨R, 6, none⟩) hrl).trans x6
 have k7 := (hb1.cell (p := ⟨R, 7, none⟩) hrl).trans x7
 have hrl1 : R < w1.heap.size := Nat.lt_of_lt_of_le hrl hb1.size
 clear hb1 x0 x1 x2 x3 x4 x5 x8 x6 x7 hrl
 go_wp2_with fail
 refine (HI.out _).mono ?_
 rintro e w2 ⟨rfl, hb2⟩
 have M2 := hQd (M1.out.below hb2)
 have x0 := (hb2.cell (p := ⟨R, 0, none⟩) hrl1).trans k0
 have x1 := (hb2.cell (p := ⟨R, 1, none⟩) hrl1).trans k1
 have x2 := (hb2.cell (p := ⟨R, 2, none⟩) hrl1).trans k2
 have x5 := (hb2.cell (p := ⟨R, 5, none⟩) hrl1).trans k5
 have x8 := (hb2.cell (p := ⟨R, 8, none⟩) hrl1).trans k8
 have x6 := (hb2.cell (p := ⟨R, 6, none⟩) hrl1).trans k6
 have x7 := (hb2.cell (p := ⟨R, 7, none⟩) hrl1).trans k7
 clear hb2 k0 k1 k2 k3 k4 k5 k8 k6 k7 hrl1
 go_wp2_with fail
 refine (Ac1 ta M2.out.p (by omega) htb.1 htb.2 M2.out.e.hi n0 n1).mono ?_
 rintro e w3 ⟨rfl, G3, e3, P3⟩
 have M3 := hQd (M2.out.world hk e3 P3)
 have y8 := M3.out.t.c 8 _ rfl
 have f8 := M3.out.t.f 8
 have y0 := M3.out.t.c 0 _ rfl
 have f0 := M3.out.t.f 0
 have M4 := M3.out.set hk (Nat.le_refl _) (Nat.le_refl _) 8 (.int .u64 (s.M ta)) (by simp [Awl])
 have M5 := hQd (M4.set hk (Nat.le_refl _) (Nat.le_refl _) 0 (.int .i64 3) (by simp [Awl]))
 have y0 : w3.cell? ⟨R, 0, none⟩ = some (.int .i64 2) := y0
 clear e3 P3 M4 x0 x1 x2 x5 x8 x6 x7
 go_wp2_with fail
 go_end0
 obtain ⟨e0, G, E, P, T⟩ := M5.out.rp (v := .tuple #[])
 have hs : Aap p tg rf s ⟨1, ow⟩ = (Aan ta s, ⟨2, s.M ta⟩) := by rw [HEQ.out.2.1]; rfl
 refine ⟨rfl, G, E, ?_, ?_⟩
 · rw [hs]; exact P
 rw [hs]; exact ⟨T⟩
theorem Ayd (o : Otm) (h : RW w O C f s m) (hR : Ai5 w O k R p tg rf o) (hp : p.ok) (hv : 1 ≤ tg ∧ tg ≤ 255 ∧ 1 ≤ rf ∧ rf ≤ 9223372036854775807) (ho : o.ln = 2) (w0 : 0 ≤ o.w) (w1 : o.w < 18446744073709551616) (hk : 10 ≤ k) (hm : m ≤ 900000) (hhi : Hh O w) (n0 : 0 ≤ s.n) (n1 : s.n ≤ 4611686018427387904) :
 C2 85 R C.p w (RP (SD k k) w O (.tuple #[]) fun W G => RW W G C f (Aap p tg rf s o).1 (m + 1) ∧ Ai5 W G k R p tg rf (Aap p tg rf s o).2) := by
 obtain ⟨oln, ow⟩ := o
 dsimp only at ho
 subst ho
 have hx := hR.ob
 have HM : Hid (Md k k w O w O C f s m k R (Awl p tg rf ⟨2, ow⟩)) := hQd (Md.start hhi h hx)
 have hit := hp.item
 have htg := hp.tags
 have hq2 := hp.q2
 have hs0 := hp.s0
 have hs1 := hp.s1
 have HI := hQd (fun W => Adh p.b p.q p.s W (by have := hp.b0; omega) (by have := hp.b1; omega) (by have := hp.q0; omega) (by omega) (by omega) (by omega))
 have HT := hQd (fun W => Ac8 p.b p.q W (by have := hp.b0; omega) (by have := hp.b1; omega) (by have := hp.q0; omega) (by omega))
 obtain ⟨x0, x1, x2, x3, x4, x5, -, -, x8⟩ := hx.c9
 obtain ⟨-, -, -, -, -, -, x6, x7⟩ := hx.c8
 obtain ⟨ia, hia⟩ := exq p.item
 obtain ⟨ta, hta⟩ := exq p.tags
 have hia2 : Aca p.b p.q p.s = ia := hia.symm
 have hta2 : Aai p.b p.q = ta := hta.symm
 rw [hia2] at HI
 rw [hta2] at HT
 rw [← hia] at hit
 rw [← hta] at htg
 have hib : 0 ≤ ia ∧ ia < 18446744073709551616 := by omega
 have htb : 0 ≤ ta ∧ ta < 18446744073709551616 := by omega
 obtain ⟨b, hb⟩ := exq p.b
 obtain ⟨q, hq⟩ := exq p.q
 obtain ⟨sl, hs⟩ := exq p.s
 rw [← hb, ← hq, ← hs] at HI
 rw [← hb, ← hq] at HT
 rw [← hb] at x3
 rw [← hq] at x4
 rw [← hs] at x5 hs0 hs1
 dsimp only at x0 x1 x8
 have HEQ := hQd (aN hia (aN hta (aN hb (aN hq hs))))
 have x0 : w.cell? ⟨R, 0, none⟩ = some (.int .i64 3) := x0
 have x1 : w.cell? ⟨R, 1, none⟩ = some (.bool false) := x1
 have hrl := hx.lt
 have hwb := Afu (s := sl) (t := tg) w0 w1
 have HW := hQd (fun W => Amc ow sl tg W w0 w1 hs0 hs1 (by omega) (by omega))
 obtain ⟨z, hz⟩ := exq (Acp ow sl tg)
 rw [← hz] at HW hwb
 have HZ := hQd hz
 clear hz
 clear h hR hp hv hhi hx hit htg hq2 hia hta hia2 hta2 hb hq hs
 go_enter Tryz.func85, Tryz.ntmps85
 go_wp2_with fail
 refine (HT.out _).mono ?_
 rintro e w1 ⟨rfl, hb1⟩
 have M1 := hQd (HM.out.below hb1)
 have k3 := (hb1.cell (p := ⟨R, 3, none⟩) hrl).trans x3
 have k4 := (hb1.cell (p := ⟨R, 4, none⟩) hrl).trans x4
 have k5 := (hb1.cell (p := ⟨R, 5, none⟩) hrl).trans x5
 have k0 := (hb1.cell (p := ⟨R, 0, none⟩) hrl).trans x0
 have k1 := (hb1.cell (p := ⟨R, 1, none⟩) hrl).trans x1
 have k2 := (hb1.cell (p := ⟨R, 2, none⟩) hrl).trans x2
 have k8 := (hb1.cell (p := ⟨R, 8, none⟩) hrl).trans x8
 have k6 := (hb1.cell (p := ⟨R, 6, none⟩) hrl).trans x6
 have k7 := (hb1.cell (p := ⟨R, 7, none⟩) hrl).trans x7
 have hrl1 : R < w1.heap.size := Nat.lt_of_lt_of_le hrl hb1.size
 clear hb1 x0 x1 x2 x3 x4 x5 x8 x6 x7 hrl
 go_wp2_with fail
 refine (HI.out _).mono ?_
 rintro e w2 ⟨rfl, hb2⟩
 have M2 := hQd (M1.out.below hb2)
 have x0 := (hb2.cell (p := ⟨R, 0, none⟩) hrl1).trans k0
 have x1 := (hb2.cell (p := ⟨R, 1, none⟩) hrl1).trans k1
 have x2 := (hb2.cell (p := ⟨R, 2, none⟩) hrl1).trans k2
 have x5 := (hb2.cell (p := ⟨R, 5, none⟩) hrl1).trans k5
 have x8 := (hb2.cell (p := ⟨R, 8, none⟩) hrl1).trans k8
 have x6 := (hb2.cell (p := ⟨R, 6, none⟩) hrl1).trans k6
 have x7 := (hb2.cell (p := ⟨R, 7, none⟩) hrl1).trans k7
 clear hb2 k0 k1 k2 k3 k4 k5 k8 k6 k7 hrl1
 go_wp2_with fail
 go_region_held3 (fun w' => w'.cell? ⟨R, 5, none⟩ = some (.int .i64 sl) ∧ w'.cell? ⟨R, 8, none⟩ = some (.int .u64 ow) ∧ w'.cell? ⟨R, 6, none⟩ = some (.int .i64 tg)) (go_keep)
  ((first
    | (go_at_call 69
       refine (HW.out _).mono ?_
       rintro e w' ⟨rfl, rfl⟩)
    | (go_at_call 27
       refine (Adg ta z (w := w2.drew) M2.out.drew.p (by omega) htb.1 htb.2 hwb.1 hwb.2 M2.out.drew.e.hi n0 n1).mono ?_
       rintro e w3 ⟨rfl, G3, e3, P3⟩
       have M3 := hQd (M2.out.drew.world hk e3 P3)
       obtain ⟨-, -, -, -, -, y5, -, -, y8⟩ := M3.out.t.c9
       have y6 := M3.out.t.c 6 _ rfl
       rw [← HEQ.out.2.2.2.2] at y5
       clear e3 P3)))
 all_goals
  clear x0 x1 x2 x5 x8 x6 x7 y5 y8 y6
  have y0 := M3.out.t.c 0 _ rfl
  have f0 := M3.out.t.f 0
  have M5 := hQd (M3.out.set hk (Nat.le_refl _) (Nat.le_refl _) 0 (.int .i64 0) (by simp [Awl]))
  have y0 : w3.cell? ⟨R, 0, none⟩ = some (.int .i64 3) := y0
  go_wp2_with fail
  go_end0
  obtain ⟨e0, G, E, P, T⟩ := M5.out.rp (v := .tuple #[])
  refine ⟨rfl, G, E, ?_, ⟨T⟩⟩
  have := P
  rw [HEQ.out.2.1, HZ.out, HEQ.out.2.2.2.2] at this
  exact this
theorem Ajx (o : Otm) (h : RW w O C f s m) (hR : Ai5 w O k R p tg rf o) (hp : p.ok) (hv : 1 ≤ tg ∧ tg ≤ 255 ∧ 1 ≤ rf ∧ rf ≤ 9223372036854775807) (ho : o.ln < 3) (w0 : 0 ≤ o.w) (w1 : o.w < 18446744073709551616) (hk : 10 ≤ k) (hm : m ≤ 900000) (hhi : Hh O w) (n0 : 0 ≤ s.n) (n1 : s.n ≤ 4611686018427387904) :
 C2 85 R C.p w (RP (SD k k) w O (.tuple #[]) fun W G => RW W G C f (Aap p tg rf s o).1 (m + 1) ∧ Ai5 W G k R p tg rf (Aap p tg rf s o).2) := by
 have h3 : o.ln = 0 ∨ o.ln = 1 ∨ o.ln = 2 := by omega
 rcases h3 with e | e | e
 · exact Ayf o h hR hp hv e hk hm hhi n0 n1
 · exact Aye o h hR hp hv e hk hm hhi n0 n1
 exact Ayd o h hR hp hv e w0 w1 hk hm hhi n0 n1
end
end
section
open Go.RowKit Go.Shelf
def Ahi (n : Wnd) : List Value := [.int .i64 n.q, .int .i64 n.fr, .int .i64 n.sl]
theorem Aj3 (l : List Wnd) : ∀ (i : Nat) (p : Wnd), l[i]? = some p → (l.flatMap Ahi)[i * 3]? = some (.int .i64 p.q) ∧ (l.flatMap Ahi)[i * 3 + 1]? = some (.int .i64 p.fr) ∧ (l.flatMap Ahi)[i * 3 + 2]? = some (.int .i64 p.sl) := by
 induction l with
 | nil => intro i p h; simp at h
 | cons n l ih =>
   intro i p h
   cases i with
   | zero =>
     simp at h
     subst h
     exact ⟨rfl, rfl, rfl⟩
   | succ i =>
     have h2 := ih i p (by simpa using h)
     have e : ∀ j, ((n :: l).flatMap Ahi)[(i + 1) * 3 + j]? = (l.flatMap Ahi)[i * 3 + j]? := by
      intro j
      rw [List.flatMap_cons, show (i + 1) * 3 + j = i * 3 + j + 3 from by omega]
      rfl
     have e0 := e 0
     rw [Nat.add_zero, Nat.add_zero] at e0
     exact ⟨e0.trans h2.1, (e 1).trans h2.2.1, (e 2).trans h2.2.2⟩
def Aqm (ln : Int) (lv : Value) (i : Int) (b mo : Int) (wv : Value) : List Value := [.int .i64 ln, lv, .int .i64 i, .int .i64 b, .int .i64 mo, wv]
structure Apz (W : World) (G : Om) (k X : Nat) (z : Wym) : Prop where
 ex : ∃ (lv wv : Value), Ob W G k X (Aqm z.ln lv z.i z.b z.mo wv) ∧ (z.ln = 1 → Sls W G (k + 1) 3 lv z.l.length (z.l.flatMap Ahi)) ∧ Sls W G (k + 2) 3 wv z.way.length (z.way.flatMap spl)
theorem Apz.ext {S : Nat → Prop} {O O' : Om} {w w' : World} {k X : Nat} {z : Wym} (h : Apz w O k X z) (e : Ext S O w O' w') (hs : ∀ t, k ≤ t → t < k + 3 → ¬ S t) : Apz w' O' k X z := by
 obtain ⟨lv, wv, h1, h2, h3⟩ := h.ex
 exact ⟨lv, wv, h1.ext e (hs _ (by omega) (by omega)), fun g => (h2 g).ext e (hs _ (by omega) (by omega)), h3.ext e (hs _ (by omega) (by omega))⟩
theorem Apz.below {O : Om} {w w' : World} {k X : Nat} {z : Wym} (h : Apz w O k X z) (e : Below w.heap.size w w') : Apz w' O k X z := by
 obtain ⟨lv, wv, h1, h2, h3⟩ := h.ex
 exact ⟨lv, wv, h1.below e, fun g => (h2 g).below e, h3.below e⟩
theorem Ao4 : (Tryz.prog.info? 254).map (fun i => (i.zero, i.size, i.bytes)) = some (some (.agg #[.int .i64 0, .int .i64 0, .int .i64 0]), 3, 24) := by kernel_rfl
section
variable {X : Nat} {w : World} {O : Om} {k : Nat}
theorem Ba8 (q : Int) {l : List Wnd} {ln i b mo : Int} {lv wv : Value} (hx : Ob w O k X (Aqm ln lv i b mo wv)) (hS : Sls w O (k + 1) 3 lv l.length (l.flatMap Ahi)) (hl : l.length ≤ 4096) :
 Calls Tryz.prog 147 #[.pointer (some ⟨X, 0, none⟩), .int .i64 q] w fun e w' => e = .returned (.bool (Aha l q)) ∧ w = w' := by
 obtain ⟨ao, c, rfl, -⟩ := hS.shape
 obtain ⟨n, hn⟩ := exq l.length
 rw [← hn] at hx hS hl
 have x1 := hx.c 1 _ rfl
 have HS := hQd (aN hS hn)
 clear hx hS hn
 go_enter Tryz.func147, Tryz.ntmps147
 go_wp2_with fail
 go_loopw [5] (fun t wr => ∃ (j : Nat), j ≤ n ∧ t = .int .i64 j ∧ wr = w ∧ Hid (∀ i, i < j → ∀ m, l[i]? = some m → m.q ≠ q)) (fun t _ => n - (intOf t).toNat)
 case atStart => exact ⟨0, Nat.zero_le _, rfl, rfl, hQd fun i h => by omega⟩
 obtain ⟨j, hj, rfl, rfl, hh⟩ := hrel
 by_cases hjn : j < n
 · have hjn' : (j : Int) < n := by omega
   obtain ⟨A, o, c', hv, -⟩ := HS.out.1.open (by omega)
   cases hv
   obtain ⟨m, hm⟩ : ∃ m, l[j]? = some m := ⟨_, List.getElem?_eq_getElem (by have := HS.out.2; omega)⟩
   obtain ⟨a1, -, -⟩ := Aj3 l j m hm
   have u1 := HS.out.1.c _ _ a1
   have HM := hQd hm
   clear a1 hm
   by_cases hq : m.q = q
   · have d : (m.q == q) = true := by simp [hq]
     have hr : Aha l q = true := (Ahv l q).2 (List.mem_map.2 ⟨m, List.mem_of_getElem? HM.out, hq⟩)
     have HR := hQd hr
     clear hr hq
     go_wp2_with fail
     go_ret
     exact ⟨by rw [HR.out]; rfl, rfl⟩
   have d : (m.q == q) = false := by simp [hq]
   have HQ := hQd hq
   clear hq
   go_wp2_with fail
   go_roundw
   case rel => exact ⟨j + 1, by omega, by go_num, by trivial, hQd fun i h m' hm' => by
    by_cases e : i = j
    · subst e; rw [HM.out] at hm'; cases hm'; exact HQ.out
    exact hh.out i (by omega) m' hm'⟩
   case measure => simp [intOf]; omega
 obtain rfl : j = n := by omega
 have hr : Aha l q = false := by
  rw [← Bool.not_eq_true, Ahv]
  intro hc
  obtain ⟨m, hm, he⟩ := List.mem_map.1 hc
  obtain ⟨i, hi⟩ := List.mem_iff_getElem?.1 hm
  have := (List.getElem?_eq_some_iff.1 hi).1
  exact hh.out i (by have := HS.out.2; omega) m hi he
 have HR := hQd hr
 clear hr
 go_wp2_with fail
 go_ret
 exact ⟨by rw [HR.out]; rfl, rfl⟩
theorem Ayp (b a c mo : Int) (b0 : 1 ≤ b) (b1 : b ≤ 12) (ha : 0 ≤ a ∧ a < Aac b) (hc : 0 ≤ c ∧ c < Aac b) (hk : 10 ≤ k) (hhi : Hh O w) :
 Calls Tryz.prog 145 #[.int .i64 b, .int .i64 a, .int .i64 c, .int .i64 mo] w fun e w' => ∃ R, RP (fun t => t = k ∨ t = k + 1) w O (.pointer (some ⟨R, 0, none⟩)) (fun W G => Apz W G k R (Ag9 b a c mo)) e w' := by
 have hn : Ag9 b a c mo = ⟨1, Ab7 [⟨a, -1, 0⟩] ⟨c, -1, 0⟩, 0, b, mo, []⟩ := by unfold Ag9; rw [if_pos ⟨ha.1, ha.2, hc.1, hc.2⟩]
 rw [hn]
 have hsz := Aah b
 have HSZ := hQd (fun W => Ab6 b W (by omega) (by omega))
 obtain ⟨sz, hsz2⟩ := exq (Aac b)
 rw [← hsz2] at HSZ ha hc hsz
 have d1 : decide (a < 0) = false := by simp; omega
 have d2 : decide (sz ≤ a) = false := by simp; omega
 have d3 : decide (c < 0) = false := by simp; omega
 have d4 : decide (sz ≤ c) = false := by simp; omega
 obtain ⟨i0, hi, hz0, hz1, hz2⟩ := info_parts Ao4
 have HI := hQd (aN hi (aN hz0 (aN hz1 hz2)))
 obtain ⟨G1, e1, t1, k1⟩ := Aar hhi (k + 1) #[.int .i64 a, .int .i64 (-1), .int .i64 0] 254 w.heap.size rfl
 obtain ⟨G2, e2, x2, k2⟩ := Aar e1.hi k #[.int .i64 1, .slice (some ⟨w.heap.size, 0, none⟩) 1 1, .int .i64 0, .int .i64 b, .int .i64 mo, .slice none 0 0] 229 (w.heap.size + 1) (by simp)
 have S2 := Sls.of_ob (size := 3) (n := 1) (k2 _ _ _ t1) rfl (by unfold maxLen; decide)
 have H2 := hQd (aN ((e1.mono (T := fun t => t = k ∨ t = k + 1) fun t _ h => .inr h).trans (e2.mono fun t _ h => .inl h)) (aN x2 S2))
 clear ha hc hsz hsz2 hi hz0 hz1 hz2 e1 t1 k1 e2 x2 k2 S2 hn hhi
 by_cases hca : c = a
 · have dd : (c != a) = false := by simp [hca]
   have hnd : Ab7 [⟨a, -1, 0⟩] ⟨c, -1, 0⟩ = [⟨a, -1, 0⟩] := by unfold Ab7 Aha; simp [hca]
   have HND := hQd hnd
   clear hca hnd
   go_enter Tryz.func145, Tryz.ntmps145
   go_wp2_with fail
   refine (HSZ.out _).mono ?_
   rintro e w' ⟨rfl, rfl⟩
   go_wp2_with fail
   go_ret
   rw [HND.out]
   exact ⟨_, rfl, G2, H2.out.1, _, _, H2.out.2.1, fun _ => H2.out.2.2, Sls.nil _ _ _ _⟩
 have dd : (c != a) = true := by simp [hca]
 have hnd : Ab7 [⟨a, -1, 0⟩] ⟨c, -1, 0⟩ = [⟨a, -1, 0⟩, ⟨c, -1, 0⟩] := by unfold Ab7 Aha; simp; exact fun e => hca e.symm
 have HND := hQd hnd
 clear hca hnd
 go_enter Tryz.func145, Tryz.ntmps145
 go_wp2_with fail
 refine (HSZ.out _).mono ?_
 rintro e w' ⟨rfl, rfl⟩
 go_wp2_with (at_builtin; refine Ad3 _ (by rfl) _ _ 226 (by rfl) 254 i0 (.agg #[.int .i64 0, .int .i64 0, .int .i64 0]) 3 24 Tryz.underlying226 HI.out.1 HI.out.2.1 HI.out.2.2.1 HI.out.2.2.2 rfl (by decide) G2 (k + 1) (by omega) H2.out.1.hi (.slice (some ⟨w.heap.size, 0, none⟩) 1 1) 1 _ (by rfl) H2.out.2.2 1 (by decide) [.int .i64 c, .int .i64 (-1), .int .i64 0] _ (by simp only [World.size_alloc]; rfl) rfl (by simp [Value.oneCell']) (by unfold maxLen; decide) (by decide) ?_; intro b6 o6 c6 w6 G6 e6 s6; have x6 := H2.out.2.1.ext e6; have M6 := hQd (aN (H2.out.1.trans (e6.mono (T := fun t => t = k ∨ t = k + 1) fun t _ h => .inr h)) (aN x6 s6)); have x16 := x6.c 1 _ rfl; have f16 := x6.f 1; clear e6 s6 x6)
 go_ret
 rw [HND.out]
 have E7 := Aaf (j := 1) (v := .slice (some ⟨b6, o6, none⟩) (1 + 1) c6) M6.out.1.hi M6.out.2.1 hk
 have X7 := M6.out.2.1.set 1 (.slice (some ⟨b6, o6, none⟩) (1 + 1) c6) (by simp [Aqm])
 exact ⟨_, rfl, G6, M6.out.1.trans (E7.mono fun t _ h => .inl h), _, _, X7, fun _ => M6.out.2.2.ext E7, Sls.nil _ _ _ _⟩
end
end
section
open Go.RowKit Go.Shelf
def Ahn (ln K : Int) (wv : Value) (tag : Int) (m0 m1 ov pv : Value) : List Value := [.int .i64 ln, .int .i64 K, wv, .int .i64 tag, m0, m1, ov, pv]
structure Ahu (W : World) (G : Om) (k X : Nat) (z : Hom) : Prop where
 ex : ∃ (wv m0 m1 ov pv : Value), Ob W G k X (Ahn z.ln z.k wv z.tag m0 m1 ov pv) ∧ (z.ln ≠ 0 → Sls W G (k + 1) 3 wv z.way.length (z.way.flatMap spl)) ∧
  (3 ≤ z.ln → ∃ b0 b1 u p, m0 = .pointer (some ⟨b0, 0, none⟩) ∧ m1 = .pointer (some ⟨b1, 0, none⟩) ∧ ov = .pointer (some ⟨u, 0, none⟩) ∧ pv = .pointer (some ⟨p, 0, none⟩) ∧ Ajd W G (k + 2) b0 z.m1 ∧ Ajd W G (k + 4) b1 z.m2 ∧ Ajc W G (k + 6) u z.s z.o ∧ Ai5 W G (k + 7) p z.t z.tag z.ref z.u)
theorem Ahu.ext {S : Nat → Prop} {O O' : Om} {w w' : World} {k X : Nat} {z : Hom} (h : Ahu w O k X z) (e : Ext S O w O' w') (hs : ∀ t, k ≤ t → t < k + 8 → ¬ S t) : Ahu w' O' k X z := by
 obtain ⟨wv, m0, m1, ov, pv, h1, h2, h3⟩ := h.ex
 refine ⟨wv, m0, m1, ov, pv, h1.ext e (hs _ (by omega) (by omega)), fun g => (h2 g).ext e (hs _ (by omega) (by omega)), fun g => ?_⟩
 obtain ⟨b0, b1, u, p, q1, q2, q3, q4, q5, q6, q7, q8⟩ := h3 g
 exact ⟨b0, b1, u, p, q1, q2, q3, q4, q5.ext e (hs _ (by omega) (by omega)) (hs _ (by omega) (by omega)), q6.ext e (hs _ (by omega) (by omega)) (hs _ (by omega) (by omega)), q7.ext e (hs _ (by omega) (by omega)), q8.ext e (hs _ (by omega) (by omega))⟩
theorem Ahu.below {O : Om} {w w' : World} {k X : Nat} {z : Hom} (h : Ahu w O k X z) (e : Below w.heap.size w w') : Ahu w' O k X z := by
 obtain ⟨wv, m0, m1, ov, pv, h1, h2, h3⟩ := h.ex
 refine ⟨wv, m0, m1, ov, pv, h1.below e, fun g => (h2 g).below e, fun g => ?_⟩
 obtain ⟨b0, b1, u, p, q1, q2, q3, q4, q5, q6, q7, q8⟩ := h3 g
 exact ⟨b0, b1, u, p, q1, q2, q3, q4, q5.below e, q6.below e, q7.below e, q8.below e⟩
def Aen (ln K l0 lo lp l1 : Int) : Int × Int :=
 if ln = 3 ∧ l0 = 0 then (4, K)
 else if ln = 4 ∧ lo = 0 then (if lp = 0 then 6 else 5, K)
 else if ln = 5 ∧ lp = 0 then (6, K)
 else if ln = 6 ∧ l1 = 0 then (if K - 1 < 0 then 0 else 1, K - 1)
 else (ln, K)
section
variable {X : Nat} {w : World} {O : Om} {k : Nat}
theorem Aal {g : Nat} {cs : List Value} (hx : Ob w O g X cs) (hk : 10 ≤ g) (hhi : Hh O w) (j : Nat) (v : Value) (hj : j < cs.length) : Ext (fun t => t = g) O w O (w.setCell ⟨X, j, none⟩ v) ∧ Ob (w.setCell ⟨X, j, none⟩ v) O g X (cs.set j v) := ⟨Aaf hhi hx hk, hx.set j v hj⟩
theorem Ba9 (ln K l0 lo lp l1 : Int) {wv : Value} {tag : Int} {b0 b1 u p : Nat} (hx : Ob w O k X (Ahn ln K wv tag (.pointer (some ⟨b0, 0, none⟩)) (.pointer (some ⟨b1, 0, none⟩)) (.pointer (some ⟨u, 0, none⟩)) (.pointer (some ⟨p, 0, none⟩)))) (c0 : w.cell? ⟨b0, 0, none⟩ = some (.int .i64 l0)) (c1 : w.cell? ⟨b1, 0, none⟩ = some (.int .i64 l1)) (co : w.cell? ⟨u, 0, none⟩ = some (.int .i64 lo)) (cp : w.cell? ⟨p, 0, none⟩ = some (.int .i64 lp))
 (n0 : ¬ b0 = X) (n1 : ¬ b1 = X) (nu : ¬ u = X) (np : ¬ p = X) (hl0 : 3 ≤ ln) (hl6 : ln ≤ 6) (hK0 : 0 ≤ K) (hK1 : K ≤ 8192) (ho : ln = 3 → lo ≠ 0) (h1 : ln ≠ 6 → l1 ≠ 0) (hk : 10 ≤ k) (hhi : Hh O w) :
 C1 150 X w (RP (fun t => t = k) w O (.tuple #[]) fun W G => G = O ∧ Ob W G k X (Ahn (Aen ln K l0 lo lp l1).1 (Aen ln K l0 lo lp l1).2 wv tag (.pointer (some ⟨b0, 0, none⟩)) (.pointer (some ⟨b1, 0, none⟩)) (.pointer (some ⟨u, 0, none⟩)) (.pointer (some ⟨p, 0, none⟩)))) := by
 obtain ⟨x0, x1, -, -, x4, x5, x6, x7⟩ := hx.c8
 have f0 := hx.f 0
 have f1 := hx.f 1
 have HX := hQd (aN hx hhi)
 have m0 : ¬ X = b0 := fun e => n0 e.symm
 have m1 : ¬ X = b1 := fun e => n1 e.symm
 have mu : ¬ X = u := fun e => nu e.symm
 have mp : ¬ X = p := fun e => np e.symm
 clear hx hhi
 have hc : ln = 3 ∨ ln = 4 ∨ ln = 5 ∨ ln = 6 := by omega
 rcases hc with rfl | rfl | rfl | rfl
 · by_cases hl0z : l0 = 0
   · have hlo := ho rfl
     have HR : Hid (Aen 3 K l0 lo lp l1 = (4, K)) := hQd (by unfold Aen; rw [if_pos ⟨rfl, hl0z⟩])
     have d0 : (l0 == 0) = true := by simp [hl0z]
     have d1 : (lo == 0) = false := by simp [hlo]
     clear hl0 hl6 ho h1
     (try clear hl0z); (try clear hlo); (try clear hlp); (try clear hl1)
     go_enter Tryz.func150, Tryz.ntmps150
     go_wp2_with fail
     go_end0
     rw [HR.out]
     obtain ⟨e0, y0⟩ := Aal HX.out.1 hk HX.out.2 0 (.int .i64 4) (by simp [Ahn])
     exact ⟨rfl, O, e0, rfl, y0⟩
   skip
   have HR : Hid (Aen 3 K l0 lo lp l1 = (3, K)) := hQd (by unfold Aen; rw [if_neg (fun g => hl0z g.2), if_neg (by omega), if_neg (by omega), if_neg (by omega)])
   have d0 : (l0 == 0) = false := by simp [hl0z]
   clear hl0 hl6 ho h1
   (try clear hl0z); (try clear hlo); (try clear hlp); (try clear hl1)
   go_enter Tryz.func150, Tryz.ntmps150
   go_wp2_with fail
   go_end0
   rw [HR.out]
   exact ⟨rfl, O, Ext.refl HX.out.2, rfl, HX.out.1⟩
 · have hl1 := h1 (by decide)
   by_cases hlo : lo = 0
   · by_cases hlp : lp = 0
     · skip
       have HR : Hid (Aen 4 K l0 lo lp l1 = (6, K)) := hQd (by unfold Aen; rw [if_neg (by omega), if_pos ⟨rfl, hlo⟩, if_pos hlp])
       have d0 : (lo == 0) = true := by simp [hlo]
       have d1 : (lp == 0) = true := by simp [hlp]
       have d2 : (l1 == 0) = false := by simp [hl1]
       clear hl0 hl6 ho h1
       (try clear hl0z); (try clear hlo); (try clear hlp); (try clear hl1)
       go_enter Tryz.func150, Tryz.ntmps150
       go_wp2_with fail
       go_end0
       rw [HR.out]
       obtain ⟨e0, y0⟩ := Aal HX.out.1 hk HX.out.2 0 (.int .i64 5) (by simp [Ahn])
       obtain ⟨e1, y1⟩ := Aal y0 hk e0.hi 0 (.int .i64 6) (by simp [Ahn])
       exact ⟨rfl, O, (e0.trans e1), rfl, y1⟩
     skip
     have HR : Hid (Aen 4 K l0 lo lp l1 = (5, K)) := hQd (by unfold Aen; rw [if_neg (by omega), if_pos ⟨rfl, hlo⟩, if_neg hlp])
     have d0 : (lo == 0) = true := by simp [hlo]
     have d1 : (lp == 0) = false := by simp [hlp]
     clear hl0 hl6 ho h1
     (try clear hl0z); (try clear hlo); (try clear hlp); (try clear hl1)
     go_enter Tryz.func150, Tryz.ntmps150
     go_wp2_with fail
     go_end0
     rw [HR.out]
     obtain ⟨e0, y0⟩ := Aal HX.out.1 hk HX.out.2 0 (.int .i64 5) (by simp [Ahn])
     exact ⟨rfl, O, e0, rfl, y0⟩
   skip
   have HR : Hid (Aen 4 K l0 lo lp l1 = (4, K)) := hQd (by unfold Aen; rw [if_neg (by omega), if_neg (fun g => hlo g.2), if_neg (by omega), if_neg (by omega)])
   have d0 : (lo == 0) = false := by simp [hlo]
   clear hl0 hl6 ho h1
   (try clear hl0z); (try clear hlo); (try clear hlp); (try clear hl1)
   go_enter Tryz.func150, Tryz.ntmps150
   go_wp2_with fail
   go_end0
   rw [HR.out]
   exact ⟨rfl, O, Ext.refl HX.out.2, rfl, HX.out.1⟩
 · have hl1 := h1 (by decide)
   by_cases hlp : lp = 0
   · skip
     have HR : Hid (Aen 5 K l0 lo lp l1 = (6, K)) := hQd (by unfold Aen; rw [if_neg (by omega), if_neg (by omega), if_pos ⟨rfl, hlp⟩])
     have d1 : (lp == 0) = true := by simp [hlp]
     have d2 : (l1 == 0) = false := by simp [hl1]
     clear hl0 hl6 ho h1
     (try clear hl0z); (try clear hlo); (try clear hlp); (try clear hl1)
     go_enter Tryz.func150, Tryz.ntmps150
     go_wp2_with fail
     go_end0
     rw [HR.out]
     obtain ⟨e0, y0⟩ := Aal HX.out.1 hk HX.out.2 0 (.int .i64 6) (by simp [Ahn])
     exact ⟨rfl, O, e0, rfl, y0⟩
   skip
   have HR : Hid (Aen 5 K l0 lo lp l1 = (5, K)) := hQd (by unfold Aen; rw [if_neg (by omega), if_neg (by omega), if_neg (fun g => hlp g.2), if_neg (by omega)])
   have d1 : (lp == 0) = false := by simp [hlp]
   clear hl0 hl6 ho h1
   (try clear hl0z); (try clear hlo); (try clear hlp); (try clear hl1)
   go_enter Tryz.func150, Tryz.ntmps150
   go_wp2_with fail
   go_end0
   rw [HR.out]
   exact ⟨rfl, O, Ext.refl HX.out.2, rfl, HX.out.1⟩
 by_cases hl1 : l1 = 0
 · by_cases hK : K - 1 < 0
   · skip
     have HR : Hid (Aen 6 K l0 lo lp l1 = (0, K - 1)) := hQd (by unfold Aen; rw [if_neg (by omega), if_neg (by omega), if_neg (by omega), if_pos ⟨rfl, hl1⟩, if_pos hK])
     have d2 : (l1 == 0) = true := by simp [hl1]
     clear hl0 hl6 ho h1
     (try clear hl0z); (try clear hlo); (try clear hlp); (try clear hl1)
     go_enter Tryz.func150, Tryz.ntmps150
     go_wp2_with fail
     go_end0
     rw [HR.out]
     obtain ⟨e0, y0⟩ := Aal HX.out.1 hk HX.out.2 0 (.int .i64 1) (by simp [Ahn])
     obtain ⟨e1, y1⟩ := Aal y0 hk e0.hi 1 (.int .i64 (K - 1)) (by simp [Ahn])
     obtain ⟨e2, y2⟩ := Aal y1 hk e1.hi 0 (.int .i64 0) (by simp [Ahn])
     exact ⟨rfl, O, ((e0.trans e1).trans e2), rfl, y2⟩
   skip
   have HR : Hid (Aen 6 K l0 lo lp l1 = (1, K - 1)) := hQd (by unfold Aen; rw [if_neg (by omega), if_neg (by omega), if_neg (by omega), if_pos ⟨rfl, hl1⟩, if_neg hK])
   have d2 : (l1 == 0) = true := by simp [hl1]
   clear hl0 hl6 ho h1
   (try clear hl0z); (try clear hlo); (try clear hlp); (try clear hl1)
   go_enter Tryz.func150, Tryz.ntmps150
   go_wp2_with fail
   go_end0
   rw [HR.out]
   obtain ⟨e0, y0⟩ := Aal HX.out.1 hk HX.out.2 0 (.int .i64 1) (by simp [Ahn])
   obtain ⟨e1, y1⟩ := Aal y0 hk e0.hi 1 (.int .i64 (K - 1)) (by simp [Ahn])
   exact ⟨rfl, O, (e0.trans e1), rfl, y1⟩
 skip
 have HR : Hid (Aen 6 K l0 lo lp l1 = (6, K)) := hQd (by unfold Aen; rw [if_neg (by omega), if_neg (by omega), if_neg (by omega), if_neg (fun g => hl1 g.2)])
 have d2 : (l1 == 0) = false := by simp [hl1]
 clear hl0 hl6 ho h1
 (try clear hl0z); (try clear hlo); (try clear hlp); (try clear hl1)
 go_enter Tryz.func150, Tryz.ntmps150
 go_wp2_with fail
 go_end0
 rw [HR.out]
 exact ⟨rfl, O, Ext.refl HX.out.2, rfl, HX.out.1⟩
end
end
section
open Go.RowKit Go.Shelf
theorem Aqg (w : World) (r : Option Nat) : w.grownBy w r := ⟨rfl, rfl, rfl, Nat.le_refl _, fun _ _ _ => rfl⟩
theorem Age {P : Program} {ops : Array Oper} {rest : List Oper} {o : Oper} {a : Act} {w : World} {Q : Exit → Act → World → Prop} (hgd : o.guard = none) (s x : Operand) (t : TypeId)
 (ho : o.op = .call { callee := .builtin .append, args := #[s, x], argTypes := #[t, t] })
 (base : Nat) (e : TypeId) (i : TypeInfo) (z : Value) (size bytes : Nat) (ht : P.underlying t = some (.slice e)) (hi : P.info? e = some i) (hz : i.zero = some z)
 (hsize : i.size = size) (hby : i.bytes = bytes) (hzs : z.cells.size = size) (hsz : 0 < size)
 (v : Value) (n : Nat) (xs : List Value) (hs : a.eval s = v) (hown : w.ownsRow base e size v n xs)
 (xv : Value) (m : Nat) (ys : List Value) (hx : a.eval x = xv) (hy : Arr w xv m size ys) (h1 : ∀ u ∈ ys, u.oneCell' = true)
 (h63 : n + m ≤ maxLen) (hbytes : (n + m) * bytes ≤ 140737488355328) (hbase : base ≤ w.heap.size)
 (h : ∀ v' w', w'.ownsRow base e size v' (n + m) (xs ++ ys) → w.grownBy w' v.ownBlock → wpList P ops Q rest (a.put o.dst v') w') : wpList P ops Q (o :: rest) a w := by
 by_cases h0 : m = 0
 · subst h0
   obtain rfl := List.eq_nil_of_length_eq_zero (show ys.length = 0 by rw [hy.1, Nat.zero_mul])
   obtain ⟨ao, c, rfl, hc, hm⟩ := hy.shape
   obtain ⟨bo, bc, rfl, hbc, hbm⟩ := (Arr.of_own hown).shape
   refine wpList_plain hgd fun K hK => ?_
   have hsrc : Src P i.size t (.slice ao 0 c) 0 [] w := by
    cases ao with
    | none => exact Src.ofNil w ht c
    | some ad => exact Src.ofSlice w ht ad 0 c [] (by simp) (fun j u hu => by simp at hu) (fun u hu => by cases hu)
   have hrun := run_append_nothing (P := P) w t t o.type e i ht hi bo _ bc hbc _ hsrc
   unfold Oper.wp
   simp [execOp, ho, resolve, invoke, builtin, hs, hx, hrun, Result.andThen]
   exact hK _ _ (h _ _ (by rw [List.append_nil]; exact hown) (Aqg _ _))
 obtain ⟨b, off, c', rfl, hnc, hcm, hlt, hx2⟩ := hy.open (by omega) hsz
 refine wpList_append_own w hgd s x t ho base e i z size bytes ht hi hz hsize hby hzs hsz v n xs hs hown ⟨b, off, none⟩ m c' ys hx hy.1 (fun j u hu => ?_) h1 h63 hbytes hbase fun v' w' h1 h2 _ => h v' w' h1 h2
 have := hx2 j u hu
 unfold Addr.add
 split
 · rename_i h0; subst h0; exact this
 exact this
theorem Sls.arr {w : World} {O : Om} {g size n : Nat} {v : Value} {xs : List Value} (h : Sls w O g size v n xs) : Arr w v n size xs := by
 obtain ⟨ao, c, rfl, h2, h3, h4, h5⟩ := h.ex
 rcases h5 with ⟨rfl, rfl, rfl⟩ | ⟨b, o, cs, rfl, q, q2, q3⟩
 · exact ⟨h4, none, 0, rfl, Nat.le_refl _, Nat.zero_le _, fun j u hu => by
    obtain rfl := List.eq_nil_of_length_eq_zero (show xs.length = 0 by rw [h4, Nat.zero_mul])
    simp at hu⟩
 exact ⟨h4, _, c, rfl, h2, h3, fun j u hu => ⟨b, o, rfl, q.lt, h.c j u hu⟩⟩
section
variable {X : Nat} {w : World} {O : Om} {k t : Nat}
theorem Adt {P : Program} {ops : Array Oper} {rest : List Oper} {o : Oper} {a : Act} {Q : Exit → Act → World → Prop} (hgd : o.guard = none) (s x : Operand) (ty : TypeId)
 (ho : o.op = .call { callee := .builtin .append, args := #[s, x], argTypes := #[ty, ty] })
 (e : TypeId) (i : TypeInfo) (z : Value) (size bytes : Nat) (ht : P.underlying ty = some (.slice e)) (hi : P.info? e = some i) (hz : i.zero = some z)
 (hsize : i.size = size) (hby : i.bytes = bytes) (hzs : z.cells.size = size) (hsz : 0 < size)
 (ht0 : t ≠ 0) (hhi : Hh O w) (hs : a.eval s = .slice none 0 0)
 (xv : Value) (m : Nat) (ys : List Value) (hx : a.eval x = xv) (hy : Arr w xv m size ys) (h1 : ∀ u ∈ ys, u.oneCell' = true) (h63 : m ≤ maxLen) (hbytes : m * bytes ≤ 140737488355328)
 (h : ∀ v' w' O', Ext (fun j => j = t) O w O' w' → Below w.heap.size w w' → Sls w' O' t size v' m ys → wpList P ops Q rest (a.put o.dst v') w') : wpList P ops Q (o :: rest) a w := by
 refine Age hgd s x ty ho w.heap.size e i z size bytes ht hi hz hsize hby hzs hsz (.slice none 0 0) 0 [] hs (World.ownsRow_nil _ _ e size) xv m ys hx hy h1 (by omega) (by rw [Nat.zero_add]; exact hbytes) (Nat.le_refl _) fun v' w' hown hgr => ?_
 have hb : Below w.heap.size w w' := Abq (Below.refl _ _) (Nat.le_refl _) (World.ownsRow_nil w w.heap.size e size) hgr
 rw [Nat.zero_add, List.nil_append] at hown
 obtain ⟨O', e2, s2⟩ := Sls.of_row ht0 hhi hown hb
 exact h v' w' O' e2 hb s2
theorem Amd (x : Int) (w : World) (x0 : 0 ≤ x) (x1 : x < 18446744073709551616) : Calls Tryz.prog 144 #[.int .u64 x] w fun e w' => e = .returned (.int .i64 (Aa5 x)) ∧ w = w' := by
 have H0 := hQd (fun W => Adr x 0 W x0 x1 (by decide) (by decide))
 have H1 := hQd (fun W => Adr x 1 W x0 x1 (by decide) (by decide))
 have H2 := hQd (fun W => Adr x 2 W x0 x1 (by decide) (by decide))
 have H3 := hQd (fun W => Adr x 3 W x0 x1 (by decide) (by decide))
 unfold Aa5
 obtain ⟨t0, e0⟩ := exq (Aay x 0)
 obtain ⟨t1, e1⟩ := exq (Aay x 1)
 obtain ⟨t2, e2⟩ := exq (Aay x 2)
 obtain ⟨t3, e3⟩ := exq (Aay x 3)
 rw [← e0] at H0
 rw [← e1] at H1
 rw [← e2] at H2
 rw [← e3] at H3
 rw [← e0, ← e1, ← e2, ← e3]
 clear e0 e1 e2 e3 x0 x1
 obtain ⟨r, hr⟩ := exq (if t0 = 0 then (0 : Int) else if t1 = 0 then 1 else if t2 = 0 then 2 else if t3 = 0 then 3 else -1)
 rw [← hr]
 by_cases c0 : t0 = 0
 · have hr2 : r = 0 := by rw [hr, if_pos c0]
   clear hr
   subst hr2
   have d0 : (t0 == 0) = true := by simp [c0]
   clear c0
   go_enter Tryz.func144, Tryz.ntmps144
   go_wp2_with fail
   refine wp_loop_rounds 1 ?_
   rw [rounds_succ]
   go_wp2_with fail
   refine (H0.out _).mono ?_
   rintro e w' ⟨rfl, rfl⟩
   go_wp2_with fail
   go_ret
   exact ⟨rfl, rfl⟩
 by_cases c1 : t1 = 0
 · have hr2 : r = 1 := by rw [hr, if_neg c0, if_pos c1]
   clear hr
   subst hr2
   have d0 : (t0 == 0) = false := by simp [c0]
   have d1 : (t1 == 0) = true := by simp [c1]
   clear c0 c1
   go_enter Tryz.func144, Tryz.ntmps144
   go_wp2_with fail
   refine wp_loop_rounds 2 ?_
   rw [rounds_succ]
   go_wp2_with fail
   refine (H0.out _).mono ?_
   rintro e w' ⟨rfl, rfl⟩
   go_wp2_with fail
   rw [rounds_succ]
   go_wp2_with fail
   refine (H1.out _).mono ?_
   rintro e w' ⟨rfl, rfl⟩
   go_wp2_with fail
   go_ret
   exact ⟨rfl, rfl⟩
 by_cases c2 : t2 = 0
 · have hr2 : r = 2 := by rw [hr, if_neg c0, if_neg c1, if_pos c2]
   clear hr
   subst hr2
   have d0 : (t0 == 0) = false := by simp [c0]
   have d1 : (t1 == 0) = false := by simp [c1]
   have d2 : (t2 == 0) = true := by simp [c2]
   clear c0 c1 c2
   go_enter Tryz.func144, Tryz.ntmps144
   go_wp2_with fail
   refine wp_loop_rounds 3 ?_
   rw [rounds_succ]
   go_wp2_with fail
   refine (H0.out _).mono ?_
   rintro e w' ⟨rfl, rfl⟩
   go_wp2_with fail
   rw [rounds_succ]
   go_wp2_with fail
   refine (H1.out _).mono ?_
   rintro e w' ⟨rfl, rfl⟩
   go_wp2_with fail
   rw [rounds_succ]
   go_wp2_with fail
   refine (H2.out _).mono ?_
   rintro e w' ⟨rfl, rfl⟩
   go_wp2_with fail
   go_ret
   exact ⟨rfl, rfl⟩
 by_cases c3 : t3 = 0
 · have hr2 : r = 3 := by rw [hr, if_neg c0, if_neg c1, if_neg c2, if_pos c3]
   clear hr
   subst hr2
   have d0 : (t0 == 0) = false := by simp [c0]
   have d1 : (t1 == 0) = false := by simp [c1]
   have d2 : (t2 == 0) = false := by simp [c2]
   have d3 : (t3 == 0) = true := by simp [c3]
   clear c0 c1 c2 c3
   go_enter Tryz.func144, Tryz.ntmps144
   go_wp2_with fail
   refine wp_loop_rounds 4 ?_
   rw [rounds_succ]
   go_wp2_with fail
   refine (H0.out _).mono ?_
   rintro e w' ⟨rfl, rfl⟩
   go_wp2_with fail
   rw [rounds_succ]
   go_wp2_with fail
   refine (H1.out _).mono ?_
   rintro e w' ⟨rfl, rfl⟩
   go_wp2_with fail
   rw [rounds_succ]
   go_wp2_with fail
   refine (H2.out _).mono ?_
   rintro e w' ⟨rfl, rfl⟩
   go_wp2_with fail
   rw [rounds_succ]
   go_wp2_with fail
   refine (H3.out _).mono ?_
   rintro e w' ⟨rfl, rfl⟩
   go_wp2_with fail
   go_ret
   exact ⟨rfl, rfl⟩
 have hr2 : r = -1 := by rw [hr, if_neg c0, if_neg c1, if_neg c2, if_neg c3]
 clear hr
 subst hr2
 have d0 : (t0 == 0) = false := by simp [c0]
 have d1 : (t1 == 0) = false := by simp [c1]
 have d2 : (t2 == 0) = false := by simp [c2]
 have d3 : (t3 == 0) = false := by simp [c3]
 clear c0 c1 c2 c3
 go_enter Tryz.func144, Tryz.ntmps144
 go_wp2_with fail
 refine wp_loop_rounds 5 ?_
 rw [rounds_succ]
 go_wp2_with fail
 refine (H0.out _).mono ?_
 rintro e w' ⟨rfl, rfl⟩
 go_wp2_with fail
 rw [rounds_succ]
 go_wp2_with fail
 refine (H1.out _).mono ?_
 rintro e w' ⟨rfl, rfl⟩
 go_wp2_with fail
 rw [rounds_succ]
 go_wp2_with fail
 refine (H2.out _).mono ?_
 rintro e w' ⟨rfl, rfl⟩
 go_wp2_with fail
 rw [rounds_succ]
 go_wp2_with fail
 refine (H3.out _).mono ?_
 rintro e w' ⟨rfl, rfl⟩
 go_wp2_with fail
 rw [rounds_succ]
 go_wp2_with fail
 go_ret
 exact ⟨rfl, rfl⟩
theorem Ayq {z : Wym} (h : Apz w O k X z) (hl : z.way.length ≤ 8192) (ht : t ≠ 0) (hhi : Hh O w) :
 C1 148 X w fun e w' => ∃ v O', e = .returned v ∧ Ext (fun j => j = t) O w O' w' ∧ Sls w' O' t 3 v z.way.length (z.way.flatMap spl) := by
 obtain ⟨lv, wv, h1, -, h3⟩ := h.ex
 obtain ⟨ps, hps⟩ := exq z.way
 rw [← hps] at h3 hl ⊢
 have x5 := h1.c 5 _ rfl
 have HA := hQd h3.arr
 have HL := hQd (aN hl hhi)
 obtain ⟨i0, hi, hz0, hz1, hz2⟩ := info_parts Af5
 clear h h1 h3 hps hl hhi
 go_enter Tryz.func148, Tryz.ntmps148
 go_wp2_with (at_builtin; refine Adt (t := t) rfl _ _ 227 rfl 95 i0 _ 3 24 Tryz.underlying227 hi hz0 hz1 hz2 rfl (by decide) ht HL.out.2 rfl _ ps.length (ps.flatMap spl) rfl HA.out (Aes ps) (by have := HL.out.1; unfold maxLen; omega) (by have := HL.out.1; omega) ?_; intro v1 w1 O1 e1 b1 s1; have H1 := hQd (aN e1 s1); clear e1 b1 s1)
 go_ret
 exact ⟨v1, O1, rfl, H1.out.1, H1.out.2⟩
theorem Ay0 {g : Nat} (ps : List Spt) {v : Value} (h : Sls w O g 3 v ps.length (ps.flatMap spl)) (hl : ps.length ≤ 8192) (hk : 10 ≤ k) (hhi : Hh O w) :
 Calls Tryz.prog 149 #[v] w fun e w' => ∃ Y, RP (fun t => t = k ∨ t = k + 1) w O (.pointer (some ⟨Y, 0, none⟩)) (fun W G => Ahu W G k Y (Acx ps)) e w' := by
 have HA := hQd h.arr
 obtain ⟨ao, c, rfl, -⟩ := h.shape
 have HL := hQd (aN hl hhi)
 obtain ⟨n, hn⟩ := exq ps.length
 rw [← hn] at HA HL hl ⊢
 obtain ⟨i0, hi, hz0, hz1, hz2⟩ := info_parts Af5
 have fin : ∀ (ln : Int) (v1 : Value) (w1 : World) (O1 : Om), ln = (if 2 ≤ n then 1 else 0) → Ext (fun j => j = k + 1) O w O1 w1 → Sls w1 O1 (k + 1) 3 v1 n (ps.flatMap spl) → ∃ Y, RP (fun t => t = k ∨ t = k + 1) w O (.pointer (some ⟨Y, 0, none⟩)) (fun W G => Ahu W G k Y (Acx ps)) (.returned (.pointer (some ⟨w1.heap.size, 0, none⟩))) (w1.alloc (.cells #[.int .i64 ln, .int .i64 ((n : Int) - 2), v1, .int .i64 0, .pointer none, .pointer none, .pointer none, .pointer none] 232)) := by
  intro ln v1 w1 O1 hln e1 s1
  obtain ⟨G2, e2, x2, -⟩ := Aar e1.hi k #[.int .i64 ln, .int .i64 ((n : Int) - 2), v1, .int .i64 0, .pointer none, .pointer none, .pointer none, .pointer none] 232 w1.heap.size rfl
  refine ⟨_, rfl, G2, (e1.mono fun t _ h => .inr h).trans (e2.mono fun t _ h => .inl h), v1, .pointer none, .pointer none, .pointer none, .pointer none, ?_, fun _ => ?_, fun h => ?_⟩
  · unfold Acx Ahn
    dsimp only
    rw [← hn, ← hln]
    exact x2
  · have := s1.ext e2
    rw [show (Acx ps).way = ps from rfl, ← hn]
    exact this
  have : (Acx ps).ln ≤ 1 := by unfold Acx; dsimp only; split <;> omega
  omega
 have FIN := hQd fin
 clear h hn fin hhi
 by_cases h0 : 2 ≤ n
 · have d : decide ((1 : Int) < (n : Int)) = true := by simp; omega
   have HU : Hid ((1 : Int) = if 2 ≤ n then 1 else 0) := hQd (by rw [if_pos h0])
   clear h0
   go_enter Tryz.func149, Tryz.ntmps149
   go_wp2_with (at_builtin; refine Adt (t := k + 1) rfl _ _ 227 rfl 95 i0 _ 3 24 Tryz.underlying227 hi hz0 hz1 hz2 rfl (by decide) (by omega) HL.out.2 rfl _ n (ps.flatMap spl) rfl HA.out (Aes ps) (by have := HL.out.1; unfold maxLen; omega) (by have := HL.out.1; omega) ?_; intro v1 w1 O1 e1 b1 s1; obtain ⟨ao1, c1, rfl, -⟩ := s1.shape; have H1 := hQd (aN e1 s1); clear e1 b1 s1)
   go_ret
   exact FIN.out _ _ _ _ HU.out H1.out.1 H1.out.2
 have d : decide ((1 : Int) < (n : Int)) = false := by simp; omega
 have HU : Hid ((0 : Int) = if 2 ≤ n then 1 else 0) := hQd (by rw [if_neg h0])
 clear h0
 go_enter Tryz.func149, Tryz.ntmps149
 go_wp2_with (at_builtin; refine Adt (t := k + 1) rfl _ _ 227 rfl 95 i0 _ 3 24 Tryz.underlying227 hi hz0 hz1 hz2 rfl (by decide) (by omega) HL.out.2 rfl _ n (ps.flatMap spl) rfl HA.out (Aes ps) (by have := HL.out.1; unfold maxLen; omega) (by have := HL.out.1; omega) ?_; intro v1 w1 O1 e1 b1 s1; obtain ⟨ao1, c1, rfl, -⟩ := s1.shape; have H1 := hQd (aN e1 s1); clear e1 b1 s1)
 go_ret
 exact FIN.out _ _ _ _ HU.out H1.out.1 H1.out.2
end
end
end Go.Proofs.YthbodknlhkapdaaGreat
