/- Layer 20: the program's Move: what follows a search that found a slot. -/
import Derived.Test.YtbcehmdidjoilaaGreatMt
import Derived.Test.YtbcehmdidjoilaaGreatHf
namespace Go.Proofs.YtbcehmdidjoilaaGreat
set_option linter.unusedSimpArgs false
open Go.RowKit Go.Shelf
set_option linter.unusedVariables false

def GoesPost (w : World) (O : Om) (k X : Nat) (now tag ref lost : Int) (p dd : Spt) (v0 : Value) (W : World) (G : Om) : Prop :=
  Ext (fun t => t = k ∨ t = k + 1 ∨ (k + 19 ≤ t ∧ t ≤ k + 24)) O w G W ∧ ∃ lv' m1 u q m2, Ob W G k X (mvCs now p lv' tag ref lost) ∧ Sls W G (k + 1) 1 lv' 5 [v0, IMark m1, IOut u, IPut q, IMark m2] ∧ MkAt W G (k + 19) m1 (mk2 p dd) ∧ OutAt W G (k + 21) u p ⟨0, 0⟩ ∧ PvAt W G (k + 22) q dd tag ref (ptNew tag ref) ∧ MkAt W G (k + 23) m2 (mk2 p dd)
section
variable {X : Nat} {w : World} {O : Om} {B : Wb} {f : Cf} {s : AW} {k : Nat}
set_option maxHeartbeats 1000000 in
set_option maxRecDepth 100000 in
theorem c_NewPutV (p : Spt) (tg rf : Int) (hp : p.ok) (hhi : ∀ j, O j ≠ 0 → j < w.heap.size) (t0 : 0 ≤ tg) (t1 : tg ≤ 255) (r1 : rf ≤ 9223372036854775807) : Calls Tryz.prog 43 #[.agg #[.int .i64 p.b, .int .i64 p.q, .int .i64 p.s], .int .i64 tg, .int .i64 rf] w fun e w' => ∃ U, RP (fun t => t = k) w O (.pointer (some ⟨U, 0, none⟩)) (fun W G => PvAt W G k U p tg rf (ptNew tg rf)) e w' := by
  by_cases c : 1 ≤ tg ∧ tg ≤ 255 ∧ 1 ≤ rf
  · have e : ptNew tg rf = ⟨0, 0⟩ := by unfold ptNew; rw [if_pos c]
    rw [e]
    refine (c_NewPut (k := k) hp hhi c.1 c.2.1 c.2.2 r1).mono ?_
    rintro e w' ⟨U, rfl, G, e1, u1⟩
    exact ⟨U, rfl, G, e1, fun _ => u1, fun h => absurd c h⟩
  · have e : ptNew tg rf = ⟨3, 0⟩ := by unfold ptNew; rw [if_neg c]
    rw [e]
    obtain ⟨pb, pq, ps⟩ := p
    have B1 : Below w.heap.size w (w.alloc (.cells #[.int .i64 pb, .int .i64 pq, .int .i64 ps] 55)) := (Below.refl _ _).alloc (Nat.le_refl _) _
    obtain ⟨G2, e2, x2, -⟩ := alloc_ob (Ext.of_below (S := fun t => t = k) hhi B1).hi k #[.int .u64 0, .int .u64 0, .int .i64 0, .int .u64 0, .int .i64 0, .int .i64 0, .int .i64 0] 218 (w.heap.size + 1) (by simp)
    have HE := Lib.hid (And.intro ((Ext.of_below hhi B1).trans e2) x2)
    have fin : ∃ U, RP (fun t => t = k) w O (.pointer (some ⟨U, 0, none⟩)) (fun W G => PvAt W G k U ⟨pb, pq, ps⟩ tg rf ⟨3, 0⟩) (.returned (.pointer (some ⟨w.heap.size + 1, 0, none⟩))) ((w.alloc (.cells #[.int .i64 pb, .int .i64 pq, .int .i64 ps] 55)).alloc (.cells #[.int .u64 0, .int .u64 0, .int .i64 0, .int .u64 0, .int .i64 0, .int .i64 0, .int .i64 0] 218)) := ⟨_, rfl, G2, HE.out.1, fun h => absurd h c, fun _ => HE.out.2⟩
    have FIN := Lib.hid fin
    clear e2 x2 B1 hp hhi fin e
    by_cases c1 : tg < 1
    · have d1 : decide (tg < 1) = true := by simp [c1]
      clear c c1
      go_enter Tryz.func43, Tryz.ntmps43
      go_wp2_with fail
      go_ret
      exact FIN.out
    · have d1 : decide (tg < 1) = false := by simp; omega
      have d2 : decide ((255 : Int) < tg) = false := by simp; omega
      have d3 : decide (rf < 1) = true := by simp; omega
      clear c c1
      go_enter Tryz.func43, Tryz.ntmps43
      go_wp2_with fail
      go_ret
      exact FIN.out
theorem goS {W : World} {G : Om} {k X N : Nat} {now tag ref lost : Int} {p dd : Spt} {lv : Value} (hx : Ob W G k X (mvCs now p lv tag ref lost)) (ht : Ob W G 0 N (spl dd)) :
    W.cell? ⟨X, 4, none⟩ = some lv ∧ W.cell? ⟨X, 1, none⟩ = some (.int .i64 p.b) ∧ W.cell? ⟨X, 2, none⟩ = some (.int .i64 p.q) ∧ W.cell? ⟨X, 3, none⟩ = some (.int .i64 p.s) ∧ W.cell? ⟨X, 5, none⟩ = some (.int .i64 tag) ∧ W.cell? ⟨X, 6, none⟩ = some (.int .i64 ref) ∧ W.cell? ⟨N, 0, none⟩ = some (.int .i64 dd.b) ∧ W.cell? ⟨N, 1, none⟩ = some (.int .i64 dd.q) ∧ W.cell? ⟨N, 2, none⟩ = some (.int .i64 dd.s) :=
  ⟨hx.c 4 _ rfl, hx.c 1 _ rfl, hx.c 2 _ rfl, hx.c 3 _ rfl, hx.c 5 _ rfl, hx.c 6 _ rfl, ht.c 0 _ rfl, ht.c 1 _ rfl, ht.c 2 _ rfl⟩
set_option maxHeartbeats 20000000 in
set_option maxRecDepth 100000 in
theorem c_MvGoes {now tag ref lost : Int} {p dd : Spt} {lv v0 : Value} (hx : Ob w O k X (mvCs now p lv tag ref lost)) (hS : Sls w O (k + 1) 1 lv 1 [v0]) (hp : p.ok) (hdd : dd.ok) (t0 : 0 ≤ tag) (t1 : tag ≤ 255) (r1 : ref ≤ 9223372036854775807) (hk : 10 ≤ k) (hhi : ∀ j, O j ≠ 0 → j < w.heap.size) :
    Calls Tryz.prog 298 #[.pointer (some ⟨X, 0, none⟩), .agg #[.int .i64 dd.b, .int .i64 dd.q, .int .i64 dd.s], .bool true] w fun e w' => e = .returned (.tuple #[]) ∧ ∃ G, GoesPost w O k X now tag ref lost p dd v0 w' G := by
  obtain ⟨A, o, cp, rfl, hc1, hc2⟩ := hS.open (by decide)
  have HP := Lib.hid (And.intro hp hdd)
  obtain ⟨e1, t1'⟩ := alloc_nbH (S := fun t => t = k ∨ t = k + 1 ∨ (k + 19 ≤ t ∧ t ≤ k + 24)) hhi #[.int .i64 dd.b, .int .i64 dd.q, .int .i64 dd.s] 55 w.heap.size rfl
  have hb := (Below.refl w.heap.size w).alloc (Nat.le_refl _) (.cells #[.int .i64 dd.b, .int .i64 dd.q, .int .i64 dd.s] 55)
  have HE := Lib.hid e1
  have HX := Lib.hid (hx.below hb)
  have HL := Lib.hid (hS.below hb)
  have HT := Lib.hid t1'
  obtain ⟨i0, hi, hz0, hz1, hz2⟩ := info_parts infoPart
  have HI := Lib.hid (And.intro hi (And.intro hz0 (And.intro hz1 hz2)))
  clear hp hdd hhi e1 t1' hb hi hz0 hz1 hz2 hx hS
  go_enter Tryz.func298, Tryz.ntmps298
  go_upto_region 2 with fail
  obtain ⟨w1, hw1⟩ : ∃ W, W = w.alloc (.cells #[.int .i64 dd.b, .int .i64 dd.q, .int .i64 dd.s] 55) := ⟨_, rfl⟩
  rw [← hw1] at HE HX HL HT ⊢
  obtain ⟨N, hN⟩ : ∃ N, N = w.heap.size := ⟨_, rfl⟩
  rw [← hN] at HT ⊢
  clear hw1 hN
  refine wp_region_F 46 (S := fun w' => w'.cell? ⟨X, 4, none⟩ = some (.slice (some ⟨A, o, none⟩) 1 cp) ∧ w'.cell? ⟨X, 1, none⟩ = some (.int .i64 p.b) ∧ w'.cell? ⟨X, 2, none⟩ = some (.int .i64 p.q) ∧ w'.cell? ⟨X, 3, none⟩ = some (.int .i64 p.s) ∧ w'.cell? ⟨X, 5, none⟩ = some (.int .i64 tag) ∧ w'.cell? ⟨X, 6, none⟩ = some (.int .i64 ref) ∧ w'.cell? ⟨N, 0, none⟩ = some (.int .i64 dd.b) ∧ w'.cell? ⟨N, 1, none⟩ = some (.int .i64 dd.q) ∧ w'.cell? ⟨N, 2, none⟩ = some (.int .i64 dd.s)) (by kernel_rfl) ?sA (fun hH0 => ?rA)
  case sA => exact goS (HX.out.below (drew_below _)) (HT.out.below (drew_below _))
  have E0 := Lib.hid (HE.out.below (drew_below w1))
  have X0 := Lib.hid (HX.out.below (drew_below w1))
  have L0 := Lib.hid (HL.out.below (drew_below w1))
  have T0 := Lib.hid (HT.out.below (drew_below w1))
  obtain ⟨wd, hwd⟩ : ∃ z, z = w1.drew := ⟨_, rfl⟩
  rw [← hwd] at hH0 E0 X0 L0 T0 ⊢
  clear hwd HE HX HL HT
  try simp only [Act.put, List.setIfInBounds_toArray, List.set_cons_zero, List.set_cons_succ]
  refine' wpAnyF_take (i := 0) (List.getElem?_toArray.trans rfl) (by kernel_rfl) (by kernel_rfl) (by kernel_rfl) (by kernel_rfl) (fun _ _ _ h => h) (Or.inl ⟨by rfl, ?y1⟩) hH0 ?r1
  case y1 => (intro w hSw; (try dsimp only at hSw); go_simp; try with_reducible rfl)
  try simp only [Act.put, List.setIfInBounds_toArray, List.set_cons_zero, List.set_cons_succ]
  refine' wpAnyF_take (i := 1) (List.getElem?_toArray.trans rfl) (by kernel_rfl) (by kernel_rfl) (by kernel_rfl) (by kernel_rfl) (fun _ _ _ h => h) (Or.inl ⟨by rfl, ?y2⟩) hH0 ?r2
  case y2 => (intro w hSw; (try dsimp only at hSw); go_simp; try with_reducible rfl)
  try simp only [Act.put, List.setIfInBounds_toArray, List.set_cons_zero, List.set_cons_succ]
  refine' wpAnyF_take (i := 2) (List.getElem?_toArray.trans rfl) (by kernel_rfl) (by kernel_rfl) (by kernel_rfl) (by kernel_rfl) (fun _ _ _ h => h) (Or.inl ⟨by rfl, ?y3⟩) hH0 ?r3
  case y3 => (intro w hSw; (try dsimp only at hSw); go_simp; try with_reducible rfl)
  try simp only [Act.put, List.setIfInBounds_toArray, List.set_cons_zero, List.set_cons_succ]
  refine' wpAnyF_take (i := 3) (List.getElem?_toArray.trans rfl) (by kernel_rfl) (by kernel_rfl) (by kernel_rfl) (by kernel_rfl) (fun _ _ _ h => h) (Or.inl ⟨by rfl, ?y4⟩) hH0 ?r4
  case y4 => (intro w hSw; (try dsimp only at hSw); go_simp; try with_reducible rfl)
  try simp only [Act.put, List.setIfInBounds_toArray, List.set_cons_zero, List.set_cons_succ]
  refine' wpAnyF_take (i := 4) (List.getElem?_toArray.trans rfl) (by kernel_rfl) (by kernel_rfl) (by kernel_rfl) (by kernel_rfl) (fun _ _ _ h => h) (Or.inl ⟨by rfl, ?y5⟩) hH0 ?r5
  case y5 => (intro w hSw; (try dsimp only at hSw); go_simp; try with_reducible rfl)
  try simp only [Act.put, List.setIfInBounds_toArray, List.set_cons_zero, List.set_cons_succ]
  refine' wpAnyF_take (i := 5) (List.getElem?_toArray.trans rfl) (by kernel_rfl) (by kernel_rfl) (by kernel_rfl) (by kernel_rfl) (fun _ _ _ h => h) (Or.inl ⟨by rfl, ?y6⟩) hH0 ?r6
  case y6 => (intro w hSw; (try dsimp only at hSw); go_simp; try with_reducible rfl)
  try simp only [Act.put, List.setIfInBounds_toArray, List.set_cons_zero, List.set_cons_succ]
  refine' wpAnyF_take (i := 6) (List.getElem?_toArray.trans rfl) (by kernel_rfl) (by kernel_rfl) (by kernel_rfl) (by kernel_rfl) (fun _ _ _ h => h) (Or.inl ⟨by rfl, ?y7⟩) hH0 ?r7
  case y7 => (intro w hSw; (try dsimp only at hSw); go_simp; try with_reducible rfl)
  try simp only [Act.put, List.setIfInBounds_toArray, List.set_cons_zero, List.set_cons_succ]
  refine' wpAnyF_take (i := 7) (List.getElem?_toArray.trans rfl) (by kernel_rfl) (by kernel_rfl) (by kernel_rfl) (by kernel_rfl) (fun _ _ _ h => h) (Or.inl ⟨by rfl, ?y8⟩) hH0 ?r8
  case y8 => (intro w hSw; (try dsimp only at hSw); go_simp; try with_reducible rfl)
  try simp only [Act.put, List.setIfInBounds_toArray, List.set_cons_zero, List.set_cons_succ]
  refine' wpAnyF_take (i := 8) (List.getElem?_toArray.trans rfl) (by kernel_rfl) (by kernel_rfl) (by kernel_rfl) (by kernel_rfl) (fun _ _ _ h => h) (Or.inl ⟨by rfl, ?y9⟩) hH0 ?r9
  case y9 => (intro w hSw; (try dsimp only at hSw); go_simp; try with_reducible rfl)
  try simp only [Act.put, List.setIfInBounds_toArray, List.set_cons_zero, List.set_cons_succ]
  refine' wpAnyF_take (i := 9) (List.getElem?_toArray.trans rfl) (by kernel_rfl) (by kernel_rfl) (by kernel_rfl) (by kernel_rfl) (fun _ _ _ h => h) (Or.inl ⟨by rfl, ?y10⟩) hH0 ?r10
  case y10 => (intro w hSw; (try dsimp only at hSw); go_simp; try with_reducible rfl)
  try simp only [Act.put, List.setIfInBounds_toArray, List.set_cons_zero, List.set_cons_succ]
  refine' wpAnyF_take (i := 10) (List.getElem?_toArray.trans rfl) (by kernel_rfl) (by kernel_rfl) (by kernel_rfl) (by kernel_rfl) (fun _ _ _ h => h) (Or.inl ⟨by rfl, ?y11⟩) hH0 ?r11
  case y11 => (intro w hSw; (try dsimp only at hSw); go_simp; try with_reducible rfl)
  try simp only [Act.put, List.setIfInBounds_toArray, List.set_cons_zero, List.set_cons_succ]
  refine' wpAnyF_take (i := 11) (List.getElem?_toArray.trans rfl) (by kernel_rfl) (by kernel_rfl) (by kernel_rfl) (by kernel_rfl) (fun _ _ _ h => h) (Or.inl ⟨by rfl, ?y12⟩) hH0 ?r12
  case y12 => (intro w hSw; (try dsimp only at hSw); go_simp; try with_reducible rfl)
  try simp only [Act.put, List.setIfInBounds_toArray, List.set_cons_zero, List.set_cons_succ]
  refine' wpAnyF_take (i := 15) (List.getElem?_toArray.trans rfl) (by kernel_rfl) (by kernel_rfl) (by kernel_rfl) (by kernel_rfl) (fun _ _ _ h => h) (Or.inl ⟨by rfl, ?y13⟩) hH0 ?r13
  case y13 => (intro w hSw; (try dsimp only at hSw); go_simp; try with_reducible rfl)
  try simp only [Act.put, List.setIfInBounds_toArray, List.set_cons_zero, List.set_cons_succ]
  refine' wpAnyF_take (i := 16) (List.getElem?_toArray.trans rfl) (by kernel_rfl) (by kernel_rfl) (by kernel_rfl) (by kernel_rfl) (fun _ _ _ h => h) (Or.inl ⟨by rfl, ?y14⟩) hH0 ?r14
  case y14 => (intro w hSw; (try dsimp only at hSw); go_simp; try with_reducible rfl)
  try simp only [Act.put, List.setIfInBounds_toArray, List.set_cons_zero, List.set_cons_succ]
  refine' wpAnyF_take (i := 17) (List.getElem?_toArray.trans rfl) (by kernel_rfl) (by kernel_rfl) (by kernel_rfl) (by kernel_rfl) (fun _ _ _ h => h) (Or.inl ⟨by rfl, ?y15⟩) hH0 ?r15
  case y15 => (intro w hSw; (try dsimp only at hSw); go_simp; try with_reducible rfl)
  try simp only [Act.put, List.setIfInBounds_toArray, List.set_cons_zero, List.set_cons_succ]
  refine' wpAnyF_take (i := 18) (List.getElem?_toArray.trans rfl) (by kernel_rfl) (by kernel_rfl) (by kernel_rfl) (by kernel_rfl) (fun _ _ _ h => h) (Or.inl ⟨by rfl, ?y16⟩) hH0 ?r16
  case y16 => (intro w hSw; (try dsimp only at hSw); go_simp; try with_reducible rfl)
  try simp only [Act.put, List.setIfInBounds_toArray, List.set_cons_zero, List.set_cons_succ]
  refine' wpAnyF_take (i := 21) (List.getElem?_toArray.trans rfl) (by kernel_rfl) (by kernel_rfl) (by kernel_rfl) (by kernel_rfl) (fun _ _ _ h => h) (Or.inl ⟨by rfl, ?y17⟩) hH0 ?r17
  case y17 => (intro w hSw; (try dsimp only at hSw); go_simp; try with_reducible rfl)
  try simp only [Act.put, List.setIfInBounds_toArray, List.set_cons_zero, List.set_cons_succ]
  refine' wpAnyF_take (i := 22) (List.getElem?_toArray.trans rfl) (by kernel_rfl) (by kernel_rfl) (by kernel_rfl) (by kernel_rfl) (fun _ _ _ h => h) (Or.inl ⟨by rfl, ?y18⟩) hH0 ?r18
  case y18 => (intro w hSw; (try dsimp only at hSw); go_simp; try with_reducible rfl)
  try simp only [Act.put, List.setIfInBounds_toArray, List.set_cons_zero, List.set_cons_succ]
  refine' wpAnyF_take (i := 23) (List.getElem?_toArray.trans rfl) (by kernel_rfl) (by kernel_rfl) (by kernel_rfl) (by kernel_rfl) (fun _ _ _ h => h) (Or.inl ⟨by rfl, ?y19⟩) hH0 ?r19
  case y19 => (intro w hSw; (try dsimp only at hSw); go_simp; try with_reducible rfl)
  try simp only [Act.put, List.setIfInBounds_toArray, List.set_cons_zero, List.set_cons_succ]
  refine' wpAnyF_take (i := 24) (List.getElem?_toArray.trans rfl) (by kernel_rfl) (by kernel_rfl) (by kernel_rfl) (by kernel_rfl) (fun _ _ _ h => h) (Or.inl ⟨by rfl, ?y20⟩) hH0 ?r20
  case y20 => (intro w hSw; (try dsimp only at hSw); go_simp; try with_reducible rfl)
  try simp only [Act.put, List.setIfInBounds_toArray, List.set_cons_zero, List.set_cons_succ]
  refine' wpAnyF_take (i := 25) (List.getElem?_toArray.trans rfl) (by kernel_rfl) (by kernel_rfl) (by kernel_rfl) (by kernel_rfl) (fun _ _ _ h => h) (Or.inl ⟨by rfl, ?y21⟩) hH0 ?r21
  case y21 => (intro w hSw; (try dsimp only at hSw); go_simp; try with_reducible rfl)
  try simp only [Act.put, List.setIfInBounds_toArray, List.set_cons_zero, List.set_cons_succ]
  refine' wpAnyF_take (i := 26) (List.getElem?_toArray.trans rfl) (by kernel_rfl) (by kernel_rfl) (by kernel_rfl) (by kernel_rfl) (fun _ _ _ h => h) (Or.inl ⟨by rfl, ?y22⟩) hH0 ?r22
  case y22 => (intro w hSw; (try dsimp only at hSw); go_simp; try with_reducible rfl)
  try simp only [Act.put, List.setIfInBounds_toArray, List.set_cons_zero, List.set_cons_succ]
  refine' wpAnyF_take (i := 27) (List.getElem?_toArray.trans rfl) (by kernel_rfl) (by kernel_rfl) (by kernel_rfl) (by kernel_rfl) (fun _ _ _ h => h) (Or.inl ⟨by rfl, ?y23⟩) hH0 ?r23
  case y23 => (intro w hSw; (try dsimp only at hSw); go_simp; try with_reducible rfl)
  try simp only [Act.put, List.setIfInBounds_toArray, List.set_cons_zero, List.set_cons_succ]
  refine' wpAnyF_take (i := 28) (List.getElem?_toArray.trans rfl) (by kernel_rfl) (by kernel_rfl) (by kernel_rfl) (by kernel_rfl) (fun _ _ _ h => h) (Or.inl ⟨by rfl, ?y24⟩) hH0 ?r24
  case y24 => (intro w hSw; (try dsimp only at hSw); go_simp; try with_reducible rfl)
  try simp only [Act.put, List.setIfInBounds_toArray, List.set_cons_zero, List.set_cons_succ]
  refine' wpAnyF_take (i := 29) (List.getElem?_toArray.trans rfl) (by kernel_rfl) (by kernel_rfl) (by kernel_rfl) (by kernel_rfl) (fun _ _ _ h => h) (Or.inl ⟨by rfl, ?y25⟩) hH0 ?r25
  case y25 => (intro w hSw; (try dsimp only at hSw); go_simp; try with_reducible rfl)
  try simp only [Act.put, List.setIfInBounds_toArray, List.set_cons_zero, List.set_cons_succ]
  refine' wpAnyF_take (i := 32) (List.getElem?_toArray.trans rfl) (by kernel_rfl) (by kernel_rfl) (by kernel_rfl) (by kernel_rfl) (fun _ _ _ h => h) (Or.inl ⟨by rfl, ?y26⟩) hH0 ?r26
  case y26 => (intro w hSw; (try dsimp only at hSw); go_simp; try with_reducible rfl)
  try simp only [Act.put, List.setIfInBounds_toArray, List.set_cons_zero, List.set_cons_succ]
  refine' wpAnyF_take (i := 33) (List.getElem?_toArray.trans rfl) (by kernel_rfl) (by kernel_rfl) (by kernel_rfl) (by kernel_rfl) (fun _ _ _ h => h) (Or.inl ⟨by rfl, ?y27⟩) hH0 ?r27
  case y27 => (intro w hSw; (try dsimp only at hSw); go_simp; try with_reducible rfl)
  try simp only [Act.put, List.setIfInBounds_toArray, List.set_cons_zero, List.set_cons_succ]
  refine' wpAnyF_take (i := 34) (List.getElem?_toArray.trans rfl) (by kernel_rfl) (by kernel_rfl) (by kernel_rfl) (by kernel_rfl) (fun _ _ _ h => h) (Or.inl ⟨by rfl, ?y28⟩) hH0 ?r28
  case y28 => (intro w hSw; (try dsimp only at hSw); go_simp; try with_reducible rfl)
  try simp only [Act.put, List.setIfInBounds_toArray, List.set_cons_zero, List.set_cons_succ]
  refine' wpAnyF_take (i := 35) (List.getElem?_toArray.trans rfl) (by kernel_rfl) (by kernel_rfl) (by kernel_rfl) (by kernel_rfl) (fun _ _ _ h => h) (Or.inl ⟨by rfl, ?y29⟩) hH0 ?r29
  case y29 => (intro w hSw; (try dsimp only at hSw); go_simp; try with_reducible rfl)
  try simp only [Act.put, List.setIfInBounds_toArray, List.set_cons_zero, List.set_cons_succ]
  refine' wpAnyF_take (i := 36) (List.getElem?_toArray.trans rfl) (by kernel_rfl) (by kernel_rfl) (by kernel_rfl) (by kernel_rfl) (fun _ _ _ h => h) (Or.inl ⟨by rfl, ?y30⟩) hH0 ?r30
  case y30 => (intro w hSw; (try dsimp only at hSw); go_simp; try with_reducible rfl)
  try simp only [Act.put, List.setIfInBounds_toArray, List.set_cons_zero, List.set_cons_succ]
  refine' wpAnyF_take (i := 37) (List.getElem?_toArray.trans rfl) (by kernel_rfl) (by kernel_rfl) (by kernel_rfl) (by kernel_rfl) (fun _ _ _ h => h) (Or.inl ⟨by rfl, ?y31⟩) hH0 ?r31
  case y31 => (intro w hSw; (try dsimp only at hSw); go_simp; try with_reducible rfl)
  try simp only [Act.put, List.setIfInBounds_toArray, List.set_cons_zero, List.set_cons_succ]
  refine' wpAnyF_take (i := 38) (List.getElem?_toArray.trans rfl) (by kernel_rfl) (by kernel_rfl) (by kernel_rfl) (by kernel_rfl) (fun _ _ _ h => h) (Or.inl ⟨by rfl, ?y32⟩) hH0 ?r32
  case y32 => (intro w hSw; (try dsimp only at hSw); go_simp; try with_reducible rfl)
  try simp only [Act.put, List.setIfInBounds_toArray, List.set_cons_zero, List.set_cons_succ]
  refine wpAnyF_ready (rs := [12, 39]) (by kernel_rfl) (by simp) ?_
  refine' AllReadyF.cons (List.getElem?_toArray.trans rfl) (fun K hK => ?st33) ?more33
  case st33 =>
    go_simp
    refine hK.out _ _ ?s34 (fun hH34 => ?r34)
    case s34 => ((try dsimp only); exact goS (X0.out.below ((Below.refl _ _).alloc (Nat.le_refl _) _)) (T0.out.below ((Below.refl _ _).alloc (Nat.le_refl _) _)))
    obtain ⟨ea34, ta34⟩ := alloc_nbH (S := fun _ => False) E0.out.hi #[.int .i64 p.b, .int .i64 p.q, .int .i64 dd.b, .int .i64 dd.q] 53 wd.heap.size rfl
    have hb34 : Below wd.heap.size wd (wd.alloc (.cells #[.int .i64 p.b, .int .i64 p.q, .int .i64 dd.b, .int .i64 dd.q] 53)) := (Below.refl _ _).alloc (Nat.le_refl _) _
    have E34 := Lib.hid (E0.out.below hb34)
    have X34 := Lib.hid (X0.out.below hb34)
    have L34 := Lib.hid (L0.out.below hb34)
    have T34 := Lib.hid (T0.out.below hb34)
    have A34 := Lib.hid ta34
    obtain ⟨v34, hv34⟩ : ∃ v, v = wd.alloc (.cells #[.int .i64 p.b, .int .i64 p.q, .int .i64 dd.b, .int .i64 dd.q] 53) := ⟨_, rfl⟩
    obtain ⟨N34, hn34⟩ : ∃ x, x = wd.heap.size := ⟨_, rfl⟩
    rw [← hv34] at hH34 E34 X34 L34 T34 A34 ⊢
    rw [← hn34] at A34 ⊢
    clear hv34 hn34 ea34 ta34 hb34 E0 X0 L0 T0
    clear hK K hH0
    try simp only [Act.put, List.setIfInBounds_toArray, List.set_cons_zero, List.set_cons_succ]
    refine wpAnyF_ready (rs := [13, 39]) (by kernel_rfl) (by simp) ?_
    refine' AllReadyF.cons (List.getElem?_toArray.trans rfl) (fun K hK => ?st35) ?more35
    case st35 =>
      go_simp
      refine' Calls.mono (c_NewMark2 p dd HP.out.1 HP.out.2 (k + 19) (by omega) (by rw [A34.out.o]; omega) ⟨Nat.le_refl _, by unfold maxLen; decide⟩ A34.out.lt (A34.out.c 0 _ rfl) (A34.out.c 1 _ rfl) (A34.out.c 2 _ rfl) (A34.out.c 3 _ rfl) E34.out.hi) ?c36
      rintro e w36 ⟨m36, rfl, G36, e36, a36⟩
      have E36 := Lib.hid (E34.out.trans (e36.mono (T := fun t => t = k ∨ t = k + 1 ∨ (k + 19 ≤ t ∧ t ≤ k + 24)) (fun t _ h => by omega)))
      have X36 := Lib.hid (X34.out.ext e36 (by omega))
      have L36 := Lib.hid (L34.out.ext e36 (by omega))
      have T36 := Lib.hid (T34.out.ext e36 (by omega))
      have A36 := Lib.hid (A34.out.ext e36 (by omega))
      have M36 := Lib.hid a36
      clear a36 e36 E34 X34 L34 T34 A34
      try go_wp2_with fail
      refine hK.out _ _ ?s36 (fun hH36 => ?r36)
      case s36 => ((try dsimp only); exact goS X36.out T36.out)
      clear hK K hH34
      try simp only [Act.put, List.setIfInBounds_toArray, List.set_cons_zero, List.set_cons_succ]
      refine' wpAnyF_take (i := 14) (List.getElem?_toArray.trans rfl) (by kernel_rfl) (by kernel_rfl) (by kernel_rfl) (by kernel_rfl) (fun _ _ _ h => h) (Or.inl ⟨by rfl, ?y37⟩) hH36 ?r37
      case y37 => (intro w hSw; (try dsimp only at hSw); go_simp; try with_reducible rfl)
      try simp only [Act.put, List.setIfInBounds_toArray, List.set_cons_zero, List.set_cons_succ]
      refine wpAnyF_ready (rs := [19, 39]) (by kernel_rfl) (by simp) ?_
      refine' AllReadyF.cons (List.getElem?_toArray.trans rfl) (fun K hK => ?st38) ?more38
      case st38 =>
        go_simp
        refine' Calls.mono (c_NewOut (k := k + 21) HP.out.1 E36.out.hi) ?c39
        rintro e w39 ⟨m39, rfl, G39, e39, a39⟩
        have E39 := Lib.hid (E36.out.trans (e39.mono (T := fun t => t = k ∨ t = k + 1 ∨ (k + 19 ≤ t ∧ t ≤ k + 24)) (fun t _ h => by omega)))
        have X39 := Lib.hid (X36.out.ext e39 (by omega))
        have L39 := Lib.hid (L36.out.ext e39 (by omega))
        have T39 := Lib.hid (T36.out.ext e39 (by omega))
        have A39 := Lib.hid (A36.out.ext e39 (by omega))
        have M39 := Lib.hid (M36.out.ext e39 (by omega) (by omega))
        have U39 := Lib.hid a39
        clear a39 e39 E36 X36 L36 T36 A36 M36
        try go_wp2_with fail
        refine hK.out _ _ ?s39 (fun hH39 => ?r39)
        case s39 => ((try dsimp only); exact goS X39.out T39.out)
        clear hK K hH36
        try simp only [Act.put, List.setIfInBounds_toArray, List.set_cons_zero, List.set_cons_succ]
        refine' wpAnyF_take (i := 20) (List.getElem?_toArray.trans rfl) (by kernel_rfl) (by kernel_rfl) (by kernel_rfl) (by kernel_rfl) (fun _ _ _ h => h) (Or.inl ⟨by rfl, ?y40⟩) hH39 ?r40
        case y40 => (intro w hSw; (try dsimp only at hSw); go_simp; try with_reducible rfl)
        try simp only [Act.put, List.setIfInBounds_toArray, List.set_cons_zero, List.set_cons_succ]
        refine wpAnyF_ready (rs := [30, 39]) (by kernel_rfl) (by simp) ?_
        refine' AllReadyF.cons (List.getElem?_toArray.trans rfl) (fun K hK => ?st41) ?more41
        case st41 =>
          go_simp
          refine' Calls.mono (c_NewPutV (k := k + 22) dd tag ref HP.out.2 E39.out.hi t0 t1 r1) ?c42
          rintro e w42 ⟨m42, rfl, G42, e42, a42⟩
          have E42 := Lib.hid (E39.out.trans (e42.mono (T := fun t => t = k ∨ t = k + 1 ∨ (k + 19 ≤ t ∧ t ≤ k + 24)) (fun t _ h => by omega)))
          have X42 := Lib.hid (X39.out.ext e42 (by omega))
          have L42 := Lib.hid (L39.out.ext e42 (by omega))
          have T42 := Lib.hid (T39.out.ext e42 (by omega))
          have A42 := Lib.hid (A39.out.ext e42 (by omega))
          have M42 := Lib.hid (M39.out.ext e42 (by omega) (by omega))
          have U42 := Lib.hid (U39.out.ext e42 (by omega))
          have P42 := Lib.hid a42
          clear a42 e42 E39 X39 L39 T39 A39 M39 U39
          try go_wp2_with fail
          refine hK.out _ _ ?s42 (fun hH42 => ?r42)
          case s42 => ((try dsimp only); exact goS X42.out T42.out)
          clear hK K hH39
          try simp only [Act.put, List.setIfInBounds_toArray, List.set_cons_zero, List.set_cons_succ]
          refine' wpAnyF_take (i := 31) (List.getElem?_toArray.trans rfl) (by kernel_rfl) (by kernel_rfl) (by kernel_rfl) (by kernel_rfl) (fun _ _ _ h => h) (Or.inl ⟨by rfl, ?y43⟩) hH42 ?r43
          case y43 => (intro w hSw; (try dsimp only at hSw); go_simp; try with_reducible rfl)
          try simp only [Act.put, List.setIfInBounds_toArray, List.set_cons_zero, List.set_cons_succ]
          refine wpAnyF_ready (rs := [39]) (by kernel_rfl) (by simp) ?_
          refine' AllReadyF.cons (List.getElem?_toArray.trans rfl) (fun K hK => ?st44) ?more44
          case st44 =>
            go_simp
            refine hK.out _ _ ?s45 (fun hH45 => ?r45)
            case s45 => ((try dsimp only); exact goS (X42.out.below ((Below.refl _ _).alloc (Nat.le_refl _) _)) (T42.out.below ((Below.refl _ _).alloc (Nat.le_refl _) _)))
            obtain ⟨ea45, ta45⟩ := alloc_nbH (S := fun _ => False) E42.out.hi #[.int .i64 p.b, .int .i64 p.q, .int .i64 dd.b, .int .i64 dd.q] 53 w42.heap.size rfl
            have hb45 : Below w42.heap.size w42 (w42.alloc (.cells #[.int .i64 p.b, .int .i64 p.q, .int .i64 dd.b, .int .i64 dd.q] 53)) := (Below.refl _ _).alloc (Nat.le_refl _) _
            have E45 := Lib.hid (E42.out.below hb45)
            have X45 := Lib.hid (X42.out.below hb45)
            have L45 := Lib.hid (L42.out.below hb45)
            have T45 := Lib.hid (T42.out.below hb45)
            have A45 := Lib.hid (A42.out.below hb45)
            have M45 := Lib.hid (M42.out.below hb45)
            have U45 := Lib.hid (U42.out.below hb45)
            have P45 := Lib.hid (P42.out.below hb45)
            have C45 := Lib.hid ta45
            obtain ⟨v45, hv45⟩ : ∃ v, v = w42.alloc (.cells #[.int .i64 p.b, .int .i64 p.q, .int .i64 dd.b, .int .i64 dd.q] 53) := ⟨_, rfl⟩
            obtain ⟨N45, hn45⟩ : ∃ x, x = w42.heap.size := ⟨_, rfl⟩
            rw [← hv45] at hH45 E45 X45 L45 T45 A45 M45 U45 P45 C45 ⊢
            rw [← hn45] at C45 ⊢
            clear hv45 hn45 ea45 ta45 hb45 E42 X42 L42 T42 A42 M42 U42 P42
            clear hK K hH42
            try simp only [Act.put, List.setIfInBounds_toArray, List.set_cons_zero, List.set_cons_succ]
            refine wpAnyF_ready (rs := [40]) (by kernel_rfl) (by simp) ?_
            refine' AllReadyF.cons (List.getElem?_toArray.trans rfl) (fun K hK => ?st46) ?more46
            case st46 =>
              go_simp
              refine' Calls.mono (c_NewMark2 p dd HP.out.1 HP.out.2 (k + 23) (by omega) (by rw [C45.out.o]; omega) ⟨Nat.le_refl _, by unfold maxLen; decide⟩ C45.out.lt (C45.out.c 0 _ rfl) (C45.out.c 1 _ rfl) (C45.out.c 2 _ rfl) (C45.out.c 3 _ rfl) E45.out.hi) ?c47
              rintro e w47 ⟨m47, rfl, G47, e47, a47⟩
              have E47 := Lib.hid (E45.out.trans (e47.mono (T := fun t => t = k ∨ t = k + 1 ∨ (k + 19 ≤ t ∧ t ≤ k + 24)) (fun t _ h => by omega)))
              have X47 := Lib.hid (X45.out.ext e47 (by omega))
              have L47 := Lib.hid (L45.out.ext e47 (by omega))
              have T47 := Lib.hid (T45.out.ext e47 (by omega))
              have A47 := Lib.hid (A45.out.ext e47 (by omega))
              have M47 := Lib.hid (M45.out.ext e47 (by omega) (by omega))
              have U47 := Lib.hid (U45.out.ext e47 (by omega))
              have P47 := Lib.hid (P45.out.ext e47 (by omega))
              have C47 := Lib.hid (C45.out.ext e47 (by omega))
              have Q47 := Lib.hid a47
              clear a47 e47 E45 X45 L45 T45 A45 M45 U45 P45 C45
              try go_wp2_with fail
              refine hK.out _ _ ?s47 (fun hH47 => ?r47)
              case s47 => ((try dsimp only); exact goS X47.out T47.out)
              clear hK K hH45
              try simp only [Act.put, List.setIfInBounds_toArray, List.set_cons_zero, List.set_cons_succ]
              refine' wpAnyF_take (i := 41) (List.getElem?_toArray.trans rfl) (by kernel_rfl) (by kernel_rfl) (by kernel_rfl) (by kernel_rfl) (fun _ _ _ h => h) (Or.inl ⟨by rfl, ?y48⟩) hH47 ?r48
              case y48 => (intro w hSw; (try dsimp only at hSw); go_simp; try with_reducible rfl)
              try simp only [Act.put, List.setIfInBounds_toArray, List.set_cons_zero, List.set_cons_succ]
              refine wpAnyF_ready (rs := [42]) (by kernel_rfl) (by simp) ?_
              refine' AllReadyF.cons (List.getElem?_toArray.trans rfl) (fun K hK => ?st49) ?more49
              case st49 =>
                go_simp
                refine hK.out _ _ ?s50 (fun hH50 => ?r50)
                case s50 => ((try dsimp only); exact goS (X47.out.below ((Below.refl _ _).alloc (Nat.le_refl _) _)) (T47.out.below ((Below.refl _ _).alloc (Nat.le_refl _) _)))
                clear hK K hH47
                try simp only [Act.put, List.setIfInBounds_toArray, List.set_cons_zero, List.set_cons_succ]
                refine wpAnyF_ready (rs := [43]) (by kernel_rfl) (by simp) ?_
                refine' AllReadyF.cons (List.getElem?_toArray.trans rfl) (fun K hK => ?st51) ?more51
                case st51 =>
                  refine step_append_sls w47 (by rfl) _ _ 62 (by rfl) 160 i0 .nilIface 1 16 Tryz.underlying62 HI.out.1 HI.out.2.1 HI.out.2.2.1 HI.out.2.2.2 rfl (by decide) G47 (k + 1) (by omega) E47.out.hi (.slice (some ⟨A, o, none⟩) 1 cp) 1 [v0] (by rfl) L47.out 4 (by decide) [IMark m36, IOut m39, IPut m42, IMark m47] _ (by rfl) rfl (by simp [IMark, IOut, IPut, Value.oneCell']) (by unfold maxLen; decide) (by decide) ?_
                  intro b52 o52 c52 w52 G52 e52 s52
                  have E52 := Lib.hid (E47.out.trans (e52.mono (T := fun t => t = k ∨ t = k + 1 ∨ (k + 19 ≤ t ∧ t ≤ k + 24)) (fun t _ h => by omega)))
                  have X52 := Lib.hid (X47.out.ext e52 (by omega))
                  have T52 := Lib.hid (T47.out.ext e52 (by omega))
                  have A52 := Lib.hid (A47.out.ext e52 (by omega))
                  have M52 := Lib.hid (M47.out.ext e52 (by omega) (by omega))
                  have U52 := Lib.hid (U47.out.ext e52 (by omega))
                  have P52 := Lib.hid (P47.out.ext e52 (by omega))
                  have C52 := Lib.hid (C47.out.ext e52 (by omega))
                  have Q52 := Lib.hid (Q47.out.ext e52 (by omega) (by omega))
                  have L52 := Lib.hid s52
                  clear s52 e52 E47 X47 T47 A47 M47 U47 P47 C47 Q47 
                  refine hK.out _ _ ?s52 (fun hH52 => ?r52)
                  case s52 => ((try dsimp only); exact goS X52.out T52.out)
                  have z4 := X52.out.c 4 _ rfl
                  have zf := X52.out.f 4
                  clear hK K hH50
                  try simp only [Act.put, List.setIfInBounds_toArray, List.set_cons_zero, List.set_cons_succ]
                  refine wpAnyF_ready (rs := [44]) (by kernel_rfl) (by simp) ?_
                  refine' AllReadyF.cons (List.getElem?_toArray.trans rfl) (fun K hK => ?st53) ?more53
                  case st53 =>
                    go_simp
                    refine hK.out _ _ ?s54 (fun hH54 => ?r54)
                    case s54 => ((try dsimp only); exact goS X52.out T52.out)
                    clear hK K hH52
                    try simp only [Act.put, List.setIfInBounds_toArray, List.set_cons_zero, List.set_cons_succ]
                    refine' wpAnyF_take (i := 45) (List.getElem?_toArray.trans rfl) (by kernel_rfl) (by kernel_rfl) (by kernel_rfl) (by kernel_rfl) (fun _ _ _ h => h) (Or.inl ⟨by rfl, ?y55⟩) hH54 ?r55
                    case y55 => (intro w hSw; (try dsimp only at hSw); go_simp; try with_reducible rfl)
                    try simp only [Act.put, List.setIfInBounds_toArray, List.set_cons_zero, List.set_cons_succ]
                    refine wpAnyF_ready (rs := [46]) (by kernel_rfl) (by simp) ?_
                    refine' AllReadyF.last (List.getElem?_toArray.trans rfl) (fun K hK => ?st56) ?more56
                    case st56 =>
                      go_simp
                      refine hK.out _ _ ?_
                      clear hK K
                      try simp only [Act.put, List.setIfInBounds_toArray, List.set_cons_zero, List.set_cons_succ]
                      refine wpAnyF_done (by kernel_rfl) ?_ _
                      go_wp2_with fail
                      refine bodyPost_ret (v := .tuple #[]) (results_none (by rfl) _ _ _) rfl ?_
                      have E7 := ext_set (j := 4) (v := .slice (some ⟨b52, o52, none⟩) (1 + 4) c52) E52.out.hi X52.out hk
                      exact ⟨rfl, G52, E52.out.trans (E7.mono fun t _ h => .inl h), _, m36, m39, m42, m47, X52.out.set 4 (.slice (some ⟨b52, o52, none⟩) (1 + 4) c52) (by simp [mvCs]), L52.out.ext E7 (by omega), M52.out.ext E7 (by omega) (by omega), U52.out.ext E7 (by omega), P52.out.ext E7 (by omega), Q52.out.ext E7 (by omega) (by omega)⟩
                    exact AllReadyF.nil
                  exact AllReadyF.nil
                exact AllReadyF.nil
              exact AllReadyF.nil
            exact AllReadyF.nil
          exact AllReadyF.nil
        refine' AllReadyF.cons (List.getElem?_toArray.trans rfl) (fun K hK => ?st58) ?more58
        case st58 =>
          go_simp
          refine hK.out _ _ ?s59 (fun hH59 => ?r59)
          case s59 => ((try dsimp only); exact goS (X39.out.below ((Below.refl _ _).alloc (Nat.le_refl _) _)) (T39.out.below ((Below.refl _ _).alloc (Nat.le_refl _) _)))
          obtain ⟨ea59, ta59⟩ := alloc_nbH (S := fun _ => False) E39.out.hi #[.int .i64 p.b, .int .i64 p.q, .int .i64 dd.b, .int .i64 dd.q] 53 w39.heap.size rfl
          have hb59 : Below w39.heap.size w39 (w39.alloc (.cells #[.int .i64 p.b, .int .i64 p.q, .int .i64 dd.b, .int .i64 dd.q] 53)) := (Below.refl _ _).alloc (Nat.le_refl _) _
          have E59 := Lib.hid (E39.out.below hb59)
          have X59 := Lib.hid (X39.out.below hb59)
          have L59 := Lib.hid (L39.out.below hb59)
          have T59 := Lib.hid (T39.out.below hb59)
          have A59 := Lib.hid (A39.out.below hb59)
          have M59 := Lib.hid (M39.out.below hb59)
          have U59 := Lib.hid (U39.out.below hb59)
          have C59 := Lib.hid ta59
          obtain ⟨v59, hv59⟩ : ∃ v, v = w39.alloc (.cells #[.int .i64 p.b, .int .i64 p.q, .int .i64 dd.b, .int .i64 dd.q] 53) := ⟨_, rfl⟩
          obtain ⟨N59, hn59⟩ : ∃ x, x = w39.heap.size := ⟨_, rfl⟩
          rw [← hv59] at hH59 E59 X59 L59 T59 A59 M59 U59 C59 ⊢
          rw [← hn59] at C59 ⊢
          clear hv59 hn59 ea59 ta59 hb59 E39 X39 L39 T39 A39 M39 U39
          clear hK K hH39
          try simp only [Act.put, List.setIfInBounds_toArray, List.set_cons_zero, List.set_cons_succ]
          refine wpAnyF_ready (rs := [30]) (by kernel_rfl) (by simp) ?_
          refine' AllReadyF.cons (List.getElem?_toArray.trans rfl) (fun K hK => ?st60) ?more60
          case st60 =>
            go_simp
            refine' Calls.mono (c_NewPutV (k := k + 22) dd tag ref HP.out.2 E59.out.hi t0 t1 r1) ?c61
            rintro e w61 ⟨m61, rfl, G61, e61, a61⟩
            have E61 := Lib.hid (E59.out.trans (e61.mono (T := fun t => t = k ∨ t = k + 1 ∨ (k + 19 ≤ t ∧ t ≤ k + 24)) (fun t _ h => by omega)))
            have X61 := Lib.hid (X59.out.ext e61 (by omega))
            have L61 := Lib.hid (L59.out.ext e61 (by omega))
            have T61 := Lib.hid (T59.out.ext e61 (by omega))
            have A61 := Lib.hid (A59.out.ext e61 (by omega))
            have M61 := Lib.hid (M59.out.ext e61 (by omega) (by omega))
            have U61 := Lib.hid (U59.out.ext e61 (by omega))
            have C61 := Lib.hid (C59.out.ext e61 (by omega))
            have P61 := Lib.hid a61
            clear a61 e61 E59 X59 L59 T59 A59 M59 U59 C59
            try go_wp2_with fail
            refine hK.out _ _ ?s61 (fun hH61 => ?r61)
            case s61 => ((try dsimp only); exact goS X61.out T61.out)
            clear hK K hH59
            try simp only [Act.put, List.setIfInBounds_toArray, List.set_cons_zero, List.set_cons_succ]
            refine' wpAnyF_take (i := 31) (List.getElem?_toArray.trans rfl) (by kernel_rfl) (by kernel_rfl) (by kernel_rfl) (by kernel_rfl) (fun _ _ _ h => h) (Or.inl ⟨by rfl, ?y62⟩) hH61 ?r62
            case y62 => (intro w hSw; (try dsimp only at hSw); go_simp; try with_reducible rfl)
            try simp only [Act.put, List.setIfInBounds_toArray, List.set_cons_zero, List.set_cons_succ]
            refine wpAnyF_ready (rs := [40]) (by kernel_rfl) (by simp) ?_
            refine' AllReadyF.cons (List.getElem?_toArray.trans rfl) (fun K hK => ?st63) ?more63
            case st63 =>
              go_simp
              refine' Calls.mono (c_NewMark2 p dd HP.out.1 HP.out.2 (k + 23) (by omega) (by rw [C61.out.o]; omega) ⟨Nat.le_refl _, by unfold maxLen; decide⟩ C61.out.lt (C61.out.c 0 _ rfl) (C61.out.c 1 _ rfl) (C61.out.c 2 _ rfl) (C61.out.c 3 _ rfl) E61.out.hi) ?c64
              rintro e w64 ⟨m64, rfl, G64, e64, a64⟩
              have E64 := Lib.hid (E61.out.trans (e64.mono (T := fun t => t = k ∨ t = k + 1 ∨ (k + 19 ≤ t ∧ t ≤ k + 24)) (fun t _ h => by omega)))
              have X64 := Lib.hid (X61.out.ext e64 (by omega))
              have L64 := Lib.hid (L61.out.ext e64 (by omega))
              have T64 := Lib.hid (T61.out.ext e64 (by omega))
              have A64 := Lib.hid (A61.out.ext e64 (by omega))
              have M64 := Lib.hid (M61.out.ext e64 (by omega) (by omega))
              have U64 := Lib.hid (U61.out.ext e64 (by omega))
              have C64 := Lib.hid (C61.out.ext e64 (by omega))
              have P64 := Lib.hid (P61.out.ext e64 (by omega))
              have Q64 := Lib.hid a64
              clear a64 e64 E61 X61 L61 T61 A61 M61 U61 C61 P61
              try go_wp2_with fail
              refine hK.out _ _ ?s64 (fun hH64 => ?r64)
              case s64 => ((try dsimp only); exact goS X64.out T64.out)
              clear hK K hH61
              try simp only [Act.put, List.setIfInBounds_toArray, List.set_cons_zero, List.set_cons_succ]
              refine' wpAnyF_take (i := 41) (List.getElem?_toArray.trans rfl) (by kernel_rfl) (by kernel_rfl) (by kernel_rfl) (by kernel_rfl) (fun _ _ _ h => h) (Or.inl ⟨by rfl, ?y65⟩) hH64 ?r65
              case y65 => (intro w hSw; (try dsimp only at hSw); go_simp; try with_reducible rfl)
              try simp only [Act.put, List.setIfInBounds_toArray, List.set_cons_zero, List.set_cons_succ]
              refine wpAnyF_ready (rs := [42]) (by kernel_rfl) (by simp) ?_
              refine' AllReadyF.cons (List.getElem?_toArray.trans rfl) (fun K hK => ?st66) ?more66
              case st66 =>
                go_simp
                refine hK.out _ _ ?s67 (fun hH67 => ?r67)
                case s67 => ((try dsimp only); exact goS (X64.out.below ((Below.refl _ _).alloc (Nat.le_refl _) _)) (T64.out.below ((Below.refl _ _).alloc (Nat.le_refl _) _)))
                clear hK K hH64
                try simp only [Act.put, List.setIfInBounds_toArray, List.set_cons_zero, List.set_cons_succ]
                refine wpAnyF_ready (rs := [43]) (by kernel_rfl) (by simp) ?_
                refine' AllReadyF.cons (List.getElem?_toArray.trans rfl) (fun K hK => ?st68) ?more68
                case st68 =>
                  refine step_append_sls w64 (by rfl) _ _ 62 (by rfl) 160 i0 .nilIface 1 16 Tryz.underlying62 HI.out.1 HI.out.2.1 HI.out.2.2.1 HI.out.2.2.2 rfl (by decide) G64 (k + 1) (by omega) E64.out.hi (.slice (some ⟨A, o, none⟩) 1 cp) 1 [v0] (by rfl) L64.out 4 (by decide) [IMark m36, IOut m39, IPut m61, IMark m64] _ (by rfl) rfl (by simp [IMark, IOut, IPut, Value.oneCell']) (by unfold maxLen; decide) (by decide) ?_
                  intro b69 o69 c69 w69 G69 e69 s69
                  have E69 := Lib.hid (E64.out.trans (e69.mono (T := fun t => t = k ∨ t = k + 1 ∨ (k + 19 ≤ t ∧ t ≤ k + 24)) (fun t _ h => by omega)))
                  have X69 := Lib.hid (X64.out.ext e69 (by omega))
                  have T69 := Lib.hid (T64.out.ext e69 (by omega))
                  have A69 := Lib.hid (A64.out.ext e69 (by omega))
                  have M69 := Lib.hid (M64.out.ext e69 (by omega) (by omega))
                  have U69 := Lib.hid (U64.out.ext e69 (by omega))
                  have C69 := Lib.hid (C64.out.ext e69 (by omega))
                  have P69 := Lib.hid (P64.out.ext e69 (by omega))
                  have Q69 := Lib.hid (Q64.out.ext e69 (by omega) (by omega))
                  have L69 := Lib.hid s69
                  clear s69 e69 E64 X64 T64 A64 M64 U64 C64 P64 Q64 
                  refine hK.out _ _ ?s69 (fun hH69 => ?r69)
                  case s69 => ((try dsimp only); exact goS X69.out T69.out)
                  have z4 := X69.out.c 4 _ rfl
                  have zf := X69.out.f 4
                  clear hK K hH67
                  try simp only [Act.put, List.setIfInBounds_toArray, List.set_cons_zero, List.set_cons_succ]
                  refine wpAnyF_ready (rs := [44]) (by kernel_rfl) (by simp) ?_
                  refine' AllReadyF.cons (List.getElem?_toArray.trans rfl) (fun K hK => ?st70) ?more70
                  case st70 =>
                    go_simp
                    refine hK.out _ _ ?s71 (fun hH71 => ?r71)
                    case s71 => ((try dsimp only); exact goS X69.out T69.out)
                    clear hK K hH69
                    try simp only [Act.put, List.setIfInBounds_toArray, List.set_cons_zero, List.set_cons_succ]
                    refine' wpAnyF_take (i := 45) (List.getElem?_toArray.trans rfl) (by kernel_rfl) (by kernel_rfl) (by kernel_rfl) (by kernel_rfl) (fun _ _ _ h => h) (Or.inl ⟨by rfl, ?y72⟩) hH71 ?r72
                    case y72 => (intro w hSw; (try dsimp only at hSw); go_simp; try with_reducible rfl)
                    try simp only [Act.put, List.setIfInBounds_toArray, List.set_cons_zero, List.set_cons_succ]
                    refine wpAnyF_ready (rs := [46]) (by kernel_rfl) (by simp) ?_
                    refine' AllReadyF.last (List.getElem?_toArray.trans rfl) (fun K hK => ?st73) ?more73
                    case st73 =>
                      go_simp
                      refine hK.out _ _ ?_
                      clear hK K
                      try simp only [Act.put, List.setIfInBounds_toArray, List.set_cons_zero, List.set_cons_succ]
                      refine wpAnyF_done (by kernel_rfl) ?_ _
                      go_wp2_with fail
                      refine bodyPost_ret (v := .tuple #[]) (results_none (by rfl) _ _ _) rfl ?_
                      have E7 := ext_set (j := 4) (v := .slice (some ⟨b69, o69, none⟩) (1 + 4) c69) E69.out.hi X69.out hk
                      exact ⟨rfl, G69, E69.out.trans (E7.mono fun t _ h => .inl h), _, m36, m39, m61, m64, X69.out.set 4 (.slice (some ⟨b69, o69, none⟩) (1 + 4) c69) (by simp [mvCs]), L69.out.ext E7 (by omega), M69.out.ext E7 (by omega) (by omega), U69.out.ext E7 (by omega), P69.out.ext E7 (by omega), Q69.out.ext E7 (by omega) (by omega)⟩
                    exact AllReadyF.nil
                  exact AllReadyF.nil
                exact AllReadyF.nil
              exact AllReadyF.nil
            exact AllReadyF.nil
          exact AllReadyF.nil
        exact AllReadyF.nil
      refine' AllReadyF.cons (List.getElem?_toArray.trans rfl) (fun K hK => ?st75) ?more75
      case st75 =>
        go_simp
        refine hK.out _ _ ?s76 (fun hH76 => ?r76)
        case s76 => ((try dsimp only); exact goS (X36.out.below ((Below.refl _ _).alloc (Nat.le_refl _) _)) (T36.out.below ((Below.refl _ _).alloc (Nat.le_refl _) _)))
        obtain ⟨ea76, ta76⟩ := alloc_nbH (S := fun _ => False) E36.out.hi #[.int .i64 p.b, .int .i64 p.q, .int .i64 dd.b, .int .i64 dd.q] 53 w36.heap.size rfl
        have hb76 : Below w36.heap.size w36 (w36.alloc (.cells #[.int .i64 p.b, .int .i64 p.q, .int .i64 dd.b, .int .i64 dd.q] 53)) := (Below.refl _ _).alloc (Nat.le_refl _) _
        have E76 := Lib.hid (E36.out.below hb76)
        have X76 := Lib.hid (X36.out.below hb76)
        have L76 := Lib.hid (L36.out.below hb76)
        have T76 := Lib.hid (T36.out.below hb76)
        have A76 := Lib.hid (A36.out.below hb76)
        have M76 := Lib.hid (M36.out.below hb76)
        have C76 := Lib.hid ta76
        obtain ⟨v76, hv76⟩ : ∃ v, v = w36.alloc (.cells #[.int .i64 p.b, .int .i64 p.q, .int .i64 dd.b, .int .i64 dd.q] 53) := ⟨_, rfl⟩
        obtain ⟨N76, hn76⟩ : ∃ x, x = w36.heap.size := ⟨_, rfl⟩
        rw [← hv76] at hH76 E76 X76 L76 T76 A76 M76 C76 ⊢
        rw [← hn76] at C76 ⊢
        clear hv76 hn76 ea76 ta76 hb76 E36 X36 L36 T36 A36 M36
        clear hK K hH36
        try simp only [Act.put, List.setIfInBounds_toArray, List.set_cons_zero, List.set_cons_succ]
        refine wpAnyF_ready (rs := [19]) (by kernel_rfl) (by simp) ?_
        refine' AllReadyF.cons (List.getElem?_toArray.trans rfl) (fun K hK => ?st77) ?more77
        case st77 =>
          go_simp
          refine' Calls.mono (c_NewOut (k := k + 21) HP.out.1 E76.out.hi) ?c78
          rintro e w78 ⟨m78, rfl, G78, e78, a78⟩
          have E78 := Lib.hid (E76.out.trans (e78.mono (T := fun t => t = k ∨ t = k + 1 ∨ (k + 19 ≤ t ∧ t ≤ k + 24)) (fun t _ h => by omega)))
          have X78 := Lib.hid (X76.out.ext e78 (by omega))
          have L78 := Lib.hid (L76.out.ext e78 (by omega))
          have T78 := Lib.hid (T76.out.ext e78 (by omega))
          have A78 := Lib.hid (A76.out.ext e78 (by omega))
          have M78 := Lib.hid (M76.out.ext e78 (by omega) (by omega))
          have C78 := Lib.hid (C76.out.ext e78 (by omega))
          have U78 := Lib.hid a78
          clear a78 e78 E76 X76 L76 T76 A76 M76 C76
          try go_wp2_with fail
          refine hK.out _ _ ?s78 (fun hH78 => ?r78)
          case s78 => ((try dsimp only); exact goS X78.out T78.out)
          clear hK K hH76
          try simp only [Act.put, List.setIfInBounds_toArray, List.set_cons_zero, List.set_cons_succ]
          refine' wpAnyF_take (i := 20) (List.getElem?_toArray.trans rfl) (by kernel_rfl) (by kernel_rfl) (by kernel_rfl) (by kernel_rfl) (fun _ _ _ h => h) (Or.inl ⟨by rfl, ?y79⟩) hH78 ?r79
          case y79 => (intro w hSw; (try dsimp only at hSw); go_simp; try with_reducible rfl)
          try simp only [Act.put, List.setIfInBounds_toArray, List.set_cons_zero, List.set_cons_succ]
          refine wpAnyF_ready (rs := [30]) (by kernel_rfl) (by simp) ?_
          refine' AllReadyF.cons (List.getElem?_toArray.trans rfl) (fun K hK => ?st80) ?more80
          case st80 =>
            go_simp
            refine' Calls.mono (c_NewPutV (k := k + 22) dd tag ref HP.out.2 E78.out.hi t0 t1 r1) ?c81
            rintro e w81 ⟨m81, rfl, G81, e81, a81⟩
            have E81 := Lib.hid (E78.out.trans (e81.mono (T := fun t => t = k ∨ t = k + 1 ∨ (k + 19 ≤ t ∧ t ≤ k + 24)) (fun t _ h => by omega)))
            have X81 := Lib.hid (X78.out.ext e81 (by omega))
            have L81 := Lib.hid (L78.out.ext e81 (by omega))
            have T81 := Lib.hid (T78.out.ext e81 (by omega))
            have A81 := Lib.hid (A78.out.ext e81 (by omega))
            have M81 := Lib.hid (M78.out.ext e81 (by omega) (by omega))
            have C81 := Lib.hid (C78.out.ext e81 (by omega))
            have U81 := Lib.hid (U78.out.ext e81 (by omega))
            have P81 := Lib.hid a81
            clear a81 e81 E78 X78 L78 T78 A78 M78 C78 U78
            try go_wp2_with fail
            refine hK.out _ _ ?s81 (fun hH81 => ?r81)
            case s81 => ((try dsimp only); exact goS X81.out T81.out)
            clear hK K hH78
            try simp only [Act.put, List.setIfInBounds_toArray, List.set_cons_zero, List.set_cons_succ]
            refine' wpAnyF_take (i := 31) (List.getElem?_toArray.trans rfl) (by kernel_rfl) (by kernel_rfl) (by kernel_rfl) (by kernel_rfl) (fun _ _ _ h => h) (Or.inl ⟨by rfl, ?y82⟩) hH81 ?r82
            case y82 => (intro w hSw; (try dsimp only at hSw); go_simp; try with_reducible rfl)
            try simp only [Act.put, List.setIfInBounds_toArray, List.set_cons_zero, List.set_cons_succ]
            refine wpAnyF_ready (rs := [40]) (by kernel_rfl) (by simp) ?_
            refine' AllReadyF.cons (List.getElem?_toArray.trans rfl) (fun K hK => ?st83) ?more83
            case st83 =>
              go_simp
              refine' Calls.mono (c_NewMark2 p dd HP.out.1 HP.out.2 (k + 23) (by omega) (by rw [C81.out.o]; omega) ⟨Nat.le_refl _, by unfold maxLen; decide⟩ C81.out.lt (C81.out.c 0 _ rfl) (C81.out.c 1 _ rfl) (C81.out.c 2 _ rfl) (C81.out.c 3 _ rfl) E81.out.hi) ?c84
              rintro e w84 ⟨m84, rfl, G84, e84, a84⟩
              have E84 := Lib.hid (E81.out.trans (e84.mono (T := fun t => t = k ∨ t = k + 1 ∨ (k + 19 ≤ t ∧ t ≤ k + 24)) (fun t _ h => by omega)))
              have X84 := Lib.hid (X81.out.ext e84 (by omega))
              have L84 := Lib.hid (L81.out.ext e84 (by omega))
              have T84 := Lib.hid (T81.out.ext e84 (by omega))
              have A84 := Lib.hid (A81.out.ext e84 (by omega))
              have M84 := Lib.hid (M81.out.ext e84 (by omega) (by omega))
              have C84 := Lib.hid (C81.out.ext e84 (by omega))
              have U84 := Lib.hid (U81.out.ext e84 (by omega))
              have P84 := Lib.hid (P81.out.ext e84 (by omega))
              have Q84 := Lib.hid a84
              clear a84 e84 E81 X81 L81 T81 A81 M81 C81 U81 P81
              try go_wp2_with fail
              refine hK.out _ _ ?s84 (fun hH84 => ?r84)
              case s84 => ((try dsimp only); exact goS X84.out T84.out)
              clear hK K hH81
              try simp only [Act.put, List.setIfInBounds_toArray, List.set_cons_zero, List.set_cons_succ]
              refine' wpAnyF_take (i := 41) (List.getElem?_toArray.trans rfl) (by kernel_rfl) (by kernel_rfl) (by kernel_rfl) (by kernel_rfl) (fun _ _ _ h => h) (Or.inl ⟨by rfl, ?y85⟩) hH84 ?r85
              case y85 => (intro w hSw; (try dsimp only at hSw); go_simp; try with_reducible rfl)
              try simp only [Act.put, List.setIfInBounds_toArray, List.set_cons_zero, List.set_cons_succ]
              refine wpAnyF_ready (rs := [42]) (by kernel_rfl) (by simp) ?_
              refine' AllReadyF.cons (List.getElem?_toArray.trans rfl) (fun K hK => ?st86) ?more86
              case st86 =>
                go_simp
                refine hK.out _ _ ?s87 (fun hH87 => ?r87)
                case s87 => ((try dsimp only); exact goS (X84.out.below ((Below.refl _ _).alloc (Nat.le_refl _) _)) (T84.out.below ((Below.refl _ _).alloc (Nat.le_refl _) _)))
                clear hK K hH84
                try simp only [Act.put, List.setIfInBounds_toArray, List.set_cons_zero, List.set_cons_succ]
                refine wpAnyF_ready (rs := [43]) (by kernel_rfl) (by simp) ?_
                refine' AllReadyF.cons (List.getElem?_toArray.trans rfl) (fun K hK => ?st88) ?more88
                case st88 =>
                  refine step_append_sls w84 (by rfl) _ _ 62 (by rfl) 160 i0 .nilIface 1 16 Tryz.underlying62 HI.out.1 HI.out.2.1 HI.out.2.2.1 HI.out.2.2.2 rfl (by decide) G84 (k + 1) (by omega) E84.out.hi (.slice (some ⟨A, o, none⟩) 1 cp) 1 [v0] (by rfl) L84.out 4 (by decide) [IMark m36, IOut m78, IPut m81, IMark m84] _ (by rfl) rfl (by simp [IMark, IOut, IPut, Value.oneCell']) (by unfold maxLen; decide) (by decide) ?_
                  intro b89 o89 c89 w89 G89 e89 s89
                  have E89 := Lib.hid (E84.out.trans (e89.mono (T := fun t => t = k ∨ t = k + 1 ∨ (k + 19 ≤ t ∧ t ≤ k + 24)) (fun t _ h => by omega)))
                  have X89 := Lib.hid (X84.out.ext e89 (by omega))
                  have T89 := Lib.hid (T84.out.ext e89 (by omega))
                  have A89 := Lib.hid (A84.out.ext e89 (by omega))
                  have M89 := Lib.hid (M84.out.ext e89 (by omega) (by omega))
                  have C89 := Lib.hid (C84.out.ext e89 (by omega))
                  have U89 := Lib.hid (U84.out.ext e89 (by omega))
                  have P89 := Lib.hid (P84.out.ext e89 (by omega))
                  have Q89 := Lib.hid (Q84.out.ext e89 (by omega) (by omega))
                  have L89 := Lib.hid s89
                  clear s89 e89 E84 X84 T84 A84 M84 C84 U84 P84 Q84 
                  refine hK.out _ _ ?s89 (fun hH89 => ?r89)
                  case s89 => ((try dsimp only); exact goS X89.out T89.out)
                  have z4 := X89.out.c 4 _ rfl
                  have zf := X89.out.f 4
                  clear hK K hH87
                  try simp only [Act.put, List.setIfInBounds_toArray, List.set_cons_zero, List.set_cons_succ]
                  refine wpAnyF_ready (rs := [44]) (by kernel_rfl) (by simp) ?_
                  refine' AllReadyF.cons (List.getElem?_toArray.trans rfl) (fun K hK => ?st90) ?more90
                  case st90 =>
                    go_simp
                    refine hK.out _ _ ?s91 (fun hH91 => ?r91)
                    case s91 => ((try dsimp only); exact goS X89.out T89.out)
                    clear hK K hH89
                    try simp only [Act.put, List.setIfInBounds_toArray, List.set_cons_zero, List.set_cons_succ]
                    refine' wpAnyF_take (i := 45) (List.getElem?_toArray.trans rfl) (by kernel_rfl) (by kernel_rfl) (by kernel_rfl) (by kernel_rfl) (fun _ _ _ h => h) (Or.inl ⟨by rfl, ?y92⟩) hH91 ?r92
                    case y92 => (intro w hSw; (try dsimp only at hSw); go_simp; try with_reducible rfl)
                    try simp only [Act.put, List.setIfInBounds_toArray, List.set_cons_zero, List.set_cons_succ]
                    refine wpAnyF_ready (rs := [46]) (by kernel_rfl) (by simp) ?_
                    refine' AllReadyF.last (List.getElem?_toArray.trans rfl) (fun K hK => ?st93) ?more93
                    case st93 =>
                      go_simp
                      refine hK.out _ _ ?_
                      clear hK K
                      try simp only [Act.put, List.setIfInBounds_toArray, List.set_cons_zero, List.set_cons_succ]
                      refine wpAnyF_done (by kernel_rfl) ?_ _
                      go_wp2_with fail
                      refine bodyPost_ret (v := .tuple #[]) (results_none (by rfl) _ _ _) rfl ?_
                      have E7 := ext_set (j := 4) (v := .slice (some ⟨b89, o89, none⟩) (1 + 4) c89) E89.out.hi X89.out hk
                      exact ⟨rfl, G89, E89.out.trans (E7.mono fun t _ h => .inl h), _, m36, m78, m81, m84, X89.out.set 4 (.slice (some ⟨b89, o89, none⟩) (1 + 4) c89) (by simp [mvCs]), L89.out.ext E7 (by omega), M89.out.ext E7 (by omega) (by omega), U89.out.ext E7 (by omega), P89.out.ext E7 (by omega), Q89.out.ext E7 (by omega) (by omega)⟩
                    exact AllReadyF.nil
                  exact AllReadyF.nil
                exact AllReadyF.nil
              exact AllReadyF.nil
            exact AllReadyF.nil
          exact AllReadyF.nil
        exact AllReadyF.nil
      exact AllReadyF.nil
    refine' AllReadyF.cons (List.getElem?_toArray.trans rfl) (fun K hK => ?st95) ?more95
    case st95 =>
      go_simp
      refine hK.out _ _ ?s96 (fun hH96 => ?r96)
      case s96 => ((try dsimp only); exact goS (X34.out.below ((Below.refl _ _).alloc (Nat.le_refl _) _)) (T34.out.below ((Below.refl _ _).alloc (Nat.le_refl _) _)))
      obtain ⟨ea96, ta96⟩ := alloc_nbH (S := fun _ => False) E34.out.hi #[.int .i64 p.b, .int .i64 p.q, .int .i64 dd.b, .int .i64 dd.q] 53 v34.heap.size rfl
      have hb96 : Below v34.heap.size v34 (v34.alloc (.cells #[.int .i64 p.b, .int .i64 p.q, .int .i64 dd.b, .int .i64 dd.q] 53)) := (Below.refl _ _).alloc (Nat.le_refl _) _
      have E96 := Lib.hid (E34.out.below hb96)
      have X96 := Lib.hid (X34.out.below hb96)
      have L96 := Lib.hid (L34.out.below hb96)
      have T96 := Lib.hid (T34.out.below hb96)
      have A96 := Lib.hid (A34.out.below hb96)
      have C96 := Lib.hid ta96
      obtain ⟨v96, hv96⟩ : ∃ v, v = v34.alloc (.cells #[.int .i64 p.b, .int .i64 p.q, .int .i64 dd.b, .int .i64 dd.q] 53) := ⟨_, rfl⟩
      obtain ⟨N96, hn96⟩ : ∃ x, x = v34.heap.size := ⟨_, rfl⟩
      rw [← hv96] at hH96 E96 X96 L96 T96 A96 C96 ⊢
      rw [← hn96] at C96 ⊢
      clear hv96 hn96 ea96 ta96 hb96 E34 X34 L34 T34 A34
      clear hK K hH34
      try simp only [Act.put, List.setIfInBounds_toArray, List.set_cons_zero, List.set_cons_succ]
      refine wpAnyF_ready (rs := [13]) (by kernel_rfl) (by simp) ?_
      refine' AllReadyF.cons (List.getElem?_toArray.trans rfl) (fun K hK => ?st97) ?more97
      case st97 =>
        go_simp
        refine' Calls.mono (c_NewMark2 p dd HP.out.1 HP.out.2 (k + 19) (by omega) (by rw [A96.out.o]; omega) ⟨Nat.le_refl _, by unfold maxLen; decide⟩ A96.out.lt (A96.out.c 0 _ rfl) (A96.out.c 1 _ rfl) (A96.out.c 2 _ rfl) (A96.out.c 3 _ rfl) E96.out.hi) ?c98
        rintro e w98 ⟨m98, rfl, G98, e98, a98⟩
        have E98 := Lib.hid (E96.out.trans (e98.mono (T := fun t => t = k ∨ t = k + 1 ∨ (k + 19 ≤ t ∧ t ≤ k + 24)) (fun t _ h => by omega)))
        have X98 := Lib.hid (X96.out.ext e98 (by omega))
        have L98 := Lib.hid (L96.out.ext e98 (by omega))
        have T98 := Lib.hid (T96.out.ext e98 (by omega))
        have A98 := Lib.hid (A96.out.ext e98 (by omega))
        have C98 := Lib.hid (C96.out.ext e98 (by omega))
        have M98 := Lib.hid a98
        clear a98 e98 E96 X96 L96 T96 A96 C96
        try go_wp2_with fail
        refine hK.out _ _ ?s98 (fun hH98 => ?r98)
        case s98 => ((try dsimp only); exact goS X98.out T98.out)
        clear hK K hH96
        try simp only [Act.put, List.setIfInBounds_toArray, List.set_cons_zero, List.set_cons_succ]
        refine' wpAnyF_take (i := 14) (List.getElem?_toArray.trans rfl) (by kernel_rfl) (by kernel_rfl) (by kernel_rfl) (by kernel_rfl) (fun _ _ _ h => h) (Or.inl ⟨by rfl, ?y99⟩) hH98 ?r99
        case y99 => (intro w hSw; (try dsimp only at hSw); go_simp; try with_reducible rfl)
        try simp only [Act.put, List.setIfInBounds_toArray, List.set_cons_zero, List.set_cons_succ]
        refine wpAnyF_ready (rs := [19]) (by kernel_rfl) (by simp) ?_
        refine' AllReadyF.cons (List.getElem?_toArray.trans rfl) (fun K hK => ?st100) ?more100
        case st100 =>
          go_simp
          refine' Calls.mono (c_NewOut (k := k + 21) HP.out.1 E98.out.hi) ?c101
          rintro e w101 ⟨m101, rfl, G101, e101, a101⟩
          have E101 := Lib.hid (E98.out.trans (e101.mono (T := fun t => t = k ∨ t = k + 1 ∨ (k + 19 ≤ t ∧ t ≤ k + 24)) (fun t _ h => by omega)))
          have X101 := Lib.hid (X98.out.ext e101 (by omega))
          have L101 := Lib.hid (L98.out.ext e101 (by omega))
          have T101 := Lib.hid (T98.out.ext e101 (by omega))
          have A101 := Lib.hid (A98.out.ext e101 (by omega))
          have C101 := Lib.hid (C98.out.ext e101 (by omega))
          have M101 := Lib.hid (M98.out.ext e101 (by omega) (by omega))
          have U101 := Lib.hid a101
          clear a101 e101 E98 X98 L98 T98 A98 C98 M98
          try go_wp2_with fail
          refine hK.out _ _ ?s101 (fun hH101 => ?r101)
          case s101 => ((try dsimp only); exact goS X101.out T101.out)
          clear hK K hH98
          try simp only [Act.put, List.setIfInBounds_toArray, List.set_cons_zero, List.set_cons_succ]
          refine' wpAnyF_take (i := 20) (List.getElem?_toArray.trans rfl) (by kernel_rfl) (by kernel_rfl) (by kernel_rfl) (by kernel_rfl) (fun _ _ _ h => h) (Or.inl ⟨by rfl, ?y102⟩) hH101 ?r102
          case y102 => (intro w hSw; (try dsimp only at hSw); go_simp; try with_reducible rfl)
          try simp only [Act.put, List.setIfInBounds_toArray, List.set_cons_zero, List.set_cons_succ]
          refine wpAnyF_ready (rs := [30]) (by kernel_rfl) (by simp) ?_
          refine' AllReadyF.cons (List.getElem?_toArray.trans rfl) (fun K hK => ?st103) ?more103
          case st103 =>
            go_simp
            refine' Calls.mono (c_NewPutV (k := k + 22) dd tag ref HP.out.2 E101.out.hi t0 t1 r1) ?c104
            rintro e w104 ⟨m104, rfl, G104, e104, a104⟩
            have E104 := Lib.hid (E101.out.trans (e104.mono (T := fun t => t = k ∨ t = k + 1 ∨ (k + 19 ≤ t ∧ t ≤ k + 24)) (fun t _ h => by omega)))
            have X104 := Lib.hid (X101.out.ext e104 (by omega))
            have L104 := Lib.hid (L101.out.ext e104 (by omega))
            have T104 := Lib.hid (T101.out.ext e104 (by omega))
            have A104 := Lib.hid (A101.out.ext e104 (by omega))
            have C104 := Lib.hid (C101.out.ext e104 (by omega))
            have M104 := Lib.hid (M101.out.ext e104 (by omega) (by omega))
            have U104 := Lib.hid (U101.out.ext e104 (by omega))
            have P104 := Lib.hid a104
            clear a104 e104 E101 X101 L101 T101 A101 C101 M101 U101
            try go_wp2_with fail
            refine hK.out _ _ ?s104 (fun hH104 => ?r104)
            case s104 => ((try dsimp only); exact goS X104.out T104.out)
            clear hK K hH101
            try simp only [Act.put, List.setIfInBounds_toArray, List.set_cons_zero, List.set_cons_succ]
            refine' wpAnyF_take (i := 31) (List.getElem?_toArray.trans rfl) (by kernel_rfl) (by kernel_rfl) (by kernel_rfl) (by kernel_rfl) (fun _ _ _ h => h) (Or.inl ⟨by rfl, ?y105⟩) hH104 ?r105
            case y105 => (intro w hSw; (try dsimp only at hSw); go_simp; try with_reducible rfl)
            try simp only [Act.put, List.setIfInBounds_toArray, List.set_cons_zero, List.set_cons_succ]
            refine wpAnyF_ready (rs := [40]) (by kernel_rfl) (by simp) ?_
            refine' AllReadyF.cons (List.getElem?_toArray.trans rfl) (fun K hK => ?st106) ?more106
            case st106 =>
              go_simp
              refine' Calls.mono (c_NewMark2 p dd HP.out.1 HP.out.2 (k + 23) (by omega) (by rw [C104.out.o]; omega) ⟨Nat.le_refl _, by unfold maxLen; decide⟩ C104.out.lt (C104.out.c 0 _ rfl) (C104.out.c 1 _ rfl) (C104.out.c 2 _ rfl) (C104.out.c 3 _ rfl) E104.out.hi) ?c107
              rintro e w107 ⟨m107, rfl, G107, e107, a107⟩
              have E107 := Lib.hid (E104.out.trans (e107.mono (T := fun t => t = k ∨ t = k + 1 ∨ (k + 19 ≤ t ∧ t ≤ k + 24)) (fun t _ h => by omega)))
              have X107 := Lib.hid (X104.out.ext e107 (by omega))
              have L107 := Lib.hid (L104.out.ext e107 (by omega))
              have T107 := Lib.hid (T104.out.ext e107 (by omega))
              have A107 := Lib.hid (A104.out.ext e107 (by omega))
              have C107 := Lib.hid (C104.out.ext e107 (by omega))
              have M107 := Lib.hid (M104.out.ext e107 (by omega) (by omega))
              have U107 := Lib.hid (U104.out.ext e107 (by omega))
              have P107 := Lib.hid (P104.out.ext e107 (by omega))
              have Q107 := Lib.hid a107
              clear a107 e107 E104 X104 L104 T104 A104 C104 M104 U104 P104
              try go_wp2_with fail
              refine hK.out _ _ ?s107 (fun hH107 => ?r107)
              case s107 => ((try dsimp only); exact goS X107.out T107.out)
              clear hK K hH104
              try simp only [Act.put, List.setIfInBounds_toArray, List.set_cons_zero, List.set_cons_succ]
              refine' wpAnyF_take (i := 41) (List.getElem?_toArray.trans rfl) (by kernel_rfl) (by kernel_rfl) (by kernel_rfl) (by kernel_rfl) (fun _ _ _ h => h) (Or.inl ⟨by rfl, ?y108⟩) hH107 ?r108
              case y108 => (intro w hSw; (try dsimp only at hSw); go_simp; try with_reducible rfl)
              try simp only [Act.put, List.setIfInBounds_toArray, List.set_cons_zero, List.set_cons_succ]
              refine wpAnyF_ready (rs := [42]) (by kernel_rfl) (by simp) ?_
              refine' AllReadyF.cons (List.getElem?_toArray.trans rfl) (fun K hK => ?st109) ?more109
              case st109 =>
                go_simp
                refine hK.out _ _ ?s110 (fun hH110 => ?r110)
                case s110 => ((try dsimp only); exact goS (X107.out.below ((Below.refl _ _).alloc (Nat.le_refl _) _)) (T107.out.below ((Below.refl _ _).alloc (Nat.le_refl _) _)))
                clear hK K hH107
                try simp only [Act.put, List.setIfInBounds_toArray, List.set_cons_zero, List.set_cons_succ]
                refine wpAnyF_ready (rs := [43]) (by kernel_rfl) (by simp) ?_
                refine' AllReadyF.cons (List.getElem?_toArray.trans rfl) (fun K hK => ?st111) ?more111
                case st111 =>
                  refine step_append_sls w107 (by rfl) _ _ 62 (by rfl) 160 i0 .nilIface 1 16 Tryz.underlying62 HI.out.1 HI.out.2.1 HI.out.2.2.1 HI.out.2.2.2 rfl (by decide) G107 (k + 1) (by omega) E107.out.hi (.slice (some ⟨A, o, none⟩) 1 cp) 1 [v0] (by rfl) L107.out 4 (by decide) [IMark m98, IOut m101, IPut m104, IMark m107] _ (by rfl) rfl (by simp [IMark, IOut, IPut, Value.oneCell']) (by unfold maxLen; decide) (by decide) ?_
                  intro b112 o112 c112 w112 G112 e112 s112
                  have E112 := Lib.hid (E107.out.trans (e112.mono (T := fun t => t = k ∨ t = k + 1 ∨ (k + 19 ≤ t ∧ t ≤ k + 24)) (fun t _ h => by omega)))
                  have X112 := Lib.hid (X107.out.ext e112 (by omega))
                  have T112 := Lib.hid (T107.out.ext e112 (by omega))
                  have A112 := Lib.hid (A107.out.ext e112 (by omega))
                  have C112 := Lib.hid (C107.out.ext e112 (by omega))
                  have M112 := Lib.hid (M107.out.ext e112 (by omega) (by omega))
                  have U112 := Lib.hid (U107.out.ext e112 (by omega))
                  have P112 := Lib.hid (P107.out.ext e112 (by omega))
                  have Q112 := Lib.hid (Q107.out.ext e112 (by omega) (by omega))
                  have L112 := Lib.hid s112
                  clear s112 e112 E107 X107 T107 A107 C107 M107 U107 P107 Q107 
                  refine hK.out _ _ ?s112 (fun hH112 => ?r112)
                  case s112 => ((try dsimp only); exact goS X112.out T112.out)
                  have z4 := X112.out.c 4 _ rfl
                  have zf := X112.out.f 4
                  clear hK K hH110
                  try simp only [Act.put, List.setIfInBounds_toArray, List.set_cons_zero, List.set_cons_succ]
                  refine wpAnyF_ready (rs := [44]) (by kernel_rfl) (by simp) ?_
                  refine' AllReadyF.cons (List.getElem?_toArray.trans rfl) (fun K hK => ?st113) ?more113
                  case st113 =>
                    go_simp
                    refine hK.out _ _ ?s114 (fun hH114 => ?r114)
                    case s114 => ((try dsimp only); exact goS X112.out T112.out)
                    clear hK K hH112
                    try simp only [Act.put, List.setIfInBounds_toArray, List.set_cons_zero, List.set_cons_succ]
                    refine' wpAnyF_take (i := 45) (List.getElem?_toArray.trans rfl) (by kernel_rfl) (by kernel_rfl) (by kernel_rfl) (by kernel_rfl) (fun _ _ _ h => h) (Or.inl ⟨by rfl, ?y115⟩) hH114 ?r115
                    case y115 => (intro w hSw; (try dsimp only at hSw); go_simp; try with_reducible rfl)
                    try simp only [Act.put, List.setIfInBounds_toArray, List.set_cons_zero, List.set_cons_succ]
                    refine wpAnyF_ready (rs := [46]) (by kernel_rfl) (by simp) ?_
                    refine' AllReadyF.last (List.getElem?_toArray.trans rfl) (fun K hK => ?st116) ?more116
                    case st116 =>
                      go_simp
                      refine hK.out _ _ ?_
                      clear hK K
                      try simp only [Act.put, List.setIfInBounds_toArray, List.set_cons_zero, List.set_cons_succ]
                      refine wpAnyF_done (by kernel_rfl) ?_ _
                      go_wp2_with fail
                      refine bodyPost_ret (v := .tuple #[]) (results_none (by rfl) _ _ _) rfl ?_
                      have E7 := ext_set (j := 4) (v := .slice (some ⟨b112, o112, none⟩) (1 + 4) c112) E112.out.hi X112.out hk
                      exact ⟨rfl, G112, E112.out.trans (E7.mono fun t _ h => .inl h), _, m98, m101, m104, m107, X112.out.set 4 (.slice (some ⟨b112, o112, none⟩) (1 + 4) c112) (by simp [mvCs]), L112.out.ext E7 (by omega), M112.out.ext E7 (by omega) (by omega), U112.out.ext E7 (by omega), P112.out.ext E7 (by omega), Q112.out.ext E7 (by omega) (by omega)⟩
                    exact AllReadyF.nil
                  exact AllReadyF.nil
                exact AllReadyF.nil
              exact AllReadyF.nil
            exact AllReadyF.nil
          exact AllReadyF.nil
        exact AllReadyF.nil
      exact AllReadyF.nil
    exact AllReadyF.nil
  refine' AllReadyF.cons (List.getElem?_toArray.trans rfl) (fun K hK => ?st118) ?more118
  case st118 =>
    go_simp
    refine hK.out _ _ ?s119 (fun hH119 => ?r119)
    case s119 => ((try dsimp only); exact goS (X0.out.below ((Below.refl _ _).alloc (Nat.le_refl _) _)) (T0.out.below ((Below.refl _ _).alloc (Nat.le_refl _) _)))
    obtain ⟨ea119, ta119⟩ := alloc_nbH (S := fun _ => False) E0.out.hi #[.int .i64 p.b, .int .i64 p.q, .int .i64 dd.b, .int .i64 dd.q] 53 wd.heap.size rfl
    have hb119 : Below wd.heap.size wd (wd.alloc (.cells #[.int .i64 p.b, .int .i64 p.q, .int .i64 dd.b, .int .i64 dd.q] 53)) := (Below.refl _ _).alloc (Nat.le_refl _) _
    have E119 := Lib.hid (E0.out.below hb119)
    have X119 := Lib.hid (X0.out.below hb119)
    have L119 := Lib.hid (L0.out.below hb119)
    have T119 := Lib.hid (T0.out.below hb119)
    have C119 := Lib.hid ta119
    obtain ⟨v119, hv119⟩ : ∃ v, v = wd.alloc (.cells #[.int .i64 p.b, .int .i64 p.q, .int .i64 dd.b, .int .i64 dd.q] 53) := ⟨_, rfl⟩
    obtain ⟨N119, hn119⟩ : ∃ x, x = wd.heap.size := ⟨_, rfl⟩
    rw [← hv119] at hH119 E119 X119 L119 T119 C119 ⊢
    rw [← hn119] at C119 ⊢
    clear hv119 hn119 ea119 ta119 hb119 E0 X0 L0 T0
    clear hK K hH0
    try simp only [Act.put, List.setIfInBounds_toArray, List.set_cons_zero, List.set_cons_succ]
    refine wpAnyF_ready (rs := [12]) (by kernel_rfl) (by simp) ?_
    refine' AllReadyF.cons (List.getElem?_toArray.trans rfl) (fun K hK => ?st120) ?more120
    case st120 =>
      go_simp
      refine hK.out _ _ ?s121 (fun hH121 => ?r121)
      case s121 => ((try dsimp only); exact goS (X119.out.below ((Below.refl _ _).alloc (Nat.le_refl _) _)) (T119.out.below ((Below.refl _ _).alloc (Nat.le_refl _) _)))
      obtain ⟨ea121, ta121⟩ := alloc_nbH (S := fun _ => False) E119.out.hi #[.int .i64 p.b, .int .i64 p.q, .int .i64 dd.b, .int .i64 dd.q] 53 v119.heap.size rfl
      have hb121 : Below v119.heap.size v119 (v119.alloc (.cells #[.int .i64 p.b, .int .i64 p.q, .int .i64 dd.b, .int .i64 dd.q] 53)) := (Below.refl _ _).alloc (Nat.le_refl _) _
      have E121 := Lib.hid (E119.out.below hb121)
      have X121 := Lib.hid (X119.out.below hb121)
      have L121 := Lib.hid (L119.out.below hb121)
      have T121 := Lib.hid (T119.out.below hb121)
      have C121 := Lib.hid (C119.out.below hb121)
      have A121 := Lib.hid ta121
      obtain ⟨v121, hv121⟩ : ∃ v, v = v119.alloc (.cells #[.int .i64 p.b, .int .i64 p.q, .int .i64 dd.b, .int .i64 dd.q] 53) := ⟨_, rfl⟩
      obtain ⟨N121, hn121⟩ : ∃ x, x = v119.heap.size := ⟨_, rfl⟩
      rw [← hv121] at hH121 E121 X121 L121 T121 C121 A121 ⊢
      rw [← hn121] at A121 ⊢
      clear hv121 hn121 ea121 ta121 hb121 E119 X119 L119 T119 C119
      clear hK K hH119
      try simp only [Act.put, List.setIfInBounds_toArray, List.set_cons_zero, List.set_cons_succ]
      refine wpAnyF_ready (rs := [13]) (by kernel_rfl) (by simp) ?_
      refine' AllReadyF.cons (List.getElem?_toArray.trans rfl) (fun K hK => ?st122) ?more122
      case st122 =>
        go_simp
        refine' Calls.mono (c_NewMark2 p dd HP.out.1 HP.out.2 (k + 19) (by omega) (by rw [A121.out.o]; omega) ⟨Nat.le_refl _, by unfold maxLen; decide⟩ A121.out.lt (A121.out.c 0 _ rfl) (A121.out.c 1 _ rfl) (A121.out.c 2 _ rfl) (A121.out.c 3 _ rfl) E121.out.hi) ?c123
        rintro e w123 ⟨m123, rfl, G123, e123, a123⟩
        have E123 := Lib.hid (E121.out.trans (e123.mono (T := fun t => t = k ∨ t = k + 1 ∨ (k + 19 ≤ t ∧ t ≤ k + 24)) (fun t _ h => by omega)))
        have X123 := Lib.hid (X121.out.ext e123 (by omega))
        have L123 := Lib.hid (L121.out.ext e123 (by omega))
        have T123 := Lib.hid (T121.out.ext e123 (by omega))
        have C123 := Lib.hid (C121.out.ext e123 (by omega))
        have A123 := Lib.hid (A121.out.ext e123 (by omega))
        have M123 := Lib.hid a123
        clear a123 e123 E121 X121 L121 T121 C121 A121
        try go_wp2_with fail
        refine hK.out _ _ ?s123 (fun hH123 => ?r123)
        case s123 => ((try dsimp only); exact goS X123.out T123.out)
        clear hK K hH121
        try simp only [Act.put, List.setIfInBounds_toArray, List.set_cons_zero, List.set_cons_succ]
        refine' wpAnyF_take (i := 14) (List.getElem?_toArray.trans rfl) (by kernel_rfl) (by kernel_rfl) (by kernel_rfl) (by kernel_rfl) (fun _ _ _ h => h) (Or.inl ⟨by rfl, ?y124⟩) hH123 ?r124
        case y124 => (intro w hSw; (try dsimp only at hSw); go_simp; try with_reducible rfl)
        try simp only [Act.put, List.setIfInBounds_toArray, List.set_cons_zero, List.set_cons_succ]
        refine wpAnyF_ready (rs := [19]) (by kernel_rfl) (by simp) ?_
        refine' AllReadyF.cons (List.getElem?_toArray.trans rfl) (fun K hK => ?st125) ?more125
        case st125 =>
          go_simp
          refine' Calls.mono (c_NewOut (k := k + 21) HP.out.1 E123.out.hi) ?c126
          rintro e w126 ⟨m126, rfl, G126, e126, a126⟩
          have E126 := Lib.hid (E123.out.trans (e126.mono (T := fun t => t = k ∨ t = k + 1 ∨ (k + 19 ≤ t ∧ t ≤ k + 24)) (fun t _ h => by omega)))
          have X126 := Lib.hid (X123.out.ext e126 (by omega))
          have L126 := Lib.hid (L123.out.ext e126 (by omega))
          have T126 := Lib.hid (T123.out.ext e126 (by omega))
          have C126 := Lib.hid (C123.out.ext e126 (by omega))
          have A126 := Lib.hid (A123.out.ext e126 (by omega))
          have M126 := Lib.hid (M123.out.ext e126 (by omega) (by omega))
          have U126 := Lib.hid a126
          clear a126 e126 E123 X123 L123 T123 C123 A123 M123
          try go_wp2_with fail
          refine hK.out _ _ ?s126 (fun hH126 => ?r126)
          case s126 => ((try dsimp only); exact goS X126.out T126.out)
          clear hK K hH123
          try simp only [Act.put, List.setIfInBounds_toArray, List.set_cons_zero, List.set_cons_succ]
          refine' wpAnyF_take (i := 20) (List.getElem?_toArray.trans rfl) (by kernel_rfl) (by kernel_rfl) (by kernel_rfl) (by kernel_rfl) (fun _ _ _ h => h) (Or.inl ⟨by rfl, ?y127⟩) hH126 ?r127
          case y127 => (intro w hSw; (try dsimp only at hSw); go_simp; try with_reducible rfl)
          try simp only [Act.put, List.setIfInBounds_toArray, List.set_cons_zero, List.set_cons_succ]
          refine wpAnyF_ready (rs := [30]) (by kernel_rfl) (by simp) ?_
          refine' AllReadyF.cons (List.getElem?_toArray.trans rfl) (fun K hK => ?st128) ?more128
          case st128 =>
            go_simp
            refine' Calls.mono (c_NewPutV (k := k + 22) dd tag ref HP.out.2 E126.out.hi t0 t1 r1) ?c129
            rintro e w129 ⟨m129, rfl, G129, e129, a129⟩
            have E129 := Lib.hid (E126.out.trans (e129.mono (T := fun t => t = k ∨ t = k + 1 ∨ (k + 19 ≤ t ∧ t ≤ k + 24)) (fun t _ h => by omega)))
            have X129 := Lib.hid (X126.out.ext e129 (by omega))
            have L129 := Lib.hid (L126.out.ext e129 (by omega))
            have T129 := Lib.hid (T126.out.ext e129 (by omega))
            have C129 := Lib.hid (C126.out.ext e129 (by omega))
            have A129 := Lib.hid (A126.out.ext e129 (by omega))
            have M129 := Lib.hid (M126.out.ext e129 (by omega) (by omega))
            have U129 := Lib.hid (U126.out.ext e129 (by omega))
            have P129 := Lib.hid a129
            clear a129 e129 E126 X126 L126 T126 C126 A126 M126 U126
            try go_wp2_with fail
            refine hK.out _ _ ?s129 (fun hH129 => ?r129)
            case s129 => ((try dsimp only); exact goS X129.out T129.out)
            clear hK K hH126
            try simp only [Act.put, List.setIfInBounds_toArray, List.set_cons_zero, List.set_cons_succ]
            refine' wpAnyF_take (i := 31) (List.getElem?_toArray.trans rfl) (by kernel_rfl) (by kernel_rfl) (by kernel_rfl) (by kernel_rfl) (fun _ _ _ h => h) (Or.inl ⟨by rfl, ?y130⟩) hH129 ?r130
            case y130 => (intro w hSw; (try dsimp only at hSw); go_simp; try with_reducible rfl)
            try simp only [Act.put, List.setIfInBounds_toArray, List.set_cons_zero, List.set_cons_succ]
            refine wpAnyF_ready (rs := [40]) (by kernel_rfl) (by simp) ?_
            refine' AllReadyF.cons (List.getElem?_toArray.trans rfl) (fun K hK => ?st131) ?more131
            case st131 =>
              go_simp
              refine' Calls.mono (c_NewMark2 p dd HP.out.1 HP.out.2 (k + 23) (by omega) (by rw [C129.out.o]; omega) ⟨Nat.le_refl _, by unfold maxLen; decide⟩ C129.out.lt (C129.out.c 0 _ rfl) (C129.out.c 1 _ rfl) (C129.out.c 2 _ rfl) (C129.out.c 3 _ rfl) E129.out.hi) ?c132
              rintro e w132 ⟨m132, rfl, G132, e132, a132⟩
              have E132 := Lib.hid (E129.out.trans (e132.mono (T := fun t => t = k ∨ t = k + 1 ∨ (k + 19 ≤ t ∧ t ≤ k + 24)) (fun t _ h => by omega)))
              have X132 := Lib.hid (X129.out.ext e132 (by omega))
              have L132 := Lib.hid (L129.out.ext e132 (by omega))
              have T132 := Lib.hid (T129.out.ext e132 (by omega))
              have C132 := Lib.hid (C129.out.ext e132 (by omega))
              have A132 := Lib.hid (A129.out.ext e132 (by omega))
              have M132 := Lib.hid (M129.out.ext e132 (by omega) (by omega))
              have U132 := Lib.hid (U129.out.ext e132 (by omega))
              have P132 := Lib.hid (P129.out.ext e132 (by omega))
              have Q132 := Lib.hid a132
              clear a132 e132 E129 X129 L129 T129 C129 A129 M129 U129 P129
              try go_wp2_with fail
              refine hK.out _ _ ?s132 (fun hH132 => ?r132)
              case s132 => ((try dsimp only); exact goS X132.out T132.out)
              clear hK K hH129
              try simp only [Act.put, List.setIfInBounds_toArray, List.set_cons_zero, List.set_cons_succ]
              refine' wpAnyF_take (i := 41) (List.getElem?_toArray.trans rfl) (by kernel_rfl) (by kernel_rfl) (by kernel_rfl) (by kernel_rfl) (fun _ _ _ h => h) (Or.inl ⟨by rfl, ?y133⟩) hH132 ?r133
              case y133 => (intro w hSw; (try dsimp only at hSw); go_simp; try with_reducible rfl)
              try simp only [Act.put, List.setIfInBounds_toArray, List.set_cons_zero, List.set_cons_succ]
              refine wpAnyF_ready (rs := [42]) (by kernel_rfl) (by simp) ?_
              refine' AllReadyF.cons (List.getElem?_toArray.trans rfl) (fun K hK => ?st134) ?more134
              case st134 =>
                go_simp
                refine hK.out _ _ ?s135 (fun hH135 => ?r135)
                case s135 => ((try dsimp only); exact goS (X132.out.below ((Below.refl _ _).alloc (Nat.le_refl _) _)) (T132.out.below ((Below.refl _ _).alloc (Nat.le_refl _) _)))
                clear hK K hH132
                try simp only [Act.put, List.setIfInBounds_toArray, List.set_cons_zero, List.set_cons_succ]
                refine wpAnyF_ready (rs := [43]) (by kernel_rfl) (by simp) ?_
                refine' AllReadyF.cons (List.getElem?_toArray.trans rfl) (fun K hK => ?st136) ?more136
                case st136 =>
                  refine step_append_sls w132 (by rfl) _ _ 62 (by rfl) 160 i0 .nilIface 1 16 Tryz.underlying62 HI.out.1 HI.out.2.1 HI.out.2.2.1 HI.out.2.2.2 rfl (by decide) G132 (k + 1) (by omega) E132.out.hi (.slice (some ⟨A, o, none⟩) 1 cp) 1 [v0] (by rfl) L132.out 4 (by decide) [IMark m123, IOut m126, IPut m129, IMark m132] _ (by rfl) rfl (by simp [IMark, IOut, IPut, Value.oneCell']) (by unfold maxLen; decide) (by decide) ?_
                  intro b137 o137 c137 w137 G137 e137 s137
                  have E137 := Lib.hid (E132.out.trans (e137.mono (T := fun t => t = k ∨ t = k + 1 ∨ (k + 19 ≤ t ∧ t ≤ k + 24)) (fun t _ h => by omega)))
                  have X137 := Lib.hid (X132.out.ext e137 (by omega))
                  have T137 := Lib.hid (T132.out.ext e137 (by omega))
                  have C137 := Lib.hid (C132.out.ext e137 (by omega))
                  have A137 := Lib.hid (A132.out.ext e137 (by omega))
                  have M137 := Lib.hid (M132.out.ext e137 (by omega) (by omega))
                  have U137 := Lib.hid (U132.out.ext e137 (by omega))
                  have P137 := Lib.hid (P132.out.ext e137 (by omega))
                  have Q137 := Lib.hid (Q132.out.ext e137 (by omega) (by omega))
                  have L137 := Lib.hid s137
                  clear s137 e137 E132 X132 T132 C132 A132 M132 U132 P132 Q132 
                  refine hK.out _ _ ?s137 (fun hH137 => ?r137)
                  case s137 => ((try dsimp only); exact goS X137.out T137.out)
                  have z4 := X137.out.c 4 _ rfl
                  have zf := X137.out.f 4
                  clear hK K hH135
                  try simp only [Act.put, List.setIfInBounds_toArray, List.set_cons_zero, List.set_cons_succ]
                  refine wpAnyF_ready (rs := [44]) (by kernel_rfl) (by simp) ?_
                  refine' AllReadyF.cons (List.getElem?_toArray.trans rfl) (fun K hK => ?st138) ?more138
                  case st138 =>
                    go_simp
                    refine hK.out _ _ ?s139 (fun hH139 => ?r139)
                    case s139 => ((try dsimp only); exact goS X137.out T137.out)
                    clear hK K hH137
                    try simp only [Act.put, List.setIfInBounds_toArray, List.set_cons_zero, List.set_cons_succ]
                    refine' wpAnyF_take (i := 45) (List.getElem?_toArray.trans rfl) (by kernel_rfl) (by kernel_rfl) (by kernel_rfl) (by kernel_rfl) (fun _ _ _ h => h) (Or.inl ⟨by rfl, ?y140⟩) hH139 ?r140
                    case y140 => (intro w hSw; (try dsimp only at hSw); go_simp; try with_reducible rfl)
                    try simp only [Act.put, List.setIfInBounds_toArray, List.set_cons_zero, List.set_cons_succ]
                    refine wpAnyF_ready (rs := [46]) (by kernel_rfl) (by simp) ?_
                    refine' AllReadyF.last (List.getElem?_toArray.trans rfl) (fun K hK => ?st141) ?more141
                    case st141 =>
                      go_simp
                      refine hK.out _ _ ?_
                      clear hK K
                      try simp only [Act.put, List.setIfInBounds_toArray, List.set_cons_zero, List.set_cons_succ]
                      refine wpAnyF_done (by kernel_rfl) ?_ _
                      go_wp2_with fail
                      refine bodyPost_ret (v := .tuple #[]) (results_none (by rfl) _ _ _) rfl ?_
                      have E7 := ext_set (j := 4) (v := .slice (some ⟨b137, o137, none⟩) (1 + 4) c137) E137.out.hi X137.out hk
                      exact ⟨rfl, G137, E137.out.trans (E7.mono fun t _ h => .inl h), _, m123, m126, m129, m132, X137.out.set 4 (.slice (some ⟨b137, o137, none⟩) (1 + 4) c137) (by simp [mvCs]), L137.out.ext E7 (by omega), M137.out.ext E7 (by omega) (by omega), U137.out.ext E7 (by omega), P137.out.ext E7 (by omega), Q137.out.ext E7 (by omega) (by omega)⟩
                    exact AllReadyF.nil
                  exact AllReadyF.nil
                exact AllReadyF.nil
              exact AllReadyF.nil
            exact AllReadyF.nil
          exact AllReadyF.nil
        exact AllReadyF.nil
      exact AllReadyF.nil
    exact AllReadyF.nil
  exact AllReadyF.nil
end
end Go.Proofs.YtbcehmdidjoilaaGreat
