/- Layer 20: the program's Move goes on to what is not over. -/
import Derived.Test.YtlcibfpibklbdaaGreatMo
namespace Go.Proofs.YtlcibfpibklbdaaGreat
set_option linter.unusedSimpArgs false
open Go.RowKit Go.Shelf
set_option linter.unusedVariables false

/-- A part says whether it is over, whatever is stored into the Move's own block. -/
def POver (w : World) (O : Om) (k : Nat) (v : Value) (b : Bool) : Prop :=
  ∃ ty r r' fO, v = .iface ty r ∧ (∀ W, (method 519 ty r "Over").run Tryz.prog W = .ok (fO, r') W) ∧ (∀ args W, (callFunc fO args).run Tryz.prog W = .ok (.enter fO args) W) ∧ ∀ W, Ext (fun t => t = k) O w O W → Calls Tryz.prog fO #[r'] W fun e w' => e = .returned (.bool b) ∧ Below W.heap.size W w'
theorem iface_one (ty : TypeId) (r : Value) : (Value.iface ty r).oneCell' = true := rfl
section
variable {X : Nat} {w : World} {O : Om} {B : Wb} {f : Cf} {s : AW} {k : Nat}
theorem POver.on {O1 : Om} {w1 : World} {v : Value} {b : Bool} (h : POver w O k v b) (e : Ext (fun t => t = k) O w O w1) : POver w1 O k v b := by
  obtain ⟨ty, r, r', fO, h1, h2, h3, h4⟩ := h
  exact ⟨ty, r, r', fO, h1, h2, h3, fun W hW => h4 W (e.trans hW)⟩
set_option maxHeartbeats 4000000 in
set_option maxRecDepth 100000 in
/-- The first part is not over. -/
theorem c_on0 {now tag ref lost : Int} {p : Spt} {lv : Value} {v0 : Value} {l : List Value} (hx : Ob w O k X (mvCs now p lv tag ref lost)) (hS : Sls w O (k + 1) 1 lv (l.length + 1) (v0 :: l)) (h0 : POver w O k v0 false) (hk : 10 ≤ k) (hhi : ∀ j, O j ≠ 0 → j < w.heap.size) :
    Calls Tryz.prog 110 #[.pointer (some ⟨X, 0, none⟩)] w fun e w' => e = .returned (.tuple #[]) ∧ Below w.heap.size w w' := by
  obtain ⟨A, o, cp, rfl, hc1, hc2⟩ := hS.open (by omega)
  have a0 := hS.c 0 _ rfl
  rw [Nat.add_zero] at a0
  have x4 := hx.c 4 _ rfl
  have hXl := hx.lt
  obtain ⟨ty, r, r', fO, rfl, hm, hK, hC⟩ := h0
  have HC := Lib.hid (hC w (Ext.refl hhi))
  have hl0 : (0 : Int) < (l.length : Int) + 1 := by omega
  have dl : ((l.length : Int) + 1 == 0) = false := by simp; omega
  clear hx hS hC hhi
  go_enter Tryz.func110, Tryz.ntmps110
  go_wp2_with fail
  refine wp_loop_rounds 1 ?_
  rw [rounds_succ]
  go_wp2_with fail
  refine HC.out.mono ?_
  rintro e w1 ⟨rfl, hb⟩
  have x41 := (hb.cell (p := ⟨X, 4, none⟩) hXl).trans x4
  have HB := Lib.hid hb
  clear hb x4 a0 hm hK
  go_wp2_with fail
  go_end0
  exact ⟨rfl, HB.out⟩
set_option maxHeartbeats 4000000 in
set_option maxRecDepth 100000 in
/-- The first 1 parts are over, the next one is not. -/
theorem c_on1 {now tag ref lost : Int} {p : Spt} {lv : Value} {v0 v1 : Value} {l : List Value} (hx : Ob w O k X (mvCs now p lv tag ref lost)) (hS : Sls w O (k + 1) 1 lv (l.length + 1 + 1) (v0 :: v1 :: l)) (h0 : POver w O k v0 true) (h1 : POver w O k v1 false) (hk : 10 ≤ k) (hhi : ∀ j, O j ≠ 0 → j < w.heap.size) :
    Calls Tryz.prog 110 #[.pointer (some ⟨X, 0, none⟩)] w (RP (fun t => t = k) w O (.tuple #[]) fun W G => G = O ∧ ∃ lv', Ob W G k X (mvCs now p lv' tag ref lost) ∧ Sls W G (k + 1) 1 lv' (l.length + 1) (v1 :: l)) := by
  obtain ⟨A, o, cp, rfl, hc1, hc2⟩ := hS.open (by omega)
  have a0 := hS.c 0 _ rfl
  have a1 := hS.c 1 _ rfl
  rw [Nat.add_zero] at a0
  have hT1 := hS.tail (o' := o + 1) (.inl rfl)
  have x4 := hx.c 4 _ rfl
  have hXl := hx.lt
  have hAl := hS.lt.1
  have hAX : ¬ A = X := fun e => by have h1 := hx.o; have h2 := hS.lt.2; rw [← e, h2] at h1; omega
  have hXA : ¬ X = A := fun e => hAX e.symm
  obtain ⟨ty0, r0, r0', f0, rfl, hm0, hK0, hC0⟩ := h0
  have HC0 := Lib.hid hC0
  obtain ⟨ty1, r1, r1', f1, rfl, hm1, hK1, hC1⟩ := h1
  have HC1 := Lib.hid hC1
  have hl0 : (0 : Int) < (l.length : Int) + 1 + 1 := by omega
  have hl1 : (0 : Int) < (l.length : Int) + 1 := by omega
  have hs0 : (1 : Int) ≤ (l.length : Int) + 1 + 1 := by omega
  have dl : ((l.length : Int) + 1 == 0) = false := by simp; omega
  have hcp : ¬ cp = 1 := by omega
  have HX := Lib.hid (And.intro hx hT1)
  have HH := Lib.hid hhi
  clear hx hS hC0 hC1 hhi hT1
  go_enter Tryz.func110, Tryz.ntmps110
  go_wp2_with fail
  refine wp_loop_rounds 2 ?_
  rw [rounds_succ]
  go_wp2_with fail
  refine (HC0.out w (Ext.refl HH.out)).mono ?_
  rintro e w1 ⟨rfl, hb⟩
  have X1 := Lib.hid (HX.out.1.below hb)
  have T1 := Lib.hid (HX.out.2.below hb)
  have E1 := Lib.hid (Ext.of_below (S := fun t => t = k) HH.out hb)
  have y0 := X1.out.c 4 _ rfl
  have yf0 := X1.out.f 4
  have b01 := (hb.cell (p := ⟨A, o + 1, none⟩) hAl).trans a1
  have hAl1 := Nat.lt_of_lt_of_le hAl hb.size
  clear hb x4 a0 a1
  go_wp2_with fail
  have X2 := Lib.hid (X1.out.set 4 (.slice (some ⟨A, o + 1, none⟩) (l.length + 1) (cp - 1)) (by simp [mvCs]))
  have E2 := Lib.hid (E1.out.trans (ext_set (j := 4) (v := .slice (some ⟨A, o + 1, none⟩) (l.length + 1) (cp - 1)) E1.out.hi X1.out hk))
  have T2 := Lib.hid (T1.out.ext (ext_set (j := 4) (v := .slice (some ⟨A, o + 1, none⟩) (l.length + 1) (cp - 1)) E1.out.hi X1.out hk) (by omega))
  have c01 : (w1.setCell ⟨X, 4, none⟩ (.slice (some ⟨A, o + 1, none⟩) (l.length + 1) (cp - 1))).cell? ⟨A, o + 1, none⟩ = some (.iface ty1 r1) := (World.cell?_setCell_other _ _ _ _ (by simp; try omega)).trans b01
  have hAl2 : A < (w1.setCell ⟨X, 4, none⟩ (.slice (some ⟨A, o + 1, none⟩) (l.length + 1) (cp - 1))).heap.size := by simpa using hAl1
  obtain ⟨w2, hw⟩ : ∃ W, W = w1.setCell ⟨X, 4, none⟩ (.slice (some ⟨A, o + 1, none⟩) (l.length + 1) (cp - 1)) := ⟨_, rfl⟩
  rw [← hw] at X2 E2 T2 hAl2 c01 ⊢
  clear hw y0 yf0 b01 hAl1
  have z0 := X2.out.c 4 _ rfl
  rw [rounds_succ]
  go_wp2_with fail
  refine (HC1.out w2 E2.out).mono ?_
  rintro e w3 ⟨rfl, hb⟩
  have X3 := Lib.hid (X2.out.below hb)
  have T3 := Lib.hid (T2.out.below hb)
  have E3 := Lib.hid (E2.out.below hb)
  have y1 := X3.out.c 4 _ rfl
  have yf1 := X3.out.f 4
  clear hb z0 c01
  go_wp2_with fail
  go_end0
  exact ⟨rfl, O, E3.out, rfl, _, X3.out, T3.out⟩
set_option maxHeartbeats 4000000 in
set_option maxRecDepth 100000 in
/-- The first 2 parts are over, the next one is not. -/
theorem c_on2 {now tag ref lost : Int} {p : Spt} {lv : Value} {v0 v1 v2 : Value} {l : List Value} (hx : Ob w O k X (mvCs now p lv tag ref lost)) (hS : Sls w O (k + 1) 1 lv (l.length + 1 + 1 + 1) (v0 :: v1 :: v2 :: l)) (h0 : POver w O k v0 true) (h1 : POver w O k v1 true) (h2 : POver w O k v2 false) (hk : 10 ≤ k) (hhi : ∀ j, O j ≠ 0 → j < w.heap.size) :
    Calls Tryz.prog 110 #[.pointer (some ⟨X, 0, none⟩)] w (RP (fun t => t = k) w O (.tuple #[]) fun W G => G = O ∧ ∃ lv', Ob W G k X (mvCs now p lv' tag ref lost) ∧ Sls W G (k + 1) 1 lv' (l.length + 1) (v2 :: l)) := by
  obtain ⟨A, o, cp, rfl, hc1, hc2⟩ := hS.open (by omega)
  have a0 := hS.c 0 _ rfl
  have a1 := hS.c 1 _ rfl
  have a2 := hS.c 2 _ rfl
  rw [Nat.add_zero] at a0
  have hT1 := hS.tail (o' := o + 1) (.inl rfl)
  have hT2 := hT1.tail (o' := o + 2) (.inl rfl)
  have x4 := hx.c 4 _ rfl
  have hXl := hx.lt
  have hAl := hS.lt.1
  have hAX : ¬ A = X := fun e => by have h1 := hx.o; have h2 := hS.lt.2; rw [← e, h2] at h1; omega
  have hXA : ¬ X = A := fun e => hAX e.symm
  obtain ⟨ty0, r0, r0', f0, rfl, hm0, hK0, hC0⟩ := h0
  have HC0 := Lib.hid hC0
  obtain ⟨ty1, r1, r1', f1, rfl, hm1, hK1, hC1⟩ := h1
  have HC1 := Lib.hid hC1
  obtain ⟨ty2, r2, r2', f2, rfl, hm2, hK2, hC2⟩ := h2
  have HC2 := Lib.hid hC2
  have hl0 : (0 : Int) < (l.length : Int) + 1 + 1 + 1 := by omega
  have hl1 : (0 : Int) < (l.length : Int) + 1 + 1 := by omega
  have hl2 : (0 : Int) < (l.length : Int) + 1 := by omega
  have hs0 : (1 : Int) ≤ (l.length : Int) + 1 + 1 + 1 := by omega
  have hs1 : (1 : Int) ≤ (l.length : Int) + 1 + 1 := by omega
  have dl : ((l.length : Int) + 1 == 0) = false := by simp; omega
  have hcp : ¬ cp = 1 := by omega
  have hcp2 : ¬ cp - 1 = 1 := by omega
  have HX := Lib.hid (And.intro hx hT2)
  have HH := Lib.hid hhi
  clear hx hS hC0 hC1 hC2 hhi hT1 hT2
  go_enter Tryz.func110, Tryz.ntmps110
  go_wp2_with fail
  refine wp_loop_rounds 3 ?_
  rw [rounds_succ]
  go_wp2_with fail
  refine (HC0.out w (Ext.refl HH.out)).mono ?_
  rintro e w1 ⟨rfl, hb⟩
  have X1 := Lib.hid (HX.out.1.below hb)
  have T1 := Lib.hid (HX.out.2.below hb)
  have E1 := Lib.hid (Ext.of_below (S := fun t => t = k) HH.out hb)
  have y0 := X1.out.c 4 _ rfl
  have yf0 := X1.out.f 4
  have b01 := (hb.cell (p := ⟨A, o + 1, none⟩) hAl).trans a1
  have b02 := (hb.cell (p := ⟨A, o + 2, none⟩) hAl).trans a2
  have hAl1 := Nat.lt_of_lt_of_le hAl hb.size
  clear hb x4 a0 a1 a2
  go_wp2_with fail
  have X2 := Lib.hid (X1.out.set 4 (.slice (some ⟨A, o + 1, none⟩) (l.length + 1 + 1) (cp - 1)) (by simp [mvCs]))
  have E2 := Lib.hid (E1.out.trans (ext_set (j := 4) (v := .slice (some ⟨A, o + 1, none⟩) (l.length + 1 + 1) (cp - 1)) E1.out.hi X1.out hk))
  have T2 := Lib.hid (T1.out.ext (ext_set (j := 4) (v := .slice (some ⟨A, o + 1, none⟩) (l.length + 1 + 1) (cp - 1)) E1.out.hi X1.out hk) (by omega))
  have c01 : (w1.setCell ⟨X, 4, none⟩ (.slice (some ⟨A, o + 1, none⟩) (l.length + 1 + 1) (cp - 1))).cell? ⟨A, o + 1, none⟩ = some (.iface ty1 r1) := (World.cell?_setCell_other _ _ _ _ (by simp; try omega)).trans b01
  have c02 : (w1.setCell ⟨X, 4, none⟩ (.slice (some ⟨A, o + 1, none⟩) (l.length + 1 + 1) (cp - 1))).cell? ⟨A, o + 2, none⟩ = some (.iface ty2 r2) := (World.cell?_setCell_other _ _ _ _ (by simp; try omega)).trans b02
  have hAl2 : A < (w1.setCell ⟨X, 4, none⟩ (.slice (some ⟨A, o + 1, none⟩) (l.length + 1 + 1) (cp - 1))).heap.size := by simpa using hAl1
  obtain ⟨w2, hw⟩ : ∃ W, W = w1.setCell ⟨X, 4, none⟩ (.slice (some ⟨A, o + 1, none⟩) (l.length + 1 + 1) (cp - 1)) := ⟨_, rfl⟩
  rw [← hw] at X2 E2 T2 hAl2 c01 c02 ⊢
  clear hw y0 yf0 b01 b02 hAl1
  have z0 := X2.out.c 4 _ rfl
  rw [rounds_succ]
  go_wp2_with fail
  refine (HC1.out w2 E2.out).mono ?_
  rintro e w3 ⟨rfl, hb⟩
  have X3 := Lib.hid (X2.out.below hb)
  have T3 := Lib.hid (T2.out.below hb)
  have E3 := Lib.hid (E2.out.below hb)
  have y1 := X3.out.c 4 _ rfl
  have yf1 := X3.out.f 4
  have b12 := (hb.cell (p := ⟨A, o + 2, none⟩) hAl2).trans c02
  have hAl3 := Nat.lt_of_lt_of_le hAl2 hb.size
  clear hb z0 c01 c02
  go_wp2_with fail
  have X4 := Lib.hid (X3.out.set 4 (.slice (some ⟨A, o + 2, none⟩) (l.length + 1) (cp - 1 - 1)) (by simp [mvCs]))
  have E4 := Lib.hid (E3.out.trans (ext_set (j := 4) (v := .slice (some ⟨A, o + 2, none⟩) (l.length + 1) (cp - 1 - 1)) E3.out.hi X3.out hk))
  have T4 := Lib.hid (T3.out.ext (ext_set (j := 4) (v := .slice (some ⟨A, o + 2, none⟩) (l.length + 1) (cp - 1 - 1)) E3.out.hi X3.out hk) (by omega))
  have c12 : (w3.setCell ⟨X, 4, none⟩ (.slice (some ⟨A, o + 2, none⟩) (l.length + 1) (cp - 1 - 1))).cell? ⟨A, o + 2, none⟩ = some (.iface ty2 r2) := (World.cell?_setCell_other _ _ _ _ (by simp; try omega)).trans b12
  have hAl4 : A < (w3.setCell ⟨X, 4, none⟩ (.slice (some ⟨A, o + 2, none⟩) (l.length + 1) (cp - 1 - 1))).heap.size := by simpa using hAl3
  obtain ⟨w4, hw⟩ : ∃ W, W = w3.setCell ⟨X, 4, none⟩ (.slice (some ⟨A, o + 2, none⟩) (l.length + 1) (cp - 1 - 1)) := ⟨_, rfl⟩
  rw [← hw] at X4 E4 T4 hAl4 c12 ⊢
  clear hw y1 yf1 b12 hAl3
  have z1 := X4.out.c 4 _ rfl
  rw [rounds_succ]
  go_wp2_with fail
  refine (HC2.out w4 E4.out).mono ?_
  rintro e w5 ⟨rfl, hb⟩
  have X5 := Lib.hid (X4.out.below hb)
  have T5 := Lib.hid (T4.out.below hb)
  have E5 := Lib.hid (E4.out.below hb)
  have y2 := X5.out.c 4 _ rfl
  have yf2 := X5.out.f 4
  clear hb z1 c12
  go_wp2_with fail
  go_end0
  exact ⟨rfl, O, E5.out, rfl, _, X5.out, T5.out⟩
set_option maxHeartbeats 4000000 in
set_option maxRecDepth 100000 in
/-- The last part is over: the next slot begins. -/
theorem c_onE {now tag ref lost : Int} {p : Spt} {lv : Value} {v0 : Value} (hx : Ob w O k X (mvCs now p lv tag ref lost)) (hS : Sls w O (k + 1) 1 lv 1 [v0]) (h0 : POver w O k v0 true) (hs : p.s < 3) (hs0 : 0 ≤ p.s) (hs1 : p.s ≤ 3) (hk : 10 ≤ k) (hhi : ∀ j, O j ≠ 0 → j < w.heap.size) :
    Calls Tryz.prog 110 #[.pointer (some ⟨X, 0, none⟩)] w (RP (fun t => t = k ∨ t = k + 1 ∨ t = k + 2) w O (.tuple #[]) fun W G => ∃ lv' d, Ob W G k X (mvCs now ⟨p.b, p.q, p.s + 1⟩ lv' tag ref lost) ∧ Sls W G (k + 1) 1 lv' 1 [IAct d] ∧ Ob W G (k + 2) d [TAGSM X, .bool false]) := by
  obtain ⟨A, o, cp, rfl, hc1, hc2⟩ := hS.open (by omega)
  have a0 := hS.c 0 _ rfl
  rw [Nat.add_zero] at a0
  have x4 := hx.c 4 _ rfl
  have hXl := hx.lt
  have hAl := hS.lt.1
  have hAX : ¬ A = X := fun e => by have h1 := hx.o; have h2 := hS.lt.2; rw [← e, h2] at h1; omega
  have hXA : ¬ X = A := fun e => hAX e.symm
  obtain ⟨ty0, r0, r0', f0, rfl, hm0, hK0, hC0⟩ := h0
  have HC0 := Lib.hid hC0
  obtain ⟨pb, hpb⟩ : ∃ x, x = p.b := ⟨_, rfl⟩
  obtain ⟨pq, hpq⟩ : ∃ x, x = p.q := ⟨_, rfl⟩
  obtain ⟨ps, hps⟩ : ∃ x, x = p.s := ⟨_, rfl⟩
  rw [← hps] at hs hs0 hs1
  have ds : decide (ps < 3) = true := by simp; omega
  have HPP := Lib.hid (And.intro hpb (And.intro hpq hps))
  clear hpb hpq hps
  have HS := Lib.hid hS
  have HX := Lib.hid hx
  have HH := Lib.hid hhi
  clear hx hS hC0 hhi
  by_cases hcp : cp = 1
  · subst hcp
    have HT := Lib.hid (HS.out.tail (n := 0) (o' := o) (.inr ⟨rfl, rfl⟩))
    go_enter Tryz.func110, Tryz.ntmps110
    go_wp2_with fail
    refine wp_loop_rounds 2 ?_
    rw [rounds_succ]
    go_wp2_with fail
    refine (HC0.out w (Ext.refl HH.out)).mono ?_
    rintro e w1 ⟨rfl, hb⟩
    have X1 := Lib.hid (HX.out.below hb)
    have T1 := Lib.hid (HT.out.below hb)
    have E1 := Lib.hid (Ext.of_below (S := fun t => t = k) HH.out hb)
    have y0 := X1.out.c 4 _ rfl
    have yf0 := X1.out.f 4
    clear hb x4 a0
    go_wp2_with fail
    have X2 := Lib.hid (X1.out.set 4 (.slice (some ⟨A, o, none⟩) 0 0) (by simp [mvCs]))
    have E2 := Lib.hid (E1.out.trans (ext_set (j := 4) (v := .slice (some ⟨A, o, none⟩) 0 0) E1.out.hi X1.out hk))
    have T2 := Lib.hid (T1.out.ext (ext_set (j := 4) (v := .slice (some ⟨A, o, none⟩) 0 0) E1.out.hi X1.out hk) (by omega))
    obtain ⟨w2, hw⟩ : ∃ W, W = w1.setCell ⟨X, 4, none⟩ (.slice (some ⟨A, o, none⟩) 0 0) := ⟨_, rfl⟩
    rw [← hw] at X2 E2 T2 ⊢
    clear hw y0 yf0
    have z0 := X2.out.c 4 _ rfl
    have z3 := X2.out.c 3 _ rfl
    rw [← HPP.out.2.2] at z3
    have zf3 := X2.out.f 3
    have zf4 := X2.out.f 4
    have hXl2 := X2.out.lt
    rw [rounds_succ]
    go_wp2_with fail
    go_end0
    have X3 := X2.out.set 3 (.int .i64 (ps + 1)) (by simp [mvCs])
    have E3 := ext_set (j := 3) (v := .int .i64 (ps + 1)) E2.out.hi X2.out hk
    have X4 := X3.set 4 (.slice (some ⟨w2.heap.size + 1, 0, none⟩) 1 1) (by simp [mvCs])
    have E4 := ext_set (j := 4) (v := .slice (some ⟨w2.heap.size + 1, 0, none⟩) 1 1) E3.hi X3 hk
    obtain ⟨G5, e5, a5, k5⟩ := alloc_ob E4.hi (k + 2) #[TAGSM X, .bool false] 219 w2.heap.size (by simp)
    obtain ⟨G6, e6, a6, k6⟩ := alloc_ob e5.hi (k + 1) #[IAct w2.heap.size] 220 (w2.heap.size + 1) (by simp)
    have X6 := k6 _ _ _ (k5 _ _ _ X4)
    refine ⟨rfl, G6, (E2.out.mono fun t _ h => .inl h).trans ((E3.mono fun t _ h => .inl h).trans ((E4.mono fun t _ h => .inl h).trans ((e5.mono fun t _ h => .inr (.inr h)).trans (e6.mono fun t _ h => .inr (.inl h))))), _, _, ?_, Sls.of_ob a6 rfl (by unfold maxLen; decide), k6 _ _ _ a5⟩
    rw [← HPP.out.2.2]
    exact X6
  · skip
    have HT := Lib.hid (HS.out.tail (n := 0) (o' := o + 1) (.inl rfl))
    go_enter Tryz.func110, Tryz.ntmps110
    go_wp2_with fail
    refine wp_loop_rounds 2 ?_
    rw [rounds_succ]
    go_wp2_with fail
    refine (HC0.out w (Ext.refl HH.out)).mono ?_
    rintro e w1 ⟨rfl, hb⟩
    have X1 := Lib.hid (HX.out.below hb)
    have T1 := Lib.hid (HT.out.below hb)
    have E1 := Lib.hid (Ext.of_below (S := fun t => t = k) HH.out hb)
    have y0 := X1.out.c 4 _ rfl
    have yf0 := X1.out.f 4
    clear hb x4 a0
    go_wp2_with fail
    have X2 := Lib.hid (X1.out.set 4 (.slice (some ⟨A, o + 1, none⟩) 0 (cp - 1)) (by simp [mvCs]))
    have E2 := Lib.hid (E1.out.trans (ext_set (j := 4) (v := .slice (some ⟨A, o + 1, none⟩) 0 (cp - 1)) E1.out.hi X1.out hk))
    have T2 := Lib.hid (T1.out.ext (ext_set (j := 4) (v := .slice (some ⟨A, o + 1, none⟩) 0 (cp - 1)) E1.out.hi X1.out hk) (by omega))
    obtain ⟨w2, hw⟩ : ∃ W, W = w1.setCell ⟨X, 4, none⟩ (.slice (some ⟨A, o + 1, none⟩) 0 (cp - 1)) := ⟨_, rfl⟩
    rw [← hw] at X2 E2 T2 ⊢
    clear hw y0 yf0
    have z0 := X2.out.c 4 _ rfl
    have z3 := X2.out.c 3 _ rfl
    rw [← HPP.out.2.2] at z3
    have zf3 := X2.out.f 3
    have zf4 := X2.out.f 4
    have hXl2 := X2.out.lt
    rw [rounds_succ]
    go_wp2_with fail
    go_end0
    have X3 := X2.out.set 3 (.int .i64 (ps + 1)) (by simp [mvCs])
    have E3 := ext_set (j := 3) (v := .int .i64 (ps + 1)) E2.out.hi X2.out hk
    have X4 := X3.set 4 (.slice (some ⟨w2.heap.size + 1, 0, none⟩) 1 1) (by simp [mvCs])
    have E4 := ext_set (j := 4) (v := .slice (some ⟨w2.heap.size + 1, 0, none⟩) 1 1) E3.hi X3 hk
    obtain ⟨G5, e5, a5, k5⟩ := alloc_ob E4.hi (k + 2) #[TAGSM X, .bool false] 219 w2.heap.size (by simp)
    obtain ⟨G6, e6, a6, k6⟩ := alloc_ob e5.hi (k + 1) #[IAct w2.heap.size] 220 (w2.heap.size + 1) (by simp)
    have X6 := k6 _ _ _ (k5 _ _ _ X4)
    refine ⟨rfl, G6, (E2.out.mono fun t _ h => .inl h).trans ((E3.mono fun t _ h => .inl h).trans ((E4.mono fun t _ h => .inl h).trans ((e5.mono fun t _ h => .inr (.inr h)).trans (e6.mono fun t _ h => .inr (.inl h))))), _, _, ?_, Sls.of_ob a6 rfl (by unfold maxLen; decide), k6 _ _ _ a5⟩
    rw [← HPP.out.2.2]
    exact X6
set_option maxHeartbeats 4000000 in
set_option maxRecDepth 100000 in
/-- The last part is over, the last slot is through. -/
theorem c_onZ {now tag ref lost : Int} {p : Spt} {lv : Value} {v0 : Value} (hx : Ob w O k X (mvCs now p lv tag ref lost)) (hS : Sls w O (k + 1) 1 lv 1 [v0]) (h0 : POver w O k v0 true) (hs : 3 ≤ p.s) (hs0 : 0 ≤ p.s) (hs1 : p.s ≤ 3) (hk : 10 ≤ k) (hhi : ∀ j, O j ≠ 0 → j < w.heap.size) :
    Calls Tryz.prog 110 #[.pointer (some ⟨X, 0, none⟩)] w (RP (fun t => t = k ∨ t = k + 1 ∨ t = k + 2) w O (.tuple #[]) fun W G => ∃ lv', Ob W G k X (mvCs now p lv' tag ref lost) ∧ Sls W G (k + 1) 1 lv' 0 []) := by
  obtain ⟨A, o, cp, rfl, hc1, hc2⟩ := hS.open (by omega)
  have a0 := hS.c 0 _ rfl
  rw [Nat.add_zero] at a0
  have x4 := hx.c 4 _ rfl
  have hXl := hx.lt
  have hAl := hS.lt.1
  have hAX : ¬ A = X := fun e => by have h1 := hx.o; have h2 := hS.lt.2; rw [← e, h2] at h1; omega
  have hXA : ¬ X = A := fun e => hAX e.symm
  obtain ⟨ty0, r0, r0', f0, rfl, hm0, hK0, hC0⟩ := h0
  have HC0 := Lib.hid hC0
  obtain ⟨pb, hpb⟩ : ∃ x, x = p.b := ⟨_, rfl⟩
  obtain ⟨pq, hpq⟩ : ∃ x, x = p.q := ⟨_, rfl⟩
  obtain ⟨ps, hps⟩ : ∃ x, x = p.s := ⟨_, rfl⟩
  rw [← hps] at hs hs0 hs1
  have ds : decide (ps < 3) = false := by simp; omega
  have HPP := Lib.hid (And.intro hpb (And.intro hpq hps))
  clear hpb hpq hps
  have HS := Lib.hid hS
  have HX := Lib.hid hx
  have HH := Lib.hid hhi
  clear hx hS hC0 hhi
  by_cases hcp : cp = 1
  · subst hcp
    have HT := Lib.hid (HS.out.tail (n := 0) (o' := o) (.inr ⟨rfl, rfl⟩))
    go_enter Tryz.func110, Tryz.ntmps110
    go_wp2_with fail
    refine wp_loop_rounds 2 ?_
    rw [rounds_succ]
    go_wp2_with fail
    refine (HC0.out w (Ext.refl HH.out)).mono ?_
    rintro e w1 ⟨rfl, hb⟩
    have X1 := Lib.hid (HX.out.below hb)
    have T1 := Lib.hid (HT.out.below hb)
    have E1 := Lib.hid (Ext.of_below (S := fun t => t = k) HH.out hb)
    have y0 := X1.out.c 4 _ rfl
    have yf0 := X1.out.f 4
    clear hb x4 a0
    go_wp2_with fail
    have X2 := Lib.hid (X1.out.set 4 (.slice (some ⟨A, o, none⟩) 0 0) (by simp [mvCs]))
    have E2 := Lib.hid (E1.out.trans (ext_set (j := 4) (v := .slice (some ⟨A, o, none⟩) 0 0) E1.out.hi X1.out hk))
    have T2 := Lib.hid (T1.out.ext (ext_set (j := 4) (v := .slice (some ⟨A, o, none⟩) 0 0) E1.out.hi X1.out hk) (by omega))
    obtain ⟨w2, hw⟩ : ∃ W, W = w1.setCell ⟨X, 4, none⟩ (.slice (some ⟨A, o, none⟩) 0 0) := ⟨_, rfl⟩
    rw [← hw] at X2 E2 T2 ⊢
    clear hw y0 yf0
    have z0 := X2.out.c 4 _ rfl
    have z3 := X2.out.c 3 _ rfl
    rw [← HPP.out.2.2] at z3
    have zf3 := X2.out.f 3
    have zf4 := X2.out.f 4
    have hXl2 := X2.out.lt
    rw [rounds_succ]
    go_wp2_with fail
    go_end0
    exact ⟨rfl, O, E2.out.mono fun t _ h => .inl h, _, X2.out, T2.out⟩
  · skip
    have HT := Lib.hid (HS.out.tail (n := 0) (o' := o + 1) (.inl rfl))
    go_enter Tryz.func110, Tryz.ntmps110
    go_wp2_with fail
    refine wp_loop_rounds 2 ?_
    rw [rounds_succ]
    go_wp2_with fail
    refine (HC0.out w (Ext.refl HH.out)).mono ?_
    rintro e w1 ⟨rfl, hb⟩
    have X1 := Lib.hid (HX.out.below hb)
    have T1 := Lib.hid (HT.out.below hb)
    have E1 := Lib.hid (Ext.of_below (S := fun t => t = k) HH.out hb)
    have y0 := X1.out.c 4 _ rfl
    have yf0 := X1.out.f 4
    clear hb x4 a0
    go_wp2_with fail
    have X2 := Lib.hid (X1.out.set 4 (.slice (some ⟨A, o + 1, none⟩) 0 (cp - 1)) (by simp [mvCs]))
    have E2 := Lib.hid (E1.out.trans (ext_set (j := 4) (v := .slice (some ⟨A, o + 1, none⟩) 0 (cp - 1)) E1.out.hi X1.out hk))
    have T2 := Lib.hid (T1.out.ext (ext_set (j := 4) (v := .slice (some ⟨A, o + 1, none⟩) 0 (cp - 1)) E1.out.hi X1.out hk) (by omega))
    obtain ⟨w2, hw⟩ : ∃ W, W = w1.setCell ⟨X, 4, none⟩ (.slice (some ⟨A, o + 1, none⟩) 0 (cp - 1)) := ⟨_, rfl⟩
    rw [← hw] at X2 E2 T2 ⊢
    clear hw y0 yf0
    have z0 := X2.out.c 4 _ rfl
    have z3 := X2.out.c 3 _ rfl
    rw [← HPP.out.2.2] at z3
    have zf3 := X2.out.f 3
    have zf4 := X2.out.f 4
    have hXl2 := X2.out.lt
    rw [rounds_succ]
    go_wp2_with fail
    go_end0
    exact ⟨rfl, O, E2.out.mono fun t _ h => .inl h, _, X2.out, T2.out⟩
end
end Go.Proofs.YtlcibfpibklbdaaGreat
