/- Layers 18, 20: a step of a Room that finds a free slot, what it got; a step of a search; the frame of a step of a Move. -/
import Derived.Test.YtlcibfpibklbdaaGreatMg
namespace Go.Proofs.YtlcibfpibklbdaaGreat
set_option linter.unusedSimpArgs false
open Go.RowKit Go.Shelf
set_option linter.unusedVariables false

section
variable {X : Nat} {w : World} {O : Om} {B : Wb} {f : Cf} {s : AW} {k : Nat}
set_option maxHeartbeats 2000000 in
set_option maxRecDepth 100000 in
theorem c_RmStepFree {z : Rmm} {q : Int} {l : List Int} (hP : PW w O B f s) (hR : RoomAt w O k X z) (hl : z.ln = 1 ∨ z.ln = 2) (hql : rmLeft z = q :: l) (hb : 1 ≤ z.b ∧ z.b ≤ 12) (hq : 0 ≤ q ∧ q < fnvSize z.b) (hf : 0 ≤ twFree (s.M (plTags z.b q))) (hk : 10 ≤ k) (hhi : ∀ j, O j ≠ 0 → j < w.heap.size) (n0 : 0 ≤ s.n) (n1 : s.n ≤ 4611686018427387904) :
    Calls Tryz.prog 328 #[.pointer (some ⟨X, 0, none⟩), .pointer (some ⟨B.p, 0, none⟩)] w (RP (SX k (k + 14)) w O (.bool true) fun W G => PW W G B f (awLoad (plTags z.b q) s) ∧ RoomAt W G k X (rmIn z ⟨z.b, q, twFree (s.M (plTags z.b q))⟩)) := by
  obtain ⟨bv, wv, hv, h1, h2, -, -⟩ := hR.ex
  have hS := h2 hl
  rw [hql] at hS
  have hdo : rmDo z.ln = LOOKR := by unfold rmDo; rw [if_neg (by omega), if_pos (by omega)]
  rw [hdo] at h1
  have HL := Lib.hid (c_RmLookFree z.b q z.a z.c l bv wv hv z.p z.is hP h1 hS hb hq hf hk hhi n0 n1)
  have x4 := h1.c 4 _ rfl
  have hOv0 : Calls Tryz.prog 327 #[.pointer (some ⟨X, 0, none⟩)] w fun e w' => e = .returned (.bool false) ∧ w = w' := c_RmOver X LOOKR w x4 false (.inr ⟨_, _, _, rfl, rfl⟩)
  have HO0 := Lib.hid hOv0
  have hKL : ∀ args W, (callFunc 238 args).run Tryz.prog W = .ok (.enter 238 args) W := enters_of Tryz.func238 (by kernel_rfl) rfl
  have x4' : w.cell? ⟨X, 4, none⟩ = some (.func (.func 238) #[] #[]) := x4
  obtain ⟨zb, hzb⟩ : ∃ b, b = z.b := ⟨_, rfl⟩
  clear hP hR hl hql hb hq hf hhi h1 h2 hS hdo hOv0 x4
  go_enter Tryz.func328, Tryz.ntmps328
  go_wp2_with fail
  refine HO0.out.mono ?_
  rintro e w' ⟨rfl, rfl⟩
  go_wp2_with fail
  refine HL.out.mono ?_
  rintro e w1 ⟨rfl, G1, e1, P1, bv1, x1⟩
  have y4 := x1.c 4 _ rfl
  have HE := Lib.hid (And.intro e1 (And.intro P1 x1))
  have HO1 := Lib.hid (c_RmOver X .nilFunc w1 y4 true (.inl ⟨rfl, rfl⟩))
  clear e1 P1 x1 y4 x4' hKL HL HO0
  go_wp2_with fail
  refine HO1.out.mono ?_
  rintro e w' ⟨rfl, rfl⟩
  go_wp2_with fail
  go_ret
  exact ⟨rfl, G1, HE.out.1.mono fun t _ ht => SX.mono (by omega) (by omega) ht, HE.out.2.1, bv1, wv, hv, HE.out.2.2, fun h => absurd h (by unfold rmIn; dsimp only; omega), fun h => absurd h (by unfold rmIn; dsimp only; omega), fun h => absurd h (by unfold rmIn; dsimp only; omega)⟩
set_option maxHeartbeats 1000000 in
set_option maxRecDepth 100000 in
theorem c_RmGot {z : Rmm} (hR : RoomAt w O k X z) : Calls Tryz.prog 332 #[.pointer (some ⟨X, 0, none⟩)] w fun e w' => e = .returned (.tuple #[.agg #[.int .i64 (if z.is = true then z.p.b else 0), .int .i64 (if z.is = true then z.p.q else 0), .int .i64 (if z.is = true then z.p.s else 0)], .bool z.is]) ∧ Below w.heap.size w w' := by
  obtain ⟨bv, wv, hv, h1, -⟩ := hR.ex
  have x7 := h1.c 7 _ rfl
  have x8 := h1.c 8 _ rfl
  have x9 := h1.c 9 _ rfl
  have x10 := h1.c 10 _ rfl
  have hl := h1.lt
  have hne : ¬ X = w.heap.size := by omega
  have hne2 : ¬ w.heap.size = X := by omega
  obtain ⟨b, hb⟩ : ∃ b, b = z.is := ⟨_, rfl⟩
  obtain ⟨pb, hpb⟩ : ∃ b, b = z.p.b := ⟨_, rfl⟩
  obtain ⟨pq, hpq⟩ : ∃ b, b = z.p.q := ⟨_, rfl⟩
  obtain ⟨ps, hps⟩ : ∃ b, b = z.p.s := ⟨_, rfl⟩
  rw [← hb] at x10
  rw [← hb, ← hpb, ← hpq, ← hps]
  rw [← hpb] at x7
  rw [← hpq] at x8
  rw [← hps] at x9
  clear h1 hR hb hpb hpq hps
  cases b with
  | true =>
    simp only [if_true]
    go_enter Tryz.func332, Tryz.ntmps332
    go_wp2_with fail
    exact bodyPost_ret (v := .tuple #[.agg #[.int .i64 pb, .int .i64 pq, .int .i64 ps], .bool true]) (by simp [results, Tryz.results332, go_sem]) rfl ⟨rfl, by first | exact (Below.refl _ _).alloc (Nat.le_refl _) _ | exact ((((Below.refl _ _).alloc (Nat.le_refl _) _).setCell (p := ⟨w.heap.size, 0, none⟩) (Nat.le_refl _) _).setCell (p := ⟨w.heap.size, 1, none⟩) (Nat.le_refl _) _).setCell (p := ⟨w.heap.size, 2, none⟩) (Nat.le_refl _) _⟩
  | false =>
    simp only [Bool.false_eq_true, if_false]
    go_enter Tryz.func332, Tryz.ntmps332
    go_wp2_with fail
    exact bodyPost_ret (v := .tuple #[.agg #[.int .i64 0, .int .i64 0, .int .i64 0], .bool false]) (by simp [results, Tryz.results332, go_sem]) rfl ⟨rfl, by first | exact (Below.refl _ _).alloc (Nat.le_refl _) _ | exact ((((Below.refl _ _).alloc (Nat.le_refl _) _).setCell (p := ⟨w.heap.size, 0, none⟩) (Nat.le_refl _) _).setCell (p := ⟨w.heap.size, 1, none⟩) (Nat.le_refl _) _).setCell (p := ⟨w.heap.size, 2, none⟩) (Nat.le_refl _) _⟩
set_option maxHeartbeats 2000000 in
set_option maxRecDepth 100000 in
/-- A step of a search whose Room is over by it, with a slot: what follows is laid. -/
theorem c_SeStepYes {now tag ref lost : Int} {p : Spt} {lv : Value} {d R : Nat} {z1 : Rmm} {s1 : AW} (hx : Ob w O k X (mvCs now p lv tag ref lost)) (hS : Sls w O (k + 1) 1 lv 1 [ISearch d]) (hd : Ob w O (k + 3) d [.pointer (some ⟨X, 0, none⟩), .pointer (some ⟨R, 0, none⟩)])
    (HR : Calls Tryz.prog 328 #[.pointer (some ⟨R, 0, none⟩), .pointer (some ⟨B.p, 0, none⟩)] w (RP (SX (k + 4) (k + 18)) w O (.bool true) fun W G => PW W G B f s1 ∧ RoomAt W G (k + 4) R z1)) (hz : z1.ln = 0) (hi : z1.is = true) (hp : p.ok) (hto : z1.p.ok) (t0 : 0 ≤ tag) (t1 : tag ≤ 255) (r1 : ref ≤ 9223372036854775807) (hk : 10 ≤ k) (hhi : ∀ j, O j ≠ 0 → j < w.heap.size) :
    Calls Tryz.prog 330 #[.pointer (some ⟨d, 0, none⟩), .pointer (some ⟨B.p, 0, none⟩)] w fun e w' => e = .returned (.bool true) ∧ ∃ G0 W0 G, Ext (SX (k + 4) (k + 18)) O w G0 W0 ∧ GoesPost W0 G0 k X now tag ref lost p z1.p (ISearch d) w' G ∧ PW w' G B f s1 ∧ RoomAt w' G (k + 4) R z1 ∧ Ob w' G (k + 3) d [.pointer (some ⟨X, 0, none⟩), .pointer (some ⟨R, 0, none⟩)] := by
  have HX := Lib.hid (And.intro hx (And.intro hS hd))
  have HRR := Lib.hid HR
  have HPP := Lib.hid (And.intro hp hto)
  have d0 := hd.c 0 _ rfl
  have d1 := hd.c 1 _ rfl
  have HI := Lib.hid hi
  clear hx hS hd HR hp hto hhi hi
  go_enter Tryz.func330, Tryz.ntmps330
  go_wp2_with fail
  refine HRR.out.mono ?_
  rintro e w1 ⟨rfl, G1, e1, P1, r1'⟩
  have E1 := Lib.hid e1
  have H1 := Lib.hid (And.intro P1 (And.intro r1' (And.intro (HX.out.1.ext e1 (SX.not (by omega) (by omega))) (And.intro (HX.out.2.1.ext e1 (SX.not (by omega) (by omega))) (HX.out.2.2.ext e1 (SX.not (by omega) (by omega)))))))
  have d01 := H1.out.2.2.2.2.c 0 _ rfl
  have d11 := H1.out.2.2.2.2.c 1 _ rfl
  have HG := c_RmGot (w := w1.drew) (H1.out.2.1.below (drew_below w1))
  rw [HI.out] at HG
  simp only [if_true] at HG
  have HG := Lib.hid HG
  have HGO := Lib.hid (fun (W : World) (hb : Below w1.heap.size w1 W) => c_MvGoes (dd := z1.p) (H1.out.2.2.1.below hb) (H1.out.2.2.2.1.below hb) HPP.out.1 HPP.out.2 t0 t1 r1 hk (fun j hj => Nat.lt_of_lt_of_le (E1.out.hi j hj) hb.size))
  clear e1 P1 r1' d0 d1 HX HRR
  go_wp2_with fail
  go_region_held3 (fun w' => w'.cell? ⟨d, 0, none⟩ = some (.pointer (some ⟨X, 0, none⟩)) ∧ w'.cell? ⟨d, 1, none⟩ = some (.pointer (some ⟨R, 0, none⟩))) (go_keep)
    ((first
      | (go_at_call 332
         refine HG.out.mono ?_
         rintro e w2 ⟨rfl, hb2⟩
         have HB2 := Lib.hid ((drew_below w1).trans hb2)
         have D2 := Lib.hid (H1.out.2.2.2.2.below HB2.out)
         have d02 := D2.out.c 0 _ rfl
         have d12 := D2.out.c 1 _ rfl
         clear hb2)
      | (go_at_call 331
         refine (HGO.out _ HB2.out).mono ?_
         rintro e w3 ⟨rfl, G3, g3⟩
         have HG3 := Lib.hid g3
         have e3 := g3.1
         have F3 := Lib.hid (And.intro ((H1.out.1.below E1.out.hi HB2.out).ext e3 (by omega) (by omega) (by omega) (by omega)) (And.intro ((H1.out.2.1.below HB2.out).ext e3 (fun t q1 q2 => by omega)) (D2.out.ext e3 (by omega))))
         have d03 := F3.out.2.2.c 0 _ rfl
         have d13 := F3.out.2.2.c 1 _ rfl
         clear e3 g3)))
  all_goals
    clear d01 d11 d02 d12 d03 d13
    go_wp2_with fail
    go_ret
    exact ⟨rfl, G1, _, G3, E1.out.below HB2.out, HG3.out, F3.out⟩
set_option maxHeartbeats 1000000 in
set_option maxRecDepth 100000 in
/-- The frame of a step of a Move: a step of its first part, then on. -/
theorem c_MvStepG {A o n c pb : Nat} {ty : TypeId} {r r' : Value} {fS : FuncId} {ov : Bool} {Q1 Q2 : World → Prop} (x4 : w.cell? ⟨X, 4, none⟩ = some (.slice (some ⟨A, o, none⟩) (n + 1) c)) (a0 : w.cell? ⟨A, o, none⟩ = some (.iface ty r))
    (hm : ∀ W, (method 519 ty r "Step").run Tryz.prog W = .ok (fS, r') W) (hK : ∀ args W, (callFunc fS args).run Tryz.prog W = .ok (.enter fS args) W)
    (HC : Calls Tryz.prog fS #[r', .pointer (some ⟨pb, 0, none⟩)] w fun e w' => ∃ v, e = .returned v ∧ Q1 w') (HO : ∀ w1, Q1 w1 → Calls Tryz.prog 110 #[.pointer (some ⟨X, 0, none⟩)] w1 fun e w' => e = .returned (.tuple #[]) ∧ Q2 w')
    (HV : ∀ w2, Q2 w2 → ∃ ao m c, w2.cell? ⟨X, 4, none⟩ = some (.slice ao m c) ∧ (m == 0) = ov) :
    Calls Tryz.prog 53 #[.pointer (some ⟨X, 0, none⟩), .pointer (some ⟨pb, 0, none⟩)] w fun e w' => e = .returned (.bool ov) ∧ Q2 w' := by
  have HCC := Lib.hid HC
  have HOO := Lib.hid HO
  have HVV := Lib.hid HV
  have hn : (0 : Int) < (n : Int) + 1 := by omega
  have HV0 := Lib.hid (c_MvOver0 x4)
  have e0 : (n + 1 == 0) = false := by simp
  clear HC HO HV
  go_enter Tryz.func53, Tryz.ntmps53
  go_wp2_with fail
  refine HV0.out.mono ?_
  rintro e w' ⟨rfl, rfl⟩
  rw [e0]
  go_wp2_with fail
  refine HCC.out.mono ?_
  rintro e w1 ⟨v, rfl, q1⟩
  have HQ1 := Lib.hid q1
  clear q1 x4 a0 hm hK
  go_wp2_with fail
  refine (HOO.out _ HQ1.out).mono ?_
  rintro e w2 ⟨rfl, q2⟩
  obtain ⟨ao, m, c2, y4, hov⟩ := HVV.out _ q2
  have HQ2 := Lib.hid q2
  have HOV := Lib.hid (c_MvOver0 y4)
  rw [hov] at HOV
  clear q2 y4 hov
  go_wp2_with fail
  refine HOV.out.mono ?_
  rintro e w' ⟨rfl, rfl⟩
  go_wp2_with fail
  go_ret
  exact ⟨rfl, HQ2.out⟩
end
end Go.Proofs.YtlcibfpibklbdaaGreat
