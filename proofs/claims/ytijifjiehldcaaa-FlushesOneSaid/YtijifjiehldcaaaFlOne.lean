/- Layer 27: FlushesOne. -/
import Derived.Test.YtijifjiehldcaaaFlL
namespace Go.Proofs.Ytijifjiehldcaaa
open Go.RowKit
set_option linter.unusedVariables false

/-- How it stands ahead of the Flush's step k. -/
structure FI (k : Nat) (s : AW) (y : Flm) (st at_ : Int) : Prop where
  ok : y.ok
  f0 : k = 0 → y = flNew ∧ s.M 0 = 0 ∧ s.M 1 = 0 ∧ s.ho = -1
  f1 : k = 1 → y.ln = 1 ∧ y.tk.ln = 2 ∧ y.tk.tick = 0 ∧ s.M 1 = 0 ∧ s.ho = -1
  f2 : k = 2 → y.ln = 2 ∧ s.ho = 9
  f3 : k = 3 → y.ln = 3 ∧ s.ho = 9 ∧ y.an = anFlush st ∧ y.ep = st ∧ y.pt = at_
  f4 : k = 4 → y.ln = 0 ∧ s.ho = -1 ∧ y.an = anFlush st ∧ y.ep = st ∧ y.pt = at_
theorem FI.tick {k : Nat} {s : AW} {y : Flm} {st at_ : Int} (h : FI k s y st at_) : FI k (awTick s) y st at_ := by
  have h0 : (awTick s).M 0 = s.M 0 := by simp [awTick, upd]
  have h1 : (awTick s).M 1 = s.M 1 := by simp [awTick, upd]
  exact ⟨h.ok, fun e => by rw [h0, h1]; exact h.f0 e, fun e => by rw [h1]; exact h.f1 e, h.f2, h.f3, h.f4⟩
theorem epFlush_no {w d : Int} (h : epFlushOk w = false) : epFlush w d = w := by
  unfold epFlushOk at h
  unfold epFlush
  rw [if_pos (by simpa using h)]
theorem awFlush_8 (d : Int) (s : AW) : (awFlush d s).M 8 = epFlush (s.M 8) d ∧ (awFlush d s).ho = s.ho := by
  unfold awFlush
  by_cases h : epFlushOk (s.M 8) = true
  · rw [if_pos h]; exact ⟨by simp [upd], rfl⟩
  · rw [if_neg h]; exact ⟨(epFlush_no (w := s.M 8) (by simpa using h)).symm, rfl⟩
theorem FI.step {k : Nat} {s : AW} {y : Flm} {st at_ d : Int} (h : FI k s y st at_) (hk : k < 4) :
    decide ((flStep 9 d s y).2.ln = 0) = decide (k = 3) ∧ (k < 2 → ((flStep 9 d s y).1.la.a == 8) = false) ∧ (flStep 9 d s y).1.M 8 = (if k = 2 then epFlush (s.M 8) d else s.M 8) ∧ ((flStep 9 d s y).1.ho == 9) = decide (k = 1 ∨ k = 2) ∧
      FI (k + 1) (flStep 9 d s y).1 (flStep 9 d s y).2 (if k = 2 then s.M 8 else st) (if k = 2 then (flStep 9 d s y).1.n else at_) ∧ (flStep 9 d s y).1.n = s.n + 1 := by
  have hok := flStep_ok (s := s) (t := 9) (d := d) h.ok
  rcases (show k = 0 ∨ k = 1 ∨ k = 2 ∨ k = 3 by omega) with rfl | rfl | rfl | rfl
  · obtain ⟨rfl, h0, h1, h2⟩ := h.f0 rfl
    have e : flStep 9 d s flNew = (awDraw 9 s, ⟨1, ⟨2, s.M 0, true⟩, 0, 0, 0⟩) := rfl
    rw [e] at hok ⊢
    have k1 : (awDraw 9 s).M 1 = s.M 1 := by simp [awDraw, upd]
    have k8 : (awDraw 9 s).M 8 = s.M 8 := by simp [awDraw, upd]
    refine ⟨rfl, fun _ => rfl, by rw [k8]; rfl, ?_, ⟨hok, (by omega), fun _ => ⟨rfl, rfl, h0, by rw [k1]; exact h1, h2⟩, by omega, by omega, by omega⟩, rfl⟩
    show (s.ho == 9) = _
    rw [h2]; rfl
  · obtain ⟨h0, h1, h2, h3, h4⟩ := h.f1 rfl
    have e : flStep 9 d s y = (awServed 9 (awLoad 1 s), ⟨2, ⟨0, y.tk.tick, y.tk.dr⟩, y.an, y.ep, y.pt⟩) := by
      have e1 : tkStep 9 s y.tk = (awServed 9 (awLoad 1 s), ⟨0, y.tk.tick, y.tk.dr⟩) := by
        unfold tkStep; rw [if_neg (by omega), if_pos h1, if_pos (by rw [h2, h3]; rfl)]
      unfold flStep; rw [if_pos h0, e1]; rfl
    rw [e] at hok ⊢
    exact ⟨rfl, fun _ => rfl, rfl, rfl, ⟨hok, by omega, by omega, fun _ => ⟨rfl, rfl⟩, by omega, by omega⟩, rfl⟩
  · obtain ⟨h0, h1⟩ := h.f2 rfl
    have e : flStep 9 d s y = (awFlush d s, ⟨3, y.tk, anFlush (s.M 8), s.M 8, s.n + 1⟩) := by unfold flStep; rw [if_neg (by omega), if_pos h0]
    rw [e] at hok ⊢
    obtain ⟨k8, kh⟩ := awFlush_8 d s
    have kn := awFlush_n d s
    refine ⟨rfl, by omega, by rw [k8]; rfl, ?_, ⟨hok, by omega, by omega, by omega, fun _ => ⟨rfl, ?_, rfl, rfl, ?_⟩, by omega⟩, kn⟩
    · show ((awFlush d s).ho == 9) = _; rw [kh, h1]; rfl
    · show (awFlush d s).ho = 9; rw [kh, h1]
    · show s.n + 1 = (awFlush d s).n; rw [kn]
  · obtain ⟨h0, h1, h2, h3, h4⟩ := h.f3 rfl
    have e : flStep 9 d s y = (awGive s, ⟨0, y.tk, y.an, y.ep, y.pt⟩) := by unfold flStep; rw [if_neg (by omega), if_neg (by omega), if_pos h0]
    rw [e] at hok ⊢
    have k8 : (awGive s).M 8 = s.M 8 := by simp [awGive, upd]
    exact ⟨rfl, by omega, by rw [k8]; rfl, rfl, ⟨hok, by omega, by omega, by omega, by omega, fun _ => ⟨rfl, rfl, h2, h3, h4⟩⟩, rfl⟩
def FRel (w : World) (B : Wb) (b : FB) (bt : Nat) (ts : List Value) (d : Int) (k : Nat) (wr : World) (G : Om) (s : AW) (y : Flm) (st at_ : Int) : Prop :=
  Env w G wr ∧ PW wr G B ⟨1, 8, 3, 1, 16⟩ s ∧ FAt wr G 10 b 9 d y ∧ Ob wr G 0 bt ts ∧ FI k s y st at_
theorem FAt.ext {S : Nat → Prop} {O O' : Om} {w w' : World} {k : Nat} {b : FB} {t : Nat} {d : Int} {y : Flm} (h : FAt w O k b t d y) (e : Ext S O w O' w') (h0 : ¬ S k) (h1 : ¬ S (k + 1)) (h2 : ¬ S (k + 2)) (h3 : ¬ S (k + 3)) : FAt w' O' k b t d y := ⟨h.x.ext e h0, h.r.ext e h1 h2 h3⟩
theorem FRel.tick {w : World} {B : Wb} {b : FB} {bt : Nat} {ts : List Value} {d : Int} {k : Nat} {wr w' : World} {G G' : Om} {s : AW} {y : Flm} {st at_ : Int} (h : FRel w B b bt ts d k wr G s y st at_) (e : Ext SW G wr G' w') (hP : PW w' G' B ⟨1, 8, 3, 1, 16⟩ (awTick s)) : FRel w B b bt ts d k w' G' (awTick s) y st at_ := by
  obtain ⟨h1, h2, h3, h4, h5⟩ := h
  exact ⟨h1.ext e, hP, h3.ext e (fun h => by have := h.2; omega) (fun h => by have := h.2; omega) (fun h => by have := h.2; omega) (fun h => by have := h.2; omega), h4.ext e sw0, h5.tick⟩
theorem FRel.below {w : World} {B : Wb} {b : FB} {bt : Nat} {ts : List Value} {d : Int} {k : Nat} {wr w' : World} {G : Om} {s : AW} {y : Flm} {st at_ : Int} (h : FRel w B b bt ts d k wr G s y st at_) (hb : Below wr.heap.size wr w') : FRel w B b bt ts d k w' G s y st at_ := by
  obtain ⟨h1, h2, h3, h4, h5⟩ := h
  exact ⟨h1.ext (S := SW) (Ext.of_below h1.hi hb), h2.below h1.hi hb, ⟨h3.x.below hb, h3.r.below hb⟩, h4.below hb, h5⟩
theorem eql_an10 (w : World) : (binOp .eql 65 (.agg #[.int .u8 10, .int .u64 0, .string ⟨#[]⟩, .string ⟨#[]⟩, .int .u32 0, .int .u64 0, .int .i64 0, .int .i64 0]) (.agg #[.int .u8 10, .int .u64 0, .string ⟨#[]⟩, .string ⟨#[]⟩, .int .u32 0, .int .u64 0, .int .i64 0, .int .i64 0])).run Try.prog w = .ok (.bool true) w := by kernel_rfl
theorem eql_an5 (w : World) : (binOp .eql 65 (.agg #[.int .u8 5, .int .u64 0, .string ⟨#[]⟩, .string ⟨#[]⟩, .int .u32 0, .int .u64 0, .int .i64 0, .int .i64 0]) (.agg #[.int .u8 5, .int .u64 0, .string ⟨#[]⟩, .string ⟨#[]⟩, .int .u32 0, .int .u64 0, .int .i64 0, .int .i64 0])).run Try.prog w = .ok (.bool true) w := by kernel_rfl
@[go_sem] theorem fld_ac1 (a b c d : Value) (w : World) : (Instr.field 56 (.agg #[a, b, c, d]) 1).run Try.prog w = .ok b w := by kernel_rfl
set_option maxHeartbeats 8000000 in
set_option maxRecDepth 100000 in
theorem w_FlushesOne (ep d t0 t1 t2 t3 : Int) (w : World) (p0 : 0 ≤ ep) (p1 : ep < 18446744073709551616) (d0 : -9223372036854775808 ≤ d) (d1 : d ≤ 9223372036854775807) (q00 : 0 ≤ t0) (q01 : t0 ≤ 255) (q10 : 0 ≤ t1) (q11 : t1 ≤ 255) (q20 : 0 ≤ t2) (q21 : t2 ≤ 255) (q30 : 0 ≤ t3) (q31 : t3 ≤ 255) :
    Calls Try.prog 7 #[.int .u64 ep, .int .i64 d, .agg #[.int .u8 t0, .int .u8 t1, .int .u8 t2, .int .u8 t3]] w fun e w' => e = .returned (.bool true) ∧ Below w.heap.size w w' := by
  have hts : ∀ k, k < 4 → ∃ c, [Value.int .u8 t0, .int .u8 t1, .int .u8 t2, .int .u8 t3][k]? = some (.int .u8 c) ∧ 0 ≤ c ∧ c ≤ 255 := by
    intro k hk
    rcases (show k = 0 ∨ k = 1 ∨ k = 2 ∨ k = 3 by omega) with rfl | rfl | rfl | rfl
    · exact ⟨t0, rfl, q00, q01⟩
    · exact ⟨t1, rfl, q10, q11⟩
    · exact ⟨t2, rfl, q20, q21⟩
    · exact ⟨t3, rfl, q30, q31⟩
  have HT := Lib.hid hts
  clear hts q00 q01 q10 q11 q20 q21 q30 q31
  go_enter Try.func7, Try.ntmps7
  go_wp2_with fail
  refine (c_WorldP 1 _ (by decide) (by decide)).mono ?_
  rintro e w1 ⟨B, O1, rfl, hP, hE⟩
  obtain ⟨b5, hb5⟩ : ∃ b5, b5 = w.heap.size := ⟨_, rfl⟩
  have hbn : b5 < (w.alloc (.cells #[.int .u8 t0, .int .u8 t1, .int .u8 t2, .int .u8 t3] 51)).heap.size := by rw [hb5]; simp
  have T1 : Ob w1 O1 0 b5 [.int .u8 t0, .int .u8 t1, .int .u8 t2, .int .u8 t3] := by
    subst hb5
    have k1 := fun j u hu => cell_newA w #[.int .u8 t0, .int .u8 t1, .int .u8 t2, .int .u8 t3] 51 _ rfl j u hu
    have k2 := fun j => frozen_newA w #[.int .u8 t0, .int .u8 t1, .int .u8 t2, .int .u8 t3] 51 _ rfl j
    refine ⟨?_, Nat.lt_of_lt_of_le hbn hE.bel.size, fun j u hu => (hE.bel.cell (p := ⟨_, j, none⟩) hbn).trans (k1 j u (by simpa using hu)), fun j => (hE.bel.frozen (p := ⟨_, j, none⟩) hbn).trans (k2 j)⟩
    by_cases h : O1 w.heap.size = 0
    · exact h
    · exact absurd (hE.base _ h) (by omega)
  have E1 : Env w O1 w1 := ⟨fun j hj => by have := hE.base j hj; simp at this; omega, hE.hi, ((Below.refl _ _).alloc (Nat.le_refl _) _).trans (hE.bel.mono (by simp))⟩
  have HE1 := Lib.hid E1
  have HP1 := Lib.hid hP
  have HT1 := Lib.hid T1
  have p0' := hP.wo.c0
  clear hP hE E1 T1 hbn
  go_wp2_with fail
  refine (c_StoreP 8 ep HP1.out HE1.out.hi (by decide) (by decide) p0 p1 (by decide) (by decide)).mono ?_
  rintro e w2 ⟨rfl, O2, e2, P2⟩
  have HE2 := Lib.hid (HE1.out.ext e2)
  have HP2 := Lib.hid P2
  have HT2 := Lib.hid (HT1.out.ext e2 sw0)
  clear e2 P2 p0'
  go_wp2_with fail
  refine (c_NewFlush w2 O2 10 9 d (by decide) (by decide) HE2.out.hi).mono ?_
  rintro e w3 ⟨b, rfl, O3, e3, X3⟩
  have hM8 : (awStore 8 ep (aw0 1)).M 8 = ep := by simp [awStore, upd]
  have H3 : Hid (FRel w B b b5 [.int .u8 t0, .int .u8 t1, .int .u8 t2, .int .u8 t3] d 0 w3 O3 (awStore 8 ep (aw0 1)) flNew ep 0) := Lib.hid
    ⟨HE2.out.ext e3, HP2.out.ext e3 (by omega) (by omega) (by omega) (by omega), X3, HT2.out.ext e3 (by omega), ⟨by show 1 ≤ 3; decide, fun _ => .inl rfl⟩, fun _ => ⟨rfl, by simp [awStore, aw0, upd], by simp [awStore, aw0, upd], rfl⟩, by omega, by omega, by omega, by omega⟩
  have HM8 := Lib.hid hM8
  clear e3 X3 hM8
  rw [← hb5]
  have Hb5 := Lib.hid hb5
  clear hb5
  go_wp2_with fail
  go_loopw [8, 9, 10, 12] (fun nw so at' n wr => ∃ (k : Nat) (s : AW) (y : Flm) (G : Om) (st at_ : Int), k ≤ 4 ∧ n = .int .i64 k ∧ nw = .int .u64 (s.M 8) ∧ so = .int .u64 st ∧ at' = .int .i64 at_ ∧ FRel w B b b5 [.int .u8 t0, .int .u8 t1, .int .u8 t2, .int .u8 t3] d k wr G s y st at_ ∧ 0 ≤ s.n ∧ s.n ≤ 1 + 42 * k ∧ 0 ≤ st ∧ st < 18446744073709551616) (fun _ _ _ n _ => 4 - (intOf n).toNat)
  case atStart => exact ⟨0, awStore 8 ep (aw0 1), flNew, O3, ep, 0, by omega, rfl, by rw [HM8.out], rfl, rfl, H3.out, (by show (0 : Int) ≤ 0 + 1; decide), (by show (0 : Int) + 1 ≤ _; decide), p0, p1⟩
  case round =>
    obtain ⟨k, s, y, G, st, at_, hk, rfl, rfl, rfl, rfl, hR, hn0, hn1, hst0, hst1⟩ := hrel
    have HR := Lib.hid hR
    clear hR
    by_cases hk4 : k < 4
    · as_aux_lemma =>
      obtain ⟨c, hc, c0, c1⟩ := HT.out k hk4
      have HC := Lib.hid hc
      have q0 := HR.out.2.2.2.1.c k _ hc
      clear hc
      obtain ⟨wo, rfl⟩ : ∃ wo, wo = wr := ⟨_, rfl⟩
      have hkb : decide ((k : Int) < 4) = true := by simp; omega
      go_wp2_with fail
      go_loopw [8, 13] (fun nw j wx => ∃ (jn : Nat) (s2 : AW) (G2 : Om), (jn : Int) ≤ c % 41 ∧ j = .int .i64 jn ∧ nw = .int .u64 (s2.M 8) ∧ FRel w B b b5 [.int .u8 t0, .int .u8 t1, .int .u8 t2, .int .u8 t3] d k wx G2 s2 y st at_ ∧ 0 ≤ s2.n ∧ s2.n ≤ s.n + jn) (fun _ j _ => 41 - (intOf j).toNat)
      case atStart => exact ⟨0, s, G, by omega, rfl, rfl, HR.out, hn0, by omega⟩
      case round =>
        obtain ⟨jn, s2, G2, hj, rfl, rfl, hR2, m0, m1⟩ := hrel
        have HR2 := Lib.hid hR2
        clear hR2 q0
        have q0 := HR2.out.2.2.2.1.c k _ HC.out
        have hb8 := HR2.out.2.1.bd 8
        by_cases hj2 : (jn : Int) < c % 41
        · as_aux_lemma =>
          have hj3 : jn < 41 := by omega
          go_wp2_with fail
          refine (c_WTick wr G2 B _ s2 HR2.out.2.1 HR2.out.1.hi m0 (by omega)).mono ?_
          rintro e w4 ⟨rfl, O4, e4, p4⟩
          have HR4 := Lib.hid (HR2.out.tick e4 p4)
          have h8 := Lib.hid (show (awTick s2).M 8 = epTick (s2.M 8) by simp [awTick, upd])
          have hn4 := Lib.hid (show (awTick s2).n = s2.n + 1 from rfl)
          clear e4 p4
          go_wp2_with fail
          refine (c_Tick (s2.M 8) _ hb8.1 (by omega)).mono ?_
          rintro e w5 ⟨rfl, hb5⟩
          have HR5 := Lib.hid (HR4.out.below hb5)
          clear hb5 q0
          go_wp2
          go_roundw
          case rel => exact ⟨jn + 1, awTick s2, O4, by omega, by go_num, by rw [h8.out], HR5.out, by rw [hn4.out]; omega, by rw [hn4.out]; omega⟩
          case measure => simp [intOf]; omega
        · have hj4 : ¬ (jn : Int) < c % 41 := hj2
          obtain ⟨f1, f2, f3, f4, f5, f6⟩ := HR2.out.2.2.2.2.step (d := d) hk4
          have HC2 := Lib.hid (c_FStep (k := 10) (b := b) (t := 9) (d := d) y HR2.out.2.1 HR2.out.2.2.1 HR2.out.2.2.2.2.ok (by decide) (by decide) HR2.out.1.hi m0 (by omega) d0 d1)
          rw [f1] at HC2
          obtain ⟨z, hz⟩ : ∃ z, z = flStep 9 d s2 y := ⟨_, rfl⟩
          rw [← hz] at f1 f2 f3 f4 f5 f6 HC2
          have F2 := Lib.hid f2
          have F3 := Lib.hid f3
          have F4 := Lib.hid f4
          have F5 := Lib.hid f5
          have F6 := Lib.hid f6
          clear hz f1 f2 f3 f4 f5 f6
          go_wp2_with fail
          refine (HC2.out).mono ?_
          rintro e w4 ⟨rfl, O4, e4, p4, x4⟩
          have H4 : Hid (FRel w B b b5 [.int .u8 t0, .int .u8 t1, .int .u8 t2, .int .u8 t3] d (k + 1) w4 O4 z.1 z.2 (if k = 2 then s2.M 8 else st) (if k = 2 then z.1.n else at_)) := Lib.hid
            ⟨HR2.out.1.ext e4, p4, x4, HR2.out.2.2.2.1.ext e4 (sx0 (by decide)), F5.out⟩
          have hp0 := p4.wo.c0
          have hp72 := p4.wo.ho
          have HK8 := Lib.hid (c_Peek 8 p4.ce (by decide) (by decide))
          have HLa := Lib.hid (c_Last p4.ce)
          have HSt := Lib.hid (c_WSteps _ _ _ _ _ p4)
          have hzb := p4.bd 8
          have hpl := p4.wo.lt
          clear e4 p4 x4 HC2 q0
          rcases (show k = 0 ∨ k = 1 ∨ k = 2 ∨ k = 3 by omega) with hke | hke | hke | hke
          · as_aux_lemma =>
            have e3 : decide (k = 3) = false := by simp; omega
            have t3 : ((k : Int) == 3) = false := by simp; omega
            have tl : decide ((k : Int) < 2) = true := by simp; omega
            have t2 : ((k : Int) == 2) = false := by simp; omega
            have t1 : ((k : Int) == 1) = false := by simp; omega
            have tho : (z.1.ho == 9) = false := by rw [F4.out]; simp; omega
            have z8 := Lib.hid (show z.1.M 8 = s2.M 8 by rw [F3.out, if_neg (by omega)])
            rw [if_neg (show ¬ k = 2 by omega), if_neg (show ¬ k = 2 by omega)] at H4
            have hla := F2.out (by omega)
            rw [e3]
            clear e3 F2 F3 F4 F5 HR2 HR
            go_wp2_with fail
            refine (HLa.out).mono ?_
            rintro e w5 ⟨rfl, hb5⟩
            have H5 := Lib.hid (H4.out.below hb5)
            have HK5 := Lib.hid (c_Peek 8 H5.out.2.1.ce (by decide) (by decide))
            have hp0 := H5.out.2.1.wo.c0
            have hp72 := H5.out.2.1.wo.ho
            clear hb5 hpl
            go_wp2_with fail
            refine (HK5.out).mono ?_
            rintro e w' ⟨rfl, rfl⟩
            rw [z8.out]
            have HX := H5
            go_wp2
            go_roundw
            case rel => exact ⟨k + 1, z.1, z.2, O4, _, _, by omega, by go_num, by rw [z8.out], rfl, rfl, HX.out, by rw [F6.out]; omega, by rw [F6.out]; omega, by omega, by omega⟩
            case measure => simp [intOf]; omega
          · as_aux_lemma =>
            have e3 : decide (k = 3) = false := by simp; omega
            have t3 : ((k : Int) == 3) = false := by simp; omega
            have tl : decide ((k : Int) < 2) = true := by simp; omega
            have t2 : ((k : Int) == 2) = false := by simp; omega
            have t1 : ((k : Int) == 1) = true := by simp; omega
            have tho : (z.1.ho == 9) = true := by rw [F4.out]; simp; omega
            have z8 := Lib.hid (show z.1.M 8 = s2.M 8 by rw [F3.out, if_neg (by omega)])
            rw [if_neg (show ¬ k = 2 by omega), if_neg (show ¬ k = 2 by omega)] at H4
            have hla := F2.out (by omega)
            rw [e3]
            clear e3 F2 F3 F4 F5 HR2 HR
            go_wp2_with fail
            refine (HLa.out).mono ?_
            rintro e w5 ⟨rfl, hb5⟩
            have H5 := Lib.hid (H4.out.below hb5)
            have HK5 := Lib.hid (c_Peek 8 H5.out.2.1.ce (by decide) (by decide))
            have hp0 := H5.out.2.1.wo.c0
            have hp72 := H5.out.2.1.wo.ho
            clear hb5 hpl
            go_wp2_with fail
            refine (HK5.out).mono ?_
            rintro e w' ⟨rfl, rfl⟩
            rw [z8.out]
            have HX := H5
            go_wp2
            go_roundw
            case rel => exact ⟨k + 1, z.1, z.2, O4, _, _, by omega, by go_num, by rw [z8.out], rfl, rfl, HX.out, by rw [F6.out]; omega, by rw [F6.out]; omega, by omega, by omega⟩
            case measure => simp [intOf]; omega
          · as_aux_lemma =>
            have e3 : decide (k = 3) = false := by simp; omega
            have t3 : ((k : Int) == 3) = false := by simp; omega
            have tl : decide ((k : Int) < 2) = false := by simp; omega
            have t2 : ((k : Int) == 2) = true := by simp; omega
            have t1 : ((k : Int) == 1) = false := by simp; omega
            have tho : (z.1.ho == 9) = true := by rw [F4.out]; simp; omega
            have z8 := Lib.hid (show z.1.M 8 = epFlush (s2.M 8) d by rw [F3.out, if_pos (by omega)])
            rw [if_pos (show k = 2 by omega), if_pos (show k = 2 by omega)] at H4
            rw [e3]
            clear e3 F2 F3 F4 F5 HR2 HR
            go_wp2_with fail
            refine (HSt.out).mono ?_
            rintro e w' ⟨rfl, rfl⟩
            go_wp2_with fail
            refine (c_Flush (s2.M 8) d _ hb8.1 (by omega) d0 d1).mono ?_
            rintro e w5 ⟨rfl, hb5⟩
            have H5 := Lib.hid (H4.out.below hb5)
            have HK5 := Lib.hid (c_Peek 8 H5.out.2.1.ce (by decide) (by decide))
            have hp0 := H5.out.2.1.wo.c0
            have hp72 := H5.out.2.1.wo.ho
            clear hb5 hpl
            go_wp2_with fail
            refine (HK5.out).mono ?_
            rintro e w' ⟨rfl, rfl⟩
            rw [z8.out]
            have HX := H5
            go_wp2
            go_roundw
            case rel => exact ⟨k + 1, z.1, z.2, O4, _, _, by omega, by go_num, by rw [z8.out], rfl, rfl, HX.out, by rw [F6.out]; omega, by rw [F6.out]; omega, by omega, by omega⟩
            case measure => simp [intOf]; omega
          · as_aux_lemma =>
            have e3 : decide (k = 3) = true := by simp; omega
            have t3 : ((k : Int) == 3) = true := by simp; omega
            have tl : decide ((k : Int) < 2) = false := by simp; omega
            have t2 : ((k : Int) == 2) = false := by simp; omega
            have t1 : ((k : Int) == 1) = false := by simp; omega
            have tho : (z.1.ho == 9) = false := by rw [F4.out]; simp; omega
            have z8 := Lib.hid (show z.1.M 8 = s2.M 8 by rw [F3.out, if_neg (by omega)])
            rw [if_neg (show ¬ k = 2 by omega), if_neg (show ¬ k = 2 by omega)] at H4
            rw [e3]
            clear e3 F2 F3 F4 F5 HR2 HR
            go_wp2_with fail
            refine (HK8.out).mono ?_
            rintro e w' ⟨rfl, rfl⟩
            rw [z8.out]
            have HX := H4
            go_wp2
            go_roundw
            case rel => exact ⟨k + 1, z.1, z.2, O4, _, _, by omega, by go_num, by rw [z8.out], rfl, rfl, HX.out, by rw [F6.out]; omega, by rw [F6.out]; omega, by omega, by omega⟩
            case measure => simp [intOf]; omega
    · obtain rfl : k = 4 := by omega
      obtain ⟨g1, g2, g3, g4, g5⟩ := HR.out.2.2.2.2.f4 rfl
      have hx : Ob wr G 10 b.X (flCs .nilFunc (anFlush st) st at_) := by
        have := HR.out.2.2.1.x
        rw [g1, g3, g4, g5] at this
        exact this
      have hst : 0 ≤ st ∧ st < 18446744073709551616 := ⟨hst0, hst1⟩
      have HG := Lib.hid (c_FGot wr G 10 b.X _ _ _ hx)
      have hho := Lib.hid g2
      have hkb : decide (((4 : Nat) : Int) < 4) = false := by simp
      clear g1 g2 g3 g4 g5 hx
      by_cases hok : epFlushOk st = true
      · have han : anFlush st = 10 := by unfold anFlush; rw [if_pos hok]
        
        rw [han] at HG
        have HOK := Lib.hid hok
        have heq := fun (W : World) => eql_an10 W
        clear han hok
        unfold anV at HG
        go_wp2_with fail
        refine (HG.out).mono ?_
        rintro e w4 ⟨rfl, hb4⟩
        have H4 := HR.out.below hb4
        have h5 := H4.below ((Below.refl _ _).alloc (Nat.le_refl _) (.cells #[.int .u8 10, .int .u64 0, .string ⟨#[]⟩, .string ⟨#[]⟩, .int .u32 0, .int .u64 0, .int .i64 0, .int .i64 0] 65))
        have h6 := Lib.hid (h5.below ((Below.refl _ _).alloc (Nat.le_refl _) (.cells #[.int .u8 10, .int .u64 0, .string ⟨#[]⟩, .string ⟨#[]⟩, .int .u32 0, .int .u64 0, .int .i64 0, .int .i64 0] 65)))
        have hpn4 := H4.2.1.wo.lt
        have hw4 := H4.1.bel.size
        clear hb4 H4 h5
        go_wp2_with fail
        refine (c_Flush st d _ hst.1 (by omega) d0 d1).mono ?_
        rintro e w7 ⟨rfl, hb7⟩
        rw [HOK.out]
        have h7 := Lib.hid (h6.out.below hb7)
        have hz7 : w4.heap.size + 1 + 1 ≤ w7.heap.size := by have := hb7.size; simp at this; omega
        have k0 : ∀ j u, [Value.int .u8 10, .int .u64 0, .string ⟨#[]⟩, .string ⟨#[]⟩, .int .u32 0, .int .u64 0, .int .i64 0, .int .i64 0][j]? = some u → w7.cell? ⟨w4.heap.size, j, none⟩ = some u := fun j u hu =>
          (hb7.cell (p := ⟨w4.heap.size, j, none⟩) (by simp; omega)).trans ((((Below.refl _ _).alloc (Nat.le_refl _) _).cell (p := ⟨w4.heap.size, j, none⟩) (by simp)).trans (cell_newA w4 #[.int .u8 10, .int .u64 0, .string ⟨#[]⟩, .string ⟨#[]⟩, .int .u32 0, .int .u64 0, .int .i64 0, .int .i64 0] _ _ rfl j u (by simpa using hu)))
        have k1 : ∀ j u, [Value.int .u8 10, .int .u64 0, .string ⟨#[]⟩, .string ⟨#[]⟩, .int .u32 0, .int .u64 0, .int .i64 0, .int .i64 0][j]? = some u → w7.cell? ⟨w4.heap.size + 1, j, none⟩ = some u := fun j u hu =>
          (hb7.cell (p := ⟨w4.heap.size + 1, j, none⟩) (by simp)).trans (cell_newA _ #[.int .u8 10, .int .u64 0, .string ⟨#[]⟩, .string ⟨#[]⟩, .int .u32 0, .int .u64 0, .int .i64 0, .int .i64 0] _ _ (by simp) j u (by simpa using hu))
        have kf : w7.frozen? ⟨w4.heap.size + 1, 0, none⟩ = false := (hb7.frozen (p := ⟨w4.heap.size + 1, 0, none⟩) (by simp)).trans (frozen_newA _ _ _ _ (by simp) 0)
        have a0 := k0 0 _ rfl
        have a1 := k0 1 _ rfl
        have a2 := k0 2 _ rfl
        have a3 := k0 3 _ rfl
        have a4 := k0 4 _ rfl
        have a5 := k0 5 _ rfl
        have a6 := k0 6 _ rfl
        have a7 := k0 7 _ rfl
        have x0 := k1 0 _ rfl
        have x1 := k1 1 _ rfl
        have x2 := k1 2 _ rfl
        have x3 := k1 3 _ rfl
        have x4 := k1 4 _ rfl
        have x5 := k1 5 _ rfl
        have x6 := k1 6 _ rfl
        have x7 := k1 7 _ rfl
        have hpn : B.p < w4.heap.size := hpn4
        have p72 := h7.out.2.1.wo.ho
        rw [hho.out] at p72
        clear hb7 k0 k1
        go_wp2_with fail
        refine (c_lives27 _).mono ?_
        rintro e w8 ⟨rfl, hb8⟩
        have hbe := Lib.hid (h7.out.1.bel)
        go_wp2
        go_ret
        exact ⟨rfl, hbe.out.trans (hb8.mono hbe.out.size)⟩
      · have han : anFlush st = 5 := by unfold anFlush; rw [if_neg (by simp [hok])]
        have hok : epFlushOk st = false := by simpa using hok
        rw [han] at HG
        have HOK := Lib.hid hok
        have heq := fun (W : World) => eql_an5 W
        clear han hok
        unfold anV at HG
        go_wp2_with fail
        refine (HG.out).mono ?_
        rintro e w4 ⟨rfl, hb4⟩
        have H4 := HR.out.below hb4
        have h5 := H4.below ((Below.refl _ _).alloc (Nat.le_refl _) (.cells #[.int .u8 5, .int .u64 0, .string ⟨#[]⟩, .string ⟨#[]⟩, .int .u32 0, .int .u64 0, .int .i64 0, .int .i64 0] 65))
        have h6 := Lib.hid (h5.below ((Below.refl _ _).alloc (Nat.le_refl _) (.cells #[.int .u8 10, .int .u64 0, .string ⟨#[]⟩, .string ⟨#[]⟩, .int .u32 0, .int .u64 0, .int .i64 0, .int .i64 0] 65)))
        have hpn4 := H4.2.1.wo.lt
        have hw4 := H4.1.bel.size
        clear hb4 H4 h5
        go_wp2_with fail
        refine (c_Flush st d _ hst.1 (by omega) d0 d1).mono ?_
        rintro e w7 ⟨rfl, hb7⟩
        rw [HOK.out]
        have h7 := Lib.hid (h6.out.below hb7)
        have hz7 : w4.heap.size + 1 + 1 ≤ w7.heap.size := by have := hb7.size; simp at this; omega
        have k0 : ∀ j u, [Value.int .u8 5, .int .u64 0, .string ⟨#[]⟩, .string ⟨#[]⟩, .int .u32 0, .int .u64 0, .int .i64 0, .int .i64 0][j]? = some u → w7.cell? ⟨w4.heap.size, j, none⟩ = some u := fun j u hu =>
          (hb7.cell (p := ⟨w4.heap.size, j, none⟩) (by simp; omega)).trans ((((Below.refl _ _).alloc (Nat.le_refl _) _).cell (p := ⟨w4.heap.size, j, none⟩) (by simp)).trans (cell_newA w4 #[.int .u8 5, .int .u64 0, .string ⟨#[]⟩, .string ⟨#[]⟩, .int .u32 0, .int .u64 0, .int .i64 0, .int .i64 0] _ _ rfl j u (by simpa using hu)))
        have k1 : ∀ j u, [Value.int .u8 10, .int .u64 0, .string ⟨#[]⟩, .string ⟨#[]⟩, .int .u32 0, .int .u64 0, .int .i64 0, .int .i64 0][j]? = some u → w7.cell? ⟨w4.heap.size + 1, j, none⟩ = some u := fun j u hu =>
          (hb7.cell (p := ⟨w4.heap.size + 1, j, none⟩) (by simp)).trans (cell_newA _ #[.int .u8 10, .int .u64 0, .string ⟨#[]⟩, .string ⟨#[]⟩, .int .u32 0, .int .u64 0, .int .i64 0, .int .i64 0] _ _ (by simp) j u (by simpa using hu))
        have kf : w7.frozen? ⟨w4.heap.size + 1, 0, none⟩ = false := (hb7.frozen (p := ⟨w4.heap.size + 1, 0, none⟩) (by simp)).trans (frozen_newA _ _ _ _ (by simp) 0)
        have a0 := k0 0 _ rfl
        have a1 := k0 1 _ rfl
        have a2 := k0 2 _ rfl
        have a3 := k0 3 _ rfl
        have a4 := k0 4 _ rfl
        have a5 := k0 5 _ rfl
        have a6 := k0 6 _ rfl
        have a7 := k0 7 _ rfl
        have x0 := k1 0 _ rfl
        have x1 := k1 1 _ rfl
        have x2 := k1 2 _ rfl
        have x3 := k1 3 _ rfl
        have x4 := k1 4 _ rfl
        have x5 := k1 5 _ rfl
        have x6 := k1 6 _ rfl
        have x7 := k1 7 _ rfl
        have hpn : B.p < w4.heap.size := hpn4
        have p72 := h7.out.2.1.wo.ho
        rw [hho.out] at p72
        clear hb7 k0 k1
        go_wp2_with fail
        refine (c_lives27 _).mono ?_
        rintro e w8 ⟨rfl, hb8⟩
        have hbe := Lib.hid (h7.out.1.bel)
        go_wp2
        go_ret
        have hbs := hbe.out.setCell (p := ⟨w4.heap.size + 1, 0, none⟩) (by have := hw4; show w.heap.size ≤ w4.heap.size + 1; omega) (.int .u8 5)
        exact ⟨rfl, hbs.trans (hb8.mono hbs.size)⟩
end Go.Proofs.Ytijifjiehldcaaa
