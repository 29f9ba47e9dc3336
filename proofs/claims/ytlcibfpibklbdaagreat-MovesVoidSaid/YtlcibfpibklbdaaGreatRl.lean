/- Layer 18: the program's Room: a new one; a look into a bucket that has a free slot; what it got. -/
import Derived.Test.YtlcibfpibklbdaaGreatRk
namespace Go.Proofs.YtlcibfpibklbdaaGreat
set_option linter.unusedSimpArgs false
open Go.RowKit Go.Shelf
set_option linter.unusedVariables false


section
variable {X : Nat} {w : World} {O : Om} {B : Wb} {f : Cf} {s : AW} {k : Nat}
set_option maxHeartbeats 4000000 in
set_option maxRecDepth 100000 in
theorem c_NewRoom (b h : Int) (b0 : -9223372036854775808 ≤ b) (b1 : b ≤ 9223372036854775807) (h0 : 0 ≤ h) (h1 : h < 18446744073709551616) (hk : 10 ≤ k) (hhi : ∀ j, O j ≠ 0 → j < w.heap.size) :
    Calls Tryz.prog 215 #[.int .i64 b, .int .u64 h] w fun e w' => ∃ R, RP (fun t => t = k ∨ t = k + 1) w O (.pointer (some ⟨R, 0, none⟩)) (fun W G => RoomAt W G k R (rmNew b h)) e w' := by
  obtain ⟨z, hz⟩ : ∃ z, z = rmNew b h := ⟨_, rfl⟩
  rw [← hz]
  unfold rmNew at hz
  have HS := Lib.hid (fun W => c_Size b W b0 b1)
  have HB := Lib.hid (fun W => c_fBucket h b W h0 h1 b0 b1)
  have HT := Lib.hid (fun W => c_fTag h W h0 h1)
  have ht := fnvTag_bd h h0 h1
  have HH := Lib.hid hhi
  by_cases hb : 1 ≤ b ∧ b ≤ 12
  · rw [if_pos hb] at hz
    have hs := fnvSize_pos hb.1 hb.2
    have hd : (fnvSize b == 0) = false := by simp; omega
    have hbk := fnvBucket_bd (h := h) hb.1 hb.2
    have hsz := fnvSize_bd b
    have HO := Lib.hid (fun W => c_fOther (fnvBucket h b) (fnvTag h) b W (by omega) (by omega) (by omega) (by omega) b0 b1)
    obtain ⟨bk, hbk2⟩ : ∃ x, x = fnvBucket h b := ⟨_, rfl⟩
    rw [← hbk2] at HB HO hz
    obtain ⟨tg, htg⟩ : ∃ x, x = fnvTag h := ⟨_, rfl⟩
    rw [← htg] at HT HO hz
    obtain ⟨ot, hot⟩ : ∃ x, x = fnvOther bk tg b := ⟨_, rfl⟩
    rw [← hot] at HO hz
    obtain ⟨sz, hsz2⟩ : ∃ x, x = fnvSize b := ⟨_, rfl⟩
    rw [← hsz2] at HS hd
    have HZ := Lib.hid hz
    clear ht hs hbk hsz hbk2 htg hot hsz2 hz hhi hb b0 b1 h0 h1
    obtain ⟨G1, e1, a1, k1⟩ := alloc_ob HH.out (k + 1) #[.int .i64 bk] 3 w.heap.size rfl
    obtain ⟨G2, e2, x2, k2⟩ := alloc_ob e1.hi k #[.int .i64 b, .slice (some ⟨w.heap.size, 0, none⟩) 1 1, .int .i64 bk, .int .i64 ot, LOOKR, .pointer none, .pointer none, .int .i64 0, .int .i64 0, .int .i64 0, .bool false] 339 (w.heap.size + 1) (by simp)
    have HE := Lib.hid (And.intro ((e1.mono (T := fun t => t = k ∨ t = k + 1) fun t _ h => .inr h).trans (e2.mono fun t _ h => .inl h)) (And.intro x2 (k2 _ _ _ a1)))
    clear e1 a1 k1 e2 x2 k2
    by_cases hq : ot = bk
    · have dq : (ot != bk) = false := by simp [hq]
      have HQ := Lib.hid hq
      clear hq
      go_enter Tryz.func215, Tryz.ntmps215
      go_wp2_with fail
      refine (HS.out _).mono ?_
      rintro e w' ⟨rfl, rfl⟩
      go_wp2_with fail
      refine (HB.out _).mono ?_
      rintro e w' ⟨rfl, rfl⟩
      go_wp2_with fail
      refine (HT.out _).mono ?_
      rintro e w' ⟨rfl, rfl⟩
      go_wp2_with fail
      refine (HO.out _).mono ?_
      rintro e w' ⟨rfl, rfl⟩
      go_wp2_with fail
      go_ret
      rw [HZ.out]
      refine ⟨_, rfl, G2, HE.out.1, _, _, _, HE.out.2.1, fun _ => ?_, fun g => absurd g (by dsimp only; omega), fun g => absurd g (by dsimp only; omega)⟩
      unfold rmLeft
      dsimp only
      rw [if_pos rfl, if_pos HQ.out]
      exact Sls.of_ob HE.out.2.2 rfl (by unfold maxLen; decide)
    · have dq : (ot != bk) = true := by simp [hq]
      have HQ := Lib.hid hq
      obtain ⟨i0, hi, hz0, hz1, hz2⟩ := info_parts infoInt
      have HI := Lib.hid (And.intro hi (And.intro hz0 (And.intro hz1 hz2)))
      clear hq hi hz0 hz1 hz2
      go_enter Tryz.func215, Tryz.ntmps215
      go_wp2_with fail
      refine (HS.out _).mono ?_
      rintro e w' ⟨rfl, rfl⟩
      go_wp2_with fail
      refine (HB.out _).mono ?_
      rintro e w' ⟨rfl, rfl⟩
      go_wp2_with fail
      refine (HT.out _).mono ?_
      rintro e w' ⟨rfl, rfl⟩
      go_wp2_with fail
      refine (HO.out _).mono ?_
      rintro e w' ⟨rfl, rfl⟩
      go_upto_region 7 with fail
      obtain ⟨W, hW⟩ : ∃ W, W = (w.alloc (.cells #[.int .i64 bk] 3)).alloc (.cells #[.int .i64 b, .slice (some ⟨w.heap.size, 0, none⟩) 1 1, .int .i64 bk, .int .i64 ot, LOOKR, .pointer none, .pointer none, .int .i64 0, .int .i64 0, .int .i64 0, .bool false] 339) := ⟨_, rfl⟩
      rw [← hW] at HE
      obtain ⟨N, hN⟩ : ∃ N, N = w.heap.size := ⟨_, rfl⟩
      rw [← hN] at HE
      have hL : LOOKR = .func (.func 238) #[] #[] := rfl
      rw [hL] at hW
      rw [← hN] at hW ⊢
      rw [← hW]
      clear hL hW hN
      have x1 := HE.out.2.1.c 1 _ rfl
      have f1 := HE.out.2.1.f 1
      have S1 := Lib.hid (Sls.of_ob (n := 1) (size := 1) HE.out.2.2 rfl (by unfold maxLen; decide))
      go_wp2_with (at_builtin; refine append_sls W rfl _ _ 314 rfl 3 i0 (.int .i64 0) 1 8 Tryz.underlying314 HI.out.1 HI.out.2.1 HI.out.2.2.1 HI.out.2.2.2 rfl (by decide) G2 (k + 1) (by omega) HE.out.1.hi (.slice (some ⟨N, 0, none⟩) 1 1) 1 [.int .i64 bk] rfl S1.out 1 (by decide) [.int .i64 ot] _ rfl rfl (by simp [Value.oneCell']) (by unfold maxLen; decide) (by decide) ?_; intro b3 o3 c3 w3 G3 e3 s3; have HE3 := Lib.hid (And.intro e3 s3); have x13 := (HE.out.2.1.ext e3 (by omega)).c 1 _ rfl; have f13 := (HE.out.2.1.ext e3 (by omega)).f 1; clear e3 s3)
      go_ret
      rw [HZ.out]
      have y3 := HE.out.2.1.ext HE3.out.1 (by omega)
      have e4 := ext_set (j := 1) (v := .slice (some ⟨b3, o3, none⟩) (1 + 1) c3) HE3.out.1.hi y3 hk
      refine ⟨_, rfl, G3, (HE.out.1.trans (HE3.out.1.mono fun t _ h => .inr h)).trans (e4.mono fun t _ h => .inl h), _, .pointer none, .pointer none, y3.set 1 (.slice (some ⟨b3, o3, none⟩) (1 + 1) c3) (by simp), fun _ => ?_, fun g => absurd g (by dsimp only; omega), fun g => absurd g (by dsimp only; omega)⟩
      unfold rmLeft
      dsimp only
      rw [if_pos rfl, if_neg HQ.out]
      exact HE3.out.2.ext e4 (by omega)
  · rw [if_neg hb] at hz
    have hs : fnvSize b = 0 := fnvSize_out (by omega)
    rw [hs] at HS
    obtain ⟨G, e2, x2, -⟩ := alloc_ob hhi k #[.int .i64 0, .slice none 0 0, .int .i64 0, .int .i64 0, .nilFunc, .pointer none, .pointer none, .int .i64 0, .int .i64 0, .int .i64 0, .bool false] 339 w.heap.size rfl
    have HE := Lib.hid (And.intro e2 x2)
    have HZ := Lib.hid hz
    clear e2 x2 hz hhi hb hs ht
    go_enter Tryz.func215, Tryz.ntmps215
    go_wp2_with fail
    refine (HS.out _).mono ?_
    rintro e w' ⟨rfl, rfl⟩
    go_wp2_with fail
    go_ret
    rw [HZ.out]
    exact ⟨_, rfl, G, HE.out.1.mono fun t _ h => .inl h, _, _, _, HE.out.2, fun g => absurd g (by dsimp only; omega), fun g => absurd g (by dsimp only; omega), fun g => absurd g (by dsimp only; omega)⟩
set_option maxHeartbeats 2000000 in
set_option maxRecDepth 100000 in
/-- It ends with a slot. -/
theorem c_RmEnds (bv dv wv hv : Value) (b a c : Int) (p0 p : Spt) (is : Bool) (hx : Ob w O k X (rmCs b bv a c dv wv hv p0 is)) (hk : 10 ≤ k) (hhi : ∀ j, O j ≠ 0 → j < w.heap.size) :
    Calls Tryz.prog 247 #[.pointer (some ⟨X, 0, none⟩), .agg #[.int .i64 p.b, .int .i64 p.q, .int .i64 p.s]] w (RP (fun t => t = k) w O (.tuple #[]) fun W G => Ob W G k X (rmCs b bv a c .nilFunc wv hv p true)) := by
  have E0 := Ext.of_below (S := fun t => t = k) hhi ((Below.refl _ w).alloc (Nat.le_refl _) (.cells #[.int .i64 p.b, .int .i64 p.q, .int .i64 p.s] 45))
  have X0 := hx.below ((Below.refl _ w).alloc (Nat.le_refl _) (.cells #[.int .i64 p.b, .int .i64 p.q, .int .i64 p.s] 45))
  obtain ⟨W, hW⟩ : ∃ W, W = w.alloc (.cells #[.int .i64 p.b, .int .i64 p.q, .int .i64 p.s] 45) := ⟨_, rfl⟩
  have c0 : W.cell? ⟨w.heap.size, 0, none⟩ = some (.int .i64 p.b) := by rw [hW]; simp
  have c1 : W.cell? ⟨w.heap.size, 1, none⟩ = some (.int .i64 p.q) := by rw [hW]; simp
  have c2 : W.cell? ⟨w.heap.size, 2, none⟩ = some (.int .i64 p.s) := by rw [hW]; simp
  rw [← hW] at E0 X0
  have hne : ¬ w.heap.size = X := by have := hx.lt; omega
  obtain ⟨n, hn⟩ : ∃ n, n = w.heap.size := ⟨_, rfl⟩
  rw [← hn] at c0 c1 c2 hne
  have y4 := X0.c 4 _ rfl
  have y7 := X0.c 7 _ rfl
  have y8 := X0.c 8 _ rfl
  have y9 := X0.c 9 _ rfl
  have y10 := X0.c 10 _ rfl
  have q4 := X0.f 4
  have q7 := X0.f 7
  have q8 := X0.f 8
  have q9 := X0.f 9
  have q10 := X0.f 10
  have HN := Lib.hid (And.intro hn hW)
  have HX := Lib.hid (And.intro E0 X0)
  clear hx E0 X0 hn hW hhi
  go_enter Tryz.func247, Tryz.ntmps247
  go_upto_region 1 with fail
  rw [← HN.out.1, ← HN.out.2]
  go_wp2_with fail
  go_end0
  have r7 := HX.out.2.set 7 (.int .i64 p.b) (by simp [rmCs])
  have e7 := ext_set (j := 7) (v := .int .i64 p.b) HX.out.1.hi HX.out.2 hk
  have r8 := r7.set 8 (.int .i64 p.q) (by simp [rmCs])
  have e8 := ext_set (j := 8) (v := .int .i64 p.q) e7.hi r7 hk
  have r9 := r8.set 9 (.int .i64 p.s) (by simp [rmCs])
  have e9 := ext_set (j := 9) (v := .int .i64 p.s) e8.hi r8 hk
  have r10 := r9.set 10 (.bool true) (by simp [rmCs])
  have e10 := ext_set (j := 10) (v := .bool true) e9.hi r9 hk
  have r4 := r10.set 4 (.nilFunc) (by simp [rmCs])
  have e4 := ext_set (j := 4) (v := .nilFunc) e10.hi r10 hk
  exact ⟨rfl, O, HX.out.1.trans (e7.trans (e8.trans (e9.trans (e10.trans e4)))), r4⟩
set_option maxHeartbeats 4000000 in
set_option maxRecDepth 100000 in
/-- A look into a bucket that has a free slot. -/
theorem c_RmLookFree (b q a c : Int) (l : List Int) (bv wv hv : Value) (p : Spt) (is : Bool) (hP : PW w O B f s) (hx : Ob w O k X (rmCs b bv a c LOOKR wv hv p is)) (hS : Sls w O (k + 1) 1 bv (l.length + 1) ((q :: l).map (Value.int .i64)))
    (hb : 1 ≤ b ∧ b ≤ 12) (hq : 0 ≤ q ∧ q < fnvSize b) (hf : 0 ≤ twFree (s.M (plTags b q))) (hk : 10 ≤ k) (hhi : ∀ j, O j ≠ 0 → j < w.heap.size) (n0 : 0 ≤ s.n) (n1 : s.n ≤ 4611686018427387904) :
    Calls Tryz.prog 238 #[.pointer (some ⟨X, 0, none⟩), .pointer (some ⟨B.p, 0, none⟩)] w (RP (SX k (k + 1)) w O (.tuple #[]) fun W G => PW W G B f (awLoad (plTags b q) s) ∧ ∃ bv', Ob W G k X (rmCs b bv' a c .nilFunc wv hv ⟨b, q, twFree (s.M (plTags b q))⟩ true)) := by
  obtain ⟨A, o, cp, rfl, hc1, hc2⟩ := hS.open (by omega)
  have a0 := hS.c 0 _ rfl
  rw [Nat.add_zero] at a0
  have hT := hS.tail (o' := if cp = 1 then o else o + 1) (by by_cases h : cp = 1; rw [if_pos h]; exact .inr ⟨h, rfl⟩; rw [if_neg h]; exact .inl rfl)
  have hsz := fnvSize_bd b
  have ht := plTags_in hq
  have HT := Lib.hid (fun W => c_Tags b q W (by omega) (by omega) (by omega) (by omega))
  have hbd := hP.bd (plTags b q)
  have HF := Lib.hid (fun W => c_TwFree (s.M (plTags b q)) W hbd.1 hbd.2)
  have hta : 0 ≤ plTags b q ∧ plTags b q < 18446744073709551616 := by omega
  have HM : Hid (Me k (k + 1) w O w O B f s k X (rmCs b (.slice (some ⟨A, o, none⟩) (l.length + 1) cp) a c LOOKR wv hv p is)) := Lib.hid (Me.start hhi hP hx)
  obtain ⟨ta, hta2⟩ : ∃ x, x = plTags b q := ⟨_, rfl⟩
  rw [← hta2] at HT HF hta hf ⊢
  obtain ⟨fr, hfr⟩ : ∃ x, x = twFree (s.M ta) := ⟨_, rfl⟩
  rw [← hfr] at HF hf ⊢
  have HTA := Lib.hid hta
  have HL := Lib.hid hS
  have x0 := hx.c 0 _ rfl
  have x1 := hx.c 1 _ rfl
  have f1 := hx.f 1
  have pp := hP.wo.c0
  have hXA : ¬ A = X := fun e => by have h1 := hx.o; have h2 := hS.lt.2; rw [← e, h2] at h1; omega
  have hXB : ¬ B.p = X := hP.ne_obj hx hk
  have dfr : decide (0 ≤ fr) = true := by simp [hf]
  have hXl := hx.lt
  have hAl := hS.lt.1
  have hBl := hP.wo.lt
  have hl0 : (0 : Int) < (l.length : Int) + 1 := by omega
  obtain ⟨e1, t1⟩ := alloc_nbH (S := SX k (k + 1)) hhi #[.int .i64 b, .int .i64 q] 43 w.heap.size rfl
  have hbw : Below w.heap.size w ((w.alloc (.cells #[.int .i64 b, .int .i64 q] 43)).drew) := ((Below.refl _ w).alloc (Nat.le_refl _) _).drew
  have T1 := Lib.hid (t1.below (drew_below _))
  have M1 := Lib.hid (HM.out.below hbw)
  have hXN : ¬ X = w.heap.size := by omega
  have hl1 : (1 : Int) ≤ (l.length : Int) + 1 := by omega
  clear hP hx hS hT hhi hta hta2 hfr hf hbd ht hsz e1 t1 hbw
  by_cases hcp : cp = 1
  · subst hcp
    go_enter Tryz.func238, Tryz.ntmps238
    go_wp2_with fail
    go_region
    all_goals
      obtain ⟨W1, hW1⟩ : ∃ W, W = (w.alloc (.cells #[.int .i64 b, .int .i64 q] 43)).drew := ⟨_, rfl⟩
      rw [← hW1] at M1 T1 ⊢
      obtain ⟨N, hN⟩ : ∃ N, N = w.heap.size := ⟨_, rfl⟩
      rw [← hN] at T1 hXN ⊢
      clear hW1 hN x0 x1 f1 a0 pp
      have x1 := M1.out.t.c 1 _ rfl
      have f1 := M1.out.t.f 1
      go_upto_region 2 with fail
      obtain ⟨V, hV⟩ : ∃ V : Value, V = .slice (some ⟨A, o, none⟩) 0 0 := ⟨_, rfl⟩
      rw [← hV]
      have M2 := Lib.hid (M1.out.set hk (Nat.le_refl _) (by omega) 1 V (by simp [rmCs]))
      have T2 := Lib.hid (T1.out.other (b2 := X) (j := 1) (v := V) hXN)
      obtain ⟨W2, hW2⟩ : ∃ W, W = W1.setCell ⟨X, 1, none⟩ V := ⟨_, rfl⟩
      rw [← hW2] at M2 T2 ⊢
      clear hW2 x1 f1 hV
      have p0 := M2.out.p.wo.c0
      have t0 := T2.out.c 0 _ rfl
      have t1 := T2.out.c 1 _ rfl
      go_region_held3 (fun w' => w'.cell? ⟨B.p, 0, none⟩ = some (.pointer (some ⟨B.c, 0, none⟩)) ∧ w'.cell? ⟨N, 0, none⟩ = some (.int .i64 b) ∧ w'.cell? ⟨N, 1, none⟩ = some (.int .i64 q)) (go_keep)
        ((first
          | (go_at_call 75
             refine (HT.out _).mono ?_
             rintro e w3 ⟨rfl, hb3⟩
             have M3 := Lib.hid (M2.out.drew.below hb3)
             have T3 := Lib.hid ((T2.out.below (drew_below _)).below hb3)
             have p03 := M3.out.p.wo.c0
             have t03 := T3.out.c 0 _ rfl
             have t13 := T3.out.c 1 _ rfl
             clear hb3)
          | (go_at_call 81
             refine (c_LoadP ta M3.out.p M3.out.e.hi HTA.out.1 HTA.out.2 n0 n1).mono ?_
             rintro e w4 ⟨rfl, G4, e4, P4⟩
             have M4 := Lib.hid (M3.out.world hk e4 P4)
             have T4 := Lib.hid (T3.out.ext e4 sw0)
             have p04 := M4.out.p.wo.c0
             have t04 := T4.out.c 0 _ rfl
             have t14 := T4.out.c 1 _ rfl
             clear e4 P4)
          | (go_at_call 246
             refine (HF.out _).mono ?_
             rintro e w5 ⟨rfl, hb5⟩
             have M5 := Lib.hid (M4.out.below hb5)
             have T5 := Lib.hid (T4.out.below hb5)
             have p05 := M5.out.p.wo.c0
             have t05 := T5.out.c 0 _ rfl
             have t15 := T5.out.c 1 _ rfl
             clear hb5)))
      all_goals
        clear p0 t0 t1 p03 t03 t13 p04 t04 t14
        have HEN := Lib.hid (c_RmEnds _ _ _ _ _ _ _ p ⟨b, q, fr⟩ is M5.out.t hk M5.out.e.hi)
        go_wp2_with fail
        refine HEN.out.mono ?_
        rintro e w6 ⟨rfl, G6, e6, x6⟩
        have P6 := M5.out.p.ext e6 (by omega) (by omega) (by omega) (by omega)
        have HX := Lib.hid (And.intro (M5.out.e.trans (e6.mono fun t _ h => .inr (by omega))) (And.intro P6 x6))
        clear e6 x6 P6 HEN
        go_wp2
        go_end0
        exact ⟨rfl, G6, HX.out.1, HX.out.2.1, V, HX.out.2.2⟩
  ·
    go_enter Tryz.func238, Tryz.ntmps238
    go_wp2_with fail
    go_region
    all_goals
      obtain ⟨W1, hW1⟩ : ∃ W, W = (w.alloc (.cells #[.int .i64 b, .int .i64 q] 43)).drew := ⟨_, rfl⟩
      rw [← hW1] at M1 T1 ⊢
      obtain ⟨N, hN⟩ : ∃ N, N = w.heap.size := ⟨_, rfl⟩
      rw [← hN] at T1 hXN ⊢
      clear hW1 hN x0 x1 f1 a0 pp
      have x1 := M1.out.t.c 1 _ rfl
      have f1 := M1.out.t.f 1
      go_upto_region 2 with fail
      obtain ⟨V, hV⟩ : ∃ V : Value, V = .slice (some ⟨A, o + 1, none⟩) l.length (cp - 1) := ⟨_, rfl⟩
      rw [← hV]
      have M2 := Lib.hid (M1.out.set hk (Nat.le_refl _) (by omega) 1 V (by simp [rmCs]))
      have T2 := Lib.hid (T1.out.other (b2 := X) (j := 1) (v := V) hXN)
      obtain ⟨W2, hW2⟩ : ∃ W, W = W1.setCell ⟨X, 1, none⟩ V := ⟨_, rfl⟩
      rw [← hW2] at M2 T2 ⊢
      clear hW2 x1 f1 hV
      have p0 := M2.out.p.wo.c0
      have t0 := T2.out.c 0 _ rfl
      have t1 := T2.out.c 1 _ rfl
      go_region_held3 (fun w' => w'.cell? ⟨B.p, 0, none⟩ = some (.pointer (some ⟨B.c, 0, none⟩)) ∧ w'.cell? ⟨N, 0, none⟩ = some (.int .i64 b) ∧ w'.cell? ⟨N, 1, none⟩ = some (.int .i64 q)) (go_keep)
        ((first
          | (go_at_call 75
             refine (HT.out _).mono ?_
             rintro e w3 ⟨rfl, hb3⟩
             have M3 := Lib.hid (M2.out.drew.below hb3)
             have T3 := Lib.hid ((T2.out.below (drew_below _)).below hb3)
             have p03 := M3.out.p.wo.c0
             have t03 := T3.out.c 0 _ rfl
             have t13 := T3.out.c 1 _ rfl
             clear hb3)
          | (go_at_call 81
             refine (c_LoadP ta M3.out.p M3.out.e.hi HTA.out.1 HTA.out.2 n0 n1).mono ?_
             rintro e w4 ⟨rfl, G4, e4, P4⟩
             have M4 := Lib.hid (M3.out.world hk e4 P4)
             have T4 := Lib.hid (T3.out.ext e4 sw0)
             have p04 := M4.out.p.wo.c0
             have t04 := T4.out.c 0 _ rfl
             have t14 := T4.out.c 1 _ rfl
             clear e4 P4)
          | (go_at_call 246
             refine (HF.out _).mono ?_
             rintro e w5 ⟨rfl, hb5⟩
             have M5 := Lib.hid (M4.out.below hb5)
             have T5 := Lib.hid (T4.out.below hb5)
             have p05 := M5.out.p.wo.c0
             have t05 := T5.out.c 0 _ rfl
             have t15 := T5.out.c 1 _ rfl
             clear hb5)))
      all_goals
        clear p0 t0 t1 p03 t03 t13 p04 t04 t14
        have HEN := Lib.hid (c_RmEnds _ _ _ _ _ _ _ p ⟨b, q, fr⟩ is M5.out.t hk M5.out.e.hi)
        go_wp2_with fail
        refine HEN.out.mono ?_
        rintro e w6 ⟨rfl, G6, e6, x6⟩
        have P6 := M5.out.p.ext e6 (by omega) (by omega) (by omega) (by omega)
        have HX := Lib.hid (And.intro (M5.out.e.trans (e6.mono fun t _ h => .inr (by omega))) (And.intro P6 x6))
        clear e6 x6 P6 HEN
        go_wp2
        go_end0
        exact ⟨rfl, G6, HX.out.1, HX.out.2.1, V, HX.out.2.2⟩
end
end Go.Proofs.YtlcibfpibklbdaaGreat
