/- Layer 22: the document's Touch. -/
import Derived.Test.YtijifjiehldcaaaGreatRw
import Derived.Test.YtijifjiehldcaaaGreatRfStep
import Derived.Test.YtijifjiehldcaaaGreatFlN
namespace Go.Proofs.YtijifjiehldcaaaGreat
set_option linter.unusedSimpArgs false
open Go.RowKit
set_option linter.unusedVariables false

theorem c_rRef (r : Int) (w : World) (r0 : -9223372036854775808 ≤ r) (r1 : r ≤ 9223372036854775807) :
    Calls Tryz.prog 14 #[.int .i64 r] w fun e w' => e = .returned (.int .u64 (plRef r)) ∧ w = w' := by
  unfold plRef
  by_cases h : r < 1
  · have d : decide (r < 1) = true := by simp; omega
    rw [if_pos h]
    go_enter Tryz.func14, Tryz.ntmps14
    go_wp2
    go_ret
    exact ⟨rfl, rfl⟩
  · have d : decide (r < 1) = false := by simp; omega
    rw [if_neg h]
    go_enter Tryz.func14, Tryz.ntmps14
    go_wp2
    go_ret
    exact ⟨ret_int (by rw [IntKind.wrap_u64]; unfold wrap64; omega), rfl⟩
theorem c_rMarked (v : Int) (w : World) (v0 : 0 ≤ v) : Calls Tryz.prog 47 #[.int .u64 v] w fun e w' => e = .returned (.bool (rfMarked v)) ∧ w = w' := by
  go_enter Tryz.func47, Tryz.ntmps47
  go_wp2
  go_ret
  exact ⟨ret_bool (by unfold rfMarked; rw [Bool.eq_iff_iff]; simp; try omega), rfl⟩
theorem c_rLess (v : Int) (w : World) (v0 : 0 ≤ v) (v1 : v < 18446744073709551616) : Calls Tryz.prog 15 #[.int .u64 v] w fun e w' => e = .returned (.int .u64 (rfLess v)) ∧ w = w' := by
  unfold rfLess
  by_cases h : v % 2 = 1
  · have d : (v % 2 == 1) = true := by simp [h]
    go_enter Tryz.func15, Tryz.ntmps15
    go_wp2
    go_ret
    exact ⟨ret_int (by rw [IntKind.wrap_u64, h]), rfl⟩
  · have d : (v % 2 == 1) = false := by simp; omega
    go_enter Tryz.func15, Tryz.ntmps15
    go_wp2
    go_ret
    exact ⟨ret_int (by omega), rfl⟩
/-- The document's Touch in memory. -/
def rtCs (ln : Int) (dn : Bool) (r wd : Int) : List Value := [.int .i64 ln, .bool dn, .int .i64 r, .int .u64 wd]
/-- .. goes with the program's. -/
structure RtOk (T : Tc) (ln : Int) (dn : Bool) (r wd : Int) : Prop where
  z : T.at_ = 0 → ln = 0
  nz : T.at_ ≠ 0 → ln = T.next + 1 ∧ T.at_ = plRef r ∧ (T.next = 0 ∨ ((T.next = 1 ∨ T.next = 2) ∧ wd = T.word ∧ rfMarked T.word = false))
  dn : dn = T.done
  r0 : -9223372036854775808 ≤ r
  r1 : r ≤ 9223372036854775807
theorem c_rNewT (r : Int) {w : World} {O : Om} (k : Nat) (hhi : ∀ j, O j ≠ 0 → j < w.heap.size) (r0 : -9223372036854775808 ≤ r) (r1 : r ≤ 9223372036854775807) :
    Calls Tryz.prog 11 #[.int .i64 r] w fun e w' => ∃ R ln, RP (fun t => t = k) w O (.pointer (some ⟨R, 0, none⟩)) (fun W G => R = w.heap.size ∧ ∃ r', Ob W G k R (rtCs ln false r' 0) ∧ RtOk (tcNew (plRef r)) ln false r' 0) e w' := by
  by_cases h : r < 1
  · have d : decide (r < 1) = true := by simp; omega
    have hp : plRef r = 0 := by unfold plRef; rw [if_pos h]
    obtain ⟨O1, e1, x1, -⟩ := alloc_ob hhi k (rtCs 0 false 0 0).toArray 56 w.heap.size rfl
    clear h
    go_enter Tryz.func11, Tryz.ntmps11
    go_wp2
    go_ret
    exact ⟨w.heap.size, 0, rfl, O1, e1, rfl, 0, x1, ⟨fun _ => rfl, fun h => absurd rfl h, rfl, by decide, by decide⟩⟩
  · have d : decide (r < 1) = false := by simp; omega
    have hp : plRef r ≠ 0 := by unfold plRef; rw [if_neg h]; omega
    obtain ⟨O1, e1, x1, -⟩ := alloc_ob hhi k (rtCs 1 false r 0).toArray 56 w.heap.size rfl
    clear h
    go_enter Tryz.func11, Tryz.ntmps11
    go_wp2
    go_ret
    exact ⟨w.heap.size, 1, rfl, O1, e1, rfl, r, x1, ⟨fun h => absurd h hp, fun _ => ⟨rfl, rfl, .inl rfl⟩, rfl, r0, r1⟩⟩
theorem RW.up {w : World} {O : Om} {C : Wb} {f : Cf} {s : AW} {m m' : Nat} (h : RW w O C f s m) (hm : m ≤ m') : RW w O C f s m' := by
  obtain ⟨v, L, h1, h2, h3, h4, h5, h6, h7⟩ := h.ce.ex
  exact ⟨h.o, h.wo, ⟨v, L, h1, h2, h3, Nat.le_trans h4 hm, h5, h6, h7⟩, h.ar, h.no⟩
/-- The document's world's owners, and owner k. -/
def SK (k t : Nat) : Prop := SR t ∨ t = k
def awOf (z : TM) (s : AW) : AW := ⟨z.M, z.n, z.la, s.tk, s.ho, s.it, s.nt⟩
theorem rfMark_even {v : Int} (h : rfMarked v = false) : rfMark v = v + 1 := by unfold rfMarked at h; unfold rfMark; simp at h; omega
/-- Behind a step of the document's Touch. -/
def RtPost (C : Wb) (f : Cf) (s : AW) (m k R : Nat) (r : Int) (z : TM) (W : World) (G : Om) : Prop := RW W G C f (awOf z s) (m + 1) ∧ ∃ ln' dn' wd', Ob W G k R (rtCs ln' dn' r wd') ∧ RtOk z.t ln' dn' r wd'
set_option maxHeartbeats 4000000 in
set_option maxRecDepth 100000 in
theorem c_rTStep {R : Nat} {T : Tc} {ln : Int} {dn : Bool} {r wd : Int} {w : World} {O : Om} {C : Wb} {f : Cf} {s : AW} {m : Nat} (k : Nat) (h : RW w O C f s m) (hR : Ob w O k R (rtCs ln dn r wd)) (ho : RtOk T ln dn r wd) (hok : T.ok) (hm : m ≤ 900000) (hk : 10 ≤ k) (hhi : ∀ j, O j ≠ 0 → j < w.heap.size) (n0 : 0 ≤ s.n) (n1 : s.n ≤ 4611686018427387904) :
    Calls Tryz.prog 17 #[.pointer (some ⟨R, 0, none⟩), .pointer (some ⟨C.p, 0, none⟩)] w (RP (SK k) w O (.tuple #[]) (RtPost C f s m k R r (tcStep ⟨s.M, s.n, s.la, T⟩))) := by
  obtain ⟨Z, hZ⟩ : ∃ Z, Z = tcStep ⟨s.M, s.n, s.la, T⟩ := ⟨_, rfl⟩
  rw [← hZ]
  obtain ⟨a, nx, word, done⟩ := T
  obtain ⟨hz, hnz, hdn, r0, r1⟩ := ho
  obtain ⟨a0, a1, w0, w1, hx⟩ := hok
  dsimp only at hz hnz hdn a0 a1 w0 w1 hx
  have HZ := Lib.hid hZ
  clear hZ
  have HO := Lib.hid hR
  have HR := Lib.hid h
  have HH := Lib.hid hhi
  have hnk : ∀ {t : Nat}, SR t → t ≠ k := fun h => by have := h.2; omega
  have HNK := Lib.hid (fun t (h : SR t) => show ¬ t = k from hnk h)
  have c0 := hR.c 0 _ rfl
  by_cases ha : a = 0
  · obtain rfl := hz ha
    have e : tcStep ⟨s.M, s.n, s.la, ⟨a, nx, word, done⟩⟩ = ⟨s.M, s.n, s.la, ⟨a, nx, word, done⟩⟩ := by unfold tcStep; dsimp only; rw [if_pos ha]
    have HE := Lib.hid e
    clear h hR hhi e hnk hz hnz hx
    go_enter Tryz.func17, Tryz.ntmps17
    go_wp2_with fail
    go_end0
    rw [HZ.out, HE.out]
    exact ⟨rfl, O, Ext.refl HH.out, (HR.out.up (Nat.le_succ m)), 0, dn, wd, HO.out, ⟨fun _ => rfl, fun h => absurd ha h, hdn, r0, r1⟩⟩
  · obtain ⟨rfl, hp, hw⟩ := hnz ha
    rcases hx ha with rfl | rfl | rfl
    · have e : tcStep ⟨s.M, s.n, s.la, ⟨a, 0, word, done⟩⟩ = ⟨s.M, s.n + 1, ⟨1, a, s.M a, s.M a⟩, ⟨if rfMarked (s.M a) then 0 else a, 1, s.M a, done⟩⟩ := by unfold tcStep; dsimp only; rw [if_neg ha, if_pos rfl]
      have HE := Lib.hid e
      have c2 := hR.c 2 _ rfl
      have HL := Lib.hid (c_rwLoad a h (by omega) a0 a1 hhi n0 n1)
      have HRf := Lib.hid (fun W => c_rRef r W r0 r1)
      rw [← hp] at HRf
      have HP := Lib.hid hp
      have hbd := h.ce.bd a
      have HMk := Lib.hid (fun W => c_rMarked (s.M a) W hbd.1)
      clear h hR hhi e hnk hbd hz hnz hw hx hp
      go_enter Tryz.func17, Tryz.ntmps17
      go_wp2_with fail
      refine (HRf.out _).mono ?_
      rintro e w' ⟨rfl, rfl⟩
      go_wp2_with fail
      refine HL.out.mono ?_
      rintro e w2 ⟨rfl, G2, e2, P2⟩
      have R2 := HO.out.ext e2 (fun h => HNK.out k h rfl)
      have q3 := R2.c 3 _ rfl
      have f3 := R2.f 3
      have q0 := R2.c 0 _ rfl
      have f0 := R2.f 0
      have s1 := ext_set (j := 3) (v := .int .u64 (s.M a)) e2.hi R2 hk
      have R3 := R2.set 3 (.int .u64 (s.M a)) (by simp [rtCs])
      have s2 := ext_set (j := 0) (v := .int .i64 2) s1.hi R3 hk
      have R4 := R3.set 0 (.int .i64 2) (by simp [rtCs])
      have E4 := Lib.hid (((e2.mono (T := SK k) fun t _ h => .inl h).trans (s1.mono fun t _ h => .inr h)).trans (s2.mono fun t _ h => .inr h))
      have W4 := Lib.hid ((P2.ext s1 (by omega) (by omega) (by omega) (by omega)).ext s2 (by omega) (by omega) (by omega) (by omega))
      have RR4 := Lib.hid R4
      have q3' := R4.c 3 _ rfl
      obtain ⟨w4, hw4⟩ : ∃ w4, w4 = (w2.setCell ⟨R, 3, none⟩ (.int .u64 (s.M a))).setCell ⟨R, 0, none⟩ (.int .i64 2) := ⟨_, rfl⟩
      clear e2 P2 R2 s1 R3 s2 R4 HL c0 c2
      go_wp2_with fail
      rw [← hw4] at q3' E4 W4 RR4 ⊢
      clear hw4 q3 f3 q0 f0
      go_wp2_with fail
      refine (HMk.out _).mono ?_
      rintro e w' ⟨rfl, rfl⟩
      cases hmk : rfMarked (s.M a)
      · go_wp2_with fail
        go_end0
        rw [HZ.out, HE.out, hmk]
        exact ⟨rfl, G2, E4.out, W4.out, 2, dn, s.M a, RR4.out, ⟨fun h => absurd h ha, fun _ => ⟨rfl, HP.out, .inr ⟨.inl rfl, rfl, hmk⟩⟩, hdn, r0, r1⟩⟩
      · have q0 := RR4.out.c 0 _ rfl
        have f0 := RR4.out.f 0
        have s3 := ext_set (j := 0) (v := .int .i64 0) E4.out.hi RR4.out hk
        have R5 := Lib.hid (RR4.out.set 0 (.int .i64 0) (by simp [rtCs]))
        have E5 := Lib.hid (E4.out.trans (s3.mono fun t _ h => .inr h))
        have W5 := Lib.hid (W4.out.ext s3 (by omega) (by omega) (by omega) (by omega))
        clear s3
        go_wp2_with fail
        go_end0
        rw [HZ.out, HE.out, hmk]
        exact ⟨rfl, G2, E5.out, W5.out, 0, dn, s.M a, R5.out, ⟨fun _ => rfl, fun h => absurd rfl h, hdn, r0, r1⟩⟩
    · obtain ⟨-, hwd, hmk⟩ : True ∧ wd = word ∧ rfMarked word = false := by rcases hw with h | ⟨-, h1, h2⟩; · omega
                                                                            · exact ⟨trivial, h1, h2⟩
      have e : tcStep ⟨s.M, s.n, s.la, ⟨a, 1, word, done⟩⟩ = ⟨s.M, s.n + 1, ⟨1, 5, s.M 5, s.M 5⟩, ⟨if s.M 5 ≠ 0 then 0 else a, 2, word, done⟩⟩ := by unfold tcStep; dsimp only; rw [if_neg ha, if_neg (by decide), if_pos rfl]
      have HE := Lib.hid e
      have f0 := hR.f 0
      have s1 := ext_set (j := 0) (v := .int .i64 3) hhi hR hk
      have R1 := Lib.hid (hR.set 0 (.int .i64 3) (by simp [rtCs]))
      have W1 := h.ext s1 (by omega) (by omega) (by omega) (by omega)
      have HL := Lib.hid (c_rwLoad 5 W1 (by omega) (by decide) (by decide) s1.hi n0 n1)
      have E1 := Lib.hid (s1.mono (T := SK k) fun t _ h => .inr h)
      have HP := Lib.hid hp
      have HWD := Lib.hid hwd
      have HMK := Lib.hid hmk
      clear h hR hhi e hnk hz hnz hw hx hp s1 W1 hwd hmk
      go_enter Tryz.func17, Tryz.ntmps17
      go_wp2_with fail
      refine HL.out.mono ?_
      rintro e w2 ⟨rfl, G2, e2, P2⟩
      have R2 := Lib.hid (R1.out.ext e2 (fun h => HNK.out k h rfl))
      have E2 := Lib.hid (E1.out.trans (e2.mono fun t _ h => .inl h))
      have W2 := Lib.hid P2
      clear e2 P2 HL c0 f0
      have q0 := R2.out.c 0 _ rfl
      have f0 := R2.out.f 0
      by_cases h5 : s.M 5 = 0
      · have d5 : (s.M 5 != 0) = false := by simp [h5]
        have H5 := Lib.hid h5
        clear h5
        go_wp2_with fail
        go_end0
        rw [HZ.out, HE.out, if_neg (fun h => h H5.out)]
        exact ⟨rfl, G2, E2.out, W2.out, 3, dn, wd, R2.out, ⟨fun h => absurd h ha, fun _ => ⟨rfl, HP.out, .inr ⟨.inr rfl, HWD.out, HMK.out⟩⟩, hdn, r0, r1⟩⟩
      · have d5 : (s.M 5 != 0) = true := by simp [h5]
        have H5 := Lib.hid h5
        have s3 := ext_set (j := 0) (v := .int .i64 0) E2.out.hi R2.out hk
        have R5 := Lib.hid (R2.out.set 0 (.int .i64 0) (by simp [rtCs]))
        have E5 := Lib.hid (E2.out.trans (s3.mono fun t _ h => .inr h))
        have W5 := Lib.hid (W2.out.ext s3 (by omega) (by omega) (by omega) (by omega))
        clear s3 h5
        go_wp2_with fail
        go_end0
        rw [HZ.out, HE.out, if_pos H5.out]
        exact ⟨rfl, G2, E5.out, W5.out, 0, dn, wd, R5.out, ⟨fun _ => rfl, fun h => absurd rfl h, hdn, r0, r1⟩⟩
    · obtain ⟨-, hwd, hmk⟩ : True ∧ wd = word ∧ rfMarked word = false := by rcases hw with h | ⟨-, h1, h2⟩; · omega
                                                                            · exact ⟨trivial, h1, h2⟩
      subst hwd
      have hev := rfMark_even hmk
      have hmk2 := hmk
      unfold rfMarked at hmk2
      have hwb : wd + 1 < 18446744073709551616 := by simp at hmk2; omega
      have hw1 : IntKind.u64.wrap (wd + 1) = wd + 1 := by rw [IntKind.wrap_u64]; omega
      obtain ⟨b, hb⟩ : ∃ b, b = (s.M a == wd) := ⟨_, rfl⟩
      have e : (tcStep ⟨s.M, s.n, s.la, ⟨a, 2, wd, done⟩⟩).t = ⟨0, 3, wd, b⟩ ∧ awOf (tcStep ⟨s.M, s.n, s.la, ⟨a, 2, wd, done⟩⟩) s = ⟨upd s.M a (if s.M a = wd then wd + 1 else s.M a), s.n + 1, ⟨3, a, s.M a, if s.M a = wd then wd + 1 else s.M a⟩, s.tk, s.ho, s.it, s.nt⟩ := by
        unfold tcStep awOf; dsimp only; rw [if_neg ha, if_neg (by decide), if_neg (by decide)]
        by_cases hm : s.M a = wd
        · rw [if_pos hm, if_pos hm, hb]
          refine ⟨by simp [hm], ?_⟩
          rw [hev, hm]
        · rw [if_neg hm, if_neg hm, hb]
          refine ⟨by simp [hm], ?_⟩
          have : upd s.M a (s.M a) = s.M := by funext x; unfold upd; split <;> simp_all
          rw [this]
      have HE := Lib.hid e
      have c2 := hR.c 2 _ rfl
      have c3 := hR.c 3 _ rfl
      have c1 := hR.c 1 _ rfl
      have HRf := Lib.hid (fun W => c_rRef r W r0 r1)
      rw [← hp] at HRf
      have R0 := Lib.hid (hR.below (drew_below w))
      have HC := Lib.hid (c_rwCAS a wd (wd + 1) (w := w.drew) (h.below hhi (drew_below w)) (by omega) a0 a1 (by omega) hwb hhi n0 n1)
      rw [← hb] at HC
      have E0 := Lib.hid ((Ext.refl (S := SK k) hhi).drew)
      clear h hR hhi e hnk hz hnz hw hx hp hb hev hmk hmk2
      go_enter Tryz.func17, Tryz.ntmps17
      go_wp2_with fail
      go_region_held3 (fun w' => w'.cell? ⟨R, 2, none⟩ = some (.int .i64 r) ∧ w'.cell? ⟨R, 3, none⟩ = some (.int .u64 wd)) (go_keep)
        ((first
          | (go_at_call 14
             refine (HRf.out _).mono ?_
             rintro e w' ⟨rfl, rfl⟩)
          | (go_at_call 48
             refine HC.out.mono ?_
             rintro e w2 ⟨rfl, G2, e2, P2⟩
             have R2 := R0.out.ext e2 (fun h => HNK.out k h rfl)
             have q1 := R2.c 1 _ rfl
             have q2 := R2.c 2 _ rfl
             have q3 := R2.c 3 _ rfl
             have f1 := R2.f 1
             have s1 := ext_set (j := 1) (v := .bool b) e2.hi R2 hk
             have R3 := R2.set 1 (.bool b) (by simp [rtCs])
             have q23 := R3.c 2 _ rfl
             have q33 := R3.c 3 _ rfl
             have q03 := R3.c 0 _ rfl
             have f03 := R3.f 0
             have s2 := ext_set (j := 0) (v := .int .i64 0) s1.hi R3 hk
             have R4 := Lib.hid (R3.set 0 (.int .i64 0) (by simp [rtCs]))
             have E4 := Lib.hid (E0.out.trans (((e2.mono (T := SK k) fun t _ h => .inl h).trans (s1.mono fun t _ h => .inr h)).trans (s2.mono fun t _ h => .inr h)))
             have W4 := Lib.hid ((P2.ext s1 (by omega) (by omega) (by omega) (by omega)).ext s2 (by omega) (by omega) (by omega) (by omega))
             clear e2 P2 R2 s1 R3 s2)))
      all_goals
        go_wp2_with fail
        go_end0
        refine ⟨rfl, G2, E4.out, ?_⟩
        rw [HZ.out]
        unfold RtPost
        rw [HE.out.1, HE.out.2]
        exact ⟨W4.out, 0, b, wd, R4.out, ⟨fun _ => rfl, fun h => absurd rfl h, rfl, r0, r1⟩⟩
end Go.Proofs.YtijifjiehldcaaaGreat
