/- Layer 22: the document's Touch. Layer 22: a Touch of a pair of worlds. A law's own row of an owner, and what is appended to it. Layer 22: RefsPlay's invariant. -/
import Derived.Test.YtijifjiehldcaaaGreatRw
import Derived.Test.YtijifjiehldcaaaGreatRfStep
import Derived.Test.YtijifjiehldcaaaGreatFlN
import Derived.Test.YtijifjiehldcaaaGreatSaA
import Derived.Test.YtijifjiehldcaaaGreatSl
import Derived.Test.YtijifjiehldcaaaGreatBg
import Derived.Deep.AppendLies
import Derived.Test.YtijifjiehldcaaaGreatGr
import Derived.Test.YtijifjiehldcaaaGreatRfLives
namespace Go.Proofs.YtijifjiehldcaaaGreat
set_option linter.unusedSimpArgs false
section
open Go.RowKit
set_option linter.unusedVariables false

theorem c_rRef (r : Int) (w : World) (r0 : -9223372036854775808 ≤ r) (r1 : r ≤ 9223372036854775807) :
    Calls Tryz.prog 14 #[.int .i64 r] w fun e w' => e = .returned (.int .u64 (plRef r)) ∧ w = w' := by
  unfold plRef
  by_cases h : r < 1
  · have d : decide (r < 1) = true := by simp; omega
    rw [if_pos h]
    go_enter Tryz.func14, Tryz.ntmps14
    go_wp2
    go_ret
    exact ⟨rfl, rfl⟩
  · have d : decide (r < 1) = false := by simp; omega
    rw [if_neg h]
    go_enter Tryz.func14, Tryz.ntmps14
    go_wp2
    go_ret
    exact ⟨ret_int (by rw [IntKind.wrap_u64]; unfold wrap64; omega), rfl⟩
theorem c_rMarked (v : Int) (w : World) (v0 : 0 ≤ v) : Calls Tryz.prog 47 #[.int .u64 v] w fun e w' => e = .returned (.bool (rfMarked v)) ∧ w = w' := by
  go_enter Tryz.func47, Tryz.ntmps47
  go_wp2
  go_ret
  exact ⟨ret_bool (by unfold rfMarked; rw [Bool.eq_iff_iff]; simp; try omega), rfl⟩
theorem c_rLess (v : Int) (w : World) (v0 : 0 ≤ v) (v1 : v < 18446744073709551616) : Calls Tryz.prog 15 #[.int .u64 v] w fun e w' => e = .returned (.int .u64 (rfLess v)) ∧ w = w' := by
  unfold rfLess
  by_cases h : v % 2 = 1
  · have d : (v % 2 == 1) = true := by simp [h]
    go_enter Tryz.func15, Tryz.ntmps15
    go_wp2
    go_ret
    exact ⟨ret_int (by rw [IntKind.wrap_u64, h]), rfl⟩
  · have d : (v % 2 == 1) = false := by simp; omega
    go_enter Tryz.func15, Tryz.ntmps15
    go_wp2
    go_ret
    exact ⟨ret_int (by omega), rfl⟩
/-- The document's Touch in memory. -/
def rtCs (ln : Int) (dn : Bool) (r wd : Int) : List Value := [.int .i64 ln, .bool dn, .int .i64 r, .int .u64 wd]
/-- .. goes with the program's. -/
structure RtOk (T : Tc) (ln : Int) (dn : Bool) (r wd : Int) : Prop where
  z : T.at_ = 0 → ln = 0
  nz : T.at_ ≠ 0 → ln = T.next + 1 ∧ T.at_ = plRef r ∧ (T.next = 0 ∨ ((T.next = 1 ∨ T.next = 2) ∧ wd = T.word ∧ rfMarked T.word = false))
  dn : dn = T.done
  r0 : -9223372036854775808 ≤ r
  r1 : r ≤ 9223372036854775807
theorem c_rNewT (r : Int) {w : World} {O : Om} (k : Nat) (hhi : ∀ j, O j ≠ 0 → j < w.heap.size) (r0 : -9223372036854775808 ≤ r) (r1 : r ≤ 9223372036854775807) :
    Calls Tryz.prog 11 #[.int .i64 r] w fun e w' => ∃ R ln, RP (fun t => t = k) w O (.pointer (some ⟨R, 0, none⟩)) (fun W G => R = w.heap.size ∧ ∃ r', Ob W G k R (rtCs ln false r' 0) ∧ RtOk (tcNew (plRef r)) ln false r' 0) e w' := by
  by_cases h : r < 1
  · have d : decide (r < 1) = true := by simp; omega
    have hp : plRef r = 0 := by unfold plRef; rw [if_pos h]
    obtain ⟨O1, e1, x1, -⟩ := alloc_ob hhi k (rtCs 0 false 0 0).toArray 56 w.heap.size rfl
    clear h
    go_enter Tryz.func11, Tryz.ntmps11
    go_wp2
    go_ret
    exact ⟨w.heap.size, 0, rfl, O1, e1, rfl, 0, x1, ⟨fun _ => rfl, fun h => absurd rfl h, rfl, by decide, by decide⟩⟩
  · have d : decide (r < 1) = false := by simp; omega
    have hp : plRef r ≠ 0 := by unfold plRef; rw [if_neg h]; omega
    obtain ⟨O1, e1, x1, -⟩ := alloc_ob hhi k (rtCs 1 false r 0).toArray 56 w.heap.size rfl
    clear h
    go_enter Tryz.func11, Tryz.ntmps11
    go_wp2
    go_ret
    exact ⟨w.heap.size, 1, rfl, O1, e1, rfl, r, x1, ⟨fun h => absurd h hp, fun _ => ⟨rfl, rfl, .inl rfl⟩, rfl, r0, r1⟩⟩
theorem RW.up {w : World} {O : Om} {C : Wb} {f : Cf} {s : AW} {m m' : Nat} (h : RW w O C f s m) (hm : m ≤ m') : RW w O C f s m' := by
  obtain ⟨v, L, h1, h2, h3, h4, h5, h6, h7⟩ := h.ce.ex
  exact ⟨h.o, h.wo, ⟨v, L, h1, h2, h3, Nat.le_trans h4 hm, h5, h6, h7⟩, h.ar, h.no⟩
/-- The document's world's owners, and owner k. -/
def SK (k t : Nat) : Prop := SR t ∨ t = k
def awOf (z : TM) (s : AW) : AW := ⟨z.M, z.n, z.la, s.tk, s.ho, s.it, s.nt⟩
theorem rfMark_even {v : Int} (h : rfMarked v = false) : rfMark v = v + 1 := by unfold rfMarked at h; unfold rfMark; simp at h; omega
/-- Behind a step of the document's Touch. -/
def RtPost (C : Wb) (f : Cf) (s : AW) (m k R : Nat) (r : Int) (z : TM) (W : World) (G : Om) : Prop := RW W G C f (awOf z s) (m + 1) ∧ ∃ ln' dn' wd', Ob W G k R (rtCs ln' dn' r wd') ∧ RtOk z.t ln' dn' r wd'
set_option maxHeartbeats 4000000 in
set_option maxRecDepth 100000 in
theorem c_rTStep {R : Nat} {T : Tc} {ln : Int} {dn : Bool} {r wd : Int} {w : World} {O : Om} {C : Wb} {f : Cf} {s : AW} {m : Nat} (k : Nat) (h : RW w O C f s m) (hR : Ob w O k R (rtCs ln dn r wd)) (ho : RtOk T ln dn r wd) (hok : T.ok) (hm : m ≤ 900000) (hk : 10 ≤ k) (hhi : ∀ j, O j ≠ 0 → j < w.heap.size) (n0 : 0 ≤ s.n) (n1 : s.n ≤ 4611686018427387904) :
    Calls Tryz.prog 17 #[.pointer (some ⟨R, 0, none⟩), .pointer (some ⟨C.p, 0, none⟩)] w (RP (SK k) w O (.tuple #[]) (RtPost C f s m k R r (tcStep ⟨s.M, s.n, s.la, T⟩))) := by
  obtain ⟨Z, hZ⟩ : ∃ Z, Z = tcStep ⟨s.M, s.n, s.la, T⟩ := ⟨_, rfl⟩
  rw [← hZ]
  obtain ⟨a, nx, word, done⟩ := T
  obtain ⟨hz, hnz, hdn, r0, r1⟩ := ho
  obtain ⟨a0, a1, w0, w1, hx⟩ := hok
  dsimp only at hz hnz hdn a0 a1 w0 w1 hx
  have HZ := Lib.hid hZ
  clear hZ
  have HO := Lib.hid hR
  have HR := Lib.hid h
  have HH := Lib.hid hhi
  have hnk : ∀ {t : Nat}, SR t → t ≠ k := fun h => by have := h.2; omega
  have HNK := Lib.hid (fun t (h : SR t) => show ¬ t = k from hnk h)
  have c0 := hR.c 0 _ rfl
  by_cases ha : a = 0
  · obtain rfl := hz ha
    have e : tcStep ⟨s.M, s.n, s.la, ⟨a, nx, word, done⟩⟩ = ⟨s.M, s.n, s.la, ⟨a, nx, word, done⟩⟩ := by unfold tcStep; dsimp only; rw [if_pos ha]
    have HE := Lib.hid e
    clear h hR hhi e hnk hz hnz hx
    go_enter Tryz.func17, Tryz.ntmps17
    go_wp2_with fail
    go_end0
    rw [HZ.out, HE.out]
    exact ⟨rfl, O, Ext.refl HH.out, (HR.out.up (Nat.le_succ m)), 0, dn, wd, HO.out, ⟨fun _ => rfl, fun h => absurd ha h, hdn, r0, r1⟩⟩
  · obtain ⟨rfl, hp, hw⟩ := hnz ha
    rcases hx ha with rfl | rfl | rfl
    · have e : tcStep ⟨s.M, s.n, s.la, ⟨a, 0, word, done⟩⟩ = ⟨s.M, s.n + 1, ⟨1, a, s.M a, s.M a⟩, ⟨if rfMarked (s.M a) then 0 else a, 1, s.M a, done⟩⟩ := by unfold tcStep; dsimp only; rw [if_neg ha, if_pos rfl]
      have HE := Lib.hid e
      have c2 := hR.c 2 _ rfl
      have HL := Lib.hid (c_rwLoad a h (by omega) a0 a1 hhi n0 n1)
      have HRf := Lib.hid (fun W => c_rRef r W r0 r1)
      rw [← hp] at HRf
      have HP := Lib.hid hp
      have hbd := h.ce.bd a
      have HMk := Lib.hid (fun W => c_rMarked (s.M a) W hbd.1)
      clear h hR hhi e hnk hbd hz hnz hw hx hp
      go_enter Tryz.func17, Tryz.ntmps17
      go_wp2_with fail
      refine (HRf.out _).mono ?_
      rintro e w' ⟨rfl, rfl⟩
      go_wp2_with fail
      refine HL.out.mono ?_
      rintro e w2 ⟨rfl, G2, e2, P2⟩
      have R2 := HO.out.ext e2 (fun h => HNK.out k h rfl)
      have q3 := R2.c 3 _ rfl
      have f3 := R2.f 3
      have q0 := R2.c 0 _ rfl
      have f0 := R2.f 0
      have s1 := ext_set (j := 3) (v := .int .u64 (s.M a)) e2.hi R2 hk
      have R3 := R2.set 3 (.int .u64 (s.M a)) (by simp [rtCs])
      have s2 := ext_set (j := 0) (v := .int .i64 2) s1.hi R3 hk
      have R4 := R3.set 0 (.int .i64 2) (by simp [rtCs])
      have E4 := Lib.hid (((e2.mono (T := SK k) fun t _ h => .inl h).trans (s1.mono fun t _ h => .inr h)).trans (s2.mono fun t _ h => .inr h))
      have W4 := Lib.hid ((P2.ext s1 (by omega) (by omega) (by omega) (by omega)).ext s2 (by omega) (by omega) (by omega) (by omega))
      have RR4 := Lib.hid R4
      have q3' := R4.c 3 _ rfl
      obtain ⟨w4, hw4⟩ : ∃ w4, w4 = (w2.setCell ⟨R, 3, none⟩ (.int .u64 (s.M a))).setCell ⟨R, 0, none⟩ (.int .i64 2) := ⟨_, rfl⟩
      clear e2 P2 R2 s1 R3 s2 R4 HL c0 c2
      go_wp2_with fail
      rw [← hw4] at q3' E4 W4 RR4 ⊢
      clear hw4 q3 f3 q0 f0
      go_wp2_with fail
      refine (HMk.out _).mono ?_
      rintro e w' ⟨rfl, rfl⟩
      cases hmk : rfMarked (s.M a)
      · go_wp2_with fail
        go_end0
        rw [HZ.out, HE.out, hmk]
        exact ⟨rfl, G2, E4.out, W4.out, 2, dn, s.M a, RR4.out, ⟨fun h => absurd h ha, fun _ => ⟨rfl, HP.out, .inr ⟨.inl rfl, rfl, hmk⟩⟩, hdn, r0, r1⟩⟩
      · have q0 := RR4.out.c 0 _ rfl
        have f0 := RR4.out.f 0
        have s3 := ext_set (j := 0) (v := .int .i64 0) E4.out.hi RR4.out hk
        have R5 := Lib.hid (RR4.out.set 0 (.int .i64 0) (by simp [rtCs]))
        have E5 := Lib.hid (E4.out.trans (s3.mono fun t _ h => .inr h))
        have W5 := Lib.hid (W4.out.ext s3 (by omega) (by omega) (by omega) (by omega))
        clear s3
        go_wp2_with fail
        go_end0
        rw [HZ.out, HE.out, hmk]
        exact ⟨rfl, G2, E5.out, W5.out, 0, dn, s.M a, R5.out, ⟨fun _ => rfl, fun h => absurd rfl h, hdn, r0, r1⟩⟩
    · obtain ⟨-, hwd, hmk⟩ : True ∧ wd = word ∧ rfMarked word = false := by rcases hw with h | ⟨-, h1, h2⟩; · omega
                                                                            · exact ⟨trivial, h1, h2⟩
      have e : tcStep ⟨s.M, s.n, s.la, ⟨a, 1, word, done⟩⟩ = ⟨s.M, s.n + 1, ⟨1, 5, s.M 5, s.M 5⟩, ⟨if s.M 5 ≠ 0 then 0 else a, 2, word, done⟩⟩ := by unfold tcStep; dsimp only; rw [if_neg ha, if_neg (by decide), if_pos rfl]
      have HE := Lib.hid e
      have f0 := hR.f 0
      have s1 := ext_set (j := 0) (v := .int .i64 3) hhi hR hk
      have R1 := Lib.hid (hR.set 0 (.int .i64 3) (by simp [rtCs]))
      have W1 := h.ext s1 (by omega) (by omega) (by omega) (by omega)
      have HL := Lib.hid (c_rwLoad 5 W1 (by omega) (by decide) (by decide) s1.hi n0 n1)
      have E1 := Lib.hid (s1.mono (T := SK k) fun t _ h => .inr h)
      have HP := Lib.hid hp
      have HWD := Lib.hid hwd
      have HMK := Lib.hid hmk
      clear h hR hhi e hnk hz hnz hw hx hp s1 W1 hwd hmk
      go_enter Tryz.func17, Tryz.ntmps17
      go_wp2_with fail
      refine HL.out.mono ?_
      rintro e w2 ⟨rfl, G2, e2, P2⟩
      have R2 := Lib.hid (R1.out.ext e2 (fun h => HNK.out k h rfl))
      have E2 := Lib.hid (E1.out.trans (e2.mono fun t _ h => .inl h))
      have W2 := Lib.hid P2
      clear e2 P2 HL c0 f0
      have q0 := R2.out.c 0 _ rfl
      have f0 := R2.out.f 0
      by_cases h5 : s.M 5 = 0
      · have d5 : (s.M 5 != 0) = false := by simp [h5]
        have H5 := Lib.hid h5
        clear h5
        go_wp2_with fail
        go_end0
        rw [HZ.out, HE.out, if_neg (fun h => h H5.out)]
        exact ⟨rfl, G2, E2.out, W2.out, 3, dn, wd, R2.out, ⟨fun h => absurd h ha, fun _ => ⟨rfl, HP.out, .inr ⟨.inr rfl, HWD.out, HMK.out⟩⟩, hdn, r0, r1⟩⟩
      · have d5 : (s.M 5 != 0) = true := by simp [h5]
        have H5 := Lib.hid h5
        have s3 := ext_set (j := 0) (v := .int .i64 0) E2.out.hi R2.out hk
        have R5 := Lib.hid (R2.out.set 0 (.int .i64 0) (by simp [rtCs]))
        have E5 := Lib.hid (E2.out.trans (s3.mono fun t _ h => .inr h))
        have W5 := Lib.hid (W2.out.ext s3 (by omega) (by omega) (by omega) (by omega))
        clear s3 h5
        go_wp2_with fail
        go_end0
        rw [HZ.out, HE.out, if_pos H5.out]
        exact ⟨rfl, G2, E5.out, W5.out, 0, dn, wd, R5.out, ⟨fun _ => rfl, fun h => absurd rfl h, hdn, r0, r1⟩⟩
    · obtain ⟨-, hwd, hmk⟩ : True ∧ wd = word ∧ rfMarked word = false := by rcases hw with h | ⟨-, h1, h2⟩; · omega
                                                                            · exact ⟨trivial, h1, h2⟩
      subst hwd
      have hev := rfMark_even hmk
      have hmk2 := hmk
      unfold rfMarked at hmk2
      have hwb : wd + 1 < 18446744073709551616 := by simp at hmk2; omega
      have hw1 : IntKind.u64.wrap (wd + 1) = wd + 1 := by rw [IntKind.wrap_u64]; omega
      obtain ⟨b, hb⟩ : ∃ b, b = (s.M a == wd) := ⟨_, rfl⟩
      have e : (tcStep ⟨s.M, s.n, s.la, ⟨a, 2, wd, done⟩⟩).t = ⟨0, 3, wd, b⟩ ∧ awOf (tcStep ⟨s.M, s.n, s.la, ⟨a, 2, wd, done⟩⟩) s = ⟨upd s.M a (if s.M a = wd then wd + 1 else s.M a), s.n + 1, ⟨3, a, s.M a, if s.M a = wd then wd + 1 else s.M a⟩, s.tk, s.ho, s.it, s.nt⟩ := by
        unfold tcStep awOf; dsimp only; rw [if_neg ha, if_neg (by decide), if_neg (by decide)]
        by_cases hm : s.M a = wd
        · rw [if_pos hm, if_pos hm, hb]
          refine ⟨by simp [hm], ?_⟩
          rw [hev, hm]
        · rw [if_neg hm, if_neg hm, hb]
          refine ⟨by simp [hm], ?_⟩
          have : upd s.M a (s.M a) = s.M := by funext x; unfold upd; split <;> simp_all
          rw [this]
      have HE := Lib.hid e
      have c2 := hR.c 2 _ rfl
      have c3 := hR.c 3 _ rfl
      have c1 := hR.c 1 _ rfl
      have HRf := Lib.hid (fun W => c_rRef r W r0 r1)
      rw [← hp] at HRf
      have R0 := Lib.hid (hR.below (drew_below w))
      have HC := Lib.hid (c_rwCAS a wd (wd + 1) (w := w.drew) (h.below hhi (drew_below w)) (by omega) a0 a1 (by omega) hwb hhi n0 n1)
      rw [← hb] at HC
      have E0 := Lib.hid ((Ext.refl (S := SK k) hhi).drew)
      clear h hR hhi e hnk hz hnz hw hx hp hb hev hmk hmk2
      go_enter Tryz.func17, Tryz.ntmps17
      go_wp2_with fail
      go_region_held3 (fun w' => w'.cell? ⟨R, 2, none⟩ = some (.int .i64 r) ∧ w'.cell? ⟨R, 3, none⟩ = some (.int .u64 wd)) (go_keep)
        ((first
          | (go_at_call 14
             refine (HRf.out _).mono ?_
             rintro e w' ⟨rfl, rfl⟩)
          | (go_at_call 48
             refine HC.out.mono ?_
             rintro e w2 ⟨rfl, G2, e2, P2⟩
             have R2 := R0.out.ext e2 (fun h => HNK.out k h rfl)
             have q1 := R2.c 1 _ rfl
             have q2 := R2.c 2 _ rfl
             have q3 := R2.c 3 _ rfl
             have f1 := R2.f 1
             have s1 := ext_set (j := 1) (v := .bool b) e2.hi R2 hk
             have R3 := R2.set 1 (.bool b) (by simp [rtCs])
             have q23 := R3.c 2 _ rfl
             have q33 := R3.c 3 _ rfl
             have q03 := R3.c 0 _ rfl
             have f03 := R3.f 0
             have s2 := ext_set (j := 0) (v := .int .i64 0) s1.hi R3 hk
             have R4 := Lib.hid (R3.set 0 (.int .i64 0) (by simp [rtCs]))
             have E4 := Lib.hid (E0.out.trans (((e2.mono (T := SK k) fun t _ h => .inl h).trans (s1.mono fun t _ h => .inr h)).trans (s2.mono fun t _ h => .inr h)))
             have W4 := Lib.hid ((P2.ext s1 (by omega) (by omega) (by omega) (by omega)).ext s2 (by omega) (by omega) (by omega) (by omega))
             clear e2 P2 R2 s1 R3 s2)))
      all_goals
        go_wp2_with fail
        go_end0
        refine ⟨rfl, G2, E4.out, ?_⟩
        rw [HZ.out]
        unfold RtPost
        rw [HE.out.1, HE.out.2]
        exact ⟨W4.out, 0, b, wd, R4.out, ⟨fun _ => rfl, fun h => absurd rfl h, rfl, r0, r1⟩⟩
end
section
open Go.RowKit
set_option linter.unusedVariables false

theorem c_PTStep {x : Nat} {T : Tc} {w : World} {O : Om} {B : Wb} {f : Cf} {s : AW} (k : Nat) (hP : PW w O B f s) (hT : TAt w x T) (hO : O x = k) (hok : T.ok) (hk : 10 ≤ k) (hhi : ∀ j, O j ≠ 0 → j < w.heap.size) (n0 : 0 ≤ s.n) (n1 : s.n ≤ 4611686018427387904) :
    Calls Tryz.prog 18 #[.pointer (some ⟨x, 0, none⟩), .pointer (some ⟨B.p, 0, none⟩)] w (RP (SX k k) w O (.bool (tcOver (tcStep ⟨s.M, s.n, s.la, T⟩).t)) fun W G => PW W G B f (awOf (tcStep ⟨s.M, s.n, s.la, T⟩) s) ∧ TAt W x (tcStep ⟨s.M, s.n, s.la, T⟩).t ∧ G x = k) := by
  classical
  have hTS : TS w (fun j => O j = 2) B.p B.c x ⟨s.M, s.n, s.la, T⟩ := ⟨hP.ce, hP.wo.c0, hP.wo.lt, fun h => by have h : O B.p = 2 := h; rw [hP.o] at h; omega, hT, fun h => by have h : O x = 2 := h; omega, fun h => by rw [h, hP.o] at hO; omega⟩
  refine (c_Step w _ B.p B.c x _ hTS hok n0 n1).mono ?_
  rintro e w' ⟨rfl, F, hS, hg, hw⟩
  have hnew : ∀ j, F j → ¬ O j = 0 → O j = 2 := fun j hj hz => by
    rcases hg.new j hj with h | h
    · exact h
    · exact absurd (hhi j hz) (by omega)
  obtain ⟨G, hG⟩ : ∃ G : Om, ∀ j, G j = if F j ∧ O j = 0 then 2 else O j := ⟨_, fun _ => rfl⟩
  have hOG : ∀ j, j < w.heap.size → G j = O j := fun j hj => by
    rw [hG]
    by_cases h : F j ∧ O j = 0
    · exfalso
      rcases hg.new j h.1 with h2 | h2
      · have h2 : O j = 2 := h2
        omega
      · omega
    · rw [if_neg h]
  have hFG : ∀ j, F j → G j = 2 := fun j hj => by
    rw [hG]
    by_cases h : O j = 0
    · rw [if_pos ⟨hj, h⟩]
    · rw [if_neg (fun h2 => h h2.2)]; exact hnew j hj h
  have hhiG : ∀ j, G j ≠ 0 → j < w'.heap.size := fun j hj => by
    by_cases h : F j
    · exact hS.ce.lts j h
    · rw [hG, if_neg (fun h2 => h h2.1)] at hj
      exact Nat.lt_of_lt_of_le (hhi j hj) hw.size
  have E : Ext (SX k k) O w G w' := ⟨hOG, hhiG, fun j hj hn => by
      by_cases h : F j
      · rw [hFG j h]; exact .inl ⟨by decide, by decide⟩
      · rw [hG, if_neg (fun h2 => h h2.1)] at hn
        exact absurd (hhi j hn) (by omega),
    hw.mono fun j hj h => by
      rcases h with h | h
      · have h : O j = 2 := h
        exact ⟨.inl (by rw [h]; exact ⟨by decide, by decide⟩), by omega⟩
      · rw [h, hO]; exact ⟨SX.self, by omega⟩⟩
  have hCO : CO w' G 2 B.c (tcStep ⟨s.M, s.n, s.la, T⟩).M (tcStep ⟨s.M, s.n, s.la, T⟩).n (tcStep ⟨s.M, s.n, s.la, T⟩).la :=
    Ce.mono hS.ce hFG (fun j hj => hhiG j (by have hj : G j = 2 := hj; omega))
  have hz : ∀ t, 1 ≤ t → t ≤ 4 → t ≠ 2 → ∀ j, j < w.heap.size → O j = t → ¬ (SX k k (O j) ∧ O j ≠ 0 ∧ ¬ (O j = t)) := fun t _ _ _ j _ h k => k.2.2 h
  have hw2 : Wrote (fun j => O j = 2 ∨ O j = k) w w' := hw.mono fun j hj h => by
    rcases h with h | h
    · exact .inl h
    · exact .inr (by rw [h]; exact hO)
  have E2 : Ext (fun t => t = 2 ∨ t = k) O w G w' := ⟨hOG, hhiG, fun j hj hn => by
      by_cases h : F j
      · exact .inl (hFG j h)
      · rw [hG, if_neg (fun h2 => h h2.1)] at hn
        exact absurd (hhi j hn) (by omega),
    hw2.mono fun j hj h => ⟨h, by rcases h with h | h <;> omega⟩⟩
  refine ⟨rfl, G, E, ⟨(hOG _ hP.wo.lt).trans hP.o, hP.wo.wrote E2.wr (fun h => by have := h.1; rw [hP.o] at this; omega), hCO, hP.ar.ext E2 (by omega), hP.no.ext E2 (by omega)⟩, hS.ta, (hOG _ hT.lt).trans hO⟩
theorem c_PNewT (r : Int) {w : World} {O : Om} (k : Nat) (hhi : ∀ j, O j ≠ 0 → j < w.heap.size) (r0 : -9223372036854775808 ≤ r) (r1 : r ≤ 9223372036854775807) :
    Calls Tryz.prog 10 #[.int .i64 r] w (RP (fun t => t = k) w O (.pointer (some ⟨w.heap.size, 0, none⟩)) fun W G => TAt W w.heap.size (tcNew (plRef r)) ∧ G w.heap.size = k) := by
  refine (c_NewTouch r w r0 r1).mono ?_
  rintro e w' ⟨rfl, rfl⟩
  exact ⟨rfl, _, Ext.alloc (S := fun t => t = k) (g := k) hhi rfl _, TAt.new _ _ _ _ rfl, newOwn_at (Nat.lt_succ_self _)⟩
theorem RtOk.over {T : Tc} {ln : Int} {dn : Bool} {r wd : Int} (h : RtOk T ln dn r wd) (hok : T.ok) : (ln == 0) = tcOver T := by
  unfold tcOver
  by_cases ha : T.at_ = 0
  · rw [h.z ha]; simp [ha]
  · have h1 := (h.nz ha).1
    have h2 := hok.nx ha
    have : ln ≠ 0 := by rcases h2 with h2 | h2 | h2 <;> omega
    simp [ha, this]
set_option maxHeartbeats 2000000 in
set_option maxRecDepth 100000 in
theorem c_same22 {x R k : Nat} {T : Tc} {ln : Int} {dn : Bool} {r wd : Int} {w : World} {O : Om} (hT : TAt w x T) (hR : Ob w O k R (rtCs ln dn r wd)) (ho : RtOk T ln dn r wd) (hok : T.ok) :
    Calls Tryz.prog 12 #[.agg #[.pointer (some ⟨x, 0, none⟩), .pointer (some ⟨R, 0, none⟩)]] w fun e w' => e = .returned (.bool true) ∧ Below w.heap.size w w' := by
  have hov := ho.over hok
  have hdn := ho.dn
  subst hdn
  obtain ⟨b, hb⟩ : ∃ b, b = tcOver T := ⟨_, rfl⟩
  rw [← hb] at hov
  have c0 := hR.c 0 _ rfl
  have c1 := hR.c 1 _ rfl
  have hRl := hR.lt
  have hTl := hT.lt
  have HO := Lib.hid (fun W (hb2 : Below w.heap.size w W) => c_Over x T W (hT.wrote (S := fun _ => False) (Wrote.of_below hb2) id))
  rw [← hb] at HO
  have HD := Lib.hid (fun W (hb2 : Below w.heap.size w W) => c_Done x T W (hT.wrote (S := fun _ => False) (Wrote.of_below hb2) id))
  obtain ⟨d, hd⟩ : ∃ d, d = T.done := ⟨_, rfl⟩
  rw [← hd] at HD c1
  clear hT hR ho hok hb hd
  go_enter Tryz.func12, Tryz.ntmps12
  go_wp2_with fail
  obtain ⟨W1, hW1⟩ : ∃ W1, W1 = w.alloc (.cells #[.pointer (some ⟨x, 0, none⟩), .pointer (some ⟨R, 0, none⟩)] 48) := ⟨_, rfl⟩
  have y0 : W1.cell? ⟨w.heap.size, 0, none⟩ = some (.pointer (some ⟨x, 0, none⟩)) := by rw [hW1]; simp
  have y1 : W1.cell? ⟨w.heap.size, 1, none⟩ = some (.pointer (some ⟨R, 0, none⟩)) := by rw [hW1]; simp
  have hlt : w.heap.size < W1.heap.size := by rw [hW1]; simp
  have hb1 : Below w.heap.size w W1 := by rw [hW1]; exact (Below.refl _ _).alloc (Nat.le_refl _) _
  rw [← hW1]
  clear hW1
  have HP1 : Hid (∀ e : Later W1, Below w.heap.size w (via W1 e)) := Lib.hid fun e => hb1.trans ((via_below W1 e).mono hb1.size)
  have z0 := (hb1.cell (p := ⟨R, 0, none⟩) hRl).trans c0
  have z1 := (hb1.cell (p := ⟨R, 1, none⟩) hRl).trans c1
  have hR1 : R < W1.heap.size := by omega
  clear c0 c1 hb1
  refine wp_region_via (by kernel_rfl) (by kernel_rfl) ?_
  try simp only [List.append_eq, List.cons_append, List.nil_append]
  repeat (go_big_quiet_step ((first
    | (go_at_call 21; exact viaS (HO.out _ (HP1.out _)))
    | (go_at_call 22; exact viaS (HD.out _ (HP1.out _))))))
  refine wpQuiet_nil ?_
  rintro _ ⟨e, rfl⟩
  go_wp2_with fail
  go_ret
  exact ⟨rfl, HP1.out e⟩
end
section
open Go.RowKit
set_option linter.unusedVariables false

structure Row (w : World) (O : Om) (t : Nat) (E : TypeId) (size : Nat) (v : Value) (n : Nat) (xs : List Value) : Prop where
  own : w.ownsRow 0 E size v n xs
  vo : ∀ k, v.ownBlock = some k → O k = t
theorem Row.nil (w : World) (O : Om) (t : Nat) (E : TypeId) (size : Nat) : Row w O t E size (.slice none 0 0) 0 [] := ⟨World.ownsRow_nil _ _ _ _, fun k h => by cases h⟩
theorem Row.ext {S : Nat → Prop} {O O' : Om} {w w' : World} {t size n : Nat} {E : TypeId} {v : Value} {xs : List Value} (h : Row w O t E size v n xs) (e : Ext S O w O' w') (hs : ¬ S t) : Row w' O' t E size v n xs :=
  ⟨e.own h.own fun k hk => by rw [h.vo k hk]; exact hs, fun k hk => (e.lo k (h.own.lt k hk).2).trans (h.vo k hk)⟩
theorem Row.below {O : Om} {w w' : World} {t size n : Nat} {E : TypeId} {v : Value} {xs : List Value} (h : Row w O t E size v n xs) (hb : Below w.heap.size w w') : Row w' O t E size v n xs :=
  ⟨ownsRow_below h.own hb, h.vo⟩
/-- 'append(s, x)' of one element, s the row of owner t. -/
theorem append_row {P : Program} {ops : Array Oper} {rest : List Oper} {o : Oper} {a : Act} {Q : Exit → Act → World → Prop} (w : World) (hgd : o.guard = none) (s x : Operand) (ty : TypeId)
    (ho : o.op = .call { callee := .builtin .append, args := #[s, x], argTypes := #[ty, ty] })
    (e : TypeId) (i : TypeInfo) (z : Value) (size bytes : Nat) (ht : P.underlying ty = some (.slice e)) (hi : P.info? e = some i) (hz : i.zero = some z)
    (hsize : i.size = size) (hby : i.bytes = bytes) (hzs : z.cells.size = size) (hsz : 0 < size) (hbp : 0 < bytes)
    (O : Om) (t : Nat) (ht0 : t ≠ 0) (hhi : ∀ j, O j ≠ 0 → j < w.heap.size)
    (v : Value) (n : Nat) (xs : List Value) (hs : a.eval s = v) (hrow : Row w O t e size v n xs)
    (cs : List Value) (e' : TypeId) (hx : a.eval x = .slice (some ⟨w.heap.size, 0, none⟩) 1 1) (hl : cs.length = size) (h1 : ∀ u ∈ cs, u.oneCell' = true)
    (hbytes : (n + 1) * bytes ≤ 140737488355328)
    (h : ∀ g cap w' O', Ext (fun j => j = t) O w O' w' → Row w' O' t e size (.slice (some ⟨g, 0, none⟩) (n + 1) cap) (n + 1) (xs ++ cs) → wpList P ops Q rest (a.put o.dst (.slice (some ⟨g, 0, none⟩) (n + 1) cap)) w') :
    wpList P ops Q (o :: rest) a (w.alloc (.cells cs.toArray e')) := by
  have hle : n + 1 ≤ (n + 1) * bytes := Nat.le_mul_of_pos_right _ hbp
  refine wpList_append_lies (w.alloc (.cells cs.toArray e')) hgd s x ty ho 0 e i z size bytes ht hi hz hsize hby hzs hsz v n xs hs (hrow.own.alloc _) ⟨w.heap.size, 0, none⟩ 1 1 cs hx (by rw [hl, Nat.one_mul]) (alloc_cells w cs e' _ rfl) h1 (by decide) (by unfold maxLen; omega) hbytes (Nat.zero_le _) (w.heap.size + 1) (by simp) ?_
  intro g cap w' hown hg hat hgl
  have hw : Wrote (fun k => v.ownBlock = some k) w w' := ((Wrote.refl _ _).alloc _).grown hg fun k hk _ => hk
  have hs := hw.size
  have hG : ∀ j, j < w.heap.size → (if j = g then t else O j) = O j := fun j hj => by
    by_cases e : j = g
    · rw [if_pos e]
      rcases hat with e2 | e2
      · subst e; exact (hrow.vo j e2).symm
      · omega
    · rw [if_neg e]
  refine h g cap w' (fun j => if j = g then t else O j) ⟨hG, fun j hj => ?_, fun j hj hn => ?_, hw.mono fun k _ hk => ⟨hrow.vo k hk, by rw [hrow.vo k hk]; exact ht0⟩⟩ ⟨hown, fun k hk => ?_⟩
  · try dsimp only at hj
    by_cases e : j = g
    · omega
    · rw [if_neg e] at hj; have := hhi j hj; omega
  · try dsimp only at hn ⊢
    by_cases e : j = g
    · rw [if_pos e]
    · rw [if_neg e] at hn; have := hhi j hn; omega
  · cases hk
    try dsimp only
    rw [if_pos rfl]
/-- What a law has behind its Begin. -/
theorem env_begin0 {S : Nat → Prop} {w W w1 : World} {G : Om} (hb : Below w.heap.size w W) (e : Ext S O0 W G w1) : Env w G w1 := by
  refine ⟨fun j hj => ?_, e.hi, hb.trans ((e.wr.below (fun k _ hk => absurd rfl hk.2) (Nat.le_refl _)).mono hb.size)⟩
  by_cases h : j < W.heap.size
  · exact absurd (e.lo j h) (by show ¬ G j = 0; exact hj)
  · have := hb.size; omega
end
section
open Go.RowKit
set_option linter.unusedVariables false

/-- A Touch of both sides. -/
structure Rop where
  x : Nat
  R : Nat
  T : Tc
  ln : Int
  dn : Bool
  r : Int
  wd : Int
def ropc (q : Rop) : List Value := [.pointer (some ⟨q.x, 0, none⟩), .pointer (some ⟨q.R, 0, none⟩)]
theorem ropc_len (q : Rop) : (ropc q).length = 2 := rfl
structure RopAt (w : World) (G : Om) (j : Nat) (q : Rop) : Prop where
  t : TAt w q.x q.T
  o : G q.x = 10 + 2 * j
  r : Ob w G (11 + 2 * j) q.R (rtCs q.ln q.dn q.r q.wd)
  k : RtOk q.T q.ln q.dn q.r q.wd
  ok : q.T.ok
theorem TAt.ext {S : Nat → Prop} {O O' : Om} {w w' : World} {x : Nat} {T : Tc} (h : TAt w x T) (e : Ext S O w O' w') (hs : ¬ S (O x)) : TAt w' x T := h.wrote e.wr fun k => hs k.1
theorem TAt.below {w w' : World} {x : Nat} {T : Tc} (h : TAt w x T) (hb : Below w.heap.size w w') : TAt w' x T := h.wrote (S := fun _ => False) (Wrote.of_below hb) id
theorem RopAt.ext {S : Nat → Prop} {O O' : Om} {w w' : World} {j : Nat} {q : Rop} (h : RopAt w O j q) (e : Ext S O w O' w') (h1 : ¬ S (10 + 2 * j)) (h2 : ¬ S (11 + 2 * j)) : RopAt w' O' j q :=
  ⟨h.t.ext e (by rw [h.o]; exact h1), (e.lo _ h.t.lt).trans h.o, h.r.ext e h2, h.k, h.ok⟩
theorem RopAt.below {O : Om} {w w' : World} {j : Nat} {q : Rop} (h : RopAt w O j q) (hb : Below w.heap.size w w') : RopAt w' O j q :=
  ⟨h.t.below hb, h.o, h.r.below hb, h.k, h.ok⟩
structure RI (w0 : World) (B C : Wb) (f : Cf) (N k : Nat) (w : World) (vo : Value) (G : Om) (s : AW) (m : Nat) (l : List Rop) : Prop where
  env : Env w0 G w
  pr : PR w G B C f s m
  n0 : 0 ≤ s.n
  n1 : s.n ≤ 1000 + k
  m1 : m ≤ 1000 + k
  hit : s.it.length ≤ 40
  hnt : s.nt = []
  row : Row w G 9 48 2 vo l.length (rowOf ropc l)
  len : l.length ≤ k
  ops : ∀ (j : Nat) (q : Rop), l[j]? = some q → RopAt w G j q
  pN : N < w.heap.size
  oN : G N = 0
  p0 : w.cell? ⟨N, 0, none⟩ = some (.pointer (some ⟨B.p, 0, none⟩))
  p1 : w.cell? ⟨N, 1, none⟩ = some (.pointer (some ⟨C.p, 0, none⟩))
section
variable {S : Nat → Prop} {w0 w w' : World} {B C : Wb} {f : Cf} {N k k' : Nat} {vo : Value} {G G' : Om} {s s' : AW} {m m' : Nat} {l : List Rop}
theorem RI.below (h : RI w0 B C f N k w vo G s m l) (hb : Below w.heap.size w w') : RI w0 B C f N k w' vo G s m l :=
  ⟨h.env.ext (S := fun _ => True) (Ext.of_below h.env.hi hb), h.pr.below h.env.hi hb, h.n0, h.n1, h.m1, h.hit, h.hnt, h.row.below hb, h.len, fun j q hj => (h.ops j q hj).below hb, Nat.lt_of_lt_of_le h.pN hb.size, h.oN, (hb.cell (p := ⟨N, 0, none⟩) h.pN).trans h.p0, (hb.cell (p := ⟨N, 1, none⟩) h.pN).trans h.p1⟩
theorem RI.p01 (h : RI w0 B C f N k w vo G s m l) : w.cell? ⟨N, 0, none⟩ = some (.pointer (some ⟨B.p, 0, none⟩)) ∧ w.cell? ⟨N, 1, none⟩ = some (.pointer (some ⟨C.p, 0, none⟩)) := ⟨h.p0, h.p1⟩
theorem RI.up (h : RI w0 B C f N k w vo G s m l) (hk : k ≤ k') : RI w0 B C f N k' w vo G s m l :=
  ⟨h.env, h.pr, h.n0, by have := h.n1; omega, by have := h.m1; omega, h.hit, h.hnt, h.row, by have := h.len; omega, h.ops, h.pN, h.oN, h.p0, h.p1⟩
/-- What both worlds' owners alone wrote. -/
theorem RI.sp (h : RI w0 B C f N k w vo G s m l) (e : Ext SP G w G' w') (pr : PR w' G' B C f s' m') (n0 : 0 ≤ s'.n) (n1 : s'.n ≤ 1000 + (k + 1 : Nat)) (m1 : m' ≤ 1000 + (k + 1)) (hit : s'.it.length ≤ 40) (hnt : s'.nt = []) : RI w0 B C f N (k + 1) w' vo G' s' m' l :=
  ⟨h.env.ext e, pr, n0, n1, m1, hit, hnt, h.row.ext e sp9, by have := h.len; omega, fun j q hj => (h.ops j q hj).ext e (fun k => by have := k.2; omega) (fun k => by have := k.2; omega), Nat.lt_of_lt_of_le h.pN e.size, (e.lo N h.pN).trans h.oN, (e.nob sp0 h.pN h.oN 0).trans h.p0, (e.nob sp0 h.pN h.oN 1).trans h.p1⟩
/-- A new Touch of both sides, ahead of its append. -/
theorem RI.mk2 {q : Rop} (h : RI w0 B C f N k w vo G s m l) (e : Ext (fun t => t = 10 + 2 * l.length ∨ t = 11 + 2 * l.length) G w G' w') (hq : RopAt w' G' l.length q) : RI w0 B C f N k w' vo G' s m l ∧ RopAt w' G' l.length q :=
  ⟨⟨h.env.ext e, h.pr.ext e (fun t ht => by have := ht.2; omega), h.n0, h.n1, h.m1, h.hit, h.hnt, h.row.ext e (by omega), h.len, fun j q hj => by
    have hjl := (List.getElem?_eq_some_iff.1 hj).1
    exact (h.ops j q hj).ext e (by omega) (by omega), Nat.lt_of_lt_of_le h.pN e.size, (e.lo N h.pN).trans h.oN, (e.nob (by omega) h.pN h.oN 0).trans h.p0, (e.nob (by omega) h.pN h.oN 1).trans h.p1⟩, hq⟩
/-- .. behind it. -/
theorem RI.snoc {q : Rop} {g cap : Nat} (h : RI w0 B C f N k w vo G s m l) (hq : RopAt w G l.length q) (e : Ext (fun t => t = 9) G w G' w') (hr : Row w' G' 9 48 2 (.slice (some ⟨g, 0, none⟩) (l.length + 1) cap) (l.length + 1) (rowOf ropc l ++ ropc q)) :
    RI w0 B C f N (k + 1) w' (.slice (some ⟨g, 0, none⟩) (l.length + 1) cap) G' s m (l ++ [q]) :=
  ⟨h.env.ext e, h.pr.ext e (fun t ht => by have := ht.2; omega), h.n0, by have := h.n1; omega, by have := h.m1; omega, h.hit, h.hnt, by rw [rowOf_snoc, List.length_append]; exact hr, by rw [List.length_append]; have := h.len; simp; omega, fun j p hj => by
    by_cases e2 : j < l.length
    · rw [List.getElem?_append_left e2] at hj
      exact (h.ops j p hj).ext e (by omega) (by omega)
    · have e3 : j = l.length := by have := (List.getElem?_eq_some_iff.1 hj).1; simp at this; omega
      subst e3
      rw [List.getElem?_concat_length] at hj
      cases hj
      exact hq.ext e (by omega) (by omega), Nat.lt_of_lt_of_le h.pN e.size, (e.lo N h.pN).trans h.oN, (e.nob (by decide) h.pN h.oN 0).trans h.p0, (e.nob (by decide) h.pN h.oN 1).trans h.p1⟩
theorem rowRop {w : World} {ao : Nat} {l : List Rop} (h : ∀ j u, (rowOf ropc l)[j]? = some u → w.cell? ⟨ao, j, none⟩ = some u) (i : Nat) (q : Rop) (hi : l[i]? = some q) : w.cell? ⟨ao, i * 2, none⟩ = some (.pointer (some ⟨q.x, 0, none⟩)) ∧ w.cell? ⟨ao, i * 2 + 1, none⟩ = some (.pointer (some ⟨q.R, 0, none⟩)) := by
  obtain ⟨hil, hx⟩ := List.getElem?_eq_some_iff.1 hi
  refine ⟨h _ _ ((rowOf_get ropc_len l i 0 hil (by omega)).trans (by rw [hx]; rfl)), h _ _ ((rowOf_get ropc_len l i 1 hil (by omega)).trans (by rw [hx]; rfl))⟩
/-- A step of Touch i of both sides: the document's first. -/
theorem RI.step {i : Nat} {q : Rop} {G1 G2 : Om} {w1 w2 : World} (h : RI w0 B C f N k w vo G s m l) (hi : l[i]? = some q)
    (e1 : Ext (SK (11 + 2 * i)) G w G1 w1) (p1 : RtPost C f s m (11 + 2 * i) q.R q.r (tcStep ⟨s.M, s.n, s.la, q.T⟩) w1 G1)
    (e2 : Ext (SX (10 + 2 * i) (10 + 2 * i)) G1 w1 G2 w2) (p2 : PW w2 G2 B f (awOf (tcStep ⟨s.M, s.n, s.la, q.T⟩) s)) (t2 : TAt w2 q.x (tcStep ⟨s.M, s.n, s.la, q.T⟩).t) (o2 : G2 q.x = 10 + 2 * i) (hok : (tcStep ⟨s.M, s.n, s.la, q.T⟩).t.ok) :
    ∃ q', RopAt w2 G2 i q' ∧ q'.x = q.x ∧ q'.R = q.R ∧ q'.T = (tcStep ⟨s.M, s.n, s.la, q.T⟩).t ∧ RI w0 B C f N (k + 1) w2 vo G2 (awOf (tcStep ⟨s.M, s.n, s.la, q.T⟩) s) (m + 1) (l.set i q') := by
  obtain ⟨r1, ln', dn', wd', hob, hk⟩ := p1
  have hil := (List.getElem?_eq_some_iff.1 hi).1
  have hq : RopAt w2 G2 i ⟨q.x, q.R, (tcStep ⟨s.M, s.n, s.la, q.T⟩).t, ln', dn', q.r, wd'⟩ := ⟨t2, o2, hob.ext e2 (SX.not (by omega) (by omega)), hk, hok⟩
  have hn := tcStep_n ⟨s.M, s.n, s.la, q.T⟩
  dsimp only at hn
  have E : Ext (fun t => SK (11 + 2 * i) t ∨ SX (10 + 2 * i) (10 + 2 * i) t) G w G2 w2 := (e1.mono fun _ _ h => .inl h).trans (e2.mono fun _ _ h => .inr h)
  have hE : ∀ t, 9 ≤ t → t ≠ 10 + 2 * i → t ≠ 11 + 2 * i → ¬ (SK (11 + 2 * i) t ∨ SX (10 + 2 * i) (10 + 2 * i) t) := fun t h1 h2 h3 h => by
    rcases h with (h | h) | h
    · have := h.2; omega
    · omega
    · unfold SX at h; omega
  have hE0 : ¬ (SK (11 + 2 * i) 0 ∨ SX (10 + 2 * i) (10 + 2 * i) 0) := fun h => by
    rcases h with (h | h) | h
    · have := h.1; omega
    · omega
    · unfold SX at h; omega
  have hrow : rowOf ropc (l.set i ⟨q.x, q.R, (tcStep ⟨s.M, s.n, s.la, q.T⟩).t, ln', dn', q.r, wd'⟩) = rowOf ropc l := by
    unfold rowOf
    rw [List.flatMap_def, List.flatMap_def, List.map_set]
    congr 1
    refine List.ext_getElem? fun j => ?_
    rw [List.getElem?_set]
    split
    · rename_i e
      subst e
      rw [if_pos (by simpa using hil), List.getElem?_map, hi]; rfl
    · rfl
  refine ⟨_, hq, rfl, rfl, rfl, h.env.ext E, ⟨p2, r1.ext e2 (SX.not (by omega) (by omega)) (SX.not (by omega) (by omega)) (SX.not (by omega) (by omega)) (SX.not (by omega) (by omega))⟩, by show 0 ≤ (tcStep _).n; have := h.n0; omega, by show (tcStep _).n ≤ _; have := h.n1; omega, by have := h.m1; omega, h.hit, h.hnt, by rw [hrow, List.length_set]; exact h.row.ext E (hE 9 (by omega) (by omega) (by omega)), by rw [List.length_set]; have := h.len; omega, fun j p hj => ?_, Nat.lt_of_lt_of_le h.pN E.size, (E.lo N h.pN).trans h.oN, (E.nob hE0 h.pN h.oN 0).trans h.p0, (E.nob hE0 h.pN h.oN 1).trans h.p1⟩
  rw [List.getElem?_set] at hj
  split at hj
  · rename_i e
    subst e
    cases hj
    exact hq
  · rename_i e
    exact (h.ops j p hj).ext E (hE _ (by omega) (by omega) (by omega)) (hE _ (by omega) (by omega) (by omega))
end
/-- The document's Touch that is new. -/
def rtNew (r : Int) : List Value := if r < 1 then rtCs 0 false 0 0 else rtCs 1 false r 0
theorem rtNew_is (r : Int) : rtNew r = rtCs (if r < 1 then 0 else 1) false (if r < 1 then 0 else r) 0 := by unfold rtNew; split <;> rfl
theorem c_rNewT2 (r : Int) (w : World) (r0 : -9223372036854775808 ≤ r) (r1 : r ≤ 9223372036854775807) :
    Calls Tryz.prog 11 #[.int .i64 r] w fun e w' => e = .returned (.pointer (some ⟨w.heap.size, 0, none⟩)) ∧ w.alloc (.cells #[.int .i64 (if r < 1 then 0 else 1), .bool false, .int .i64 (if r < 1 then 0 else r), .int .u64 0] 56) = w' := by
  by_cases h : r < 1
  · have d : decide (r < 1) = true := by simp; omega
    rw [if_pos h, if_pos h]
    clear h
    go_enter Tryz.func11, Tryz.ntmps11
    go_wp2
    go_ret
    exact ⟨rfl, rfl⟩
  · have d : decide (r < 1) = false := by simp; omega
    rw [if_neg h, if_neg h]
    clear h
    go_enter Tryz.func11, Tryz.ntmps11
    go_wp2
    go_ret
    exact ⟨rfl, rfl⟩
theorem rtOk_new (r : Int) (r0 : -9223372036854775808 ≤ r) (r1 : r ≤ 9223372036854775807) : RtOk (tcNew (plRef r)) (if r < 1 then 0 else 1) false (if r < 1 then 0 else r) 0 := by
  by_cases h : r < 1
  · have hp : plRef r = 0 := by unfold plRef; rw [if_pos h]
    rw [if_pos h, if_pos h]
    exact ⟨fun _ => rfl, fun h => absurd hp h, rfl, by decide, by decide⟩
  · have hp : plRef r ≠ 0 := by unfold plRef; rw [if_neg h]; omega
    rw [if_neg h, if_neg h]
    exact ⟨fun h => absurd h hp, fun _ => ⟨rfl, rfl, .inl rfl⟩, rfl, r0, r1⟩
theorem mkRop {w0 w wx : World} {B C : Wb} {f : Cf} {N k : Nat} {vo : Value} {G : Om} {s : AW} {m : Nat} {l : List Rop} (h : RI w0 B C f N k w vo G s m l) (hb : Below w.heap.size w wx) (x R n8 : Nat) (r : Int) (r0 : -9223372036854775808 ≤ r) (r1 : r ≤ 9223372036854775807)
    (hx : w.heap.size ≤ x ∧ x < wx.heap.size) (hR : w.heap.size ≤ R ∧ R < wx.heap.size) (hne : x ≠ R) (hn : n8 ≠ x ∧ n8 ≠ R ∧ w.heap.size ≤ n8) (t : TAt wx x (tcNew (plRef r)))
    (c : ∀ j u, (rtCs (if r < 1 then 0 else 1) false (if r < 1 then 0 else r) 0)[j]? = some u → wx.cell? ⟨R, j, none⟩ = some u) (fz : ∀ j, wx.frozen? ⟨R, j, none⟩ = false) :
    ∃ G' q, RI w0 B C f N k wx vo G' s m l ∧ RopAt wx G' l.length q ∧ q.x = x ∧ q.R = R ∧ G' n8 = 0 := by
  have hz := fun j (hj : w.heap.size ≤ j) => zero_own h.env.hi hj
  have E : Ext (fun t => t = 10 + 2 * l.length ∨ t = 11 + 2 * l.length) G w (fun j => if j = x then 10 + 2 * l.length else if j = R then 11 + 2 * l.length else G j) wx := by
    refine ⟨fun j hj => by rw [if_neg (by omega), if_neg (by omega)], fun j hj => ?_, fun j hj hn => ?_, Wrote.of_below hb⟩
    · by_cases e1 : j = x
      · omega
      · by_cases e2 : j = R
        · omega
        · rw [if_neg e1, if_neg e2] at hj; have := h.env.hi j hj; have := hb.size; omega
    · by_cases e1 : j = x
      · rw [if_pos e1]; exact .inl rfl
      · by_cases e2 : j = R
        · rw [if_neg e1, if_pos e2]; exact .inr rfl
        · rw [if_neg e1, if_neg e2] at hn; exact absurd (hz j hj) hn
  have hp : 0 ≤ plRef r ∧ plRef r < 18446744073709551616 := by unfold plRef; split <;> omega
  have hq : RopAt wx (fun j => if j = x then 10 + 2 * l.length else if j = R then 11 + 2 * l.length else G j) l.length ⟨x, R, tcNew (plRef r), if r < 1 then 0 else 1, false, if r < 1 then 0 else r, 0⟩ :=
    ⟨t, by simp, ⟨by show (if R = x then _ else _) = _; rw [if_neg (Ne.symm hne), if_pos rfl], hR.2, c, fz⟩, rtOk_new r r0 r1, tcNew_ok hp.1 hp.2⟩
  have H := h.mk2 E hq
  refine ⟨_, _, H.1, H.2, rfl, rfl, ?_⟩
  show (if n8 = x then _ else _) = _
  rw [if_neg hn.1, if_neg hn.2.1]
  exact hz n8 hn.2.2
theorem bl3_1 (W : World) (a b c : Obj) : Below (W.alloc a).heap.size (W.alloc a) (((W.alloc a).alloc b).alloc c).drew := ((below_alloc (below_alloc (Below.refl _ _) b) c)).drew
theorem bl3_2 (W : World) (a b c : Obj) : Below ((W.alloc a).alloc b).heap.size ((W.alloc a).alloc b) (((W.alloc a).alloc b).alloc c).drew := (below_alloc (Below.refl _ _) c).drew
theorem bl3_3 (W : World) (a b c : Obj) : Below (((W.alloc a).alloc b).alloc c).heap.size (((W.alloc a).alloc b).alloc c) (((W.alloc a).alloc b).alloc c).drew := (Below.refl _ _).drew
theorem rop3 {w0 w V : World} {B C : Wb} {f : Cf} {N k : Nat} {vo : Value} {G : Om} {s : AW} {m : Nat} {l : List Rop} {r ln0 rf0 : Int} {x R n8 : Nat} {U1 U2 U3 : World} (h : RI w0 B C f N k w vo G s m l) (r0 : -9223372036854775808 ≤ r) (r1 : r ≤ 9223372036854775807) (hln : ln0 = (if r < 1 then (0 : Int) else 1) ∧ rf0 = (if r < 1 then (0 : Int) else r))
    (b1 : Below (U1.alloc (.cells #[.int .u64 (plRef r), .int .i64 0, .int .u64 0, .bool false] 59)).heap.size (U1.alloc (.cells #[.int .u64 (plRef r), .int .i64 0, .int .u64 0, .bool false] 59)) V)
    (b2 : Below (U2.alloc (.cells #[.int .i64 ln0, .bool false, .int .i64 rf0, .int .u64 0] 56)).heap.size (U2.alloc (.cells #[.int .i64 ln0, .bool false, .int .i64 rf0, .int .u64 0] 56)) V)
    (b3 : Below (U3.alloc (.cells #[.pointer (some ⟨x, 0, none⟩), .pointer (some ⟨R, 0, none⟩)] 48)).heap.size (U3.alloc (.cells #[.pointer (some ⟨x, 0, none⟩), .pointer (some ⟨R, 0, none⟩)] 48)) V)
    (e1 : x = U1.heap.size) (e2 : R = U2.heap.size) (e3 : n8 = U3.heap.size) (hb : Below w.heap.size w V) (hx : w.heap.size ≤ x) (hR : w.heap.size ≤ R) (hn : w.heap.size ≤ n8) (n1 : x ≠ R) (n2 : n8 ≠ x) (n3 : n8 ≠ R) :
    ∃ (n9 : Nat) (G' : Om) (q : Rop), Value.pointer (some ⟨n8, 0, none⟩) = .pointer (some ⟨n9, 0, none⟩) ∧ RI w0 B C f N k V vo G' s m l ∧ RopAt V G' l.length q ∧ V.cell? ⟨n9, 0, none⟩ = some (.pointer (some ⟨q.x, 0, none⟩)) ∧ V.cell? ⟨n9, 1, none⟩ = some (.pointer (some ⟨q.R, 0, none⟩)) ∧ n9 < V.heap.size ∧ G' n9 = 0 := by
  have l1 : x < (U1.alloc (.cells #[.int .u64 (plRef r), .int .i64 0, .int .u64 0, .bool false] 59)).heap.size := by rw [e1]; simp
  have l2 : R < (U2.alloc (.cells #[.int .i64 ln0, .bool false, .int .i64 rf0, .int .u64 0] 56)).heap.size := by rw [e2]; simp
  have l3 : n8 < (U3.alloc (.cells #[.pointer (some ⟨x, 0, none⟩), .pointer (some ⟨R, 0, none⟩)] 48)).heap.size := by rw [e3]; simp
  obtain ⟨G', q, h1, h2, h3, h4, h5⟩ := mkRop h hb x R n8 r r0 r1 ⟨hx, Nat.lt_of_lt_of_le l1 b1.size⟩ ⟨hR, Nat.lt_of_lt_of_le l2 b2.size⟩ n1 ⟨n2, n3, hn⟩ ((TAt.new U1 (plRef r) _ x e1).below b1)
    (fun j u hu => by
      rw [← hln.1, ← hln.2] at hu
      exact (b2.cell (p := ⟨R, j, none⟩) l2).trans (cell_newA U2 #[.int .i64 ln0, .bool false, .int .i64 rf0, .int .u64 0] _ _ e2 j u (by simpa [rtCs] using hu)))
    (fun j => (b2.frozen (p := ⟨R, j, none⟩) l2).trans (frozen_new U2 [.int .i64 ln0, .bool false, .int .i64 rf0, .int .u64 0] _ _ e2 j))
  have c0 := (b3.cell (p := ⟨n8, 0, none⟩) l3).trans (cell_newA U3 #[.pointer (some ⟨x, 0, none⟩), .pointer (some ⟨R, 0, none⟩)] _ _ e3 0 _ rfl)
  have c1 := (b3.cell (p := ⟨n8, 1, none⟩) l3).trans (cell_newA U3 #[.pointer (some ⟨x, 0, none⟩), .pointer (some ⟨R, 0, none⟩)] _ _ e3 1 _ rfl)
  exact ⟨n8, G', q, rfl, h1, h2, by rw [h3]; exact c0, by rw [h4]; exact c1, Nat.lt_of_lt_of_le l3 b3.size, h5⟩
end
end Go.Proofs.YtijifjiehldcaaaGreat
