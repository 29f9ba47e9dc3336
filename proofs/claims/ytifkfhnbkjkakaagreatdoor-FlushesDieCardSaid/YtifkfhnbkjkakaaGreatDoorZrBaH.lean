/- Run of an operation by itself, whatever the operation: its Over and Step by their contracts. Layer 9: all notes of a list (taken by sub.py of the Notes seats' texts). Layer 13: contracts of the program's Put. Run of an operation whose Over may make memory of its own. Helpers of the chapters' examples: a Put run to its end. -/
import Derived.Test.YtifkfhnbkjkakaaGreatDoorZrBaC
import Derived.Test.YtifkfhnbkjkakaaGreatDoorZrBaE
import Derived.Test.YtifkfhnbkjkakaaGreatDoorZrBaG
import Derived.BigQuiet
import Derived.Deep.QuietTactic
namespace Go.Proofs.YtifkfhnbkjkakaaGreatDoor
set_option linter.unusedSimpArgs false
set_option linter.unusedVariables false
set_option maxHeartbeats 2000000
set_option maxRecDepth 100000
section
open Go.RowKit
def runN {Y : Type} (over : Y → Bool) (step : AW × Y → AW × Y) : Nat → AW × Y → Nat × (AW × Y)
 | 0, z => (0, z)
 | m + 1, z => if over z.2 then (0, z) else ((runN over step m (step z)).1 + 1, (runN over step m (step z)).2)
section
variable {Y : Type} {over : Y → Bool} {step : AW × Y → AW × Y}
theorem runN_over (k : Nat) (z : AW × Y) (h : over z.2 = true) : runN over step k z = (0, z) := by
 cases k with
 | zero => rfl
 | succ k => unfold runN; rw [if_pos h]
theorem runN_on (k : Nat) (z : AW × Y) (h : over z.2 = false) : runN over step (k + 1) z = ((runN over step k (step z)).1 + 1, (runN over step k (step z)).2) := by
 conv => lhs; unfold runN
 rw [if_neg (by simp [h])]
end
theorem c_RunG {Y : Type} (over : Y → Bool) (step : AW × Y → AW × Y) (S : Nat → Prop) (I : World → Om → AW × Y → Prop) (p X : Nat) (ty : TypeId) (fO fS : FuncId)
 (hmo : ∀ W, (method 635 ty (.pointer (some ⟨X, 0, none⟩)) "Over").run Tryz.prog W = .ok (fO, .pointer (some ⟨X, 0, none⟩)) W)
 (hms : ∀ W, (method 635 ty (.pointer (some ⟨X, 0, none⟩)) "Step").run Tryz.prog W = .ok (fS, .pointer (some ⟨X, 0, none⟩)) W)
 (hKO : ∀ args W, (callFunc fO args).run Tryz.prog W = .ok (.enter fO args) W) (hKS : ∀ args W, (callFunc fS args).run Tryz.prog W = .ok (.enter fS args) W)
 (cO : ∀ W G z, I W G z → Calls Tryz.prog fO #[.pointer (some ⟨X, 0, none⟩)] W fun e w' => e = .returned (.bool (over z.2)) ∧ W = w')
 (cS : ∀ W G z, I W G z → over z.2 = false → (∀ j, G j ≠ 0 → j < W.heap.size) → 0 ≤ z.1.n → z.1.n ≤ 4611686018427387904 → Calls Tryz.prog fS #[.pointer (some ⟨X, 0, none⟩), .pointer (some ⟨p, 0, none⟩)] W fun e w' => ∃ v, RP S W G v (fun W1 G1 => I W1 G1 (step z)) e w')
 (hst : ∀ z, (step z).1.n ≤ z.1.n + 1 ∧ z.1.n ≤ (step z).1.n)
 (w : World) (O : Om) (m : Nat) (z : AW × Y) (h : I w O z) (hhi : ∀ j, O j ≠ 0 → j < w.heap.size) (n0 : 0 ≤ z.1.n) (n1 : z.1.n + m ≤ 4611686018427387904) :
 Calls Tryz.prog 33 #[.pointer (some ⟨p, 0, none⟩), .iface ty (.pointer (some ⟨X, 0, none⟩)), .int .i64 m] w (RP S w O (.int .i64 (runN over step m z).1) fun W G => I W G (runN over step m z).2) := by
 have H := Lib.hid h
 have HH := Lib.hid hhi
 have HCO := Lib.hid cO
 have HCS := Lib.hid cS
 have HST := Lib.hid hst
 have hm1 : (m : Int) ≤ 4611686018427387904 := by omega
 clear h hhi cO cS hst
 go_enter Tryz.func33, Tryz.ntmps33
 go_wp2_with fail
 go_loopw [7] (fun i wr => ∃ (k : Nat) (y : AW × Y) (G : Om), k ≤ m ∧ i = .int .i64 k ∧ I wr G y ∧ z.1.n ≤ y.1.n ∧ y.1.n ≤ z.1.n + k ∧ runN over step m z = ((runN over step (m - k) y).1 + k, (runN over step (m - k) y).2) ∧ Ext S O w G wr) (fun i _ => m - (intOf i).toNat)
 case atStart => exact ⟨0, z, O, Nat.zero_le _, rfl, H.out, Int.le_refl _, by omega, rfl, Ext.refl HH.out⟩
 case round =>
  obtain ⟨k, y, G, hk, rfl, hI, hn, hn2, hr, he⟩ := hrel
  have HI := Lib.hid hI
  have HR := Lib.hid hr
  have HE := Lib.hid he
  clear hI hr he
  by_cases hk2 : k < m
  · obtain ⟨q, hq⟩ : ∃ q, m - k = q + 1 := ⟨m - k - 1, by omega⟩
    have hq2 : m - (k + 1) = q := by omega
    have HQ := Lib.hid hq
    have HQ2 := Lib.hid hq2
    clear hq hq2
    cases ho : over y.2
    · have HOv := Lib.hid ho
      have hy1 : y.1.n ≤ 4611686018427387904 := by omega
      have hy0 : 0 ≤ y.1.n := by omega
      clear ho
      go_wp2_with fail
      refine (HCO.out _ _ _ HI.out).mono ?_
      rintro e w' ⟨rfl, rfl⟩
      rw [HOv.out]
      go_wp2_with fail
      refine (HCS.out _ _ _ HI.out HOv.out HE.out.hi hy0 hy1).mono ?_
      rintro e w1 ⟨v, rfl, G1, e1, i1⟩
      have hn3 := HST.out y
      have HI1 := Lib.hid i1
      have HE1 := Lib.hid (HE.out.trans e1)
      have HR1 : Hid (runN over step m z = ((runN over step (m - (k + 1)) (step y)).1 + (k + 1), (runN over step (m - (k + 1)) (step y)).2)) := by
       refine Lib.hid ?_
       rw [HR.out, HQ.out, HQ2.out, runN_on _ _ HOv.out]
       dsimp only
       rw [Nat.add_assoc, Nat.add_comm 1 k]
      clear i1 e1
      go_wp2
      go_roundw
      case rel => exact ⟨k + 1, step y, G1, by omega, by go_num, HI1.out, by omega, by omega, HR1.out, HE1.out⟩
      case measure => simp [intOf]; omega
    · have HOv := Lib.hid ho
      have HF : Hid (runN over step m z = (k, y)) := by
       refine Lib.hid ?_
       rw [HR.out, runN_over _ _ ho]; simp
      clear ho
      go_wp2_with fail
      refine (HCO.out _ _ _ HI.out).mono ?_
      rintro e w' ⟨rfl, rfl⟩
      rw [HOv.out]
      go_wp2
      go_ret
      rw [HF.out]
      exact ⟨rfl, G, HE.out, HI.out⟩
  · have hkm : k = m := by omega
    have HF : Hid (runN over step m z = (k, y)) := by
     refine Lib.hid ?_
     rw [HR.out, hkm, Nat.sub_self]; unfold runN; simp
    clear hkm
    go_wp2
    go_ret
    rw [HF.out]
    exact ⟨rfl, G, HE.out, HI.out⟩
end
section
open Go.RowKit Go.Shelf
def puCs (p : Spt) (tg rf : Int) (o : Otm) : List Value := [.int .u64 p.tags, .int .u64 p.item, .int .i64 p.s, .int .u64 o.w, .int .i64 o.ln, .int .i64 tg, .int .i64 rf]
def PUTSV : Value := .agg #[.func (.func 481) #[] #[], .func (.func 482) #[] #[], .func (.func 483) #[] #[]]
theorem c_puts (w : World) : Calls Tryz.prog 480 #[] w fun e w' => e = .returned PUTSV ∧ Below w.heap.size w w' := by
 go_enter Tryz.func480, Tryz.ntmps480
 go_wp2
 exact bodyPost_ret (v := PUTSV) (by simp [results, Tryz.results480, go_sem, PUTSV]) rfl ⟨rfl, (Below.refl _ _).alloc (Nat.le_refl _) _⟩
theorem c_PutOver {U : Nat} {w : World} (a : Int) (n : Nat) (h0 : w.cell? ⟨U, 0, none⟩ = some (.int .u64 a)) (h4 : w.cell? ⟨U, 4, none⟩ = some (.int .i64 n)) (ha : a ≠ 0) (hn : n ≤ 3) :
 Calls Tryz.prog 478 #[.pointer (some ⟨U, 0, none⟩)] w fun e w' => e = .returned (.bool (n == 3)) ∧ Below w.heap.size w w' := by
 have hU := blk_lt h0
 dsimp only at hU
 have d0 : (a == 0) = false := by simp [ha]
 have d3 : ((n : Int) == 3) = (n == 3) := by rw [Bool.eq_iff_iff]; simp; omega
 clear ha
 go_enter Tryz.func478, Tryz.ntmps478
 go_wp2_with fail
 refine wp_region_via (by kernel_rfl) (by kernel_rfl) ?_
 repeat (go_big_quiet_step ((first
  | (go_at_call 480; exact viaB (c_puts _)))))
 refine wpQuiet_nil ?_
 rintro _ ⟨e, rfl⟩
 go_wp2_with fail
 go_ret
 exact ⟨ret_bool (by first | exact d3 | rfl), via_below _ _⟩
structure PutAt (W : World) (G : Om) (k U : Nat) (p : Spt) (tg rf : Int) (o : Otm) : Prop where
 ob : Ob W G k U (puCs p tg rf o)
theorem PutAt.ext {S : Nat → Prop} {O O' : Om} {w w' : World} {k U : Nat} {p : Spt} {tg rf : Int} {o : Otm} (h : PutAt w O k U p tg rf o) (e : Ext S O w O' w') (h1 : ¬ S k) : PutAt w' O' k U p tg rf o := ⟨h.ob.ext e h1⟩
theorem PutAt.below {O : Om} {w w' : World} {k U : Nat} {p : Spt} {tg rf : Int} {o : Otm} (h : PutAt w O k U p tg rf o) (hb : Below w.heap.size w w') : PutAt w' O k U p tg rf o := ⟨h.ob.below hb⟩
section
variable {U : Nat} {w : World} {O : Om} {B : Wb} {f : Cf} {s : AW} {k : Nat} {p : Spt} {tg rf : Int}
theorem ixPuts : (∀ W, (Instr.index 529 PUTSV (.int .i64 0)).run Tryz.prog W = .ok (.func (.func 481) #[] #[]) W) ∧ (∀ W, (Instr.index 529 PUTSV (.int .i64 1)).run Tryz.prog W = .ok (.func (.func 482) #[] #[]) W) ∧ (∀ W, (Instr.index 529 PUTSV (.int .i64 2)).run Tryz.prog W = .ok (.func (.func 483) #[] #[]) W) := ⟨fun W => by kernel_rfl, fun W => by kernel_rfl, fun W => by kernel_rfl⟩
theorem c_Putfirst (o : Otm) (hP : PW w O B f s) (hU : PutAt w O k U p tg rf o) (hp : p.ok) (hk : 10 ≤ k) (hhi : ∀ j, O j ≠ 0 → j < w.heap.size) (n0 : 0 ≤ s.n) (n1 : s.n ≤ 4611686018427387904) (r0 : 0 ≤ rf) (r1 : rf ≤ 9223372036854775807) :
 Calls Tryz.prog 481 #[.pointer (some ⟨U, 0, none⟩), .pointer (some ⟨B.p, 0, none⟩)] w (RP (SX k k) w O (.tuple #[]) fun W G => PW W G B f (awStore p.item rf s) ∧ PutAt W G k U p tg rf o) := by
 have ht := hp.item
 have HM : Hid (Me k k w O w O B f s k U (puCs p tg rf o)) := Lib.hid (Me.start hhi hP hU.ob)
 have p0 := hP.wo.c0
 have x1 := hU.ob.c 1 _ rfl
 have x6 := hU.ob.c 6 _ rfl
 have hr1 : IntKind.u64.wrap rf = rf := by rw [IntKind.wrap_u64]; omega
 obtain ⟨it, hit⟩ : ∃ it, it = p.item := ⟨_, rfl⟩
 rw [← hit] at ht x1 ⊢
 have HIT := Lib.hid hit
 have hb : 0 ≤ it ∧ it < 18446744073709551616 := by omega
 clear hP hU hhi hp ht hit
 go_enter Tryz.func481, Tryz.ntmps481
 go_wp2_with fail
 go_region_held3 (fun w' => w'.cell? ⟨B.p, 0, none⟩ = some (.pointer (some ⟨B.c, 0, none⟩)) ∧ w'.cell? ⟨U, 1, none⟩ = some (.int .u64 it) ∧ w'.cell? ⟨U, 6, none⟩ = some (.int .i64 rf)) (go_keep)
  ((go_at_call 50
    refine (c_StoreP it rf (w := w.drew) HM.out.drew.p HM.out.drew.e.hi hb.1 hb.2 r0 (by omega) n0 n1).mono ?_
    rintro e w2 ⟨rfl, G2, e2, P2⟩
    have M2 := Lib.hid (HM.out.drew.world hk e2 P2)
    have p02 := M2.out.p.wo.c0
    have x12 := M2.out.t.c 1 _ rfl
    have x62 := M2.out.t.c 6 _ rfl
    rw [← HIT.out] at x12
    clear e2 P2))
 all_goals
  go_wp2_with fail
  go_end0
  obtain ⟨e0, G, e1, P1, t1⟩ := M2.out.rp (v := .tuple #[])
  exact ⟨rfl, G, e1, P1, ⟨t1⟩⟩
theorem c_Putsecond (o : Otm) (hP : PW w O B f s) (hU : PutAt w O k U p tg rf o) (hp : p.ok) (hk : 10 ≤ k) (hhi : ∀ j, O j ≠ 0 → j < w.heap.size) (n0 : 0 ≤ s.n) (n1 : s.n ≤ 4611686018427387904) :
 Calls Tryz.prog 482 #[.pointer (some ⟨U, 0, none⟩), .pointer (some ⟨B.p, 0, none⟩)] w (RP (SX k k) w O (.tuple #[]) fun W G => PW W G B f (awLoad p.tags s) ∧ PutAt W G k U p tg rf ⟨o.ln, s.M p.tags⟩) := by
 have ht := hp.tags
 have HL := Lib.hid (c_slLoad _ p.tags hP hU.ob rfl ⟨_, rfl⟩ hk hhi (by omega) (by omega) n0 n1)
 clear hP hU hhi hp ht
 go_enter Tryz.func482, Tryz.ntmps482
 go_wp2_with fail
 refine HL.out.mono ?_
 rintro e w1 ⟨rfl, G1, e1, P1, U1⟩
 have HE := Lib.hid (And.intro e1 (And.intro P1 (PutAt.mk (p := p) (tg := tg) (rf := rf) (o := ⟨o.ln, s.M p.tags⟩) U1)))
 clear e1 P1 U1 HL
 go_wp2
 go_end0
 exact ⟨rfl, G1, HE.out⟩
theorem c_Putthird (o : Otm) (hP : PW w O B f s) (hU : PutAt w O k U p tg rf o) (hp : p.ok) (hk : 10 ≤ k) (hhi : ∀ j, O j ≠ 0 → j < w.heap.size) (w0 : 0 ≤ o.w) (w1 : o.w < 18446744073709551616) (n0 : 0 ≤ s.n) (n1 : s.n ≤ 4611686018427387904) (t0 : 0 ≤ tg) (t1 : tg ≤ 255) :
 Calls Tryz.prog 483 #[.pointer (some ⟨U, 0, none⟩), .pointer (some ⟨B.p, 0, none⟩)] w (RP (SX k k) w O (.tuple #[]) fun W G => PW W G B f (awStore p.tags (twWith o.w p.s tg) s) ∧ PutAt W G k U p tg rf o) := by
 have ht := hp.tags
 have x5 := hU.ob.c 5 _ rfl
 have HL := Lib.hid (c_slStore (w := w.drew) _ p.tags o.w p.s tg (hP.below hhi (drew_below w)) (hU.ob.below (drew_below w)) rfl rfl rfl hk (fun j hj => hhi j hj) (by omega) (by omega) w0 w1 hp.s0 hp.s1 t0 t1 n0 n1)
 have HE0 : Hid (Ext (SX k k) O w O w.drew) := Lib.hid (Ext.of_below hhi (drew_below w))
 clear hP hU hhi hp ht
 go_enter Tryz.func483, Tryz.ntmps483
 go_wp2_with fail
 go_region_held3 (fun w' => w'.cell? ⟨U, 5, none⟩ = some (.int .i64 tg)) (go_keep)
  ((go_at_call 358
    refine HL.out.mono ?_
    rintro e w1 ⟨rfl, G1, e1, P1, U1⟩
    have HE := Lib.hid (And.intro (HE0.out.trans e1) (And.intro P1 (PutAt.mk (p := p) (o := o) U1)))
    have x51 := U1.c 5 _ rfl
    clear e1 P1 U1))
 all_goals
  go_wp2_with fail
  go_end0
  exact ⟨rfl, G1, HE.out⟩
theorem putStep_ln (p : Spt) (tg rf : Int) (s : AW) (o : Otm) (h : o.ln < 3) : (putStep p tg rf s o).2.ln = o.ln + 1 := by
 unfold putStep
 split
 · rename_i e; rw [e]
 · split
   · rename_i e; rw [e]
   · split
     · rename_i e; rw [e]
     · omega
theorem c_PutStep (o : Otm) (hP : PW w O B f s) (hU : PutAt w O k U p tg rf o) (hp : p.ok) (ho : o.ln < 3) (w0 : 0 ≤ o.w) (w1 : o.w < 18446744073709551616) (hk : 10 ≤ k) (hhi : ∀ j, O j ≠ 0 → j < w.heap.size) (n0 : 0 ≤ s.n) (n1 : s.n ≤ 4611686018427387904) (t0 : 0 ≤ tg) (t1 : tg ≤ 255) (r0 : 0 ≤ rf) (r1 : rf ≤ 9223372036854775807) :
 Calls Tryz.prog 479 #[.pointer (some ⟨U, 0, none⟩), .pointer (some ⟨B.p, 0, none⟩)] w (RP (SX k k) w O (.bool (o.ln == 2)) fun W G => PW W G B f (putStep p tg rf s o).1 ∧ PutAt W G k U p tg rf (putStep p tg rf s o).2) := by
 obtain ⟨ln, wd⟩ := o
 dsimp only at ho w0 w1
 have x0 := hU.ob.c 0 _ rfl
 have x4 := hU.ob.c 4 _ rfl
 have ht := hp.tags
 have ht0 : p.tags ≠ 0 := by omega
 obtain ⟨ix0, ix1, ix2⟩ := ixPuts
 have hk0 : ∀ args W, (callFunc 481 args).run Tryz.prog W = .ok (.enter 481 args) W := enters_of Tryz.func481 (by kernel_rfl) rfl
 have hk1 : ∀ args W, (callFunc 482 args).run Tryz.prog W = .ok (.enter 482 args) W := enters_of Tryz.func482 (by kernel_rfl) rfl
 have hk2 : ∀ args W, (callFunc 483 args).run Tryz.prog W = .ok (.enter 483 args) W := enters_of Tryz.func483 (by kernel_rfl) rfl
 have HU := Lib.hid hU
 have HP := Lib.hid hP
 have HH := Lib.hid hhi
 have HB := Lib.hid hp
 have hln : ln = 0 ∨ ln = 1 ∨ ln = 2 := by omega
 obtain ⟨ta, hta⟩ : ∃ ta, ta = p.tags := ⟨_, rfl⟩
 rw [← hta] at x0 ht0
 have HT := Lib.hid hta
 clear hU hP hhi hp ht ho hta
 rcases hln with rfl | rfl | rfl
 · clear hk1 hk2 ix1 ix2
   go_enter Tryz.func479, Tryz.ntmps479
   go_wp2_with fail
   refine (c_PutOver ta 0 x0 x4 ht0 (by decide)).mono ?_
   rintro e wa ⟨rfl, hba⟩
   have P1 := Lib.hid (HP.out.below HH.out hba)
   have U1 := Lib.hid (HU.out.below hba)
   have E1 := Lib.hid (Ext.of_below (S := SX k k) HH.out hba)
   have y4 := U1.out.ob.c 4 _ rfl
   have yl := U1.out.ob.lt
   clear hba x0 x4
   go_wp2_with fail
   go_region_held3 (fun w' => w'.cell? ⟨U, 4, none⟩ = some (.int .i64 0)) (go_keep)
    ((first
      | (go_at_call 480
         refine (c_puts _).mono ?_
         rintro e wb ⟨rfl, hbb⟩
         have P2 := Lib.hid ((P1.out.below E1.out.hi (drew_below wa)).below E1.out.drew.hi hbb)
         have U2 := Lib.hid ((U1.out.below (drew_below wa)).below hbb)
         have E2 := Lib.hid (E1.out.drew.below hbb)
         have y42 := U2.out.ob.c 4 _ rfl
         clear hbb)
      | (go_at_call 481
         refine (c_Putfirst ⟨0, wd⟩ P2.out U2.out HB.out hk E2.out.hi n0 n1 r0 r1).mono ?_
         rintro e wc ⟨rfl, G3, e3, P3, U3⟩
         have M3 : Hid (Me k k w O wc G3 B f (awStore p.item rf s) k U _) := Lib.hid ⟨E2.out.trans e3, P3, U3.ob⟩
         have y43 := M3.out.t.c 4 _ rfl
         clear e3 P3 U3)))
   all_goals
    have z4 := M3.out.t.c 4 _ rfl
    have zf := M3.out.t.f 4
    have M4 := Lib.hid (M3.out.set hk (Nat.le_refl _) (Nat.le_refl _) 4 (.int .i64 ((1 : Nat) : Int)) (by simp [puCs]))
    have q0 := M4.out.t.c 0 _ rfl
    have q4 := M4.out.t.c 4 _ rfl
    go_wp2_with fail
    refine (c_PutOver p.tags 1 q0 q4 (by rw [← HT.out]; exact ht0) (by decide)).mono ?_
    rintro e wd ⟨rfl, hbd⟩
    have M5 := Lib.hid (M4.out.below hbd)
    clear hbd q0 q4
    go_wp2_with fail
    go_ret
    exact ⟨rfl, _, M5.out.e, M5.out.p, ⟨M5.out.t⟩⟩
 · clear hk0 hk2 ix0 ix2
   go_enter Tryz.func479, Tryz.ntmps479
   go_wp2_with fail
   refine (c_PutOver ta 1 x0 x4 ht0 (by decide)).mono ?_
   rintro e wa ⟨rfl, hba⟩
   have P1 := Lib.hid (HP.out.below HH.out hba)
   have U1 := Lib.hid (HU.out.below hba)
   have E1 := Lib.hid (Ext.of_below (S := SX k k) HH.out hba)
   have y4 := U1.out.ob.c 4 _ rfl
   have yl := U1.out.ob.lt
   clear hba x0 x4
   go_wp2_with fail
   go_region_held3 (fun w' => w'.cell? ⟨U, 4, none⟩ = some (.int .i64 1)) (go_keep)
    ((first
      | (go_at_call 480
         refine (c_puts _).mono ?_
         rintro e wb ⟨rfl, hbb⟩
         have P2 := Lib.hid ((P1.out.below E1.out.hi (drew_below wa)).below E1.out.drew.hi hbb)
         have U2 := Lib.hid ((U1.out.below (drew_below wa)).below hbb)
         have E2 := Lib.hid (E1.out.drew.below hbb)
         have y42 := U2.out.ob.c 4 _ rfl
         clear hbb)
      | (go_at_call 482
         refine (c_Putsecond ⟨1, wd⟩ P2.out U2.out HB.out hk E2.out.hi n0 n1).mono ?_
         rintro e wc ⟨rfl, G3, e3, P3, U3⟩
         have M3 : Hid (Me k k w O wc G3 B f (awLoad p.tags s) k U _) := Lib.hid ⟨E2.out.trans e3, P3, U3.ob⟩
         have y43 := M3.out.t.c 4 _ rfl
         clear e3 P3 U3)))
   all_goals
    have z4 := M3.out.t.c 4 _ rfl
    have zf := M3.out.t.f 4
    have M4 := Lib.hid (M3.out.set hk (Nat.le_refl _) (Nat.le_refl _) 4 (.int .i64 ((2 : Nat) : Int)) (by simp [puCs]))
    have q0 := M4.out.t.c 0 _ rfl
    have q4 := M4.out.t.c 4 _ rfl
    go_wp2_with fail
    refine (c_PutOver p.tags 2 q0 q4 (by rw [← HT.out]; exact ht0) (by decide)).mono ?_
    rintro e wd ⟨rfl, hbd⟩
    have M5 := Lib.hid (M4.out.below hbd)
    clear hbd q0 q4
    go_wp2_with fail
    go_ret
    exact ⟨rfl, _, M5.out.e, M5.out.p, ⟨M5.out.t⟩⟩
 · clear hk0 hk1 ix0 ix1
   go_enter Tryz.func479, Tryz.ntmps479
   go_wp2_with fail
   refine (c_PutOver ta 2 x0 x4 ht0 (by decide)).mono ?_
   rintro e wa ⟨rfl, hba⟩
   have P1 := Lib.hid (HP.out.below HH.out hba)
   have U1 := Lib.hid (HU.out.below hba)
   have E1 := Lib.hid (Ext.of_below (S := SX k k) HH.out hba)
   have y4 := U1.out.ob.c 4 _ rfl
   have yl := U1.out.ob.lt
   clear hba x0 x4
   go_wp2_with fail
   go_region_held3 (fun w' => w'.cell? ⟨U, 4, none⟩ = some (.int .i64 2)) (go_keep)
    ((first
      | (go_at_call 480
         refine (c_puts _).mono ?_
         rintro e wb ⟨rfl, hbb⟩
         have P2 := Lib.hid ((P1.out.below E1.out.hi (drew_below wa)).below E1.out.drew.hi hbb)
         have U2 := Lib.hid ((U1.out.below (drew_below wa)).below hbb)
         have E2 := Lib.hid (E1.out.drew.below hbb)
         have y42 := U2.out.ob.c 4 _ rfl
         clear hbb)
      | (go_at_call 483
         refine (c_Putthird ⟨2, wd⟩ P2.out U2.out HB.out hk E2.out.hi w0 w1 n0 n1 t0 t1).mono ?_
         rintro e wc ⟨rfl, G3, e3, P3, U3⟩
         have M3 : Hid (Me k k w O wc G3 B f (awStore p.tags (twWith wd p.s tg) s) k U _) := Lib.hid ⟨E2.out.trans e3, P3, U3.ob⟩
         have y43 := M3.out.t.c 4 _ rfl
         clear e3 P3 U3)))
   all_goals
    have z4 := M3.out.t.c 4 _ rfl
    have zf := M3.out.t.f 4
    have M4 := Lib.hid (M3.out.set hk (Nat.le_refl _) (Nat.le_refl _) 4 (.int .i64 ((3 : Nat) : Int)) (by simp [puCs]))
    have q0 := M4.out.t.c 0 _ rfl
    have q4 := M4.out.t.c 4 _ rfl
    go_wp2_with fail
    refine (c_PutOver p.tags 3 q0 q4 (by rw [← HT.out]; exact ht0) (by decide)).mono ?_
    rintro e wd ⟨rfl, hbd⟩
    have M5 := Lib.hid (M4.out.below hbd)
    clear hbd q0 q4
    go_wp2_with fail
    go_ret
    exact ⟨rfl, _, M5.out.e, M5.out.p, ⟨M5.out.t⟩⟩
theorem c_NewPut (hp : p.ok) (hhi : ∀ j, O j ≠ 0 → j < w.heap.size) (t0 : 1 ≤ tg) (t1 : tg ≤ 255) (r0 : 1 ≤ rf) (r1 : rf ≤ 9223372036854775807) : Calls Tryz.prog 315 #[.agg #[.int .i64 p.b, .int .i64 p.q, .int .i64 p.s], .int .i64 tg, .int .i64 rf] w fun e w' => ∃ U, RP (fun t => t = k) w O (.pointer (some ⟨U, 0, none⟩)) (fun W G => PutAt W G k U p tg rf ⟨0, 0⟩) e w' := by
 have HO := Lib.hid (fun (W : World) => c_of (w := W) hp)
 have HH := Lib.hid hhi
 have d1 : decide (tg < 1) = false := by simp; omega
 have d2 : decide ((255 : Int) < tg) = false := by simp; omega
 have d3 : decide (rf < 1) = false := by simp; omega
 clear hp hhi
 go_enter Tryz.func315, Tryz.ntmps315
 go_wp2_with fail
 refine (HO.out _).mono ?_
 rintro e w1 ⟨rfl, hb⟩
 have HB : Hid (Below w.heap.size w w1) := Lib.hid (((Below.refl _ _).alloc (Nat.le_refl _) _).trans (hb.mono (by simp)))
 obtain ⟨G2, e2, x2, -⟩ := alloc_ob (Ext.of_below (S := fun t => t = k) HH.out HB.out).hi k (puCs p tg rf ⟨0, 0⟩).toArray 422 w1.heap.size rfl
 have HE := Lib.hid (And.intro ((Ext.of_below HH.out HB.out).trans e2) x2)
 clear hb e2 x2
 go_wp2_with fail
 go_ret
 exact ⟨_, rfl, G2, HE.out.1, ⟨HE.out.2⟩⟩
end
end
section
open Go.RowKit Go.Shelf
theorem sw0 : ¬ SW 0 := fun h => absurd h.1 (by decide)
theorem sx0 {a b : Nat} (h : 10 ≤ a) : ¬ SX a b 0 := fun k => by unfold SX at k; omega
theorem alloc_nbH {O : Om} {w : World} {S : Nat → Prop} (hhi : ∀ j, O j ≠ 0 → j < w.heap.size) (cs : Array Value) (ty : TypeId) (n : Nat) (hn : n = w.heap.size) :
 Ext S O w O (w.alloc (.cells cs ty)) ∧ Ob (w.alloc (.cells cs ty)) O 0 n cs.toList := by
 subst hn
 refine ⟨Ext.of_below hhi ((Below.refl _ _).alloc (Nat.le_refl _) _), ⟨?_, by simp, fun j u hu => cell_newA w cs ty _ rfl j u (by simpa using hu), fun j => frozen_newA w cs ty _ rfl j⟩⟩
 by_cases h : O w.heap.size = 0
 · exact h
 · exact absurd (hhi _ h) (by omega)
end
end Go.Proofs.YtifkfhnbkjkakaaGreatDoor
