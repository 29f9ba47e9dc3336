/- Layer 13: contracts of the program's Put. Run of an operation by itself, whatever the operation: its Over and Step by their contracts. Run of an operation whose Over may make memory of its own. Layer 23: the chapter's example. Layer 13: nestboxlaw13.Slot. Layer 23: nestboxlaw23.lives. -/
import Derived.Test.YtkpkhibknaoboaaGreatHxA
import Derived.Test.YtkpkhibknaoboaaGreatWn
import Derived.Test.YtkpkhibknaoboaaGreatHoA
import Derived.BigQuiet
import Derived.Deep.QuietTactic
import Derived.ChangeKeysEq
import Derived.Laws.StructEq
namespace Go.Proofs.YtkpkhibknaoboaaGreat
set_option linter.unusedSimpArgs false
section
open Go.RowKit Go.Shelf
set_option linter.unusedVariables false

def puCs (p : Spt) (tg rf : Int) (o : Otm) : List Value := [.int .u64 p.tags, .int .u64 p.item, .int .i64 p.s, .int .u64 o.w, .int .i64 o.ln, .int .i64 tg, .int .i64 rf]
def PUTSV : Value := .agg #[.func (.func 349) #[] #[], .func (.func 350) #[] #[], .func (.func 351) #[] #[]]
theorem c_puts (w : World) : Calls Tryz.prog 348 #[] w fun e w' => e = .returned PUTSV ∧ Below w.heap.size w w' := by
  go_enter Tryz.func348, Tryz.ntmps348
  go_wp2
  exact bodyPost_ret (v := PUTSV) (by simp [results, Tryz.results348, go_sem, PUTSV]) rfl ⟨rfl, (Below.refl _ _).alloc (Nat.le_refl _) _⟩
set_option maxHeartbeats 1000000 in
set_option maxRecDepth 100000 in
theorem c_PutOver {U : Nat} {w : World} (a : Int) (n : Nat) (h0 : w.cell? ⟨U, 0, none⟩ = some (.int .u64 a)) (h4 : w.cell? ⟨U, 4, none⟩ = some (.int .i64 n)) (ha : a ≠ 0) (hn : n ≤ 3) :
    Calls Tryz.prog 346 #[.pointer (some ⟨U, 0, none⟩)] w fun e w' => e = .returned (.bool (n == 3)) ∧ Below w.heap.size w w' := by
  have hU := blk_lt h0
  dsimp only at hU
  have d0 : (a == 0) = false := by simp [ha]
  have d3 : ((n : Int) == 3) = (n == 3) := by rw [Bool.eq_iff_iff]; simp; omega
  clear ha
  go_enter Tryz.func346, Tryz.ntmps346
  go_wp2_with fail
  refine wp_region_via (by kernel_rfl) (by kernel_rfl) ?_
  repeat (go_big_quiet_step ((first
    | (go_at_call 348; exact viaB (c_puts _)))))
  refine wpQuiet_nil ?_
  rintro _ ⟨e, rfl⟩
  go_wp2_with fail
  go_ret
  exact ⟨ret_bool (by first | exact d3 | rfl), via_below _ _⟩
/-- A Put in block U. -/
structure PutAt (W : World) (G : Om) (k U : Nat) (p : Spt) (tg rf : Int) (o : Otm) : Prop where
  ob : Ob W G k U (puCs p tg rf o)
theorem PutAt.ext {S : Nat → Prop} {O O' : Om} {w w' : World} {k U : Nat} {p : Spt} {tg rf : Int} {o : Otm} (h : PutAt w O k U p tg rf o) (e : Ext S O w O' w') (h1 : ¬ S k) : PutAt w' O' k U p tg rf o := ⟨h.ob.ext e h1⟩
theorem PutAt.below {O : Om} {w w' : World} {k U : Nat} {p : Spt} {tg rf : Int} {o : Otm} (h : PutAt w O k U p tg rf o) (hb : Below w.heap.size w w') : PutAt w' O k U p tg rf o := ⟨h.ob.below hb⟩
section
variable {U : Nat} {w : World} {O : Om} {B : Wb} {f : Cf} {s : AW} {k : Nat} {p : Spt} {tg rf : Int}
theorem ixPuts : (∀ W, (Instr.index 456 PUTSV (.int .i64 0)).run Tryz.prog W = .ok (.func (.func 349) #[] #[]) W) ∧ (∀ W, (Instr.index 456 PUTSV (.int .i64 1)).run Tryz.prog W = .ok (.func (.func 350) #[] #[]) W) ∧ (∀ W, (Instr.index 456 PUTSV (.int .i64 2)).run Tryz.prog W = .ok (.func (.func 351) #[] #[]) W) := ⟨fun W => by kernel_rfl, fun W => by kernel_rfl, fun W => by kernel_rfl⟩
set_option maxHeartbeats 1000000 in
theorem c_Putfirst (o : Otm) (hP : PW w O B f s) (hU : PutAt w O k U p tg rf o) (hp : p.ok) (hk : 10 ≤ k) (hhi : ∀ j, O j ≠ 0 → j < w.heap.size) (n0 : 0 ≤ s.n) (n1 : s.n ≤ 4611686018427387904) (r0 : 0 ≤ rf) (r1 : rf ≤ 9223372036854775807) :
    Calls Tryz.prog 349 #[.pointer (some ⟨U, 0, none⟩), .pointer (some ⟨B.p, 0, none⟩)] w (RP (SX k k) w O (.tuple #[]) fun W G => PW W G B f (awStore p.item rf s) ∧ PutAt W G k U p tg rf o) := by
  have ht := hp.item
  have HM : Hid (Me k k w O w O B f s k U (puCs p tg rf o)) := Lib.hid (Me.start hhi hP hU.ob)
  have p0 := hP.wo.c0
  have x1 := hU.ob.c 1 _ rfl
  have x6 := hU.ob.c 6 _ rfl
  have hr1 : IntKind.u64.wrap rf = rf := by rw [IntKind.wrap_u64]; omega
  obtain ⟨it, hit⟩ : ∃ it, it = p.item := ⟨_, rfl⟩
  rw [← hit] at ht x1 ⊢
  have HIT := Lib.hid hit
  have hb : 0 ≤ it ∧ it < 18446744073709551616 := by omega
  clear hP hU hhi hp ht hit
  go_enter Tryz.func349, Tryz.ntmps349
  go_wp2_with fail
  go_region_held3 (fun w' => w'.cell? ⟨B.p, 0, none⟩ = some (.pointer (some ⟨B.c, 0, none⟩)) ∧ w'.cell? ⟨U, 1, none⟩ = some (.int .u64 it) ∧ w'.cell? ⟨U, 6, none⟩ = some (.int .i64 rf)) (go_keep)
    ((go_at_call 24
      refine (c_StoreP it rf (w := w.drew) HM.out.drew.p HM.out.drew.e.hi hb.1 hb.2 r0 (by omega) n0 n1).mono ?_
      rintro e w2 ⟨rfl, G2, e2, P2⟩
      have M2 := Lib.hid (HM.out.drew.world hk e2 P2)
      have p02 := M2.out.p.wo.c0
      have x12 := M2.out.t.c 1 _ rfl
      have x62 := M2.out.t.c 6 _ rfl
      rw [← HIT.out] at x12
      clear e2 P2))
  all_goals
    go_wp2_with fail
    go_end0
    obtain ⟨e0, G, e1, P1, t1⟩ := M2.out.rp (v := .tuple #[])
    exact ⟨rfl, G, e1, P1, ⟨t1⟩⟩
theorem c_Putsecond (o : Otm) (hP : PW w O B f s) (hU : PutAt w O k U p tg rf o) (hp : p.ok) (hk : 10 ≤ k) (hhi : ∀ j, O j ≠ 0 → j < w.heap.size) (n0 : 0 ≤ s.n) (n1 : s.n ≤ 4611686018427387904) :
    Calls Tryz.prog 350 #[.pointer (some ⟨U, 0, none⟩), .pointer (some ⟨B.p, 0, none⟩)] w (RP (SX k k) w O (.tuple #[]) fun W G => PW W G B f (awLoad p.tags s) ∧ PutAt W G k U p tg rf ⟨o.ln, s.M p.tags⟩) := by
  have ht := hp.tags
  have HL := Lib.hid (c_slLoad _ p.tags hP hU.ob rfl ⟨_, rfl⟩ hk hhi (by omega) (by omega) n0 n1)
  clear hP hU hhi hp ht
  go_enter Tryz.func350, Tryz.ntmps350
  go_wp2_with fail
  refine HL.out.mono ?_
  rintro e w1 ⟨rfl, G1, e1, P1, U1⟩
  have HE := Lib.hid (And.intro e1 (And.intro P1 (PutAt.mk (p := p) (tg := tg) (rf := rf) (o := ⟨o.ln, s.M p.tags⟩) U1)))
  clear e1 P1 U1 HL
  go_wp2
  go_end0
  exact ⟨rfl, G1, HE.out⟩
set_option maxHeartbeats 1000000 in
set_option maxRecDepth 100000 in
theorem c_Putthird (o : Otm) (hP : PW w O B f s) (hU : PutAt w O k U p tg rf o) (hp : p.ok) (hk : 10 ≤ k) (hhi : ∀ j, O j ≠ 0 → j < w.heap.size) (w0 : 0 ≤ o.w) (w1 : o.w < 18446744073709551616) (n0 : 0 ≤ s.n) (n1 : s.n ≤ 4611686018427387904) (t0 : 0 ≤ tg) (t1 : tg ≤ 255) :
    Calls Tryz.prog 351 #[.pointer (some ⟨U, 0, none⟩), .pointer (some ⟨B.p, 0, none⟩)] w (RP (SX k k) w O (.tuple #[]) fun W G => PW W G B f (awStore p.tags (twWith o.w p.s tg) s) ∧ PutAt W G k U p tg rf o) := by
  have ht := hp.tags
  have x5 := hU.ob.c 5 _ rfl
  have HL := Lib.hid (c_slStore (w := w.drew) _ p.tags o.w p.s tg (hP.below hhi (drew_below w)) (hU.ob.below (drew_below w)) rfl rfl rfl hk (fun j hj => hhi j hj) (by omega) (by omega) w0 w1 hp.s0 hp.s1 t0 t1 n0 n1)
  have HE0 : Hid (Ext (SX k k) O w O w.drew) := Lib.hid (Ext.of_below hhi (drew_below w))
  clear hP hU hhi hp ht
  go_enter Tryz.func351, Tryz.ntmps351
  go_wp2_with fail
  go_region_held3 (fun w' => w'.cell? ⟨U, 5, none⟩ = some (.int .i64 tg)) (go_keep)
    ((go_at_call 296
      refine HL.out.mono ?_
      rintro e w1 ⟨rfl, G1, e1, P1, U1⟩
      have HE := Lib.hid (And.intro (HE0.out.trans e1) (And.intro P1 (PutAt.mk (p := p) (o := o) U1)))
      have x51 := U1.c 5 _ rfl
      clear e1 P1 U1))
  all_goals
    go_wp2_with fail
    go_end0
    exact ⟨rfl, G1, HE.out⟩
theorem putStep_ln (p : Spt) (tg rf : Int) (s : AW) (o : Otm) (h : o.ln < 3) : (putStep p tg rf s o).2.ln = o.ln + 1 := by
  unfold putStep
  split
  · rename_i e; rw [e]
  · split
    · rename_i e; rw [e]
    · split
      · rename_i e; rw [e]
      · omega
set_option maxHeartbeats 2000000 in
set_option maxRecDepth 100000 in
theorem c_PutStep (o : Otm) (hP : PW w O B f s) (hU : PutAt w O k U p tg rf o) (hp : p.ok) (ho : o.ln < 3) (w0 : 0 ≤ o.w) (w1 : o.w < 18446744073709551616) (hk : 10 ≤ k) (hhi : ∀ j, O j ≠ 0 → j < w.heap.size) (n0 : 0 ≤ s.n) (n1 : s.n ≤ 4611686018427387904) (t0 : 0 ≤ tg) (t1 : tg ≤ 255) (r0 : 0 ≤ rf) (r1 : rf ≤ 9223372036854775807) :
    Calls Tryz.prog 347 #[.pointer (some ⟨U, 0, none⟩), .pointer (some ⟨B.p, 0, none⟩)] w (RP (SX k k) w O (.bool (o.ln == 2)) fun W G => PW W G B f (putStep p tg rf s o).1 ∧ PutAt W G k U p tg rf (putStep p tg rf s o).2) := by
  obtain ⟨ln, wd⟩ := o
  dsimp only at ho w0 w1
  have x0 := hU.ob.c 0 _ rfl
  have x4 := hU.ob.c 4 _ rfl
  have ht := hp.tags
  have ht0 : p.tags ≠ 0 := by omega
  obtain ⟨ix0, ix1, ix2⟩ := ixPuts
  have hk0 : ∀ args W, (callFunc 349 args).run Tryz.prog W = .ok (.enter 349 args) W := enters_of Tryz.func349 (by kernel_rfl) rfl
  have hk1 : ∀ args W, (callFunc 350 args).run Tryz.prog W = .ok (.enter 350 args) W := enters_of Tryz.func350 (by kernel_rfl) rfl
  have hk2 : ∀ args W, (callFunc 351 args).run Tryz.prog W = .ok (.enter 351 args) W := enters_of Tryz.func351 (by kernel_rfl) rfl
  have HU := Lib.hid hU
  have HP := Lib.hid hP
  have HH := Lib.hid hhi
  have HB := Lib.hid hp
  have hln : ln = 0 ∨ ln = 1 ∨ ln = 2 := by omega
  obtain ⟨ta, hta⟩ : ∃ ta, ta = p.tags := ⟨_, rfl⟩
  rw [← hta] at x0 ht0
  have HT := Lib.hid hta
  clear hU hP hhi hp ht ho hta
  rcases hln with rfl | rfl | rfl
  · clear hk1 hk2 ix1 ix2
    go_enter Tryz.func347, Tryz.ntmps347
    go_wp2_with fail
    refine (c_PutOver ta 0 x0 x4 ht0 (by decide)).mono ?_
    rintro e wa ⟨rfl, hba⟩
    have P1 := Lib.hid (HP.out.below HH.out hba)
    have U1 := Lib.hid (HU.out.below hba)
    have E1 := Lib.hid (Ext.of_below (S := SX k k) HH.out hba)
    have y4 := U1.out.ob.c 4 _ rfl
    have yl := U1.out.ob.lt
    clear hba x0 x4
    go_wp2_with fail
    go_region_held3 (fun w' => w'.cell? ⟨U, 4, none⟩ = some (.int .i64 0)) (go_keep)
      ((first
        | (go_at_call 348
           refine (c_puts _).mono ?_
           rintro e wb ⟨rfl, hbb⟩
           have P2 := Lib.hid ((P1.out.below E1.out.hi (drew_below wa)).below E1.out.drew.hi hbb)
           have U2 := Lib.hid ((U1.out.below (drew_below wa)).below hbb)
           have E2 := Lib.hid (E1.out.drew.below hbb)
           have y42 := U2.out.ob.c 4 _ rfl
           clear hbb)
        | (go_at_call 349
           refine (c_Putfirst ⟨0, wd⟩ P2.out U2.out HB.out hk E2.out.hi n0 n1 r0 r1).mono ?_
           rintro e wc ⟨rfl, G3, e3, P3, U3⟩
           have M3 : Hid (Me k k w O wc G3 B f (awStore p.item rf s) k U _) := Lib.hid ⟨E2.out.trans e3, P3, U3.ob⟩
           have y43 := M3.out.t.c 4 _ rfl
           clear e3 P3 U3)))
    all_goals
      have z4 := M3.out.t.c 4 _ rfl
      have zf := M3.out.t.f 4
      have M4 := Lib.hid (M3.out.set hk (Nat.le_refl _) (Nat.le_refl _) 4 (.int .i64 ((1 : Nat) : Int)) (by simp [puCs]))
      have q0 := M4.out.t.c 0 _ rfl
      have q4 := M4.out.t.c 4 _ rfl
      go_wp2_with fail
      refine (c_PutOver p.tags 1 q0 q4 (by rw [← HT.out]; exact ht0) (by decide)).mono ?_
      rintro e wd ⟨rfl, hbd⟩
      have M5 := Lib.hid (M4.out.below hbd)
      clear hbd q0 q4
      go_wp2_with fail
      go_ret
      exact ⟨rfl, _, M5.out.e, M5.out.p, ⟨M5.out.t⟩⟩
  · clear hk0 hk2 ix0 ix2
    go_enter Tryz.func347, Tryz.ntmps347
    go_wp2_with fail
    refine (c_PutOver ta 1 x0 x4 ht0 (by decide)).mono ?_
    rintro e wa ⟨rfl, hba⟩
    have P1 := Lib.hid (HP.out.below HH.out hba)
    have U1 := Lib.hid (HU.out.below hba)
    have E1 := Lib.hid (Ext.of_below (S := SX k k) HH.out hba)
    have y4 := U1.out.ob.c 4 _ rfl
    have yl := U1.out.ob.lt
    clear hba x0 x4
    go_wp2_with fail
    go_region_held3 (fun w' => w'.cell? ⟨U, 4, none⟩ = some (.int .i64 1)) (go_keep)
      ((first
        | (go_at_call 348
           refine (c_puts _).mono ?_
           rintro e wb ⟨rfl, hbb⟩
           have P2 := Lib.hid ((P1.out.below E1.out.hi (drew_below wa)).below E1.out.drew.hi hbb)
           have U2 := Lib.hid ((U1.out.below (drew_below wa)).below hbb)
           have E2 := Lib.hid (E1.out.drew.below hbb)
           have y42 := U2.out.ob.c 4 _ rfl
           clear hbb)
        | (go_at_call 350
           refine (c_Putsecond ⟨1, wd⟩ P2.out U2.out HB.out hk E2.out.hi n0 n1).mono ?_
           rintro e wc ⟨rfl, G3, e3, P3, U3⟩
           have M3 : Hid (Me k k w O wc G3 B f (awLoad p.tags s) k U _) := Lib.hid ⟨E2.out.trans e3, P3, U3.ob⟩
           have y43 := M3.out.t.c 4 _ rfl
           clear e3 P3 U3)))
    all_goals
      have z4 := M3.out.t.c 4 _ rfl
      have zf := M3.out.t.f 4
      have M4 := Lib.hid (M3.out.set hk (Nat.le_refl _) (Nat.le_refl _) 4 (.int .i64 ((2 : Nat) : Int)) (by simp [puCs]))
      have q0 := M4.out.t.c 0 _ rfl
      have q4 := M4.out.t.c 4 _ rfl
      go_wp2_with fail
      refine (c_PutOver p.tags 2 q0 q4 (by rw [← HT.out]; exact ht0) (by decide)).mono ?_
      rintro e wd ⟨rfl, hbd⟩
      have M5 := Lib.hid (M4.out.below hbd)
      clear hbd q0 q4
      go_wp2_with fail
      go_ret
      exact ⟨rfl, _, M5.out.e, M5.out.p, ⟨M5.out.t⟩⟩
  · clear hk0 hk1 ix0 ix1
    go_enter Tryz.func347, Tryz.ntmps347
    go_wp2_with fail
    refine (c_PutOver ta 2 x0 x4 ht0 (by decide)).mono ?_
    rintro e wa ⟨rfl, hba⟩
    have P1 := Lib.hid (HP.out.below HH.out hba)
    have U1 := Lib.hid (HU.out.below hba)
    have E1 := Lib.hid (Ext.of_below (S := SX k k) HH.out hba)
    have y4 := U1.out.ob.c 4 _ rfl
    have yl := U1.out.ob.lt
    clear hba x0 x4
    go_wp2_with fail
    go_region_held3 (fun w' => w'.cell? ⟨U, 4, none⟩ = some (.int .i64 2)) (go_keep)
      ((first
        | (go_at_call 348
           refine (c_puts _).mono ?_
           rintro e wb ⟨rfl, hbb⟩
           have P2 := Lib.hid ((P1.out.below E1.out.hi (drew_below wa)).below E1.out.drew.hi hbb)
           have U2 := Lib.hid ((U1.out.below (drew_below wa)).below hbb)
           have E2 := Lib.hid (E1.out.drew.below hbb)
           have y42 := U2.out.ob.c 4 _ rfl
           clear hbb)
        | (go_at_call 351
           refine (c_Putthird ⟨2, wd⟩ P2.out U2.out HB.out hk E2.out.hi w0 w1 n0 n1 t0 t1).mono ?_
           rintro e wc ⟨rfl, G3, e3, P3, U3⟩
           have M3 : Hid (Me k k w O wc G3 B f (awStore p.tags (twWith wd p.s tg) s) k U _) := Lib.hid ⟨E2.out.trans e3, P3, U3.ob⟩
           have y43 := M3.out.t.c 4 _ rfl
           clear e3 P3 U3)))
    all_goals
      have z4 := M3.out.t.c 4 _ rfl
      have zf := M3.out.t.f 4
      have M4 := Lib.hid (M3.out.set hk (Nat.le_refl _) (Nat.le_refl _) 4 (.int .i64 ((3 : Nat) : Int)) (by simp [puCs]))
      have q0 := M4.out.t.c 0 _ rfl
      have q4 := M4.out.t.c 4 _ rfl
      go_wp2_with fail
      refine (c_PutOver p.tags 3 q0 q4 (by rw [← HT.out]; exact ht0) (by decide)).mono ?_
      rintro e wd ⟨rfl, hbd⟩
      have M5 := Lib.hid (M4.out.below hbd)
      clear hbd q0 q4
      go_wp2_with fail
      go_ret
      exact ⟨rfl, _, M5.out.e, M5.out.p, ⟨M5.out.t⟩⟩
set_option maxHeartbeats 1000000 in
set_option maxRecDepth 100000 in
theorem c_NewPut (hp : p.ok) (hhi : ∀ j, O j ≠ 0 → j < w.heap.size) (t0 : 1 ≤ tg) (t1 : tg ≤ 255) (r0 : 1 ≤ rf) (r1 : rf ≤ 9223372036854775807) : Calls Tryz.prog 96 #[.agg #[.int .i64 p.b, .int .i64 p.q, .int .i64 p.s], .int .i64 tg, .int .i64 rf] w fun e w' => ∃ U, RP (fun t => t = k) w O (.pointer (some ⟨U, 0, none⟩)) (fun W G => PutAt W G k U p tg rf ⟨0, 0⟩) e w' := by
  have HO := Lib.hid (fun (W : World) => c_of (w := W) hp)
  have HH := Lib.hid hhi
  have d1 : decide (tg < 1) = false := by simp; omega
  have d2 : decide ((255 : Int) < tg) = false := by simp; omega
  have d3 : decide (rf < 1) = false := by simp; omega
  clear hp hhi
  go_enter Tryz.func96, Tryz.ntmps96
  go_wp2_with fail
  refine (HO.out _).mono ?_
  rintro e w1 ⟨rfl, hb⟩
  have HB : Hid (Below w.heap.size w w1) := Lib.hid (((Below.refl _ _).alloc (Nat.le_refl _) _).trans (hb.mono (by simp)))
  obtain ⟨G2, e2, x2, -⟩ := alloc_ob (Ext.of_below (S := fun t => t = k) HH.out HB.out).hi k (puCs p tg rf ⟨0, 0⟩).toArray 297 w1.heap.size rfl
  have HE := Lib.hid (And.intro ((Ext.of_below HH.out HB.out).trans e2) x2)
  clear hb e2 x2
  go_wp2_with fail
  go_ret
  exact ⟨_, rfl, G2, HE.out.1, ⟨HE.out.2⟩⟩
end
end
section
open Go.RowKit
set_option linter.unusedVariables false

def runN {Y : Type} (over : Y → Bool) (step : AW × Y → AW × Y) : Nat → AW × Y → Nat × (AW × Y)
  | 0, z => (0, z)
  | m + 1, z => if over z.2 then (0, z) else ((runN over step m (step z)).1 + 1, (runN over step m (step z)).2)
section
variable {Y : Type} {over : Y → Bool} {step : AW × Y → AW × Y}
theorem runN_le (k : Nat) : ∀ z, (runN over step k z).1 ≤ k := by
  induction k with
  | zero => intro z; exact Nat.le_refl _
  | succ k ih =>
    intro z
    unfold runN
    split
    · exact Nat.zero_le _
    · have := ih (step z); dsimp only; omega
theorem runN_over (k : Nat) (z : AW × Y) (h : over z.2 = true) : runN over step k z = (0, z) := by
  cases k with
  | zero => rfl
  | succ k => unfold runN; rw [if_pos h]
theorem runN_on (k : Nat) (z : AW × Y) (h : over z.2 = false) : runN over step (k + 1) z = ((runN over step k (step z)).1 + 1, (runN over step k (step z)).2) := by
  conv => lhs; unfold runN
  rw [if_neg (by simp [h])]
end
set_option maxHeartbeats 1000000 in
set_option maxRecDepth 100000 in
theorem c_RunG {Y : Type} (over : Y → Bool) (step : AW × Y → AW × Y) (S : Nat → Prop) (I : World → Om → AW × Y → Prop) (p X : Nat) (ty : TypeId) (fO fS : FuncId)
    (hmo : ∀ W, (method 562 ty (.pointer (some ⟨X, 0, none⟩)) "Over").run Tryz.prog W = .ok (fO, .pointer (some ⟨X, 0, none⟩)) W)
    (hms : ∀ W, (method 562 ty (.pointer (some ⟨X, 0, none⟩)) "Step").run Tryz.prog W = .ok (fS, .pointer (some ⟨X, 0, none⟩)) W)
    (hKO : ∀ args W, (callFunc fO args).run Tryz.prog W = .ok (.enter fO args) W) (hKS : ∀ args W, (callFunc fS args).run Tryz.prog W = .ok (.enter fS args) W)
    (cO : ∀ W G z, I W G z → Calls Tryz.prog fO #[.pointer (some ⟨X, 0, none⟩)] W fun e w' => e = .returned (.bool (over z.2)) ∧ W = w')
    (cS : ∀ W G z, I W G z → over z.2 = false → (∀ j, G j ≠ 0 → j < W.heap.size) → 0 ≤ z.1.n → z.1.n ≤ 4611686018427387904 → Calls Tryz.prog fS #[.pointer (some ⟨X, 0, none⟩), .pointer (some ⟨p, 0, none⟩)] W fun e w' => ∃ v, RP S W G v (fun W1 G1 => I W1 G1 (step z)) e w')
    (hst : ∀ z, (step z).1.n ≤ z.1.n + 1 ∧ z.1.n ≤ (step z).1.n)
    (w : World) (O : Om) (m : Nat) (z : AW × Y) (h : I w O z) (hhi : ∀ j, O j ≠ 0 → j < w.heap.size) (n0 : 0 ≤ z.1.n) (n1 : z.1.n + m ≤ 4611686018427387904) :
    Calls Tryz.prog 31 #[.pointer (some ⟨p, 0, none⟩), .iface ty (.pointer (some ⟨X, 0, none⟩)), .int .i64 m] w (RP S w O (.int .i64 (runN over step m z).1) fun W G => I W G (runN over step m z).2) := by
  have H := Lib.hid h
  have HH := Lib.hid hhi
  have HCO := Lib.hid cO
  have HCS := Lib.hid cS
  have HST := Lib.hid hst
  have hm1 : (m : Int) ≤ 4611686018427387904 := by omega
  clear h hhi cO cS hst
  go_enter Tryz.func31, Tryz.ntmps31
  go_wp2_with fail
  go_loopw [7] (fun i wr => ∃ (k : Nat) (y : AW × Y) (G : Om), k ≤ m ∧ i = .int .i64 k ∧ I wr G y ∧ z.1.n ≤ y.1.n ∧ y.1.n ≤ z.1.n + k ∧ runN over step m z = ((runN over step (m - k) y).1 + k, (runN over step (m - k) y).2) ∧ Ext S O w G wr) (fun i _ => m - (intOf i).toNat)
  case atStart => exact ⟨0, z, O, Nat.zero_le _, rfl, H.out, Int.le_refl _, by omega, rfl, Ext.refl HH.out⟩
  case round =>
    obtain ⟨k, y, G, hk, rfl, hI, hn, hn2, hr, he⟩ := hrel
    have HI := Lib.hid hI
    have HR := Lib.hid hr
    have HE := Lib.hid he
    clear hI hr he
    by_cases hk2 : k < m
    · obtain ⟨q, hq⟩ : ∃ q, m - k = q + 1 := ⟨m - k - 1, by omega⟩
      have hq2 : m - (k + 1) = q := by omega
      have HQ := Lib.hid hq
      have HQ2 := Lib.hid hq2
      clear hq hq2
      cases ho : over y.2
      · have HOv := Lib.hid ho
        have hy1 : y.1.n ≤ 4611686018427387904 := by omega
        have hy0 : 0 ≤ y.1.n := by omega
        clear ho
        go_wp2_with fail
        refine (HCO.out _ _ _ HI.out).mono ?_
        rintro e w' ⟨rfl, rfl⟩
        rw [HOv.out]
        go_wp2_with fail
        refine (HCS.out _ _ _ HI.out HOv.out HE.out.hi hy0 hy1).mono ?_
        rintro e w1 ⟨v, rfl, G1, e1, i1⟩
        have hn3 := HST.out y
        have HI1 := Lib.hid i1
        have HE1 := Lib.hid (HE.out.trans e1)
        have HR1 : Hid (runN over step m z = ((runN over step (m - (k + 1)) (step y)).1 + (k + 1), (runN over step (m - (k + 1)) (step y)).2)) := by
          refine Lib.hid ?_
          rw [HR.out, HQ.out, HQ2.out, runN_on _ _ HOv.out]
          dsimp only
          rw [Nat.add_assoc, Nat.add_comm 1 k]
        clear i1 e1
        go_wp2
        go_roundw
        case rel => exact ⟨k + 1, step y, G1, by omega, by go_num, HI1.out, by omega, by omega, HR1.out, HE1.out⟩
        case measure => simp [intOf]; omega
      · have HOv := Lib.hid ho
        have HF : Hid (runN over step m z = (k, y)) := by
          refine Lib.hid ?_
          rw [HR.out, runN_over _ _ ho]; simp
        clear ho
        go_wp2_with fail
        refine (HCO.out _ _ _ HI.out).mono ?_
        rintro e w' ⟨rfl, rfl⟩
        rw [HOv.out]
        go_wp2
        go_ret
        rw [HF.out]
        exact ⟨rfl, G, HE.out, HI.out⟩
    · have hkm : k = m := by omega
      have HF : Hid (runN over step m z = (k, y)) := by
        refine Lib.hid ?_
        rw [HR.out, hkm, Nat.sub_self]; unfold runN; simp
      clear hkm
      go_wp2
      go_ret
      rw [HF.out]
      exact ⟨rfl, G, HE.out, HI.out⟩
end
section
open Go.RowKit
set_option linter.unusedVariables false

set_option maxHeartbeats 1000000 in
set_option maxRecDepth 100000 in
theorem c_RunB {Y : Type} (over : Y → Bool) (step : AW × Y → AW × Y) (S : Nat → Prop) (I : World → Om → AW × Y → Prop) (p X : Nat) (ty : TypeId) (fO fS : FuncId)
    (hmo : ∀ W, (method 562 ty (.pointer (some ⟨X, 0, none⟩)) "Over").run Tryz.prog W = .ok (fO, .pointer (some ⟨X, 0, none⟩)) W)
    (hms : ∀ W, (method 562 ty (.pointer (some ⟨X, 0, none⟩)) "Step").run Tryz.prog W = .ok (fS, .pointer (some ⟨X, 0, none⟩)) W)
    (hKO : ∀ args W, (callFunc fO args).run Tryz.prog W = .ok (.enter fO args) W) (hKS : ∀ args W, (callFunc fS args).run Tryz.prog W = .ok (.enter fS args) W)
    (cO : ∀ W G z, I W G z → Calls Tryz.prog fO #[.pointer (some ⟨X, 0, none⟩)] W fun e w' => e = .returned (.bool (over z.2)) ∧ Below W.heap.size W w')
    (hbI : ∀ W W' G z, I W G z → (∀ j, G j ≠ 0 → j < W.heap.size) → Below W.heap.size W W' → I W' G z)
    (cS : ∀ W G z, I W G z → over z.2 = false → (∀ j, G j ≠ 0 → j < W.heap.size) → 0 ≤ z.1.n → z.1.n ≤ 4611686018427387904 → Calls Tryz.prog fS #[.pointer (some ⟨X, 0, none⟩), .pointer (some ⟨p, 0, none⟩)] W fun e w' => ∃ v, RP S W G v (fun W1 G1 => I W1 G1 (step z)) e w')
    (hst : ∀ z, (step z).1.n ≤ z.1.n + 1 ∧ z.1.n ≤ (step z).1.n)
    (w : World) (O : Om) (m : Nat) (z : AW × Y) (h : I w O z) (hhi : ∀ j, O j ≠ 0 → j < w.heap.size) (n0 : 0 ≤ z.1.n) (n1 : z.1.n + m ≤ 4611686018427387904) :
    Calls Tryz.prog 31 #[.pointer (some ⟨p, 0, none⟩), .iface ty (.pointer (some ⟨X, 0, none⟩)), .int .i64 m] w (RP S w O (.int .i64 (runN over step m z).1) fun W G => I W G (runN over step m z).2) := by
  have H := Lib.hid h
  have HH := Lib.hid hhi
  have HCO := Lib.hid cO
  have HCS := Lib.hid cS
  have HST := Lib.hid hst
  have HBI := Lib.hid hbI
  have hm1 : (m : Int) ≤ 4611686018427387904 := by omega
  clear h hhi cO cS hst hbI
  go_enter Tryz.func31, Tryz.ntmps31
  go_wp2_with fail
  go_loopw [7] (fun i wr => ∃ (k : Nat) (y : AW × Y) (G : Om), k ≤ m ∧ i = .int .i64 k ∧ I wr G y ∧ z.1.n ≤ y.1.n ∧ y.1.n ≤ z.1.n + k ∧ runN over step m z = ((runN over step (m - k) y).1 + k, (runN over step (m - k) y).2) ∧ Ext S O w G wr) (fun i _ => m - (intOf i).toNat)
  case atStart => exact ⟨0, z, O, Nat.zero_le _, rfl, H.out, Int.le_refl _, by omega, rfl, Ext.refl HH.out⟩
  case round =>
    obtain ⟨k, y, G, hk, rfl, hI, hn, hn2, hr, he⟩ := hrel
    have HI := Lib.hid hI
    have HR := Lib.hid hr
    have HE := Lib.hid he
    clear hI hr he
    by_cases hk2 : k < m
    · obtain ⟨q, hq⟩ : ∃ q, m - k = q + 1 := ⟨m - k - 1, by omega⟩
      have hq2 : m - (k + 1) = q := by omega
      have HQ := Lib.hid hq
      have HQ2 := Lib.hid hq2
      clear hq hq2
      cases ho : over y.2
      · have HOv := Lib.hid ho
        have hy1 : y.1.n ≤ 4611686018427387904 := by omega
        have hy0 : 0 ≤ y.1.n := by omega
        clear ho
        go_wp2_with fail
        refine (HCO.out _ _ _ HI.out).mono ?_
        rintro e w' ⟨rfl, hbw⟩
        have HIb := Lib.hid (HBI.out _ _ _ _ HI.out HE.out.hi hbw)
        have HEb := Lib.hid (HE.out.below hbw)
        clear hbw
        rw [HOv.out]
        go_wp2_with fail
        refine (HCS.out _ _ _ HIb.out HOv.out HEb.out.hi hy0 hy1).mono ?_
        rintro e w1 ⟨v, rfl, G1, e1, i1⟩
        have hn3 := HST.out y
        have HI1 := Lib.hid i1
        have HE1 := Lib.hid (HEb.out.trans e1)
        have HR1 : Hid (runN over step m z = ((runN over step (m - (k + 1)) (step y)).1 + (k + 1), (runN over step (m - (k + 1)) (step y)).2)) := by
          refine Lib.hid ?_
          rw [HR.out, HQ.out, HQ2.out, runN_on _ _ HOv.out]
          dsimp only
          rw [Nat.add_assoc, Nat.add_comm 1 k]
        clear i1 e1
        go_wp2
        go_roundw
        case rel => exact ⟨k + 1, step y, G1, by omega, by go_num, HI1.out, by omega, by omega, HR1.out, HE1.out⟩
        case measure => simp [intOf]; omega
      · have HOv := Lib.hid ho
        have HF : Hid (runN over step m z = (k, y)) := by
          refine Lib.hid ?_
          rw [HR.out, runN_over _ _ ho]; simp
        clear ho
        go_wp2_with fail
        refine (HCO.out _ _ _ HI.out).mono ?_
        rintro e w' ⟨rfl, hbw⟩
        have HIb := Lib.hid (HBI.out _ _ _ _ HI.out HE.out.hi hbw)
        have HEb := Lib.hid (HE.out.below hbw)
        clear hbw
        rw [HOv.out]
        go_wp2
        go_ret
        rw [HF.out]
        exact ⟨rfl, G, HEb.out, HIb.out⟩
    · have hkm : k = m := by omega
      have HF : Hid (runN over step m z = (k, y)) := by
        refine Lib.hid ?_
        rw [HR.out, hkm, Nat.sub_self]; unfold runN; simp
      clear hkm
      go_wp2
      go_ret
      rw [HF.out]
      exact ⟨rfl, G, HE.out, HI.out⟩
end
section
open Go.RowKit Go.Shelf
set_option linter.unusedVariables false

def l23sp : Spt := ⟨1, 1, 2⟩
theorem l23sp_ok : l23sp.ok := by constructor <;> decide
def ptOver (o : Otm) : Bool := o.ln == 3
def l23p : Nat × (AW × Otm) := runN ptOver (fun z => putStep l23sp 9 5 z.1 z.2) 9 (aw0 1, ⟨0, 0⟩)
def l23s : AW := awStore (plRef 5) 1 l23p.2.1
def l23e : Nat × (AW × Evm) := runN evOver evStep 99 (l23s, evNew)
theorem l23_f : l23e.1 = 29 ∧ (evGot l23e.2.2).1 = 5 ∧ (evGot l23e.2.2).2.b = 1 ∧ (evGot l23e.2.2).2.q = 1 ∧ (evGot l23e.2.2).2.s = 2 ∧ twTag (l23e.2.1.M l23sp.tags) 2 = 0 ∧ l23e.2.1.M l23sp.item = 0 ∧ l23e.2.1.M (plRef 5) = 2 ∧ l23e.2.1.M 4 = 7 := by decide +kernel
theorem l23_n : (0 ≤ l23p.2.1.n ∧ l23p.2.1.n ≤ 1000) ∧ (0 ≤ l23s.n ∧ l23s.n ≤ 1000) := by decide +kernel
theorem sw0 : ¬ SW 0 := fun h => absurd h.1 (by decide)
theorem sx0 {a b : Nat} (h : 10 ≤ a) : ¬ SX a b 0 := fun k => by unfold SX at k; omega
theorem m_PuOver (a : Addr) (w : World) : (method 562 188 (.pointer (some a)) "Over").run Tryz.prog w = .ok (346, .pointer (some a)) w := by kernel_rfl
theorem m_PuStep (a : Addr) (w : World) : (method 562 188 (.pointer (some a)) "Step").run Tryz.prog w = .ok (347, .pointer (some a)) w := by kernel_rfl
theorem m_EvOver (a : Addr) (w : World) : (method 562 80 (.pointer (some a)) "Over").run Tryz.prog w = .ok (51, .pointer (some a)) w := by kernel_rfl
theorem m_EvStep (a : Addr) (w : World) : (method 562 80 (.pointer (some a)) "Step").run Tryz.prog w = .ok (57, .pointer (some a)) w := by kernel_rfl
theorem putStep_w {p : Spt} {tg rf : Int} {s : AW} {o : Otm} (hb : Bd s.M) (w0 : 0 ≤ o.w) (w1 : o.w < 18446744073709551616) : 0 ≤ (putStep p tg rf s o).2.w ∧ (putStep p tg rf s o).2.w < 18446744073709551616 := by
  unfold putStep
  split
  · exact ⟨w0, w1⟩
  · split
    · exact hb _
    · split
      · exact ⟨w0, w1⟩
      · exact ⟨w0, w1⟩
theorem putStep_n (p : Spt) (tg rf : Int) (s : AW) (o : Otm) : (putStep p tg rf s o).1.n ≤ s.n + 1 ∧ s.n ≤ (putStep p tg rf s o).1.n := by
  unfold putStep
  split
  · exact ⟨Int.le_refl _, by show s.n ≤ s.n + 1; omega⟩
  · split
    · exact ⟨Int.le_refl _, by show s.n ≤ s.n + 1; omega⟩
    · split
      · exact ⟨Int.le_refl _, by show s.n ≤ s.n + 1; omega⟩
      · exact ⟨by dsimp only; omega, Int.le_refl _⟩
theorem evStep_n (z : AW × Evm) : (evStep z).1.n ≤ z.1.n + 1 ∧ z.1.n ≤ (evStep z).1.n := by
  obtain ⟨s, z⟩ := z
  by_cases h : 0 ≤ z.ln ∧ z.ln ≤ 12
  · have a := evStep_aw s z h.1 h.2
    exact ⟨a.n1, a.n0⟩
  · have e : evStep (s, z) = (s, z) := by
      unfold evStep
      dsimp only
      rw [if_neg (by omega), if_neg (by omega), if_neg (by omega), if_neg (by omega), if_neg (by omega), if_neg (by omega), if_neg (by omega), if_neg (by omega), if_neg (by omega), if_neg (by omega), if_neg (by omega), if_neg (by omega)]
    rw [e]
    exact ⟨by dsimp only; omega, Int.le_refl _⟩
section
variable {w : World} {O : Om} {B : Wb} {f : Cf} {s : AW} {k : Nat}
theorem c_PuRun (U : Nat) (p : Spt) (tg rf : Int) (m : Nat) (hP : PW w O B f s) (hU : PutAt w O k U p tg rf ⟨0, 0⟩) (hp : p.ok) (hk : 10 ≤ k) (hhi : ∀ j, O j ≠ 0 → j < w.heap.size) (n0 : 0 ≤ s.n) (n1 : s.n + m ≤ 4611686018427387904) (t0 : 1 ≤ tg) (t1 : tg ≤ 255) (r0 : 1 ≤ rf) (r1 : rf ≤ 9223372036854775807) :
    Calls Tryz.prog 31 #[.pointer (some ⟨B.p, 0, none⟩), .iface 188 (.pointer (some ⟨U, 0, none⟩)), .int .i64 m] w (RP (SX k k) w O (.int .i64 (runN ptOver (fun z => putStep p tg rf z.1 z.2) m (s, ⟨0, 0⟩)).1) fun W G => PW W G B f (runN ptOver (fun z => putStep p tg rf z.1 z.2) m (s, ⟨0, 0⟩)).2.1) := by
  refine (c_RunB ptOver (fun z => putStep p tg rf z.1 z.2) (SX k k) (fun W G z => PW W G B f z.1 ∧ PutAt W G k U p tg rf z.2 ∧ z.2.ln ≤ 3 ∧ 0 ≤ z.2.w ∧ z.2.w < 18446744073709551616) B.p U 188 346 347 (m_PuOver _) (m_PuStep _)
    (run_enter Tryz.func346 (by kernel_rfl) (by kernel_rfl)) (run_enter Tryz.func347 (by kernel_rfl) (by kernel_rfl)) ?_ (fun W W' G z h hh hb => ⟨h.1.below hh hb, h.2.1.below hb, h.2.2⟩) ?_ (fun z => putStep_n p tg rf z.1 z.2) w O m (s, ⟨0, 0⟩) ⟨hP, hU, Nat.zero_le _, Int.le_refl _, by show (0 : Int) < 18446744073709551616; decide⟩ hhi n0 n1).mono ?_
  · rintro W G ⟨s1, y⟩ ⟨h1, h2, h3, -, -⟩
    have ht := hp.tags
    exact c_PutOver p.tags y.ln (h2.ob.c 0 _ rfl) (h2.ob.c 4 _ rfl) (by omega) h3
  · rintro W G ⟨s1, y⟩ ⟨h1, h2, h3, h4, h5⟩ ho hh q0 q1
    have hy : y.ln < 3 := by
      have h3 : y.ln ≤ 3 := h3
      have : y.ln ≠ 3 := by intro e; unfold ptOver at ho; simp [e] at ho
      omega
    refine (c_PutStep y h1 h2 hp hy h4 h5 hk hh q0 q1 (by omega) t1 (by omega) r1).mono ?_
    intro e w' hp2
    have hw := putStep_w (p := p) (tg := tg) (rf := rf) (o := y) h1.bd h4 h5
    have hl := putStep_ln p tg rf s1 y hy
    exact ⟨_, hp2.mono (fun _ _ h => h) fun W1 G1 h => ⟨h.1, h.2, by show (putStep p tg rf s1 y).2.ln ≤ 3; omega, hw.1, hw.2⟩⟩
  · intro e w' hp2
    exact hp2.mono (fun _ _ h => h) fun W1 G1 h => h.1
theorem c_EvRun (X : Nat) (m : Nat) (hP : PW w O B f s) (hX : EvAt w O k X evNew) (hk : 10 ≤ k) (hhi : ∀ j, O j ≠ 0 → j < w.heap.size) (n0 : 0 ≤ s.n) (n1 : s.n + m ≤ 4611686018427387904) :
    Calls Tryz.prog 31 #[.pointer (some ⟨B.p, 0, none⟩), .iface 80 (.pointer (some ⟨X, 0, none⟩)), .int .i64 m] w (RP (SX k (k + 5)) w O (.int .i64 (runN evOver evStep m (s, evNew)).1) fun W G => PW W G B f (runN evOver evStep m (s, evNew)).2.1 ∧ EvAt W G k X (runN evOver evStep m (s, evNew)).2.2 ∧ EvOk (runN evOver evStep m (s, evNew)).2.2) := by
  refine (c_RunG evOver evStep (SX k (k + 5)) (fun W G z => PW W G B f z.1 ∧ EvAt W G k X z.2 ∧ EvOk z.2) B.p X 80 51 57 (m_EvOver _) (m_EvStep _)
    (run_enter Tryz.func51 (by kernel_rfl) (by kernel_rfl)) (run_enter Tryz.func57 (by kernel_rfl) (by kernel_rfl)) ?_ ?_ evStep_n w O m (s, evNew) ⟨hP, hX, evNew_ok⟩ hhi n0 n1).mono ?_
  · rintro W G ⟨s1, y⟩ ⟨h1, h2, h3⟩
    exact c_EvOver h2.cell0
  · rintro W G ⟨s1, y⟩ ⟨h1, h2, h3⟩ ho hh q0 q1
    refine (c_EvStep h1 h2 h3 hk hh q0 q1).mono ?_
    intro e w' hp2
    exact ⟨_, RP.mono hp2 (fun _ _ h => h) fun W1 G1 h => ⟨h.1, h.2, evStep_ok h1.bd h3⟩⟩
  · intro e w' hp2
    exact hp2
end
set_option maxHeartbeats 1000000 in
set_option maxRecDepth 100000 in
theorem c_lwSpot (w : World) : Calls Tryz.prog 112 #[.int .i64 1, .int .i64 1, .int .i64 2] w fun e w' => e = .returned (.agg #[.int .i64 1, .int .i64 1, .int .i64 2]) ∧ Below w.heap.size w w' := by
  have h2 : fnvSize 1 = 2 := by decide
  go_enter Tryz.func112, Tryz.ntmps112
  go_wp2_with fail
  refine (c_Size 1 _ (by decide) (by decide)).mono ?_
  rintro e w' ⟨rfl, rfl⟩
  rw [h2]
  go_wp2_with fail
  exact bodyPost_ret (v := .agg #[.int .i64 1, .int .i64 1, .int .i64 2]) (by simp [results, Tryz.results112, go_sem]) rfl ⟨rfl, by (repeat (first | exact Below.refl _ _ | exact (Below.refl _ _).alloc (Nat.le_refl _) _ | (with_reducible refine below_setCell' ?_ (by omega) _ _) | (with_reducible refine Below.drew ?_)))⟩
end
section
open Go.RowKit Go.Shelf
set_option linter.unusedVariables false
section
variable {w : World} {O : Om} {B : Wb} {f : Cf} {s : AW} {k : Nat}
set_option maxHeartbeats 2000000 in
set_option maxRecDepth 100000 in
theorem c_Slot (p : Spt) (hP : PW w O B f s) (hp : p.ok) (hhi : ∀ j, O j ≠ 0 → j < w.heap.size) :
    Calls Tryz.prog 29 #[.pointer (some ⟨B.p, 0, none⟩), .agg #[.int .i64 p.b, .int .i64 p.q, .int .i64 p.s]] w fun e w' => e = .returned (.tuple #[.int .i64 (twTag (s.M p.tags) p.s), .int .u64 (s.M p.item)]) ∧ Below w.heap.size w w' := by
  have hit := hp.item
  have htg := hp.tags
  have hq2 := hp.q2
  have hs0 := hp.s0
  have hs1 := hp.s1
  have HI := Lib.hid (fun W => c_Item p.b p.q p.s W (by have := hp.b0; omega) (by have := hp.b1; omega) (by have := hp.q0; omega) (by omega) (by omega) (by omega))
  have HT := Lib.hid (fun W => c_Tags p.b p.q W (by have := hp.b0; omega) (by have := hp.b1; omega) (by have := hp.q0; omega) (by omega))
  have HPI := Lib.hid (fun (W : World) (h : Below w.heap.size w W) => c_Peek p.item (hP.below hhi h).ce (by omega) (by omega))
  have HPT := Lib.hid (fun (W : World) (h : Below w.heap.size w W) => c_Peek p.tags (hP.below hhi h).ce (by omega) (by omega))
  have hbt := hP.bd p.tags
  have HTG := Lib.hid (fun W => c_TwTag (s.M p.tags) p.s W hbt.1 hbt.2 hs0 hs1)
  have hia2 : plItem p.b p.q p.s = p.item := rfl
  have hta2 : plTags p.b p.q = p.tags := rfl
  rw [hia2] at HI
  rw [hta2] at HT
  obtain ⟨ia, hia⟩ : ∃ ia, ia = p.item := ⟨_, rfl⟩
  obtain ⟨ta, hta⟩ : ∃ ta, ta = p.tags := ⟨_, rfl⟩
  rw [← hia] at HI HPI
  rw [← hta] at HT HPT HTG
  rw [← hia, ← hta]
  obtain ⟨b, hb⟩ : ∃ z, z = p.b := ⟨_, rfl⟩
  obtain ⟨q, hq⟩ : ∃ z, z = p.q := ⟨_, rfl⟩
  obtain ⟨sl, hs⟩ : ∃ z, z = p.s := ⟨_, rfl⟩
  rw [← hb, ← hq, ← hs] at HI
  rw [← hb, ← hq] at HT
  rw [← hs] at HTG
  rw [← hb, ← hq, ← hs]
  have p0 := hP.wo.c0
  have pl := hP.wo.lt
  obtain ⟨M, hM⟩ : ∃ M, M = s.M := ⟨_, rfl⟩
  rw [← hM] at HPT HTG HPI ⊢
  obtain ⟨tt, htt⟩ : ∃ z, z = twTag (M ta) sl := ⟨_, rfl⟩
  rw [← htt] at HTG ⊢
  clear hP hhi hp hit htg hq2 hs0 hs1 hbt hia2 hta2 hia hta hb hq hs hM htt
  go_enter Tryz.func29, Tryz.ntmps29
  go_wp2_with fail
  obtain ⟨W, hW⟩ : ∃ W, W = w.alloc (.cells #[.int .i64 b, .int .i64 q, .int .i64 sl] 56) := ⟨_, rfl⟩
  have hB : Below w.heap.size w W := by rw [hW]; exact (Below.refl _ _).alloc (Nat.le_refl _) _
  have y0 : W.cell? ⟨w.heap.size, 0, none⟩ = some (.int .i64 b) := by rw [hW]; simp
  have y1 : W.cell? ⟨w.heap.size, 1, none⟩ = some (.int .i64 q) := by rw [hW]; simp
  have y2 : W.cell? ⟨w.heap.size, 2, none⟩ = some (.int .i64 sl) := by rw [hW]; simp
  have hl : w.heap.size < W.heap.size := by rw [hW]; simp
  have p1 := (hB.cell (p := ⟨B.p, 0, none⟩) pl).trans p0
  have pl1 : B.p < W.heap.size := Nat.lt_of_lt_of_le pl hB.size
  have HPX : Hid (∀ x, x = ta ∨ x = ia → ∀ e : Later W, Calls Tryz.prog 22 #[.pointer (some ⟨B.c, 0, none⟩), .int .u64 x] (via W e) fun e_1 w' => e_1 = .returned (.int .u64 (M x)) ∧ via W e = w') := Lib.hid (by
    rintro x (rfl | rfl) e
    · exact HPT.out (via W e) (hB.trans ((via_below W e).mono hB.size))
    · exact HPI.out (via W e) (hB.trans ((via_below W e).mono hB.size)))
  have HB := Lib.hid hB
  rw [← hW]
  clear hW hB p0 pl HPI HPT
  refine wp_region_via (by kernel_rfl) (by kernel_rfl) ?_
  repeat (go_big_quiet_step ((first
    | (go_at_call 37; exact viaB (HT.out _))
    | (go_at_call 106; exact viaB (HI.out _))
    | (go_at_call 105; exact viaB (HTG.out _))
    | (go_at_call 22; exact viaS (HPX.out _ (by first | exact .inl rfl | exact .inr rfl) _)))))
  refine wpQuiet_nil ?_
  rintro _ ⟨e, rfl⟩
  go_wp2_with fail
  exact bodyPost_ret (v := .tuple #[.int .i64 tt, .int .u64 (M ia)]) (by simp [results, Tryz.results29, go_sem]) rfl ⟨rfl, HB.out.trans ((via_below W e).mono HB.out.size)⟩
end
end
section
open Go.RowKit Go.Shelf
set_option linter.unusedVariables false

/-- A new block that nobody is told to own. -/
theorem alloc_nbH {O : Om} {w : World} {S : Nat → Prop} (hhi : ∀ j, O j ≠ 0 → j < w.heap.size) (cs : Array Value) (ty : TypeId) (n : Nat) (hn : n = w.heap.size) :
    Ext S O w O (w.alloc (.cells cs ty)) ∧ Ob (w.alloc (.cells cs ty)) O 0 n cs.toList := by
  subst hn
  refine ⟨Ext.of_below hhi ((Below.refl _ _).alloc (Nat.le_refl _) _), ⟨?_, by simp, fun j u hu => cell_newA w cs ty _ rfl j u (by simpa using hu), fun j => frozen_newA w cs ty _ rfl j⟩⟩
  by_cases h : O w.heap.size = 0
  · exact h
  · exact absurd (hhi _ h) (by omega)
def spCs : List Value := [.int .i64 1, .int .i64 1, .int .i64 2]
theorem spNew {S : Nat → Prop} {O : Om} {w : World} (hhi : ∀ j, O j ≠ 0 → j < w.heap.size) (ty : TypeId) :
    Ext S O w O (w.alloc (.cells #[.int .i64 1, .int .i64 1, .int .i64 2] ty)) ∧ Ob (w.alloc (.cells #[.int .i64 1, .int .i64 1, .int .i64 2] ty)) O 0 w.heap.size spCs := alloc_nbH hhi #[.int .i64 1, .int .i64 1, .int .i64 2] ty w.heap.size rfl
set_option maxHeartbeats 4000000 in
set_option maxRecDepth 100000 in
theorem c_lives23 (w : World) : Calls Tryz.prog 45 #[] w fun e w' => e = .returned (.bool true) ∧ Below w.heap.size w w' := by
  have FF := Lib.hid l23_f
  have NN := Lib.hid l23_n
  have hrf : plRef 5 = 4294967301 := by decide
  go_enter Tryz.func45, Tryz.ntmps45
  go_wp2_with fail
  refine (c_WorldP 1 w (by decide) (by decide)).mono ?_
  rintro e w1 ⟨B, O1, rfl, hP, hE⟩
  have P1 := Lib.hid hP
  have E1 := Lib.hid hE
  clear hP hE
  go_wp2_with fail
  refine (c_lwSpot w1).mono ?_
  rintro e w2 ⟨rfl, hb2⟩
  have P2 := Lib.hid (P1.out.below E1.out.hi hb2)
  have E2 := Lib.hid (E1.out.ext (Ext.of_below (S := SW) E1.out.hi hb2))
  obtain ⟨e3, t3⟩ := spNew (S := SW) E2.out.hi 56
  have P3 := Lib.hid (P2.out.below E2.out.hi ((Below.refl _ _).alloc (Nat.le_refl _) (.cells #[.int .i64 1, .int .i64 1, .int .i64 2] 56)))
  have E3 := Lib.hid (E2.out.ext e3)
  have T3 := Lib.hid t3
  clear hb2 e3 t3
  go_wp2_with fail
  obtain ⟨W3, hW3⟩ : ∃ W3, W3 = w2.alloc (.cells #[.int .i64 1, .int .i64 1, .int .i64 2] 56) := ⟨_, rfl⟩
  rw [← hW3] at P3 E3 T3 ⊢
  clear hW3
  obtain ⟨n3, hn3⟩ : ∃ n3, n3 = w2.heap.size := ⟨_, rfl⟩
  rw [← hn3] at T3 ⊢
  clear hn3 P2 E2 P1 E1
  refine (c_NewPut (k := 10) (p := l23sp) (tg := 9) (rf := 5) l23sp_ok E3.out.hi (by decide) (by decide) (by decide) (by decide)).mono ?_
  rintro e w4 ⟨U, rfl, O4, e4, u4⟩
  have P4 := P3.out.ext e4 (by decide) (by decide) (by decide) (by decide)
  have E4 := Lib.hid (E3.out.ext e4)
  have T4 := Lib.hid (T3.out.ext e4 (by decide))
  have HR := Lib.hid (c_PuRun (k := 10) U l23sp 9 5 9 P4 u4 l23sp_ok (by decide) E4.out.hi (by decide) (by decide) (by decide) (by decide) (by decide) (by decide))
  clear e4 u4 P4
  go_wp2_with fail
  refine HR.out.mono ?_
  rintro e w5 ⟨rfl, O5, e5, P5⟩
  have E5 := Lib.hid (E4.out.ext e5)
  have T5 := Lib.hid (T4.out.ext e5 (sx0 (by decide)))
  have P5 : Hid (PW w5 O5 B ⟨1, 8, 3, 1, 16⟩ l23p.2.1) := Lib.hid P5
  have p05 := P5.out.wo.c0
  have HS5 := Lib.hid (c_StoreP (plRef 5) 1 (w := w5.drew) (P5.out.below E5.out.hi (drew_below w5)) (fun j hj => E5.out.hi j hj) (by decide) (by decide) (by decide) (by decide) NN.out.1.1 (by have := NN.out.1.2; omega))
  rw [hrf] at HS5
  have HD5 : Hid (Ext SW O5 w5 O5 w5.drew) := Lib.hid (Ext.of_below E5.out.hi (drew_below w5))
  clear e5 HR
  go_wp2_with fail
  go_region_held3 (fun w' => w'.cell? ⟨B.p, 0, none⟩ = some (.pointer (some ⟨B.c, 0, none⟩))) (go_keep)
    ((first
      | (go_at_call 54
         refine (c_Ref 5 _ (by decide) (by decide)).mono ?_
         rintro e w' ⟨rfl, rfl⟩
         rw [hrf])
      | (go_at_call 24
         refine HS5.out.mono ?_
         rintro e w6 ⟨rfl, O6, e6, P6⟩
         have E6 := Lib.hid (E5.out.ext (HD5.out.trans e6))
         have T6 := Lib.hid ((T5.out.below (drew_below _)).ext e6 sw0)
         have P6 : Hid (PW w6 O6 B ⟨1, 8, 3, 1, 16⟩ l23s) := Lib.hid (by rw [← hrf] at P6; exact P6)
         have p06 := P6.out.wo.c0
         clear e6)))
  all_goals
    clear p05 p06
    go_wp2_with fail
    refine (c_NewEvict 10 E6.out.hi).mono ?_
    rintro e w7 ⟨X, rfl, O7, e7, x7⟩
    have P7 := P6.out.ext e7 (by decide) (by decide) (by decide) (by decide)
    have E7 := Lib.hid (E6.out.ext e7)
    have T7 := Lib.hid (T6.out.ext e7 (by decide))
    have HR := Lib.hid (c_EvRun (k := 10) X 99 P7 x7 (by decide) E7.out.hi NN.out.2.1 (by have := NN.out.2.2; omega))
    clear e7 x7 P7
    go_wp2_with fail
    refine HR.out.mono ?_
    rintro e w8 ⟨rfl, O8, e8, P8, x8, k8⟩
    have h29 : (runN evOver evStep 99 (l23s, evNew)).1 = 29 := FF.out.1
    rw [h29]
    have E8 := Lib.hid (E7.out.ext e8)
    have T8 := Lib.hid (T7.out.ext e8 (sx0 (by decide)))
    have P8 : Hid (PW w8 O8 B ⟨1, 8, 3, 1, 16⟩ l23e.2.1) := Lib.hid P8
    have HG := c_EvGot (z := l23e.2.2) x8 k8
    rw [FF.out.2.1] at HG
    unfold spV at HG
    rw [FF.out.2.2.1, FF.out.2.2.2.1, FF.out.2.2.2.2.1] at HG
    have HG := Lib.hid HG
    clear e8 x8 k8 h29 HR
    go_wp2_with fail
    refine HG.out.mono ?_
    rintro e w9 ⟨rfl, hb9⟩
    have E9 := Lib.hid (E8.out.ext (Ext.of_below (S := SW) E8.out.hi hb9))
    have T9 := Lib.hid (T8.out.below hb9)
    have P9 := Lib.hid (P8.out.below E8.out.hi hb9)
    obtain ⟨e10, t10⟩ := spNew (S := SW) E9.out.hi 56
    have P10 := Lib.hid (P9.out.below E9.out.hi ((Below.refl _ _).alloc (Nat.le_refl _) (.cells #[.int .i64 1, .int .i64 1, .int .i64 2] 56)))
    have E10 := Lib.hid (E9.out.ext e10)
    have V10 := Lib.hid t10
    have T10 := Lib.hid (T9.out.ext e10 sw0)
    clear hb9 e10 t10 HG
    have i0 := T10.out.c 0 _ rfl
    have i1 := T10.out.c 1 _ rfl
    have i2 := T10.out.c 2 _ rfl
    have HSl := c_Slot (p := l23sp) P10.out l23sp_ok E10.out.hi
    have hs2 : l23sp.s = 2 := rfl
    rw [hs2, FF.out.2.2.2.2.2.1, FF.out.2.2.2.2.2.2.1] at HSl
    have HSl := Lib.hid HSl
    clear hs2
    go_wp2_with fail
    obtain ⟨W10, hW10⟩ : ∃ W, W = w9.alloc (.cells #[.int .i64 1, .int .i64 1, .int .i64 2] 56) := ⟨_, rfl⟩
    rw [← hW10] at P10 E10 V10 T10 HSl ⊢
    clear hW10 i0 i1 i2
    obtain ⟨n10, hn10⟩ : ∃ n, n = w9.heap.size := ⟨_, rfl⟩
    rw [← hn10] at V10 ⊢
    clear hn10
    refine HSl.out.mono ?_
    rintro e w11 ⟨rfl, hb11⟩
    have E11 := Lib.hid (E10.out.ext (Ext.of_below (S := SW) E10.out.hi hb11))
    have T11 := Lib.hid (T10.out.below hb11)
    have V11 := Lib.hid (V10.out.below hb11)
    have P11 := Lib.hid (P10.out.below E10.out.hi hb11)
    have hm4 := FF.out.2.2.2.2.2.2.2.2
    have hm5 := FF.out.2.2.2.2.2.2.2.1
    rw [hrf] at hm5
    obtain ⟨M, hM⟩ : ∃ M, M = l23e.2.1.M := ⟨_, rfl⟩
    rw [← hM] at hm4 hm5
    have bn : ∀ n, Below w11.heap.size w11 (w11.drewN n) := fun n => ⟨rfl, rfl, rfl, Nat.le_refl _, fun _ _ => rfl⟩
    have BN := Lib.hid bn
    have HPX : Hid (∀ x, x = 4 ∨ x = 4294967301 → ∀ n, Calls Tryz.prog 22 #[.pointer (some ⟨B.c, 0, none⟩), .int .u64 x] (w11.drewN n) fun e w' => e = .returned (.int .u64 (M x)) ∧ w11.drewN n = w') := Lib.hid (by
      rw [hM]
      rintro x (rfl | rfl) n
      · exact c_Peek 4 (P11.out.below E11.out.hi (bn n)).ce (by decide) (by decide)
      · exact c_Peek 4294967301 (P11.out.below E11.out.hi (bn n)).ce (by decide) (by decide))
    have HRF : Hid (∀ W, Calls Tryz.prog 54 #[.int .i64 5] W fun e w' => e = .returned (.int .u64 4294967301) ∧ W = w') := Lib.hid (fun W => by have := c_Ref 5 W (by decide) (by decide); rw [hrf] at this; exact this)
    have t0 := T11.out.c 0 _ rfl
    have t1 := T11.out.c 1 _ rfl
    have t2 := T11.out.c 2 _ rfl
    have v0 := V11.out.c 0 _ rfl
    have v1 := V11.out.c 1 _ rfl
    have v2 := V11.out.c 2 _ rfl
    have p0 := P11.out.wo.c0
    clear hM hb11 HSl bn
    go_wp2_with fail
    go_quiet ((first
      | (go_at_call 54; exact quietS (HRF.out _))
      | (go_at_call 22; exact quietS (HPX.out _ (by first | exact .inl rfl | exact .inr rfl) _))))
    go_wp2_with fail
    go_ret
    exact ⟨rfl, E11.out.bel.trans ((BN.out nq).mono E11.out.bel.size)⟩
end
end Go.Proofs.YtkpkhibknaoboaaGreat
