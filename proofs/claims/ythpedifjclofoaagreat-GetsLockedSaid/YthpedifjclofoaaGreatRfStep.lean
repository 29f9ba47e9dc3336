/- Layer 22: the contract of a Touch's Step. -/
import Derived.Test.YthpedifjclofoaaGreatRf0
import Derived.Laws.EntriesVeiled
namespace Go.Proofs.YthpedifjclofoaaGreat
set_option linter.unusedSimpArgs false
open Go.RowKit
set_option linter.unusedVariables false

theorem TSPost.pre {w w1 w' : World} {F : Nat → Prop} {p c t : Nat} {z : TM} {v : Value} {e : Ending} (h : TSPost w1 F p c t z v e w') (hw : Wrote (fun j => j = t) w w1) : TSPost w F p c t z v e w' := by
  obtain ⟨rfl, F1, h1, h2, h3⟩ := h
  have hs := hw.size
  exact ⟨rfl, F1, h1, ⟨h2.lts, h2.old, fun j hj => (h2.new j hj).elim .inl fun h => .inr (by omega)⟩, (hw.mono fun j _ e => .inr e).trans h3 fun j _ h => h⟩
theorem TSPost.shut {w w1 : World} {F : Nat → Prop} {p c t : Nat} {z : TM} {v v' : Value} {e : Ending} (h : TSPost w F p c t z v e w1) : TSPost w F p c t ⟨z.M, z.n, z.la, ⟨0, z.t.next, z.t.word, z.t.done⟩⟩ v' (.returned v') (w1.setCell ⟨t, 0, none⟩ (.int .u64 0)) := by
  obtain ⟨rfl, F1, h1, h2, h3⟩ := h
  have hw := wrote_set w1 t 0 (.int .u64 0)
  have ht : ∀ j, F1 j → ¬ j = t := fun j hj e => by subst e; exact h1.tn hj
  exact ⟨rfl, F1, ⟨h1.ce.wrote hw ht, (hw.cell (p := ⟨p, 0, none⟩) h1.pl (fun e => h1.tp e.symm)).trans h1.hp, Nat.lt_of_lt_of_le h1.pl hw.size, h1.pn, h1.ta.setAt 0, h1.tn, h1.tp⟩, h2.size hw.size, h3.trans hw fun j _ e => .inr e⟩
theorem TSPost.as {w w1 : World} {F : Nat → Prop} {p c t : Nat} {z : TM} {v v' : Value} {e : Ending} (h : TSPost w F p c t z v e w1) : TSPost w F p c t z v' (.returned v') w1 := ⟨rfl, h.2⟩
theorem TS.next {w w1 : World} {F : Nat → Prop} {p c t : Nat} {z : TM} (h : TS w F p c t z) (hb : Below w.heap.size w w1) (v : Int) : TS (w1.setCell ⟨t, 1, none⟩ (.int .i64 v)) F p c t ⟨z.M, z.n, z.la, ⟨z.t.at_, v, z.t.word, z.t.done⟩⟩ ∧ Wrote (fun j => j = t) w (w1.setCell ⟨t, 1, none⟩ (.int .i64 v)) := by
  have hw := wrote_set w1 t 1 (.int .i64 v)
  have ht : ∀ j, F j → ¬ j = t := fun j hj e => by subst e; exact h.tn hj
  have hpl : p < w1.heap.size := Nat.lt_of_lt_of_le h.pl hb.size
  have ta1 := h.ta.wrote (S := fun _ => False) (Wrote.of_below hb) id
  exact ⟨⟨(h.ce.below hb).wrote hw ht, (hw.cell (p := ⟨p, 0, none⟩) hpl (fun e => h.tp e.symm)).trans ((hb.cell (p := ⟨p, 0, none⟩) h.pl).trans h.hp), Nat.lt_of_lt_of_le hpl hw.size, h.pn, ta1.setNext v, h.tn, h.tp⟩, (Wrote.of_below hb).trans hw fun j _ e => e⟩
def stepsV : Value := .agg #[.func (.func 357) #[] #[], .func (.func 358) #[] #[], .func (.func 359) #[] #[]]
theorem c_steps (w : World) : Calls Tryz.prog 356 #[] w fun e w' => e = .returned stepsV ∧ Below w.heap.size w w' := by
  go_enter Tryz.func356, Tryz.ntmps356
  go_wp2
  exact bodyPost_ret (v := stepsV) (by simp [results, Tryz.results356, go_sem, stepsV]) rfl ⟨rfl, (Below.refl _ _).alloc (Nat.le_refl _) _⟩
theorem run_index_steps (W : World) : (Instr.index 432 stepsV (.int .i64 0)).run Tryz.prog W = .ok (.func (.func 357) #[] #[]) W ∧ (Instr.index 432 stepsV (.int .i64 1)).run Tryz.prog W = .ok (.func (.func 358) #[] #[]) W ∧ (Instr.index 432 stepsV (.int .i64 2)).run Tryz.prog W = .ok (.func (.func 359) #[] #[]) W :=
  ⟨by kernel_rfl, by kernel_rfl, by kernel_rfl⟩
set_option maxHeartbeats 1000000 in
theorem c_Step_load_on (w : World) (F : Nat → Prop) (p c t : Nat) (M : Int → Int) (n : Int) (la : La) (a wd : Int) (dn : Bool) (h : TS w F p c t ⟨M, n, la, ⟨a, 0, wd, dn⟩⟩) (an : ¬ a = 0) (a0 : 0 ≤ a) (a1 : a < 18446744073709551616) (wd0 : 0 ≤ wd) (wd1 : wd < 18446744073709551616) (n0 : 0 ≤ n) (n1 : n ≤ 4611686018427387904) (hm : rfMarked (M a) = false) :
    Calls Tryz.prog 355 #[.pointer (some ⟨t, 0, none⟩), .pointer (some ⟨p, 0, none⟩)] w (TSPost w F p c t ⟨M, n + 1, ⟨1, a, M a, M a⟩, ⟨a, 1, M a, dn⟩⟩ (.bool false)) := by
  have t1 := h.ta.c1
  dsimp only at t1
  have hl := h.ta.lt
  have tf := h.ta.fr 1
  have H := Lib.hid h
  have ao : tcOver ⟨a, 0, wd, dn⟩ = false := by unfold tcOver; simpa using an
  have ix := fun W => (run_index_steps W).1
  have HB := Lib.hid (h.ta.wrote (S := fun _ => False) (Wrote.refl _ w) id)
  clear h an
  go_enter Tryz.func355, Tryz.ntmps355
  go_wp2_with fail
  refine (c_Over t _ _ H.out.ta).mono ?_
  rintro e w' ⟨rfl, rfl⟩
  rw [ao]
  go_wp2_with fail
  go_region_held3 (fun w' => w'.cell? ⟨t, 1, none⟩ = some (.int .i64 0)) (go_keep)
    ((go_at_call 356; refine (c_steps _).mono ?_; rintro e w1 ⟨rfl, hb1⟩; have q1 := (hb1.cell (p := ⟨t, 1, none⟩) hl).trans t1; have q2 := (hb1.frozen (p := ⟨t, 1, none⟩) hl).trans tf; have HB1 := Lib.hid (⟨hb1.os, hb1.tape, hb1.output, hb1.size, hb1.block⟩ : Below w.heap.size w w1); clear hb1))
  all_goals
    have HN := Lib.hid (H.out.next HB1.out 1)
    go_wp2_with fail
    refine (c_tload _ F p c t _ HN.out.1 a0 a1 n0 n1).mono ?_
    intro e w3 hp
    have HP := Lib.hid (hp.pre HN.out.2)
    have he := hp.1
    have hta := (hp.2.choose_spec).1.ta
    have t0 := hta.c0
    have t3 := hta.fr 0
    have t4 := hta.lt
    dsimp only at t0
    subst he
    clear hp
    rw [hm]
    have HTA := Lib.hid hta
    clear hta
    go_wp2_with (go_at_call 187; refine (c_Over t _ _ HTA.out).mono ?_; rintro e w' ⟨rfl, rfl⟩)
    go_ret
    have hx : tcOver ⟨a, 1, M a, dn⟩ = false := by unfold tcOver; unfold tcOver at ao; exact ao
    rw [hx]
    exact HP.out.as
set_option maxHeartbeats 1000000 in
theorem c_Step_load_off (w : World) (F : Nat → Prop) (p c t : Nat) (M : Int → Int) (n : Int) (la : La) (a wd : Int) (dn : Bool) (h : TS w F p c t ⟨M, n, la, ⟨a, 0, wd, dn⟩⟩) (an : ¬ a = 0) (a0 : 0 ≤ a) (a1 : a < 18446744073709551616) (wd0 : 0 ≤ wd) (wd1 : wd < 18446744073709551616) (n0 : 0 ≤ n) (n1 : n ≤ 4611686018427387904) (hm : rfMarked (M a) = true) :
    Calls Tryz.prog 355 #[.pointer (some ⟨t, 0, none⟩), .pointer (some ⟨p, 0, none⟩)] w (TSPost w F p c t ⟨M, n + 1, ⟨1, a, M a, M a⟩, ⟨0, 1, M a, dn⟩⟩ (.bool true)) := by
  have t1 := h.ta.c1
  dsimp only at t1
  have hl := h.ta.lt
  have tf := h.ta.fr 1
  have H := Lib.hid h
  have ao : tcOver ⟨a, 0, wd, dn⟩ = false := by unfold tcOver; simpa using an
  have ix := fun W => (run_index_steps W).1
  have HB := Lib.hid (h.ta.wrote (S := fun _ => False) (Wrote.refl _ w) id)
  clear h an
  go_enter Tryz.func355, Tryz.ntmps355
  go_wp2_with fail
  refine (c_Over t _ _ H.out.ta).mono ?_
  rintro e w' ⟨rfl, rfl⟩
  rw [ao]
  go_wp2_with fail
  go_region_held3 (fun w' => w'.cell? ⟨t, 1, none⟩ = some (.int .i64 0)) (go_keep)
    ((go_at_call 356; refine (c_steps _).mono ?_; rintro e w1 ⟨rfl, hb1⟩; have q1 := (hb1.cell (p := ⟨t, 1, none⟩) hl).trans t1; have q2 := (hb1.frozen (p := ⟨t, 1, none⟩) hl).trans tf; have HB1 := Lib.hid (⟨hb1.os, hb1.tape, hb1.output, hb1.size, hb1.block⟩ : Below w.heap.size w w1); clear hb1))
  all_goals
    have HN := Lib.hid (H.out.next HB1.out 1)
    go_wp2_with fail
    refine (c_tload _ F p c t _ HN.out.1 a0 a1 n0 n1).mono ?_
    intro e w3 hp
    have HP := Lib.hid (hp.pre HN.out.2)
    have he := hp.1
    have hta := (hp.2.choose_spec).1.ta
    have t0 := hta.c0
    have t3 := hta.fr 0
    have t4 := hta.lt
    dsimp only at t0
    subst he
    clear hp
    rw [hm]
    have HTA := Lib.hid (hta.setAt 0)
    clear hta
    go_wp2_with (go_at_call 187; refine (c_Over t _ _ HTA.out).mono ?_; rintro e w' ⟨rfl, rfl⟩)
    go_ret
    exact HP.out.shut
set_option maxHeartbeats 1000000 in
theorem c_Step_sweep_on (w : World) (F : Nat → Prop) (p c t : Nat) (M : Int → Int) (n : Int) (la : La) (a wd : Int) (dn : Bool) (h : TS w F p c t ⟨M, n, la, ⟨a, 1, wd, dn⟩⟩) (an : ¬ a = 0) (a0 : 0 ≤ a) (a1 : a < 18446744073709551616) (wd0 : 0 ≤ wd) (wd1 : wd < 18446744073709551616) (n0 : 0 ≤ n) (n1 : n ≤ 4611686018427387904) (hm : (M 5 != 0) = false) :
    Calls Tryz.prog 355 #[.pointer (some ⟨t, 0, none⟩), .pointer (some ⟨p, 0, none⟩)] w (TSPost w F p c t ⟨M, n + 1, ⟨1, 5, M 5, M 5⟩, ⟨a, 2, wd, dn⟩⟩ (.bool false)) := by
  have t1 := h.ta.c1
  dsimp only at t1
  have hl := h.ta.lt
  have tf := h.ta.fr 1
  have H := Lib.hid h
  have ao : tcOver ⟨a, 1, wd, dn⟩ = false := by unfold tcOver; simpa using an
  have ix := fun W => (run_index_steps W).2.1
  have HB := Lib.hid (h.ta.wrote (S := fun _ => False) (Wrote.refl _ w) id)
  clear h an
  go_enter Tryz.func355, Tryz.ntmps355
  go_wp2_with fail
  refine (c_Over t _ _ H.out.ta).mono ?_
  rintro e w' ⟨rfl, rfl⟩
  rw [ao]
  go_wp2_with fail
  go_region_held3 (fun w' => w'.cell? ⟨t, 1, none⟩ = some (.int .i64 1)) (go_keep)
    ((go_at_call 356; refine (c_steps _).mono ?_; rintro e w1 ⟨rfl, hb1⟩; have q1 := (hb1.cell (p := ⟨t, 1, none⟩) hl).trans t1; have q2 := (hb1.frozen (p := ⟨t, 1, none⟩) hl).trans tf; have HB1 := Lib.hid (⟨hb1.os, hb1.tape, hb1.output, hb1.size, hb1.block⟩ : Below w.heap.size w w1); clear hb1))
  all_goals
    have HN := Lib.hid (H.out.next HB1.out 2)
    go_wp2_with fail
    refine (c_tsweep _ F p c t _ HN.out.1 n0 n1).mono ?_
    intro e w3 hp
    have HP := Lib.hid (hp.pre HN.out.2)
    have he := hp.1
    have hta := (hp.2.choose_spec).1.ta
    have t0 := hta.c0
    have t3 := hta.fr 0
    have t4 := hta.lt
    dsimp only at t0
    subst he
    clear hp
    rw [hm]
    have HTA := Lib.hid hta
    clear hta
    go_wp2_with (go_at_call 187; refine (c_Over t _ _ HTA.out).mono ?_; rintro e w' ⟨rfl, rfl⟩)
    go_ret
    have hx : tcOver ⟨a, 2, wd, dn⟩ = false := by unfold tcOver; unfold tcOver at ao; exact ao
    rw [hx]
    exact HP.out.as
set_option maxHeartbeats 1000000 in
theorem c_Step_sweep_off (w : World) (F : Nat → Prop) (p c t : Nat) (M : Int → Int) (n : Int) (la : La) (a wd : Int) (dn : Bool) (h : TS w F p c t ⟨M, n, la, ⟨a, 1, wd, dn⟩⟩) (an : ¬ a = 0) (a0 : 0 ≤ a) (a1 : a < 18446744073709551616) (wd0 : 0 ≤ wd) (wd1 : wd < 18446744073709551616) (n0 : 0 ≤ n) (n1 : n ≤ 4611686018427387904) (hm : (M 5 != 0) = true) :
    Calls Tryz.prog 355 #[.pointer (some ⟨t, 0, none⟩), .pointer (some ⟨p, 0, none⟩)] w (TSPost w F p c t ⟨M, n + 1, ⟨1, 5, M 5, M 5⟩, ⟨0, 2, wd, dn⟩⟩ (.bool true)) := by
  have t1 := h.ta.c1
  dsimp only at t1
  have hl := h.ta.lt
  have tf := h.ta.fr 1
  have H := Lib.hid h
  have ao : tcOver ⟨a, 1, wd, dn⟩ = false := by unfold tcOver; simpa using an
  have ix := fun W => (run_index_steps W).2.1
  have HB := Lib.hid (h.ta.wrote (S := fun _ => False) (Wrote.refl _ w) id)
  clear h an
  go_enter Tryz.func355, Tryz.ntmps355
  go_wp2_with fail
  refine (c_Over t _ _ H.out.ta).mono ?_
  rintro e w' ⟨rfl, rfl⟩
  rw [ao]
  go_wp2_with fail
  go_region_held3 (fun w' => w'.cell? ⟨t, 1, none⟩ = some (.int .i64 1)) (go_keep)
    ((go_at_call 356; refine (c_steps _).mono ?_; rintro e w1 ⟨rfl, hb1⟩; have q1 := (hb1.cell (p := ⟨t, 1, none⟩) hl).trans t1; have q2 := (hb1.frozen (p := ⟨t, 1, none⟩) hl).trans tf; have HB1 := Lib.hid (⟨hb1.os, hb1.tape, hb1.output, hb1.size, hb1.block⟩ : Below w.heap.size w w1); clear hb1))
  all_goals
    have HN := Lib.hid (H.out.next HB1.out 2)
    go_wp2_with fail
    refine (c_tsweep _ F p c t _ HN.out.1 n0 n1).mono ?_
    intro e w3 hp
    have HP := Lib.hid (hp.pre HN.out.2)
    have he := hp.1
    have hta := (hp.2.choose_spec).1.ta
    have t0 := hta.c0
    have t3 := hta.fr 0
    have t4 := hta.lt
    dsimp only at t0
    subst he
    clear hp
    rw [hm]
    have HTA := Lib.hid (hta.setAt 0)
    clear hta
    go_wp2_with (go_at_call 187; refine (c_Over t _ _ HTA.out).mono ?_; rintro e w' ⟨rfl, rfl⟩)
    go_ret
    exact HP.out.shut
set_option maxHeartbeats 1000000 in
theorem c_Step_set_hit (w : World) (F : Nat → Prop) (p c t : Nat) (M : Int → Int) (n : Int) (la : La) (a wd : Int) (dn : Bool) (h : TS w F p c t ⟨M, n, la, ⟨a, 2, wd, dn⟩⟩) (an : ¬ a = 0) (a0 : 0 ≤ a) (a1 : a < 18446744073709551616) (wd0 : 0 ≤ wd) (wd1 : wd < 18446744073709551616) (n0 : 0 ≤ n) (n1 : n ≤ 4611686018427387904) (hm : M a = wd) :
    Calls Tryz.prog 355 #[.pointer (some ⟨t, 0, none⟩), .pointer (some ⟨p, 0, none⟩)] w (TSPost w F p c t ⟨upd M a (rfMark wd), n + 1, ⟨3, a, M a, rfMark wd⟩, ⟨0, 3, wd, true⟩⟩ (.bool true)) := by
  have t1 := h.ta.c1
  dsimp only at t1
  have hl := h.ta.lt
  have tf := h.ta.fr 1
  have H := Lib.hid h
  have ao : tcOver ⟨a, 2, wd, dn⟩ = false := by unfold tcOver; simpa using an
  have ix := fun W => (run_index_steps W).2.2
  have HB := Lib.hid (h.ta.wrote (S := fun _ => False) (Wrote.refl _ w) id)
  clear h an
  go_enter Tryz.func355, Tryz.ntmps355
  go_wp2_with fail
  refine (c_Over t _ _ H.out.ta).mono ?_
  rintro e w' ⟨rfl, rfl⟩
  rw [ao]
  go_wp2_with fail
  go_region_held3 (fun w' => w'.cell? ⟨t, 1, none⟩ = some (.int .i64 2)) (go_keep)
    ((go_at_call 356; refine (c_steps _).mono ?_; rintro e w1 ⟨rfl, hb1⟩; have q1 := (hb1.cell (p := ⟨t, 1, none⟩) hl).trans t1; have q2 := (hb1.frozen (p := ⟨t, 1, none⟩) hl).trans tf; have HB1 := Lib.hid (⟨hb1.os, hb1.tape, hb1.output, hb1.size, hb1.block⟩ : Below w.heap.size w w1); clear hb1))
  all_goals
    have HN := Lib.hid (H.out.next HB1.out 3)
    go_wp2_with fail
    refine (c_tset_hit _ F p c t _ HN.out.1 a0 a1 wd0 wd1 n0 n1 hm).mono ?_
    intro e w3 hp
    have HP := Lib.hid (hp.pre HN.out.2)
    have he := hp.1
    have hta := (hp.2.choose_spec).1.ta
    have t0 := hta.c0
    have t3 := hta.fr 0
    have t4 := hta.lt
    dsimp only at t0
    subst he
    clear hp
    have HTA := Lib.hid (hta.setAt 0)
    clear hta
    go_wp2_with (go_at_call 187; refine (c_Over t _ _ HTA.out).mono ?_; rintro e w' ⟨rfl, rfl⟩)
    go_ret
    exact HP.out.shut
set_option maxHeartbeats 1000000 in
theorem c_Step_set_miss (w : World) (F : Nat → Prop) (p c t : Nat) (M : Int → Int) (n : Int) (la : La) (a wd : Int) (dn : Bool) (h : TS w F p c t ⟨M, n, la, ⟨a, 2, wd, dn⟩⟩) (an : ¬ a = 0) (a0 : 0 ≤ a) (a1 : a < 18446744073709551616) (wd0 : 0 ≤ wd) (wd1 : wd < 18446744073709551616) (n0 : 0 ≤ n) (n1 : n ≤ 4611686018427387904) (hm : ¬ M a = wd) :
    Calls Tryz.prog 355 #[.pointer (some ⟨t, 0, none⟩), .pointer (some ⟨p, 0, none⟩)] w (TSPost w F p c t ⟨M, n + 1, ⟨3, a, M a, M a⟩, ⟨0, 3, wd, false⟩⟩ (.bool true)) := by
  have t1 := h.ta.c1
  dsimp only at t1
  have hl := h.ta.lt
  have tf := h.ta.fr 1
  have H := Lib.hid h
  have ao : tcOver ⟨a, 2, wd, dn⟩ = false := by unfold tcOver; simpa using an
  have ix := fun W => (run_index_steps W).2.2
  have HB := Lib.hid (h.ta.wrote (S := fun _ => False) (Wrote.refl _ w) id)
  clear h an
  go_enter Tryz.func355, Tryz.ntmps355
  go_wp2_with fail
  refine (c_Over t _ _ H.out.ta).mono ?_
  rintro e w' ⟨rfl, rfl⟩
  rw [ao]
  go_wp2_with fail
  go_region_held3 (fun w' => w'.cell? ⟨t, 1, none⟩ = some (.int .i64 2)) (go_keep)
    ((go_at_call 356; refine (c_steps _).mono ?_; rintro e w1 ⟨rfl, hb1⟩; have q1 := (hb1.cell (p := ⟨t, 1, none⟩) hl).trans t1; have q2 := (hb1.frozen (p := ⟨t, 1, none⟩) hl).trans tf; have HB1 := Lib.hid (⟨hb1.os, hb1.tape, hb1.output, hb1.size, hb1.block⟩ : Below w.heap.size w w1); clear hb1))
  all_goals
    have HN := Lib.hid (H.out.next HB1.out 3)
    go_wp2_with fail
    refine (c_tset_miss _ F p c t _ HN.out.1 a0 a1 wd0 wd1 n0 n1 hm).mono ?_
    intro e w3 hp
    have HP := Lib.hid (hp.pre HN.out.2)
    have he := hp.1
    have hta := (hp.2.choose_spec).1.ta
    have t0 := hta.c0
    have t3 := hta.fr 0
    have t4 := hta.lt
    dsimp only at t0
    subst he
    clear hp
    have HTA := Lib.hid (hta.setAt 0)
    clear hta
    go_wp2_with (go_at_call 187; refine (c_Over t _ _ HTA.out).mono ?_; rintro e w' ⟨rfl, rfl⟩)
    go_ret
    exact HP.out.shut
structure Tc.ok (T : Tc) : Prop where
  a0 : 0 ≤ T.at_
  a1 : T.at_ < 18446744073709551616
  w0 : 0 ≤ T.word
  w1 : T.word < 18446744073709551616
  nx : ¬ T.at_ = 0 → T.next = 0 ∨ T.next = 1 ∨ T.next = 2
theorem tcStep_ok {z : TM} (h : z.t.ok) (hM : Bd z.M) : (tcStep z).t.ok := by
  obtain ⟨M, n, la, ⟨a, nx, wd, dn⟩⟩ := z
  obtain ⟨a0, a1, w0, w1, nx⟩ := h
  have hb := hM a
  dsimp only at a0 a1 w0 w1 nx hb
  unfold tcStep
  dsimp only
  split
  · exact ⟨a0, a1, w0, w1, nx⟩
  · rename_i ha
    split
    · refine ⟨?_, ?_, hb.1, hb.2, fun _ => .inr (.inl rfl)⟩ <;> dsimp only <;> split <;> omega
    · split
      · refine ⟨?_, ?_, w0, w1, fun _ => .inr (.inr rfl)⟩ <;> dsimp only <;> split <;> omega
      · split
        · exact ⟨Int.le_refl 0, (by show (0 : Int) < 18446744073709551616; omega), w0, w1, fun h => absurd rfl h⟩
        · exact ⟨Int.le_refl 0, (by show (0 : Int) < 18446744073709551616; omega), w0, w1, fun h => absurd rfl h⟩
theorem tcStep_n (z : TM) : (tcStep z).n ≤ z.n + 1 ∧ z.n ≤ (tcStep z).n := by
  unfold tcStep
  split
  · omega
  · split
    · dsimp only; omega
    · split
      · dsimp only; omega
      · split <;> dsimp only <;> omega
theorem c_Step_over (w : World) (F : Nat → Prop) (p c t : Nat) (z : TM) (h : TS w F p c t z) (ha : z.t.at_ = 0) :
    Calls Tryz.prog 355 #[.pointer (some ⟨t, 0, none⟩), .pointer (some ⟨p, 0, none⟩)] w (TSPost w F p c t z (.bool true)) := by
  have H := Lib.hid h
  have ao : tcOver z.t = true := by unfold tcOver; simpa using ha
  have HE : Hid (TSPost w F p c t z (.bool true) (.returned (.bool true)) w) := Lib.hid ⟨rfl, F, h, ⟨h.ce.lts, fun _ h => h, fun _ h => .inl h⟩, Wrote.refl _ _⟩
  clear h ha
  go_enter Tryz.func355, Tryz.ntmps355
  go_wp2_with fail
  refine (c_Over t _ _ H.out.ta).mono ?_
  rintro e w' ⟨rfl, rfl⟩
  rw [ao]
  go_wp2_with fail
  refine (c_Over t _ _ H.out.ta).mono ?_
  rintro e w' ⟨rfl, rfl⟩
  rw [ao]
  go_wp2
  go_ret
  exact HE.out
theorem c_Step (w : World) (F : Nat → Prop) (p c t : Nat) (z : TM) (h : TS w F p c t z) (hok : z.t.ok) (n0 : 0 ≤ z.n) (n1 : z.n ≤ 4611686018427387904) :
    Calls Tryz.prog 355 #[.pointer (some ⟨t, 0, none⟩), .pointer (some ⟨p, 0, none⟩)] w (TSPost w F p c t (tcStep z) (.bool (tcOver (tcStep z).t))) := by
  obtain ⟨M, n, la, ⟨a, nx, wd, dn⟩⟩ := z
  obtain ⟨a0, a1, w0, w1, hx⟩ := hok
  dsimp only at a0 a1 w0 w1 hx n0 n1
  by_cases ha : a = 0
  · have e : tcStep ⟨M, n, la, ⟨a, nx, wd, dn⟩⟩ = ⟨M, n, la, ⟨a, nx, wd, dn⟩⟩ := by unfold tcStep; dsimp only; rw [if_pos ha]
    rw [e]
    have e2 : tcOver ⟨a, nx, wd, dn⟩ = true := by unfold tcOver; simpa using ha
    rw [e2]
    exact c_Step_over w F p c t _ h ha
  · have o1 : ∀ k : Int, tcOver ⟨a, k, wd, dn⟩ = false := fun k => by unfold tcOver; simpa using ha
    have o2 : ∀ k : Int, tcOver ⟨a, k, M a, dn⟩ = false := fun k => by unfold tcOver; simpa using ha
    rcases hx ha with rfl | rfl | rfl
    · cases hm : rfMarked (M a)
      · have e : tcStep ⟨M, n, la, ⟨a, 0, wd, dn⟩⟩ = ⟨M, n + 1, ⟨1, a, M a, M a⟩, ⟨a, 1, M a, dn⟩⟩ := by unfold tcStep; dsimp only; rw [if_neg ha, if_pos rfl, hm]; rfl
        rw [e]; dsimp only; rw [o2]
        exact c_Step_load_on w F p c t M n la a wd dn h ha a0 a1 w0 w1 n0 n1 hm
      · have e : tcStep ⟨M, n, la, ⟨a, 0, wd, dn⟩⟩ = ⟨M, n + 1, ⟨1, a, M a, M a⟩, ⟨0, 1, M a, dn⟩⟩ := by unfold tcStep; dsimp only; rw [if_neg ha, if_pos rfl, hm]; rfl
        rw [e]
        exact c_Step_load_off w F p c t M n la a wd dn h ha a0 a1 w0 w1 n0 n1 hm
    · by_cases hm : M 5 = 0
      · have e : tcStep ⟨M, n, la, ⟨a, 1, wd, dn⟩⟩ = ⟨M, n + 1, ⟨1, 5, M 5, M 5⟩, ⟨a, 2, wd, dn⟩⟩ := by unfold tcStep; dsimp only; rw [if_neg ha, if_neg (by decide), if_pos rfl, if_neg (fun h => h hm)]
        rw [e]; dsimp only; rw [o1]
        exact c_Step_sweep_on w F p c t M n la a wd dn h ha a0 a1 w0 w1 n0 n1 (by simp [hm])
      · have e : tcStep ⟨M, n, la, ⟨a, 1, wd, dn⟩⟩ = ⟨M, n + 1, ⟨1, 5, M 5, M 5⟩, ⟨0, 2, wd, dn⟩⟩ := by unfold tcStep; dsimp only; rw [if_neg ha, if_neg (by decide), if_pos rfl, if_pos hm]
        rw [e]
        exact c_Step_sweep_off w F p c t M n la a wd dn h ha a0 a1 w0 w1 n0 n1 (by simp [hm])
    · by_cases hm : M a = wd
      · have e : tcStep ⟨M, n, la, ⟨a, 2, wd, dn⟩⟩ = ⟨upd M a (rfMark wd), n + 1, ⟨3, a, wd, rfMark wd⟩, ⟨0, 3, wd, true⟩⟩ := by unfold tcStep; dsimp only; rw [if_neg ha, if_neg (by decide), if_neg (by decide), if_pos hm]
        rw [e]
        have := c_Step_set_hit w F p c t M n la a wd dn h ha a0 a1 w0 w1 n0 n1 hm
        rw [hm] at this
        exact this
      · have e : tcStep ⟨M, n, la, ⟨a, 2, wd, dn⟩⟩ = ⟨M, n + 1, ⟨3, a, M a, M a⟩, ⟨0, 3, wd, false⟩⟩ := by unfold tcStep; dsimp only; rw [if_neg ha, if_neg (by decide), if_neg (by decide), if_neg hm]
        rw [e]
        exact c_Step_set_miss w F p c t M n la a wd dn h ha a0 a1 w0 w1 n0 n1 hm
end Go.Proofs.YthpedifjclofoaaGreat
