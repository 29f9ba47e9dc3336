/- Layer 22: contracts of a Touch. -/
import Derived.Test.YthpedifjclofoaaGreatBaC
namespace Go.Proofs.YthpedifjclofoaaGreat
set_option linter.unusedSimpArgs false
open Go.RowKit
set_option linter.unusedVariables false

/-- A Touch in block t. -/
structure TAt (w : World) (t : Nat) (T : Tc) : Prop where
  c0 : w.cell? ⟨t, 0, none⟩ = some (.int .u64 T.at_)
  c1 : w.cell? ⟨t, 1, none⟩ = some (.int .i64 T.next)
  c2 : w.cell? ⟨t, 2, none⟩ = some (.int .u64 T.word)
  c3 : w.cell? ⟨t, 3, none⟩ = some (.bool T.done)
  fr : ∀ j, w.frozen? ⟨t, j, none⟩ = false
  lt : t < w.heap.size
theorem TAt.wrote {w w' : World} {S : Nat → Prop} {t : Nat} {T : Tc} (h : TAt w t T) (hw : Wrote S w w') (hs : ¬ S t) : TAt w' t T := by
  have hc : ∀ j, w'.cell? ⟨t, j, none⟩ = w.cell? ⟨t, j, none⟩ := fun j => hw.cell (p := ⟨t, j, none⟩) h.lt hs
  exact ⟨(hc 0).trans h.c0, (hc 1).trans h.c1, (hc 2).trans h.c2, (hc 3).trans h.c3, fun j => (hw.frozen (p := ⟨t, j, none⟩) h.lt hs).trans (h.fr j), Nat.lt_of_lt_of_le h.lt hw.size⟩
theorem TAt.setAt {w : World} {t : Nat} {T : Tc} (h : TAt w t T) (v : Int) : TAt (w.setCell ⟨t, 0, none⟩ (.int .u64 v)) t ⟨v, T.next, T.word, T.done⟩ :=
  ⟨World.cell?_setCell_same _ _ _ h.c0, (World.cell?_setCell_other _ _ _ _ (by simp)).trans h.c1, (World.cell?_setCell_other _ _ _ _ (by simp)).trans h.c2, (World.cell?_setCell_other _ _ _ _ (by simp)).trans h.c3, fun j => (World.frozen?_setCell _ _ _ _).trans (h.fr j), by simp; exact h.lt⟩
theorem TAt.setNext {w : World} {t : Nat} {T : Tc} (h : TAt w t T) (v : Int) : TAt (w.setCell ⟨t, 1, none⟩ (.int .i64 v)) t ⟨T.at_, v, T.word, T.done⟩ :=
  ⟨(World.cell?_setCell_other _ _ _ _ (by simp)).trans h.c0, World.cell?_setCell_same _ _ _ h.c1, (World.cell?_setCell_other _ _ _ _ (by simp)).trans h.c2, (World.cell?_setCell_other _ _ _ _ (by simp)).trans h.c3, fun j => (World.frozen?_setCell _ _ _ _).trans (h.fr j), by simp; exact h.lt⟩
theorem TAt.setWord {w : World} {t : Nat} {T : Tc} (h : TAt w t T) (v : Int) : TAt (w.setCell ⟨t, 2, none⟩ (.int .u64 v)) t ⟨T.at_, T.next, v, T.done⟩ :=
  ⟨(World.cell?_setCell_other _ _ _ _ (by simp)).trans h.c0, (World.cell?_setCell_other _ _ _ _ (by simp)).trans h.c1, World.cell?_setCell_same _ _ _ h.c2, (World.cell?_setCell_other _ _ _ _ (by simp)).trans h.c3, fun j => (World.frozen?_setCell _ _ _ _).trans (h.fr j), by simp; exact h.lt⟩
theorem TAt.setDone {w : World} {t : Nat} {T : Tc} (h : TAt w t T) (v : Bool) : TAt (w.setCell ⟨t, 3, none⟩ (.bool v)) t ⟨T.at_, T.next, T.word, v⟩ :=
  ⟨(World.cell?_setCell_other _ _ _ _ (by simp)).trans h.c0, (World.cell?_setCell_other _ _ _ _ (by simp)).trans h.c1, (World.cell?_setCell_other _ _ _ _ (by simp)).trans h.c2, World.cell?_setCell_same _ _ _ h.c3, fun j => (World.frozen?_setCell _ _ _ _).trans (h.fr j), by simp; exact h.lt⟩
theorem wrote_set (w : World) (t j : Nat) (v : Value) : Wrote (fun k => k = t) w (w.setCell ⟨t, j, none⟩ v) := Wrote.setCell (S := fun k => k = t) (Wrote.refl _ _) (p := ⟨t, j, none⟩) (fun _ => rfl) _
theorem c_Marked (v : Int) (w : World) (v0 : 0 ≤ v) (v1 : v < 18446744073709551616) : Calls Tryz.prog 277 #[.int .u64 v] w fun e w' => e = .returned (.bool (rfMarked v)) ∧ w = w' := by
  have hb := u64_mark v v0 v1
  go_enter Tryz.func277, Tryz.ntmps277
  go_wp2
  go_ret
  exact ⟨ret_bool (by unfold rfMarked; rw [Bool.eq_iff_iff]; simp; omega), rfl⟩
theorem c_Less (v : Int) (w : World) (v0 : 0 ≤ v) (v1 : v < 18446744073709551616) : Calls Tryz.prog 280 #[.int .u64 v] w fun e w' => e = .returned (.int .u64 (rfLess v)) ∧ w = w' := by
  have hb := u64_mark v v0 v1
  have HE := Lib.hid (show IntKind.u64.wrap (v + v % 2) = rfLess v by unfold rfLess; rw [IntKind.wrap_u64])
  go_enter Tryz.func280, Tryz.ntmps280
  go_wp2
  go_ret
  exact ⟨ret_int (by first | exact HE.out | (rw [← HE.out, IntKind.wrap_u64]) | (unfold rfLess; omega)), rfl⟩
theorem c_NewTouch (r : Int) (w : World) (r0 : -9223372036854775808 ≤ r) (r1 : r ≤ 9223372036854775807) :
    Calls Tryz.prog 186 #[.int .i64 r] w fun e w' => e = .returned (.pointer (some ⟨w.heap.size, 0, none⟩)) ∧ w.alloc (.cells #[.int .u64 (plRef r), .int .i64 0, .int .u64 0, .bool false] 318) = w' := by
  go_enter Tryz.func186, Tryz.ntmps186
  go_wp2_with fail
  refine (c_Ref r _ r0 r1).mono ?_
  rintro e w' ⟨rfl, rfl⟩
  go_wp2
  go_ret
  exact ⟨rfl, rfl⟩
theorem TAt.new (w : World) (a : Int) (e : TypeId) (N : Nat) (hN : N = w.heap.size) : TAt (w.alloc (.cells #[.int .u64 a, .int .i64 0, .int .u64 0, .bool false] e)) N (tcNew a) :=
  ⟨cell_new w [.int .u64 a, .int .i64 0, .int .u64 0, .bool false] e N hN 0 _ rfl, cell_new w [.int .u64 a, .int .i64 0, .int .u64 0, .bool false] e N hN 1 _ rfl, cell_new w [.int .u64 a, .int .i64 0, .int .u64 0, .bool false] e N hN 2 _ rfl, cell_new w [.int .u64 a, .int .i64 0, .int .u64 0, .bool false] e N hN 3 _ rfl, fun j => frozen_new w [.int .u64 a, .int .i64 0, .int .u64 0, .bool false] e N hN j, by subst hN; simp⟩
theorem c_Over (t : Nat) (T : Tc) (w : World) (h : TAt w t T) : Calls Tryz.prog 187 #[.pointer (some ⟨t, 0, none⟩)] w fun e w' => e = .returned (.bool (tcOver T)) ∧ w = w' := by
  have c0 := h.c0
  clear h
  go_enter Tryz.func187, Tryz.ntmps187
  go_wp2
  go_ret
  exact ⟨ret_bool (by unfold tcOver; rw [Bool.eq_iff_iff]; simp), rfl⟩
theorem c_Over_nil (w : World) : Calls Tryz.prog 187 #[.pointer none] w fun e w' => e = .returned (.bool true) ∧ w = w' := by
  go_enter Tryz.func187, Tryz.ntmps187
  go_wp2
  go_ret
  exact ⟨rfl, rfl⟩
/-- A Touch, and the cells of the world that it is of. -/
structure TS (w : World) (F : Nat → Prop) (p c t : Nat) (z : TM) : Prop where
  ce : Ce w F c z.M z.n z.la
  hp : w.cell? ⟨p, 0, none⟩ = some (.pointer (some ⟨c, 0, none⟩))
  pl : p < w.heap.size
  pn : ¬ F p
  ta : TAt w t z.t
  tn : ¬ F t
  tp : t ≠ p
/-- .. behind a step. -/
def TSPost (w : World) (F : Nat → Prop) (p c t : Nat) (z : TM) (v : Value) (e : Ending) (w' : World) : Prop :=
  e = .returned v ∧ ∃ F', TS w' F' p c t z ∧ Grow w F w' F' ∧ Wrote (fun j => F j ∨ j = t) w w'
/-- The Touch's struct is written behind an access. -/
theorem TS.after {w w1 w2 : World} {F F1 : Nat → Prop} {p c t : Nat} {z : TM} {M : Int → Int} {n : Int} {la : La} {T : Tc} {v : Value} (h : TS w F p c t z) (h1 : Ce w1 F1 c M n la) (hg : Grow w F w1 F1) (hw : Wrote F w w1) (hw2 : Wrote (fun j => j = t) w1 w2) (hT : TAt w2 t T) :
    TSPost w F p c t ⟨M, n, la, T⟩ v (.returned v) w2 := by
  have ht : ∀ j, F1 j → ¬ j = t := fun j hj e => by
    subst e
    rcases hg.new j hj with h2 | h2
    · exact h.tn h2
    · have := h.ta.lt; omega
  refine ⟨rfl, F1, ⟨h1.wrote hw2 ht, ?_, Nat.lt_of_lt_of_le h.pl (Nat.le_trans hw.size hw2.size), fun hf => ?_, hT, fun hf => ht t hf rfl, h.tp⟩, hg.size hw2.size, ?_⟩
  · exact (hw2.cell (p := ⟨p, 0, none⟩) (Nat.lt_of_lt_of_le h.pl hw.size) (fun e => h.tp e.symm)).trans ((hw.cell (p := ⟨p, 0, none⟩) h.pl h.pn).trans h.hp)
  · rcases hg.new p hf with h2 | h2
    · exact h.pn h2
    · have := h.pl; omega
  · exact (hw.mono (fun j _ h => .inl h)).trans hw2 fun j _ e => .inr e
set_option maxHeartbeats 1000000 in
theorem c_tload (w : World) (F : Nat → Prop) (p c t : Nat) (z : TM) (h : TS w F p c t z) (a0 : 0 ≤ z.t.at_) (a1 : z.t.at_ < 18446744073709551616) (n0 : 0 ≤ z.n) (n1 : z.n ≤ 4611686018427387904) :
    Calls Tryz.prog 357 #[.pointer (some ⟨t, 0, none⟩), .pointer (some ⟨p, 0, none⟩)] w (TSPost w F p c t ⟨z.M, z.n + 1, ⟨1, z.t.at_, z.M z.t.at_, z.M z.t.at_⟩, ⟨z.t.at_, z.t.next, z.M z.t.at_, z.t.done⟩⟩ (.bool (rfMarked (z.M z.t.at_)))) := by
  obtain ⟨M, n, la, ⟨a, nx, wd, dn⟩⟩ := z
  dsimp only at a0 a1 n0 n1 ⊢
  have t0 := h.ta.c0
  have t2 := h.ta.c2
  have tf := h.ta.fr 2
  have p0 := h.hp
  have hl := h.ta.lt
  have hpl := h.pl
  have htp : ¬ t = p := h.tp
  have H := Lib.hid h
  have hbd := h.ce.bd a
  have Hc := Lib.hid (c_Load (w := w.drew) a (h.ce.wrote (S := fun _ => False) (Wrote.refl _ _).drew (fun _ _ h => h)) a0 a1 n0 n1)
  dsimp only at t0 t2 hbd
  obtain ⟨v, hv⟩ : ∃ v, v = M a := ⟨_, rfl⟩
  rw [← hv] at hbd ⊢
  have HV := Lib.hid hv
  clear h hv
  go_enter Tryz.func357, Tryz.ntmps357
  go_wp2_with fail
  go_region_held3 (fun w' => w'.cell? ⟨p, 0, none⟩ = some (.pointer (some ⟨c, 0, none⟩)) ∧ w'.cell? ⟨t, 0, none⟩ = some (.int .u64 a)) (go_keep)
    ((go_at_call 143
      refine (Hc.out).mono ?_
      rintro e w1 ⟨rfl, F1, ce1, hg1, hw1⟩
      rw [← HV.out]
      have q0 := (hw1.cell (p := ⟨p, 0, none⟩) hpl H.out.pn).trans p0
      have q1 := (hw1.cell (p := ⟨t, 0, none⟩) hl H.out.tn).trans t0
      have q2 := (hw1.cell (p := ⟨t, 2, none⟩) hl H.out.tn).trans t2
      have q3 := (hw1.frozen (p := ⟨t, 2, none⟩) hl H.out.tn).trans tf
      have q4 : (w1.setCell ⟨t, 2, none⟩ (.int .u64 v)).cell? ⟨t, 0, none⟩ = some (.int .u64 a) := (World.cell?_setCell_other _ _ _ _ (by simp)).trans q1
      have TA1 := Lib.hid (H.out.ta.wrote (w' := w1) (S := F) ⟨hw1.os, hw1.tape, hw1.output, hw1.size, hw1.block⟩ H.out.tn)
      have CE1 := Lib.hid ce1
      have HG1 := Lib.hid hg1
      have HW1 := Lib.hid hw1
      clear ce1 hg1 hw1))
  all_goals
    have HE := Lib.hid (TS.after (v := .bool (rfMarked (M a))) H.out CE1.out (⟨HG1.out.lts, HG1.out.old, HG1.out.new⟩ : Grow w F w1 F1) (⟨HW1.out.os, HW1.out.tape, HW1.out.output, HW1.out.size, HW1.out.block⟩ : Wrote F w w1) (wrote_set w1 t 2 (.int .u64 v)) (TA1.out.setWord v))
    go_wp2_with (go_at_call 277; refine (c_Marked v _ hbd.1 hbd.2).mono ?_; rintro e w' ⟨rfl, rfl⟩)
    go_ret
    have h2 := HE.out
    rw [← HV.out] at h2
    exact h2
set_option maxHeartbeats 1000000 in
theorem c_tsweep (w : World) (F : Nat → Prop) (p c t : Nat) (z : TM) (h : TS w F p c t z) (n0 : 0 ≤ z.n) (n1 : z.n ≤ 4611686018427387904) :
    Calls Tryz.prog 358 #[.pointer (some ⟨t, 0, none⟩), .pointer (some ⟨p, 0, none⟩)] w (TSPost w F p c t ⟨z.M, z.n + 1, ⟨1, 5, z.M 5, z.M 5⟩, z.t⟩ (.bool (z.M 5 != 0))) := by
  obtain ⟨M, n, la, T⟩ := z
  dsimp only at n0 n1 ⊢
  have p0 := h.hp
  have H := Lib.hid h
  have Hc := Lib.hid (c_Load (w := w) 5 h.ce (by decide) (by decide) n0 n1)
  clear h
  go_enter Tryz.func358, Tryz.ntmps358
  go_wp2_with fail
  refine (Hc.out).mono ?_
  rintro e w1 ⟨rfl, F1, ce1, hg1, hw1⟩
  have HE := Lib.hid (TS.after (v := .bool (M 5 != 0)) H.out ce1 hg1 hw1 (Wrote.refl _ w1) (H.out.ta.wrote hw1 H.out.tn))
  clear ce1 hg1 hw1
  go_wp2
  go_ret
  exact HE.out
set_option maxHeartbeats 1000000 in
theorem c_tset_hit (w : World) (F : Nat → Prop) (p c t : Nat) (z : TM) (h : TS w F p c t z) (a0 : 0 ≤ z.t.at_) (a1 : z.t.at_ < 18446744073709551616) (w0 : 0 ≤ z.t.word) (w1 : z.t.word < 18446744073709551616) (n0 : 0 ≤ z.n) (n1 : z.n ≤ 4611686018427387904) (hc : z.M z.t.at_ = z.t.word) :
    Calls Tryz.prog 359 #[.pointer (some ⟨t, 0, none⟩), .pointer (some ⟨p, 0, none⟩)] w (TSPost w F p c t ⟨(upd z.M z.t.at_ (rfMark z.t.word)), z.n + 1, ⟨3, z.t.at_, z.M z.t.at_, (rfMark z.t.word)⟩, ⟨z.t.at_, z.t.next, z.t.word, true⟩⟩ (.bool true)) := by
  obtain ⟨M, n, la, ⟨a, nx, wd, dn⟩⟩ := z
  dsimp only at a0 a1 w0 w1 n0 n1 hc ⊢
  have t0 := h.ta.c0
  have t2 := h.ta.c2
  have t3 := h.ta.c3
  have tf := h.ta.fr 3
  have p0 := h.hp
  have hl := h.ta.lt
  have hpl := h.pl
  have htp : ¬ t = p := h.tp
  have H := Lib.hid h
  have hor := u64_ormark wd w0 w1
  obtain ⟨mk, hmk⟩ : ∃ mk, mk = rfMark wd := ⟨_, rfl⟩
  have hmb : 0 ≤ mk ∧ mk < 18446744073709551616 := by rw [hmk]; unfold rfMark; omega
  rw [← hmk] at hor ⊢
  have Hc := Lib.hid (c_CAS_hit (w := w.drew) a wd mk (h.ce.wrote (S := fun _ => False) (Wrote.refl _ _).drew (fun _ _ h => h)) a0 a1 hmb.1 hmb.2 n0 n1 hc)
  dsimp only at t0 t2 t3
  have Hhc := Lib.hid hc
  clear h hmk hc
  go_enter Tryz.func359, Tryz.ntmps359
  go_wp2_with fail
  go_region_held3 (fun w' => w'.cell? ⟨p, 0, none⟩ = some (.pointer (some ⟨c, 0, none⟩)) ∧ w'.cell? ⟨t, 0, none⟩ = some (.int .u64 a) ∧ w'.cell? ⟨t, 2, none⟩ = some (.int .u64 wd)) (go_keep)
    ((go_at_call 167
      refine (Hc.out).mono ?_
      rintro e w1 ⟨rfl, F1, ce1, hg1, hw1⟩
      have q0 := (hw1.cell (p := ⟨p, 0, none⟩) hpl H.out.pn).trans p0
      have q1 := (hw1.cell (p := ⟨t, 0, none⟩) hl H.out.tn).trans t0
      have q2 := (hw1.cell (p := ⟨t, 2, none⟩) hl H.out.tn).trans t2
      have q5 := (hw1.cell (p := ⟨t, 3, none⟩) hl H.out.tn).trans t3
      have q3 := (hw1.frozen (p := ⟨t, 3, none⟩) hl H.out.tn).trans tf
      have q4 : (w1.setCell ⟨t, 3, none⟩ (.bool true)).cell? ⟨t, 0, none⟩ = some (.int .u64 a) := (World.cell?_setCell_other _ _ _ _ (by simp)).trans q1
      have q6 : (w1.setCell ⟨t, 3, none⟩ (.bool true)).cell? ⟨t, 2, none⟩ = some (.int .u64 wd) := (World.cell?_setCell_other _ _ _ _ (by simp)).trans q2
      have TA1 := Lib.hid (H.out.ta.wrote (w' := w1) (S := F) ⟨hw1.os, hw1.tape, hw1.output, hw1.size, hw1.block⟩ H.out.tn)
      have CE1 := Lib.hid ce1
      have HG1 := Lib.hid hg1
      have HW1 := Lib.hid hw1
      clear ce1 hg1 hw1))
  all_goals
    have HE := Lib.hid (TS.after (v := .bool true) H.out CE1.out (⟨HG1.out.lts, HG1.out.old, HG1.out.new⟩ : Grow w F w1 F1) (⟨HW1.out.os, HW1.out.tape, HW1.out.output, HW1.out.size, HW1.out.block⟩ : Wrote F w w1) (wrote_set w1 t 3 (.bool true)) (TA1.out.setDone true))
    go_wp2
    go_ret
    exact HE.out
set_option maxHeartbeats 1000000 in
theorem c_tset_miss (w : World) (F : Nat → Prop) (p c t : Nat) (z : TM) (h : TS w F p c t z) (a0 : 0 ≤ z.t.at_) (a1 : z.t.at_ < 18446744073709551616) (w0 : 0 ≤ z.t.word) (w1 : z.t.word < 18446744073709551616) (n0 : 0 ≤ z.n) (n1 : z.n ≤ 4611686018427387904) (hc : ¬ z.M z.t.at_ = z.t.word) :
    Calls Tryz.prog 359 #[.pointer (some ⟨t, 0, none⟩), .pointer (some ⟨p, 0, none⟩)] w (TSPost w F p c t ⟨z.M, z.n + 1, ⟨3, z.t.at_, z.M z.t.at_, (z.M z.t.at_)⟩, ⟨z.t.at_, z.t.next, z.t.word, false⟩⟩ (.bool true)) := by
  obtain ⟨M, n, la, ⟨a, nx, wd, dn⟩⟩ := z
  dsimp only at a0 a1 w0 w1 n0 n1 hc ⊢
  have t0 := h.ta.c0
  have t2 := h.ta.c2
  have t3 := h.ta.c3
  have tf := h.ta.fr 3
  have p0 := h.hp
  have hl := h.ta.lt
  have hpl := h.pl
  have htp : ¬ t = p := h.tp
  have H := Lib.hid h
  have hor := u64_ormark wd w0 w1
  obtain ⟨mk, hmk⟩ : ∃ mk, mk = rfMark wd := ⟨_, rfl⟩
  have hmb : 0 ≤ mk ∧ mk < 18446744073709551616 := by rw [hmk]; unfold rfMark; omega
  rw [← hmk] at hor
  have Hc := Lib.hid (c_CAS_miss (w := w.drew) a wd mk (h.ce.wrote (S := fun _ => False) (Wrote.refl _ _).drew (fun _ _ h => h)) a0 a1 hmb.1 hmb.2 n0 n1 hc)
  dsimp only at t0 t2 t3
  have Hhc := Lib.hid hc
  clear h hmk hc
  go_enter Tryz.func359, Tryz.ntmps359
  go_wp2_with fail
  go_region_held3 (fun w' => w'.cell? ⟨p, 0, none⟩ = some (.pointer (some ⟨c, 0, none⟩)) ∧ w'.cell? ⟨t, 0, none⟩ = some (.int .u64 a) ∧ w'.cell? ⟨t, 2, none⟩ = some (.int .u64 wd)) (go_keep)
    ((go_at_call 167
      refine (Hc.out).mono ?_
      rintro e w1 ⟨rfl, F1, ce1, hg1, hw1⟩
      have q0 := (hw1.cell (p := ⟨p, 0, none⟩) hpl H.out.pn).trans p0
      have q1 := (hw1.cell (p := ⟨t, 0, none⟩) hl H.out.tn).trans t0
      have q2 := (hw1.cell (p := ⟨t, 2, none⟩) hl H.out.tn).trans t2
      have q5 := (hw1.cell (p := ⟨t, 3, none⟩) hl H.out.tn).trans t3
      have q3 := (hw1.frozen (p := ⟨t, 3, none⟩) hl H.out.tn).trans tf
      have q4 : (w1.setCell ⟨t, 3, none⟩ (.bool false)).cell? ⟨t, 0, none⟩ = some (.int .u64 a) := (World.cell?_setCell_other _ _ _ _ (by simp)).trans q1
      have q6 : (w1.setCell ⟨t, 3, none⟩ (.bool false)).cell? ⟨t, 2, none⟩ = some (.int .u64 wd) := (World.cell?_setCell_other _ _ _ _ (by simp)).trans q2
      have TA1 := Lib.hid (H.out.ta.wrote (w' := w1) (S := F) ⟨hw1.os, hw1.tape, hw1.output, hw1.size, hw1.block⟩ H.out.tn)
      have CE1 := Lib.hid ce1
      have HG1 := Lib.hid hg1
      have HW1 := Lib.hid hw1
      clear ce1 hg1 hw1))
  all_goals
    have HE := Lib.hid (TS.after (v := .bool true) H.out CE1.out (⟨HG1.out.lts, HG1.out.old, HG1.out.new⟩ : Grow w F w1 F1) (⟨HW1.out.os, HW1.out.tape, HW1.out.output, HW1.out.size, HW1.out.block⟩ : Wrote F w w1) (wrote_set w1 t 3 (.bool false)) (TA1.out.setDone false))
    go_wp2
    go_ret
    exact HE.out
end Go.Proofs.YthpedifjclofoaaGreat
