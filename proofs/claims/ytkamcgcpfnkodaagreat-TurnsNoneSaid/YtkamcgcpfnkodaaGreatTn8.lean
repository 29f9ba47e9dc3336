/- Layer 21: the chapter's examples. -/
import Derived.Test.YtkamcgcpfnkodaaGreatTn7
namespace Go.Proofs.YtkamcgcpfnkodaaGreat
open Go.RowKit Go.Shelf
set_option linter.unusedVariables false

theorem aw0_em : ∀ a, 4096 ≤ a → (aw0 1).M a = 0 := upd_far (fun _ _ => rfl) (by decide)
/-- What stands between two Turns. -/
structure Lv (w0 w : World) (O : Om) (B : Wb) (s : AW) : Prop where
  en : Env w0 O w
  p : PW w O B ⟨1, 8, 3, 1, 16⟩ s
  em : ∀ a, 4096 ≤ a → s.M a = 0
  n0 : 0 ≤ s.n
  n1 : s.n ≤ 1000
set_option maxHeartbeats 1000000 in
set_option maxRecDepth 100000 in
theorem Lv.turn {w0 w : World} {O : Om} {B : Wb} {s : AW} (h : Lv w0 w O B s) : Calls Tryz.prog 13 #[] w fun e w' => ∃ X G, e = .returned (.pointer (some ⟨X, 0, none⟩)) ∧ Lv w0 w' G B s ∧ TnAt w' G X tzNew := by
  refine (c_NewTurn h.en.hi).mono ?_
  rintro e w' ⟨X, rfl, G, e1, t1⟩
  exact ⟨X, G, rfl, ⟨h.en.ext e1, h.p.ext e1 (by decide) (by decide) (by decide) (by decide), h.em, h.n0, h.n1⟩, t1⟩
theorem Lv.run {w0 w : World} {O : Om} {B : Wb} {s s' : AW} {X n : Nat} (h : Lv w0 w O B s) (t : TnAt w O X tzNew) (hr : (tnRun 1 99 s).1 = n) (hs : (tnRun 1 99 s).2.1 = s') (q0 : 0 ≤ s'.n) (q1 : s'.n ≤ 1000) :
    Calls Tryz.prog 26 #[.pointer (some ⟨B.p, 0, none⟩), .iface 47 (.pointer (some ⟨X, 0, none⟩)), .int .i64 99] w fun e w' => ∃ G, e = .returned (.int .i64 n) ∧ Lv w0 w' G B s' := by
  subst hr hs
  refine (c_TRun 99 h.p t (TzOk.start h.em h.p.bd h.n0) h.en.hi h.n0 (by have := h.n1; omega)).mono ?_
  rintro e w' ⟨rfl, G, e1, p1, z1⟩
  exact ⟨G, rfl, ⟨h.en.ext e1, p1, z1.em, q0, q1⟩⟩
set_option maxHeartbeats 4000000 in
set_option maxRecDepth 100000 in
theorem c_lives21 (w : World) : Calls Tryz.prog 7 #[] w fun e w' => e = .returned (.bool true) ∧ Below w.heap.size w w' := by
  have HQ := Lib.hid q_num
  have HM := Lib.hid q_M
  have HN := Lib.hid q_n
  go_enter Tryz.func7, Tryz.ntmps7
  go_wp2_with fail
  refine (c_WorldP 1 w (by decide) (by decide)).mono ?_
  rintro e w1 ⟨B, O1, rfl, hP, hE⟩
  have L1 : Hid (Lv w w1 O1 B (aw0 1)) := Lib.hid ⟨hE, hP, aw0_em, by decide, by decide⟩
  clear hP hE
  go_wp2_with fail
  refine L1.out.turn.mono ?_
  rintro e w2 ⟨X2, O2, rfl, l2, t2⟩
  have R2 := Lib.hid (l2.run t2 (n := 1) (s' := q1.2.1) HQ.out.1 rfl HN.out.1.1 HN.out.1.2)
  clear l2 t2
  go_wp2_with fail
  refine R2.out.mono ?_
  rintro e w3 ⟨O3, rfl, l3⟩
  have L3 := Lib.hid l3
  have p0 := l3.p.wo.c0
  clear l3 R2
  go_wp2_with fail
  go_region_held3 (fun w' => w'.cell? ⟨B.p, 0, none⟩ = some (.pointer (some ⟨B.c, 0, none⟩))) (go_keep)
    ((first
      | (go_at_call 28
         refine (c_Word 1 2 _).mono ?_
         rintro e w' ⟨rfl, rfl⟩)
      | (go_at_call 27
         refine (c_StoreP 2 (plWord 1 2) (w := w3.drew) (L3.out.p.below L3.out.en.hi (drew_below w3)) L3.out.en.hi (by decide) (by decide) (by decide) (by decide) L3.out.n0 (by have := L3.out.n1; omega)).mono ?_
         rintro e w4 ⟨rfl, O4, e4, p4⟩
         have L4 : Hid (Lv w w4 O4 B (awStore 2 (plWord 1 2) q1.2.1)) := Lib.hid ⟨(L3.out.en.ext (Ext.refl (S := SW) L3.out.en.hi).drew).ext e4, p4, upd_far L3.out.em (by decide), by have := HN.out.1.1; show 0 ≤ q1.2.1.n + 1; omega, by show q1.2.1.n + 1 ≤ 1000; decide⟩
         have p04 := L4.out.p.wo.c0
         clear e4 p4)))
  all_goals
    clear p0 p04
    go_wp2_with fail
    refine L4.out.turn.mono ?_
    rintro e w5 ⟨X5, O5, rfl, l5, t5⟩
    have R5 := Lib.hid (l5.run t5 (n := 7) (s' := q2.2.1) HQ.out.2.1 rfl HN.out.2.1.1 HN.out.2.1.2)
    clear l5 t5
    go_wp2_with fail
    refine R5.out.mono ?_
    rintro e w6 ⟨O6, rfl, l6⟩
    have L6 := Lib.hid l6
    have p6 := l6.p.wo.c0
    clear l6 R5
    go_wp2_with fail
    refine (c_Peek (F := fun j => O6 j = 2) 3 L6.out.p.ce (by decide) (by decide)).mono ?_
    rintro e w' ⟨rfl, rfl⟩
    rw [HM.out.1]
    go_wp2_with fail
    refine L6.out.turn.mono ?_
    rintro e w7 ⟨X7, O7, rfl, l7, t7⟩
    have R7 := Lib.hid (l7.run t7 (n := 7) (s' := q3.2.1) HQ.out.2.2.1 rfl HN.out.2.2.1 HN.out.2.2.2)
    clear l7 t7 p6
    go_wp2_with fail
    refine R7.out.mono ?_
    rintro e w8 ⟨O8, rfl, l8⟩
    have L8 := Lib.hid l8
    have p8 := l8.p.wo.c0
    clear l8 R7
    go_wp2_with fail
    refine (c_Peek (F := fun j => O8 j = 2) 3 L8.out.p.ce (by decide) (by decide)).mono ?_
    rintro e w' ⟨rfl, rfl⟩
    rw [HM.out.2.1]
    go_wp2_with fail
    refine L8.out.turn.mono ?_
    rintro e w9 ⟨X9, O9, rfl, l9, t9⟩
    have R9 := Lib.hid (l9.run t9 (n := 3) (s' := q4.2.1) HQ.out.2.2.2 rfl (by decide) (by decide))
    clear l9 t9 p8
    go_wp2_with fail
    refine R9.out.mono ?_
    rintro e w10 ⟨O10, rfl, l10⟩
    have L10 := Lib.hid l10
    have p10 := l10.p.wo.c0
    clear l10 R9
    go_wp2_with fail
    refine (c_Peek (F := fun j => O10 j = 2) 2 L10.out.p.ce (by decide) (by decide)).mono ?_
    rintro e w' ⟨rfl, rfl⟩
    rw [HM.out.2.2]
    go_wp2_with fail
    go_ret
    exact ⟨rfl, L10.out.en.bel⟩
end Go.Proofs.YtkamcgcpfnkodaaGreat
