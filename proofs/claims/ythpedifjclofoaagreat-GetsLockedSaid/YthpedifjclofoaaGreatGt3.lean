/- Layer 28: a step of the program's Get. -/
import Derived.Test.YthpedifjclofoaaGreatGt2
import Derived.Test.YthpedifjclofoaaGreatSeY
namespace Go.Proofs.YthpedifjclofoaaGreat
set_option linter.unusedSimpArgs false
open Go.RowKit
set_option linter.unusedVariables false
theorem m_PtStep' (v : Value) (w : World) : (method 543 256 v "Step").run Tryz.prog w = .ok (344, v) w := by kernel_rfl
theorem m_TcStep (a : Addr) (w : World) : (method 543 291 (.pointer (some a)) "Step").run Tryz.prog w = .ok (355, .pointer (some a)) w := by kernel_rfl
theorem m_FdStep' (a : Addr) (w : World) : (method 543 242 (.pointer (some a)) "Step").run Tryz.prog w = .ok (343, .pointer (some a)) w := by kernel_rfl
/-- What a step of a Get wants. -/
def gtB (key : ByteArray) (s : AW) (z : Gtm) : Bool := decide (s.it.length ≤ 1000000) && match z.ln with
  | 2 => lkB s z.lk && (decide ((lkStep key (s, z.lk)).2.ln ≤ 7 ∧ (lkStep key (s, z.lk)).1.it.length ≤ 1000000) && decide ((lkStep key (s, z.lk)).2.ln = 0 → (lkStep key (s, z.lk)).2.fl = false → (-9223372036854775808 ≤ (lkStep key (s, z.lk)).2.ref ∧ (lkStep key (s, z.lk)).2.ref ≤ 9223372036854775807) ∧ 0 ≤ (lkStep key (s, z.lk)).2.ep ∧ (lkStep key (s, z.lk)).2.ep ≤ 18446744073709551615))
  | 3 => decide (z.tk.ln = 1 ∨ z.tk.ln = 2)
  | 4 => fdB z.fd && !z.fd.left.isEmpty
  | 6 => decide ((-9223372036854775808 ≤ z.ref ∧ z.ref ≤ 9223372036854775807) ∧ 0 ≤ z.ep ∧ z.ep ≤ 18446744073709551615)
  | 7 => decide ((0 ≤ z.tc.at_ ∧ z.tc.at_ < 18446744073709551616) ∧ (0 ≤ z.tc.word ∧ z.tc.word < 18446744073709551616) ∧ (¬ z.tc.at_ = 0 → z.tc.next = 0 ∨ z.tc.next = 1 ∨ z.tc.next = 2))
  | _ => true
section
variable {w w0 : World} {O O0 : Om} {B : Wb} {f : Cf} {s : AW} {k X t : Nat} {key : ByteArray} {pv : Value} {z : Gtm}
theorem Me.op12 {a b : Nat} {w1 : World} {G : Om} {s1 : AW} {cs : List Value} (hX : Ob w O k X cs) (e : Ext (SX a b) O w G w1) (p : PW w1 G B f s1) (ha : k < a) (hk : 10 ≤ k) (hb : b ≤ k + 12) : Me k (k + 12) w O w1 G B f s1 k X cs :=
  ⟨e.mono fun t _ ht => SX.mono (by omega) hb ht, p, hX.ext e (by unfold SX; omega)⟩
set_option maxRecDepth 100000 in
theorem c_GtStepNo {wp : Addr} {ty : TypeId} {fS : FuncId} {v : Value} {R : World → Prop} (q2 : w.cell? ⟨X, 2, none⟩ = some (.bool false)) (q3 : w.cell? ⟨X, 3, none⟩ = some (.iface ty v)) (hm : ∀ W, (method 543 ty v "Step").run Tryz.prog W = .ok (fS, v) W) (hK : enters fS)
    (HC : Calls Tryz.prog fS #[v, .pointer (some wp)] w fun e w' => e = .returned (.bool false) ∧ R w') (hR : ∀ W, R W → GIdle W X false) :
    Calls Tryz.prog 40 #[.pointer (some ⟨X, 0, none⟩), .pointer (some wp)] w fun e w' => e = .returned (.bool false) ∧ R w' := by
  unfold enters at hK
  have HO := Lib.hid (c_GtOver (.inr ⟨rfl, .inr ⟨q2, ty, v, q3⟩⟩ : GIdle w X false))
  have HCH := Lib.hid HC
  have HRH := Lib.hid hR
  clear HC hR
  go_enter Tryz.func40, Tryz.ntmps40
  go_wp2_with fail
  refine HO.out.mono ?_
  rintro e w' ⟨rfl, rfl⟩
  go_wp2_with fail
  refine HCH.out.mono ?_
  rintro e w1 ⟨rfl, h⟩
  have H1 := Lib.hid (c_GtOver (HRH.out w1 h))
  have HR := Lib.hid h
  clear h
  go_wp2_with fail
  refine H1.out.mono ?_
  rintro e w' ⟨rfl, rfl⟩
  go_wp2_with fail
  go_ret
  exact ⟨rfl, HR.out⟩
set_option maxRecDepth 100000 in
theorem c_GtStepYes {wp : Addr} {ty : TypeId} {fS : FuncId} {v : Value} {b : Bool} {R R1 : World → Prop} (q2 : w.cell? ⟨X, 2, none⟩ = some (.bool false)) (q3 : w.cell? ⟨X, 3, none⟩ = some (.iface ty v)) (hm : ∀ W, (method 543 ty v "Step").run Tryz.prog W = .ok (fS, v) W) (hK : enters fS)
    (HC : Calls Tryz.prog fS #[v, .pointer (some wp)] w fun e w' => e = .returned (.bool true) ∧ R1 w') (HT : ∀ W, R1 W → Calls Tryz.prog 89 #[.pointer (some ⟨X, 0, none⟩), .pointer (some wp)] W fun e w' => e = .returned (.tuple #[]) ∧ R w') (hR : ∀ W, R W → GIdle W X b) :
    Calls Tryz.prog 40 #[.pointer (some ⟨X, 0, none⟩), .pointer (some wp)] w fun e w' => e = .returned (.bool b) ∧ R w' := by
  unfold enters at hK
  have HO := Lib.hid (c_GtOver (.inr ⟨rfl, .inr ⟨q2, ty, v, q3⟩⟩ : GIdle w X false))
  have HCH := Lib.hid HC
  have HTH := Lib.hid HT
  have HRH := Lib.hid hR
  clear HC hR HT
  go_enter Tryz.func40, Tryz.ntmps40
  go_wp2_with fail
  refine HO.out.mono ?_
  rintro e w' ⟨rfl, rfl⟩
  go_wp2_with fail
  refine HCH.out.mono ?_
  rintro e w1 ⟨rfl, h⟩
  have H2 := Lib.hid (HTH.out w1 h)
  clear h
  go_wp2_with fail
  refine H2.out.mono ?_
  rintro e w2 ⟨rfl, h⟩
  have H1 := Lib.hid (c_GtOver (HRH.out w2 h))
  have HR := Lib.hid h
  clear h
  go_wp2_with fail
  refine H1.out.mono ?_
  rintro e w' ⟨rfl, rfl⟩
  go_wp2_with fail
  go_ret
  exact ⟨rfl, HR.out⟩
theorem GtR.idle {y : AW × Gtm} {W : World} (h : GtR k w O B f X t key y W) : GIdle W X (y.2.ln == 0) := by
  obtain ⟨G, -, -, h⟩ := h
  exact h.idle
theorem lk1_step (key : ByteArray) (s : AW) (tries : Int) : lkStep key (s, lkNew tries) = (awLoad 2 s, { lkNew tries with tab := s.M 2, all := plPlaces (kyH key) (s.M 2), vs := (ofL (plPlaces (kyH key) (s.M 2))).map fun a => (a, 0), pos := 0, ref := 0, ln := 2 }) := rfl
set_option maxHeartbeats 4000000 in
set_option maxRecDepth 100000 in
/-- The first step. -/
theorem c_GtStep1 (hP : PW w O B f s) (ho : Ob w O k X (gtCs t key true .nilIface z)) (t0 : 0 ≤ f.t) (t1 : f.t ≤ 1000000) (hkz : key.size ≤ maxLen) (hk : 10 ≤ k) (hhi : ∀ j, O j ≠ 0 → j < w.heap.size) (n0 : 0 ≤ s.n) (n1 : s.n ≤ 4611686018427387904) :
    Calls Tryz.prog 40 #[.pointer (some ⟨X, 0, none⟩), .pointer (some ⟨B.p, 0, none⟩)] w fun e w' => e = .returned (.bool false) ∧ GtR k w O B f X t key ((lkStep key (s, lkNew f.t)).1, { z with lk := (lkStep key (s, lkNew f.t)).2, ln := 2 }) w' := by
  have HO := Lib.hid (c_GtOver (.inr ⟨rfl, .inl (ho.c 2 _ rfl)⟩ : GIdle w X false))
  have M := Me.start (a := k) (b := k + 12) hhi hP ho
  have q1 := M.t.c 1 _ rfl
  have q2 := M.t.c 2 _ rfl
  have p5 := M.p.wo.c5
  have M := M.drew
  have HNL := Lib.hid (c_NewLook (w := w.drew) (O := O) (k := k + 1) (key := key) f.t (by omega) hkz t0 M.e.hi)
  have HLS := Lib.hid (fun (W : World) (G : Om) (L : Nat) (hp : PW W G B f s) (hl : LkAt W G (k + 1) L key (lkNew f.t)) (hh : ∀ j, G j ≠ 0 → j < W.heap.size) => c_LkStep (k := k + 1) hp hl (by unfold lkB lkNew; rw [if_pos t0]; simp; exact ⟨t0, t1⟩) (by omega) hkz hh n0 n1)
  rw [lk1_step] at HLS ⊢
  have HM := Lib.hid M
  clear M ho hP hhi n0 n1 hkz
  go_enter Tryz.func40, Tryz.ntmps40
  go_wp2_with fail
  refine HO.out.mono ?_
  rintro e w' ⟨rfl, rfl⟩
  go_upto_region 4 with fail
  go_region_held3 (fun w' => w'.cell? ⟨X, 1, none⟩ = some (.string key) ∧ w'.cell? ⟨B.p, 5, none⟩ = some (.int .i64 f.t)) (first | (refine ⟨?_, ?_⟩ <;> (simp [go_sem, hne, q1, p5]; done)) | (simp [go_sem, hne, q1, p5]; done) | go_keep)
    (first
      | (go_at_call 41
         refine HNL.out.mono ?_
         rintro e w1 ⟨L, rfl, G1, e1, l1⟩
         have m1 := HM.out.oth hk e1 (by intro t ht; omega)
         have hne : ¬ X = B.p := fun e => by have h1 := m1.t.o; have h2 := m1.p.o; rw [e, h2] at h1; omega
         have q1 := m1.t.c 1 _ rfl
         have p5 := m1.p.wo.c5
         have f2 := m1.t.f 2
         have f3 := m1.t.f 3
         have q2 := m1.t.c 2 _ rfl
         have q3 := m1.t.c 3 _ rfl
         have m2 := m1.set2 hk (by omega) (by omega) (i := 2) (j := 3) (.bool false) (.iface 114 (.pointer (some ⟨L, 0, none⟩))) (by simp [gtCs]) (by simp [gtCs])
         have l2 := l1.ext m2.2 (by omega) (by omega) (by omega)
         have HM2 := Lib.hid (And.intro m2.1 l2)
         have HS := Lib.hid (HLS.out _ _ L m2.1.p l2 m2.1.e.hi)
         clear e1 l1 m1 m2 l2))
  all_goals
    clear HLS HNL HM
    have x3 := HM2.out.1.t.c 3 _ rfl
    go_wp2_with fail
    refine HS.out.mono ?_
    rintro e w3 ⟨rfl, G3, e3, p3, l3⟩
    have m3 : Me k (k + 12) w O w3 G3 B f (awLoad 2 s) k X (gtCs t key false (.iface 114 (.pointer (some ⟨L, 0, none⟩))) z) := ⟨HM2.out.1.e.trans (e3.mono fun t _ ht => SX.mono (by omega) (by omega) ht), p3, HM2.out.1.t.ext e3 (by unfold SX; omega)⟩
    have HQ := Lib.hid (And.intro m3 l3)
    have HO2 := Lib.hid (c_GtOver (.inr ⟨rfl, .inr ⟨m3.t.c 2 _ rfl, _, _, m3.t.c 3 _ rfl⟩⟩ : GIdle w3 X false))
    clear e3 p3 l3 m3 x3
    go_wp2_with fail
    refine HO2.out.mono ?_
    rintro e w' ⟨rfl, rfl⟩
    go_wp2_with fail
    go_ret
    exact ⟨rfl, G3, HQ.out.1.e, HQ.out.1.p, _, HQ.out.1.t, L, rfl, HQ.out.2⟩
theorem GtR.bool {y : AW × Gtm} {e : Ending} {w' : World} {b : Bool} (h : e = .returned (.bool b) ∧ GtR k w O B f X t key y w') (hb : b = (y.2.ln == 0)) : e = .returned (.bool (y.2.ln == 0)) ∧ GtR k w O B f X t key y w' := by rw [← hb]; exact h
set_option maxHeartbeats 4000000 in
theorem c_GtStep (hP : PW w O B f s) (hX : GtAt w O k X t key z) (hB : gtB key s z = true) (hz : z.ln ≠ 0) (t0 : 0 ≤ f.t) (t1 : f.t ≤ 1000000) (ht : t < 64) (hkz : key.size ≤ maxLen) (hk : 10 ≤ k) (hhi : ∀ j, O j ≠ 0 → j < w.heap.size) (n0 : 0 ≤ s.n) (n1 : s.n ≤ 4611686018427387904) :
    Calls Tryz.prog 40 #[.pointer (some ⟨X, 0, none⟩), .pointer (some ⟨B.p, 0, none⟩)] w fun e w' => e = .returned (.bool ((gtStep t key f.t (s, z)).2.ln == 0)) ∧ GtR k w O B f X t key (gtStep t key f.t (s, z)) w' := by
  obtain ⟨pv, ho, hl⟩ := hX.ex
  unfold gtB at hB
  rw [Bool.and_eq_true, decide_eq_true_eq] at hB
  obtain ⟨hil, hB⟩ := hB
  obtain ⟨ln, lk, tk, fd, tc, ref, ep, pt, an, im⟩ := z
  dsimp only at hl hB hz ho
  match ln, hl, hB, hz, ho with
  | 0, _, _, hz, _ => exact absurd rfl hz
  | 1, hl, _, _, ho =>
    rw [show pv = .nilIface from hl] at ho
    have e : gtStep t key f.t (s, ⟨1, lk, tk, fd, tc, ref, ep, pt, an, im⟩) = ((lkStep key (s, lkNew f.t)).1, ⟨2, (lkStep key (s, lkNew f.t)).2, tk, fd, tc, ref, ep, pt, an, im⟩) := rfl
    rw [e]
    exact c_GtStep1 (z := ⟨1, lk, tk, fd, tc, ref, ep, pt, an, im⟩) hP ho t0 t1 hkz hk hhi n0 n1
  | 2, hl, hB, _, ho =>
    obtain ⟨L, rfl, hl2⟩ := hl
    change (lkB s lk && (decide _ && decide _)) = true at hB
    rw [Bool.and_eq_true, Bool.and_eq_true, decide_eq_true_eq, decide_eq_true_eq] at hB
    obtain ⟨b1, ⟨b2, b3⟩, b4⟩ := hB
    have HS := c_LkStep (k := k + 1) hP hl2 b1 (by omega) hkz hhi n0 n1
    have e : gtStep t key f.t (s, ⟨2, lk, tk, fd, tc, ref, ep, pt, an, im⟩) = ((lkStep key (s, lk)).1, gtLook (lkStep key (s, lk)).1.it (lkStep key (s, lk)).2 ⟨2, lk, tk, fd, tc, ref, ep, pt, an, im⟩) := rfl
    rw [e]
    obtain ⟨y, hy⟩ : ∃ y, y = lkStep key (s, lk) := ⟨_, rfl⟩
    rw [← hy] at HS b2 b3 b4 ⊢
    clear hy e
    by_cases h0 : y.2.ln = 0
    · rw [show (y.2.ln == 0) = true by simp [h0]] at HS
      have HR : ∀ (b : Bool) (y' : AW × Gtm), (∀ W, (∃ G, Ext (SX (k + 1) (k + 1 + 3)) O w G W ∧ PW W G B f y.1 ∧ LkAt W G (k + 1) L key y.2) → Calls Tryz.prog 89 #[.pointer (some ⟨X, 0, none⟩), .pointer (some ⟨B.p, 0, none⟩)] W fun e w' => e = .returned (.tuple #[]) ∧ GtR k w O B f X t key y' w') → Calls Tryz.prog 40 #[.pointer (some ⟨X, 0, none⟩), .pointer (some ⟨B.p, 0, none⟩)] w fun e w' => e = .returned (.bool (y'.2.ln == 0)) ∧ GtR k w O B f X t key y' w' := fun b y' HT =>
        c_GtStepYes (ho.c 2 _ rfl) (ho.c 3 _ rfl) (m_LkStep _) (run_enter Tryz.func325 (by kernel_rfl) (by kernel_rfl)) (HS.mono fun e w' h => ⟨h.1, h.2⟩) HT fun W h => h.idle
      unfold gtLook
      rw [if_pos h0]
      by_cases hfl : y.2.fl = true
      · rw [if_pos hfl]
        refine HR true _ fun W h => ?_
        obtain ⟨G, e1, p1, l1⟩ := h
        exact c_GtNext2f (Me.op12 ho e1 p1 (by omega) hk (by omega)) l1 hfl ht hk
      · rw [if_neg hfl]
        refine HR true _ fun W h => ?_
        obtain ⟨G, e1, p1, l1⟩ := h
        have hfl : y.2.fl = false := by
          cases hq : y.2.fl with
          | true => exact absurd hq hfl
          | false => rfl
        have b5 := b4 h0 hfl
        exact c_GtNext2 (Me.op12 ho e1 p1 (by omega) hk (by omega)) l1 h0 hfl b3 b5.1 b5.2 hk
    · rw [show (y.2.ln == 0) = false by simp [h0]] at HS
      unfold gtLook
      rw [if_neg h0]
      refine c_GtStepNo (ho.c 2 _ rfl) (ho.c 3 _ rfl) (m_LkStep _) (run_enter Tryz.func325 (by kernel_rfl) (by kernel_rfl)) (HS.mono fun e w' h => ⟨h.1, ?_⟩) fun W h => h.idle
      obtain ⟨G, e1, p1, l1⟩ := h.2
      have m := Me.op12 ho e1 p1 (by omega) hk (by omega)
      exact ⟨G, m.e, m.p, _, m.t, L, rfl, l1⟩
  | 3, hl, hB, _, ho =>
    obtain ⟨T, rfl, hl2⟩ := hl
    have hx := of_decide_eq_true hB
    have HS := c_TakeStep w O B f s (k + 5) T t tk hP hl2 hx (by omega) ht hhi n0 n1
    have e : gtStep t key f.t (s, ⟨3, lk, tk, fd, tc, ref, ep, pt, an, im⟩) = if (tkStep t s tk).2.ln = 0 then (awNote 7 0 0 0 0 0 (tkStep t s tk).1, ⟨4, lk, (tkStep t s tk).2, fdNew, tc, ref, ep, pt, an, im⟩) else ((tkStep t s tk).1, ⟨3, lk, (tkStep t s tk).2, fd, tc, ref, ep, pt, an, im⟩) := rfl
    rw [e]
    clear e
    obtain ⟨y, hy⟩ : ∃ y, y = tkStep t s tk := ⟨_, rfl⟩
    rw [← hy] at HS ⊢
    clear hy
    by_cases h0 : y.2.ln = 0
    · rw [decide_eq_true h0] at HS
      rw [if_pos h0]
      refine c_GtStepYes (ho.c 2 _ rfl) (ho.c 3 _ rfl) (m_TkStep _) (run_enter Tryz.func326 (by kernel_rfl) (by kernel_rfl)) (HS.mono fun e w' h => ⟨h.1, h.2⟩) (fun W h => ?_) fun W h => h.idle
      obtain ⟨G, e1, p1, l1⟩ := h
      exact c_GtNext3 (z := ⟨3, lk, y.2, fd, tc, ref, ep, pt, an, im⟩) (Me.op12 ho e1 p1 (by omega) hk (by omega)) hk
    · rw [decide_eq_false h0] at HS
      rw [if_neg h0]
      refine c_GtStepNo (ho.c 2 _ rfl) (ho.c 3 _ rfl) (m_TkStep _) (run_enter Tryz.func326 (by kernel_rfl) (by kernel_rfl)) (HS.mono fun e w' h => ⟨h.1, ?_⟩) fun W h => h.idle
      obtain ⟨G, e1, p1, l1⟩ := h.2
      have m := Me.op12 ho e1 p1 (by omega) hk (by omega)
      exact ⟨G, m.e, m.p, _, m.t, T, rfl, l1⟩
  | 4, hl, hB, _, ho =>
    obtain ⟨F, rfl, hl2⟩ := hl
    change (fdB fd && !fd.left.isEmpty) = true at hB
    rw [Bool.and_eq_true] at hB
    have hne : fd.left ≠ [] := fun e => by
      have := hB.2
      rw [e] at this
      exact absurd this (by decide)
    have HS := c_FdStep (k := k + 6) fd hP hl2 (fdB_ok hB.1) hne hkz hil (by omega) hhi n0 n1
    have e : gtStep t key f.t (s, ⟨4, lk, tk, fd, tc, ref, ep, pt, an, im⟩) = ((fdStep key (s, fd)).1, if (fdStep key (s, fd)).2.left = [] then ⟨5, lk, tk, (fdStep key (s, fd)).2, tc, (fdStep key (s, fd)).2.ref, ep, pt, an, im⟩ else ⟨4, lk, tk, (fdStep key (s, fd)).2, tc, ref, ep, pt, an, im⟩) := by
      unfold gtStep
      dsimp only
      cases h : (fdStep key (s, fd)).2.left with
      | nil => rw [if_pos rfl]; rfl
      | cons a l => rw [if_neg (List.cons_ne_nil a l)]; rfl
    rw [e]
    clear e
    obtain ⟨y, hy⟩ : ∃ y, y = fdStep key (s, fd) := ⟨_, rfl⟩
    rw [← hy] at HS ⊢
    clear hy
    by_cases h0 : y.2.left = []
    · rw [show (y.2.left.length == 0) = true by rw [h0]; rfl] at HS
      rw [if_pos h0]
      refine c_GtStepYes (ho.c 2 _ rfl) (ho.c 3 _ rfl) (m_FdStep' _) (run_enter Tryz.func343 (by kernel_rfl) (by kernel_rfl)) (HS.mono fun e w' h => ⟨h.1, h.2⟩) (fun W h => ?_) fun W h => h.idle
      obtain ⟨G, e1, p1, l1⟩ := h
      exact c_GtNext4 (z := ⟨4, lk, tk, fd, tc, ref, ep, pt, an, im⟩) (Me.op12 ho e1 p1 (by omega) hk (by omega)) l1 hk
    · rw [show (y.2.left.length == 0) = false by cases h : y.2.left with
        | nil => exact absurd h h0
        | cons a l => rfl] at HS
      rw [if_neg h0]
      refine c_GtStepNo (ho.c 2 _ rfl) (ho.c 3 _ rfl) (m_FdStep' _) (run_enter Tryz.func343 (by kernel_rfl) (by kernel_rfl)) (HS.mono fun e w' h => ⟨h.1, ?_⟩) fun W h => h.idle
      obtain ⟨G, e1, p1, l1⟩ := h.2
      have m := Me.op12 ho e1 p1 (by omega) hk (by omega)
      exact ⟨G, m.e, m.p, _, m.t, F, rfl, l1⟩
  | 5, hl, hB, _, ho =>
    rw [show pv = _ from hl] at ho
    have e : gtStep t key f.t (s, ⟨5, lk, tk, fd, tc, ref, ep, pt, an, im⟩) = (awLoad 8 s, ⟨6, lk, tk, fd, tc, ref, s.M 8, s.n + 1, an, im⟩) := rfl
    rw [e]
    have M := Me.start (a := k) (b := k + 12) hhi hP ho
    refine c_GtStepYes (ho.c 2 _ rfl) (ho.c 3 _ rfl) (m_PtStep' _) (run_enter Tryz.func344 (by kernel_rfl) (by kernel_rfl)) (c_GtPoint M hk n0 n1) (fun W h => ?_) fun W h => h.idle
    obtain ⟨G, m⟩ := h
    exact c_GtNext5 (v := .nilIface) m hk
  | 6, hl, hB, _, ho =>
    obtain ⟨V, rfl, hl2⟩ := hl
    have hx := of_decide_eq_true hB
    have e : gtStep t key f.t (s, ⟨6, lk, tk, fd, tc, ref, ep, pt, an, im⟩) = (awGive s, gtTells s.it ⟨6, lk, tk, fd, tc, ref, ep, pt, an, im⟩) := rfl
    rw [e]
    refine c_GtStepYes (ho.c 2 _ rfl) (ho.c 3 _ rfl) (m_GvStep _) (run_enter Tryz.func346 (by kernel_rfl) (by kernel_rfl)) ((c_GiveStep w O B f s (k + 9) V hP hl2 (by omega) hhi n0 n1).mono fun e w' h => ⟨h.1, h.2⟩) (fun W h => ?_) fun W h => h.idle
    obtain ⟨G, e1, p1, l1⟩ := h
    exact c_GtNext6 (s := awGive s) (Me.op12 ho e1 p1 (by omega) hk (by omega)) hil hx.1 hx.2 hk
  | 7, hl, hB, _, ho =>
    obtain ⟨x, rfl, hl2, hox⟩ := hl
    have hx := of_decide_eq_true hB
    have HS := c_PTStep (k + 10) hP hl2 hox ⟨hx.1.1, hx.1.2, hx.2.1.1, hx.2.1.2, hx.2.2⟩ (by omega) hhi n0 n1
    have e : gtStep t key f.t (s, ⟨7, lk, tk, fd, tc, ref, ep, pt, an, im⟩) = (awOf (tcStep ⟨s.M, s.n, s.la, tc⟩) s, ⟨if (tcStep ⟨s.M, s.n, s.la, tc⟩).t.at_ = 0 then 0 else 7, lk, tk, fd, (tcStep ⟨s.M, s.n, s.la, tc⟩).t, ref, ep, pt, an, im⟩) := rfl
    rw [e]
    clear e
    obtain ⟨y, hy⟩ : ∃ y, y = tcStep ⟨s.M, s.n, s.la, tc⟩ := ⟨_, rfl⟩
    rw [← hy] at HS ⊢
    clear hy
    unfold tcOver at HS
    by_cases h0 : y.t.at_ = 0
    · rw [decide_eq_true h0] at HS
      rw [if_pos h0]
      refine c_GtStepYes (ho.c 2 _ rfl) (ho.c 3 _ rfl) (m_TcStep _) (run_enter Tryz.func355 (by kernel_rfl) (by kernel_rfl)) (HS.mono fun e w' h => ⟨h.1, h.2⟩) (fun W h => ?_) fun W h => h.idle
      obtain ⟨G, e1, p1, l1, -⟩ := h
      exact c_GtNext7 (z := ⟨7, lk, tk, fd, y.t, ref, ep, pt, an, im⟩) (Me.op12 ho e1 p1 (by omega) hk (by omega)) hk
    · rw [decide_eq_false h0] at HS
      rw [if_neg h0]
      refine c_GtStepNo (ho.c 2 _ rfl) (ho.c 3 _ rfl) (m_TcStep _) (run_enter Tryz.func355 (by kernel_rfl) (by kernel_rfl)) (HS.mono fun e w' h => ⟨h.1, ?_⟩) fun W h => h.idle
      obtain ⟨G, e1, p1, l1, l2⟩ := h.2
      have m := Me.op12 ho e1 p1 (by omega) hk (by omega)
      exact ⟨G, m.e, m.p, _, m.t, x, rfl, l1, l2⟩
end
end Go.Proofs.YthpedifjclofoaaGreat
