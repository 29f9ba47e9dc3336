/- Layer 11: contracts of the writers' lock. -/
import Derived.Test.YtijifjiehldcaaaGreatWtk
import Derived.Laws.EntriesVeiled
import Derived.Test.YtijifjiehldcaaaGreatFnil
namespace Go.Proofs.YtijifjiehldcaaaGreat
set_option linter.unusedSimpArgs false
open Go.RowKit
set_option linter.unusedVariables false

def updN (tk : Nat → Int) (j : Nat) (v : Int) : Nat → Int := fun i => if i = j then v else tk i
section
variable {S : Nat → Prop} {O O' : Om} {w w' : World} {B : Wb} {f : Cf} {s : AW}
theorem PW.setTk (h : PW w O B f s) (hhi : ∀ j, O j ≠ 0 → j < w.heap.size) (j : Nat) (hj : j < 64) (v : Int) : PW (w.setCell ⟨B.p, 8 + j, none⟩ (.int .u64 v)) O B f ⟨s.M, s.n, s.la, updN s.tk j v, s.ho, s.it, s.nt⟩ ∧ Ext (fun t => t = 1) O w O (w.setCell ⟨B.p, 8 + j, none⟩ (.int .u64 v)) := by
  have e : Ext (fun t => t = 1) O w O (w.setCell ⟨B.p, 8 + j, none⟩ (.int .u64 v)) := Ext.of_set hhi h.o (by decide) rfl
  have hc : ∀ i, i ≠ 8 + j → (w.setCell ⟨B.p, 8 + j, none⟩ (.int .u64 v)).cell? ⟨B.p, i, none⟩ = w.cell? ⟨B.p, i, none⟩ := fun i hi => World.cell?_setCell_other _ _ _ _ (by simp; try omega)
  have k := h.wo
  refine ⟨⟨h.o, ⟨(hc 0 (by omega)).trans k.c0, (hc 1 (by omega)).trans k.c1, (hc 2 (by omega)).trans k.c2, (hc 3 (by omega)).trans k.c3, (hc 4 (by omega)).trans k.c4, (hc 5 (by omega)).trans k.c5, (hc 6 (by omega)).trans k.c6, (hc 7 (by omega)).trans k.c7, fun i hi => ?_, (hc 72 (by omega)).trans k.ho, fun i => (World.frozen?_setCell _ _ _ _).trans (k.fr i), by simpa using k.lt⟩, h.ce.ext e (by decide) (by decide), h.ar.ext e (by decide), h.no.ext e (by decide)⟩, e⟩
  by_cases hij : i = j
  · subst hij
    show _ = some (Value.int .u64 (if i = i then v else s.tk i))
    rw [if_pos rfl]
    exact World.cell?_setCell_same _ _ _ (k.tk i hi)
  · show _ = some (Value.int .u64 (if i = j then v else s.tk i))
    rw [if_neg hij]
    exact (hc _ (by omega)).trans (k.tk i hi)
theorem PW.setHo (h : PW w O B f s) (hhi : ∀ j, O j ≠ 0 → j < w.heap.size) (v : Int) : PW (w.setCell ⟨B.p, 72, none⟩ (.int .i64 v)) O B f ⟨s.M, s.n, s.la, s.tk, v, s.it, s.nt⟩ ∧ Ext (fun t => t = 1) O w O (w.setCell ⟨B.p, 72, none⟩ (.int .i64 v)) := by
  have e : Ext (fun t => t = 1) O w O (w.setCell ⟨B.p, 72, none⟩ (.int .i64 v)) := Ext.of_set hhi h.o (by decide) rfl
  have hc : ∀ i, i ≠ 72 → (w.setCell ⟨B.p, 72, none⟩ (.int .i64 v)).cell? ⟨B.p, i, none⟩ = w.cell? ⟨B.p, i, none⟩ := fun i hi => World.cell?_setCell_other _ _ _ _ (by simp; try omega)
  have k := h.wo
  exact ⟨⟨h.o, ⟨(hc 0 (by omega)).trans k.c0, (hc 1 (by omega)).trans k.c1, (hc 2 (by omega)).trans k.c2, (hc 3 (by omega)).trans k.c3, (hc 4 (by omega)).trans k.c4, (hc 5 (by omega)).trans k.c5, (hc 6 (by omega)).trans k.c6, (hc 7 (by omega)).trans k.c7, fun i hi => (hc _ (by omega)).trans (k.tk i hi), World.cell?_setCell_same _ _ _ k.ho, fun i => (World.frozen?_setCell _ _ _ _).trans (k.fr i), by simpa using k.lt⟩, h.ce.ext e (by decide) (by decide), h.ar.ext e (by decide), h.no.ext e (by decide)⟩, e⟩
end
section
variable {a b k T : Nat} {cs : List Value} {O O0 : Om} {w w0 : World} {B : Wb} {f : Cf} {s : AW}
theorem Me.setTk (h : Me a b w0 O0 w O B f s k T cs) (hk : 10 ≤ k) (j : Nat) (hj : j < 64) (v : Int) : Me a b w0 O0 (w.setCell ⟨B.p, 8 + j, none⟩ (.int .u64 v)) O B f ⟨s.M, s.n, s.la, updN s.tk j v, s.ho, s.it, s.nt⟩ k T cs := by
  obtain ⟨p1, e1⟩ := h.p.setTk h.e.hi j hj v
  exact ⟨h.e.trans (e1.mono fun t _ ht => .inl (by omega)), p1, h.t.ext e1 (by omega)⟩
theorem Me.setHo (h : Me a b w0 O0 w O B f s k T cs) (hk : 10 ≤ k) (v : Int) : Me a b w0 O0 (w.setCell ⟨B.p, 72, none⟩ (.int .i64 v)) O B f ⟨s.M, s.n, s.la, s.tk, v, s.it, s.nt⟩ k T cs := by
  obtain ⟨p1, e1⟩ := h.p.setHo h.e.hi v
  exact ⟨h.e.trans (e1.mono fun t _ ht => .inl (by omega)), p1, h.t.ext e1 (by omega)⟩
end
/-- The Take's struct. -/
def takeCs (t tick : Int) (dr : Bool) (dv : Value) : List Value := [.int .i64 t, .int .u64 tick, .bool dr, dv]
def DRAWV (T : Nat) : Value := .func (.func 115) #[.pointer (some ⟨T, 0, none⟩)] #[]
def LOOKV (T : Nat) : Value := .func (.func 148) #[.pointer (some ⟨T, 0, none⟩)] #[]
/-- The Take at its line: 1: draws, 2: looks, 0: it is over. -/
def tkV (T ln : Nat) : Value := if ln = 1 then DRAWV T else if ln = 2 then LOOKV T else .nilFunc
theorem c_thread (t : Int) (w : World) : Calls Tryz.prog 114 #[.int .i64 t] w fun e w' => e = .returned (.bool (decide (0 ≤ t ∧ t < 64))) ∧ w = w' := by
  go_enter Tryz.func114, Tryz.ntmps114
  go_wp2
  all_goals
    go_ret
    exact ⟨ret_bool (by rw [Bool.eq_iff_iff]; simp; try omega), rfl⟩
theorem c_NewTake (t : Int) (w : World) (O : Om) (k : Nat) (hk : 10 ≤ k) (h0 : 0 ≤ t) (h1 : t < 64) (hhi : ∀ j, O j ≠ 0 → j < w.heap.size) :
    Calls Tryz.prog 65 #[.int .i64 t] w (RP (fun j => j = k) w O (.pointer (some ⟨w.heap.size, 0, none⟩)) fun W G => Ob W G k w.heap.size (takeCs t 0 false (DRAWV w.heap.size))) := by
  have hd : decide (0 ≤ t ∧ t < 64) = true := by simp; omega
  have HE := Lib.hid (And.intro (Ext.alloc (S := fun j => j = k) (g := k) hhi rfl (.cells #[.int .i64 t, .int .u64 0, .bool false, DRAWV w.heap.size] 201)) (Ob.new w O k #[.int .i64 t, .int .u64 0, .bool false, DRAWV w.heap.size] 201))
  go_enter Tryz.func65, Tryz.ntmps65
  go_wp2_with fail
  refine (c_thread t _).mono ?_
  rintro e w' ⟨rfl, rfl⟩
  go_wp2
  go_ret
  exact ⟨rfl, _, HE.out.1, HE.out.2⟩
@[go_sem] theorem eql_fw (w : World) (f : Fn) (a c : Array Value) : (binOp .eql 82 (.func f a c) .nilFunc).run Tryz.prog w = .ok (.bool false) w := run_eql_func_nil w _ _ _ _ f a c Tryz.underlying82
@[go_sem] theorem neq_fw (w : World) (f : Fn) (a c : Array Value) : (binOp .neq 82 (.func f a c) .nilFunc).run Tryz.prog w = .ok (.bool true) w := run_neq_func_nil w _ _ _ _ f a c Tryz.underlying82
@[go_sem] theorem eql_fw0 (w : World) : (binOp .eql 82 .nilFunc .nilFunc).run Tryz.prog w = .ok (.bool true) w := run_eql_nil_nil w _ _ _ _ Tryz.underlying82
@[go_sem] theorem neq_fw0 (w : World) : (binOp .neq 82 .nilFunc .nilFunc).run Tryz.prog w = .ok (.bool false) w := run_neq_nil_nil w _ _ _ _ Tryz.underlying82
set_option maxRecDepth 100000 in
theorem c_TakeOver (T : Nat) (dv : Value) (w : World) (hc : w.cell? ⟨T, 3, none⟩ = some dv) (b : Bool) (hb : (dv = .nilFunc ∧ b = true) ∨ (∃ f a c, dv = .func f a c ∧ b = false)) :
    Calls Tryz.prog 66 #[.pointer (some ⟨T, 0, none⟩)] w fun e w' => e = .returned (.bool b) ∧ w = w' := by
  rcases hb with ⟨rfl, rfl⟩ | ⟨f, a, c, rfl, rfl⟩
  · go_enter Tryz.func66, Tryz.ntmps66
    go_wp2
    go_ret
    exact ⟨rfl, rfl⟩
  · go_enter Tryz.func66, Tryz.ntmps66
    go_wp2
    go_ret
    exact ⟨rfl, rfl⟩
theorem c_TakeOver_nil (w : World) : Calls Tryz.prog 66 #[.pointer none] w fun e w' => e = .returned (.bool true) ∧ w = w' := by
  go_enter Tryz.func66, Tryz.ntmps66
  go_wp2
  go_ret
  exact ⟨rfl, rfl⟩
/-- A Take that draws. -/
def awDraw (t : Nat) (s : AW) : AW := ⟨upd s.M 0 ((s.M 0 + 1) % 18446744073709551616), s.n + 1, ⟨4, 0, s.M 0, (s.M 0 + 1) % 18446744073709551616⟩, updN s.tk t ((s.M 0 + 1) % 18446744073709551616), s.ho, s.it, s.nt⟩
theorem Me.rp {a b k T : Nat} {cs : List Value} {O O0 : Om} {w w0 : World} {B : Wb} {f : Cf} {s : AW} {v : Value} (h : Me a b w0 O0 w O B f s k T cs) : RP (SX a b) w0 O0 v (fun W G => PW W G B f s ∧ Ob W G k T cs) (.returned v) w := ⟨rfl, O, h.e, h.p, h.t⟩
set_option maxHeartbeats 1000000 in
set_option maxRecDepth 100000 in
theorem c_draw (w : World) (O : Om) (B : Wb) (f : Cf) (s : AW) (k T : Nat) (t : Nat) (tick : Int) (dr : Bool) (dv : Value) (hP : PW w O B f s) (hT : Ob w O k T (takeCs t tick dr dv)) (hk : 10 ≤ k) (ht : t < 64) (hhi : ∀ j, O j ≠ 0 → j < w.heap.size) (n0 : 0 ≤ s.n) (n1 : s.n ≤ 4611686018427387904) :
    Calls Tryz.prog 115 #[.pointer (some ⟨T, 0, none⟩), .pointer (some ⟨B.p, 0, none⟩)] w (RP (SX k k) w O (.tuple #[]) fun W G => PW W G B f (awDraw t s) ∧ Ob W G k T (takeCs t (s.M 0) true (LOOKV T))) := by
  have HM : Hid (Me k k w O w O B f s k T (takeCs t tick dr dv)) := Lib.hid (Me.start hhi hP hT)
  have p0 := hP.wo.c0
  have hb := hP.bd 0
  have HA := Lib.hid (c_Add 0 1 hP.ce (by decide) (by decide) (by decide) (by decide) n0 n1)
  clear hP hT hhi
  go_enter Tryz.func115, Tryz.ntmps115
  go_wp2_with fail
  refine (HA.out).mono ?_
  intro e w1 hp
  obtain ⟨rfl, O1, E1, P1⟩ := PW.rp_cells HM.out.p HM.out.e.hi hp
  have M1 := HM.out.world hk E1 P1
  have M2 := M1.set hk (Nat.le_refl _) (Nat.le_refl _) 1 (.int .u64 (s.M 0)) (by simp [takeCs])
  have M3 := Lib.hid (M2.set hk (Nat.le_refl _) (Nat.le_refl _) 2 (.bool true) (by simp [takeCs]))
  have q1 := M1.t.c 1 _ rfl
  have q2 := M1.t.c 2 _ rfl
  have qf := M1.t.f 1
  have qf2 := M1.t.f 2
  have q3 := M2.t.c 2 _ rfl
  have q4 := M2.t.f 2
  obtain ⟨w2, hw2⟩ : ∃ w2, w2 = (w1.setCell ⟨T, 1, none⟩ (.int .u64 (s.M 0))).setCell ⟨T, 2, none⟩ (.bool true) := ⟨_, rfl⟩
  clear M1 M2 E1 P1 hp HA
  go_wp2_with fail
  rw [← hw2] at M3 ⊢
  clear q1 q2 qf qf2 q3 q4 hw2 p0
  have q0 := M3.out.t.c 0 _ rfl
  have q1 := M3.out.t.c 1 _ rfl
  have p8 := M3.out.p.wo.tk t ht
  have pf := M3.out.p.wo.fr (8 + t)
  have hw0 : IntKind.u64.wrap (s.M 0 + 1) = (s.M 0 + 1) % 18446744073709551616 := by rw [IntKind.wrap_u64]
  go_region
  all_goals
    have q3 := M3.out.t.c 3 _ rfl
    have qf := M3.out.t.f 3
    go_wp2
    go_end0
    exact (((M3.out.setTk hk t ht _).set hk (Nat.le_refl _) (Nat.le_refl _) 3 (LOOKV T) (by simp [takeCs])).drew).rp
/-- A Take that looks, and is served, or not. -/
def awServed (t : Nat) (s : AW) : AW := ⟨s.M, s.n, s.la, updN s.tk t 0, t, s.it, s.nt⟩
set_option maxHeartbeats 1000000 in
set_option maxRecDepth 100000 in
theorem c_look_no (w : World) (O : Om) (B : Wb) (f : Cf) (s : AW) (k T : Nat) (t : Nat) (tick : Int) (dr : Bool) (dv : Value) (hP : PW w O B f s) (hT : Ob w O k T (takeCs t tick dr dv)) (hk : 10 ≤ k) (ht : t < 64) (hhi : ∀ j, O j ≠ 0 → j < w.heap.size) (n0 : 0 ≤ s.n) (n1 : s.n ≤ 4611686018427387904) (hn : (s.M 1 == tick) = false) :
    Calls Tryz.prog 148 #[.pointer (some ⟨T, 0, none⟩), .pointer (some ⟨B.p, 0, none⟩)] w (RP (SX k k) w O (.tuple #[]) fun W G => PW W G B f (awLoad 1 s) ∧ Ob W G k T (takeCs t tick dr dv)) := by
  have HM : Hid (Me k k w O w O B f s k T (takeCs t tick dr dv)) := Lib.hid (Me.start hhi hP hT)
  have p0 := hP.wo.c0
  have q1 := hT.c 1 _ rfl
  have HA := Lib.hid (c_Load (w := w.drew) 1 (HM.out.drew.p.ce) (by decide) (by decide) n0 n1)
  have Hn := Lib.hid hn
  have hpl := hP.wo.lt
  have htl := hT.lt
  clear hP hT hhi hn
  go_enter Tryz.func148, Tryz.ntmps148
  go_wp2_with fail
  go_region_held3 (fun w' => w'.cell? ⟨B.p, 0, none⟩ = some (.pointer (some ⟨B.c, 0, none⟩)) ∧ w'.cell? ⟨T, 1, none⟩ = some (.int .u64 tick)) (go_keep)
    ((go_at_call 119; refine (HA.out).mono ?_; intro e w1 hp
      obtain ⟨rfl, O1, E1, P1⟩ := PW.rp_cells HM.out.drew.p HM.out.drew.e.hi hp
      have M1 := HM.out.drew.world hk E1 P1
      have r0 := M1.p.wo.c0
      have r1 := M1.t.c 1 _ rfl
      have HM1 := Lib.hid M1
      clear hp E1 P1 M1))
  all_goals
    rw [Hn.out]
    go_wp2
    go_end0
    exact HM1.out.rp
set_option maxHeartbeats 1000000 in
set_option maxRecDepth 100000 in
theorem c_look_yes (w : World) (O : Om) (B : Wb) (f : Cf) (s : AW) (k T : Nat) (t : Nat) (tick : Int) (dr : Bool) (dv : Value) (hP : PW w O B f s) (hT : Ob w O k T (takeCs t tick dr dv)) (hk : 10 ≤ k) (ht : t < 64) (hhi : ∀ j, O j ≠ 0 → j < w.heap.size) (n0 : 0 ≤ s.n) (n1 : s.n ≤ 4611686018427387904) (hn : (s.M 1 == tick) = true) :
    Calls Tryz.prog 148 #[.pointer (some ⟨T, 0, none⟩), .pointer (some ⟨B.p, 0, none⟩)] w (RP (SX k k) w O (.tuple #[]) fun W G => PW W G B f (awServed t (awLoad 1 s)) ∧ Ob W G k T (takeCs t tick dr .nilFunc)) := by
  have HM : Hid (Me k k w O w O B f s k T (takeCs t tick dr dv)) := Lib.hid (Me.start hhi hP hT)
  have p0 := hP.wo.c0
  have q1 := hT.c 1 _ rfl
  have HA := Lib.hid (c_Load (w := w.drew) 1 (HM.out.drew.p.ce) (by decide) (by decide) n0 n1)
  have Hn := Lib.hid hn
  have hpl := hP.wo.lt
  have htl := hT.lt
  clear hP hT hhi hn
  go_enter Tryz.func148, Tryz.ntmps148
  go_wp2_with fail
  go_region_held3 (fun w' => w'.cell? ⟨B.p, 0, none⟩ = some (.pointer (some ⟨B.c, 0, none⟩)) ∧ w'.cell? ⟨T, 1, none⟩ = some (.int .u64 tick)) (go_keep)
    ((go_at_call 119; refine (HA.out).mono ?_; intro e w1 hp
      obtain ⟨rfl, O1, E1, P1⟩ := PW.rp_cells HM.out.drew.p HM.out.drew.e.hi hp
      have M1 := HM.out.drew.world hk E1 P1
      have r0 := M1.p.wo.c0
      have r1 := M1.t.c 1 _ rfl
      have HM1 := Lib.hid M1
      clear hp E1 P1 M1))
  all_goals
    rw [Hn.out]
    clear r0 r1 p0 q1
    have r0 := HM1.out.t.c 0 _ rfl
    have r3 := HM1.out.t.c 3 _ rfl
    have rf := HM1.out.t.f 3
    have p8 := HM1.out.p.wo.tk t ht
    have pf := HM1.out.p.wo.fr (8 + t)
    have p72 := HM1.out.p.wo.ho
    have pf2 := HM1.out.p.wo.fr 72
    go_wp2_with fail
    go_region
    all_goals
      go_wp2
      go_end0
      first
        | exact (((HM1.out.setTk hk t ht 0).setHo hk t).set hk (Nat.le_refl _) (Nat.le_refl _) 3 .nilFunc (by simp [takeCs])).drew.rp
        | skip
/-- A Take. -/
structure Tkm where
  ln : Nat
  tick : Int
  dr : Bool
def tkStep (t : Nat) (s : AW) (x : Tkm) : AW × Tkm :=
  if x.ln = 1 then (awDraw t s, ⟨2, s.M 0, true⟩) else if x.ln = 2 then (if s.M 1 == x.tick then (awServed t (awLoad 1 s), ⟨0, x.tick, x.dr⟩) else (awLoad 1 s, x)) else (s, x)
def tkCs (T t : Nat) (x : Tkm) : List Value := takeCs t x.tick x.dr (tkV T x.ln)
theorem tkV0 (T : Nat) : tkV T 0 = .nilFunc := rfl
theorem tkV1 (T : Nat) : tkV T 1 = DRAWV T := rfl
theorem tkV2 (T : Nat) : tkV T 2 = LOOKV T := rfl
set_option maxHeartbeats 1000000 in
set_option maxRecDepth 100000 in
theorem c_TakeStep (w : World) (O : Om) (B : Wb) (f : Cf) (s : AW) (k T : Nat) (t : Nat) (x : Tkm) (hP : PW w O B f s) (hT : Ob w O k T (tkCs T t x)) (hx : x.ln = 1 ∨ x.ln = 2) (hk : 10 ≤ k) (ht : t < 64) (hhi : ∀ j, O j ≠ 0 → j < w.heap.size) (n0 : 0 ≤ s.n) (n1 : s.n ≤ 4611686018427387904) :
    Calls Tryz.prog 71 #[.pointer (some ⟨T, 0, none⟩), .pointer (some ⟨B.p, 0, none⟩)] w (RP (SX k k) w O (.bool (decide ((tkStep t s x).2.ln = 0))) fun W G => PW W G B f (tkStep t s x).1 ∧ Ob W G k T (tkCs T t (tkStep t s x).2)) := by
  obtain ⟨ln, tick, dr⟩ := x
  have h3 : w.cell? ⟨T, 3, none⟩ = some (tkV T ln) := hT.c 3 _ rfl
  rcases hx with h | h
  · dsimp only at h
    subst h
    rw [tkV1] at h3
    have HC := Lib.hid (c_draw w O B f s k T t tick dr (DRAWV T) hP hT hk ht hhi n0 n1)
    clear hP hT hhi
    unfold DRAWV at h3
    go_enter Tryz.func71, Tryz.ntmps71
    go_wp2_with fail
    refine (c_TakeOver T _ _ h3 false (.inr ⟨_, _, _, rfl, rfl⟩)).mono ?_
    rintro e w' ⟨rfl, rfl⟩
    go_wp2_with fail
    refine (HC.out).mono ?_
    rintro e w1 ⟨rfl, O1, E1, P1, T1⟩
    have r3 : w1.cell? ⟨T, 3, none⟩ = some (LOOKV T) := T1.c 3 _ rfl
    have HE := Lib.hid E1
    have HP := Lib.hid P1
    have HT := Lib.hid T1
    clear HC h3 E1 P1 T1
    unfold LOOKV at r3
    go_wp2_with fail
    refine (c_TakeOver T _ _ r3 false (.inr ⟨_, _, _, rfl, rfl⟩)).mono ?_
    rintro e w' ⟨rfl, rfl⟩
    go_wp2
    go_ret
    exact ⟨rfl, O1, HE.out, HP.out, HT.out⟩
  · dsimp only at h
    subst h
    rw [tkV2] at h3
    by_cases hn : (s.M 1 == tick) = true
    · have HC := Lib.hid (c_look_yes w O B f s k T t tick dr (LOOKV T) hP hT hk ht hhi n0 n1 hn)
      have hst : tkStep t s ⟨2, tick, dr⟩ = (awServed t (awLoad 1 s), ⟨0, tick, dr⟩) := by unfold tkStep; rw [if_neg (by simp), if_pos rfl, if_pos hn]
      rw [hst]
      clear hP hT hhi hst hn
      unfold LOOKV at h3
      go_enter Tryz.func71, Tryz.ntmps71
      go_wp2_with fail
      refine (c_TakeOver T _ _ h3 false (.inr ⟨_, _, _, rfl, rfl⟩)).mono ?_
      rintro e w' ⟨rfl, rfl⟩
      go_wp2_with fail
      refine (HC.out).mono ?_
      rintro e w1 ⟨rfl, O1, E1, P1, T1⟩
      have r3 : w1.cell? ⟨T, 3, none⟩ = some .nilFunc := T1.c 3 _ rfl
      have HE := Lib.hid E1
      have HP := Lib.hid P1
      have HT := Lib.hid T1
      clear HC h3 E1 P1 T1
      go_wp2_with fail
      refine (c_TakeOver T _ _ r3 true (.inl ⟨rfl, rfl⟩)).mono ?_
      rintro e w' ⟨rfl, rfl⟩
      go_wp2
      go_ret
      exact ⟨rfl, O1, HE.out, HP.out, HT.out⟩
    · have hn : (s.M 1 == tick) = false := by simpa using hn
      have HC := Lib.hid (c_look_no w O B f s k T t tick dr (LOOKV T) hP hT hk ht hhi n0 n1 hn)
      have hst : tkStep t s ⟨2, tick, dr⟩ = (awLoad 1 s, ⟨2, tick, dr⟩) := by unfold tkStep; rw [if_neg (by simp), if_pos rfl, if_neg (by simp [hn])]
      rw [hst]
      clear hP hT hhi hst hn
      unfold LOOKV at h3
      go_enter Tryz.func71, Tryz.ntmps71
      go_wp2_with fail
      refine (c_TakeOver T _ _ h3 false (.inr ⟨_, _, _, rfl, rfl⟩)).mono ?_
      rintro e w' ⟨rfl, rfl⟩
      go_wp2_with fail
      refine (HC.out).mono ?_
      rintro e w1 ⟨rfl, O1, E1, P1, T1⟩
      have r3 : w1.cell? ⟨T, 3, none⟩ = some (LOOKV T) := T1.c 3 _ rfl
      have HE := Lib.hid E1
      have HP := Lib.hid P1
      have HT := Lib.hid T1
      clear HC h3 E1 P1 T1
      unfold LOOKV at r3
      go_wp2_with fail
      refine (c_TakeOver T _ _ r3 false (.inr ⟨_, _, _, rfl, rfl⟩)).mono ?_
      rintro e w' ⟨rfl, rfl⟩
      go_wp2
      go_ret
      exact ⟨rfl, O1, HE.out, HP.out, HT.out⟩
/-- Giving the lock back. -/
def awGive (s : AW) : AW := ⟨upd s.M 1 ((s.M 1 + 1) % 18446744073709551616), s.n + 1, ⟨4, 1, s.M 1, (s.M 1 + 1) % 18446744073709551616⟩, s.tk, -1, s.it, s.nt⟩
theorem c_NewGive (w : World) (O : Om) (k : Nat) (hk : 10 ≤ k) (hhi : ∀ j, O j ≠ 0 → j < w.heap.size) :
    Calls Tryz.prog 67 #[] w (RP (fun j => j = k) w O (.pointer (some ⟨w.heap.size, 0, none⟩)) fun W G => Ob W G k w.heap.size [.int .i64 1]) := by
  have HE := Lib.hid (And.intro (Ext.alloc (S := fun j => j = k) (g := k) hhi rfl (.cells #[.int .i64 1] 203)) (Ob.new w O k #[.int .i64 1] 203))
  clear hhi
  go_enter Tryz.func67, Tryz.ntmps67
  go_wp2
  go_ret
  exact ⟨rfl, _, HE.out.1, HE.out.2⟩
theorem c_GiveOver (G : Nat) (n : Int) (w : World) (hc : w.cell? ⟨G, 0, none⟩ = some (.int .i64 n)) :
    Calls Tryz.prog 116 #[.pointer (some ⟨G, 0, none⟩)] w fun e w' => e = .returned (.bool (n == 0)) ∧ w = w' := by
  go_enter Tryz.func116, Tryz.ntmps116
  go_wp2
  go_ret
  exact ⟨rfl, rfl⟩
set_option maxHeartbeats 1000000 in
set_option maxRecDepth 100000 in
theorem c_GiveStep (w : World) (O : Om) (B : Wb) (f : Cf) (s : AW) (k T : Nat) (hP : PW w O B f s) (hT : Ob w O k T [.int .i64 1]) (hk : 10 ≤ k) (hhi : ∀ j, O j ≠ 0 → j < w.heap.size) (n0 : 0 ≤ s.n) (n1 : s.n ≤ 4611686018427387904) :
    Calls Tryz.prog 69 #[.pointer (some ⟨T, 0, none⟩), .pointer (some ⟨B.p, 0, none⟩)] w (RP (SX k k) w O (.bool true) fun W G => PW W G B f (awGive s) ∧ Ob W G k T [.int .i64 0]) := by
  have M0 := (Me.start (a := k) (b := k) hhi hP hT)
  have q0 := M0.t.c 0 _ rfl
  have qf := M0.t.f 0
  have M1 := M0.set hk (Nat.le_refl _) (Nat.le_refl _) 0 (.int .i64 0) (by simp)
  have HA := Lib.hid (c_Add 1 1 M1.p.ce (by decide) (by decide) (by decide) (by decide) n0 n1)
  have p0 := M0.p.wo.c0
  have p1 := M1.p.wo.c0
  have HM := Lib.hid M1
  clear hP hT hhi M0 M1
  go_enter Tryz.func69, Tryz.ntmps69
  go_wp2_with fail
  refine (c_GiveOver T 1 _ q0).mono ?_
  rintro e w' ⟨rfl, rfl⟩
  go_wp2_with fail
  refine (HA.out).mono ?_
  intro e w1 hp
  obtain ⟨rfl, O1, E1, P1⟩ := PW.rp_cells HM.out.p HM.out.e.hi hp
  have M1 := HM.out.world hk E1 P1
  have p72 := M1.p.wo.ho
  have pf := M1.p.wo.fr 72
  have M2 := Lib.hid (M1.setHo hk (-1))
  have r0 : (w1.setCell ⟨B.p, 72, none⟩ (.int .i64 (-1))).cell? ⟨T, 0, none⟩ = some (.int .i64 0) := M2.out.t.c 0 _ rfl
  clear hp E1 P1 M1 HA HM p0 p1
  go_wp2_with fail
  refine (c_GiveOver T 0 _ r0).mono ?_
  rintro e w' ⟨rfl, rfl⟩
  go_wp2
  go_ret
  exact M2.out.rp
theorem c_NewTakeE (t : Int) (w : World) (O : Om) (k : Nat) (hk : 10 ≤ k) (h0 : 0 ≤ t) (h1 : t < 64) (hhi : ∀ j, O j ≠ 0 → j < w.heap.size) :
    Calls Tryz.prog 65 #[.int .i64 t] w fun e w' => ∃ T, RP (fun j => j = k) w O (.pointer (some ⟨T, 0, none⟩)) (fun W G => Ob W G k T (takeCs t 0 false (DRAWV T))) e w' :=
  (c_NewTake t w O k hk h0 h1 hhi).mono fun _ _ h => ⟨_, h⟩
theorem c_NewGiveE (w : World) (O : Om) (k : Nat) (hk : 10 ≤ k) (hhi : ∀ j, O j ≠ 0 → j < w.heap.size) :
    Calls Tryz.prog 67 #[] w fun e w' => ∃ T, RP (fun j => j = k) w O (.pointer (some ⟨T, 0, none⟩)) (fun W G => Ob W G k T [.int .i64 1]) e w' :=
  (c_NewGive w O k hk hhi).mono fun _ _ h => ⟨_, h⟩
end Go.Proofs.YtijifjiehldcaaaGreat
