/- Over any program: a function value against nil. Layer 11: contracts of the writers' lock. Layer 27: contracts of a Flush. Layer 27: a new Flush; what it got. Layer 12: contracts of a Mark of one place or two. Layer 2: contracts of both sides. Layer 13: contracts of an Out and a Put. Layer 12: a Mark of two places. -/
import Derived.Test.YtifkfhnbkjkakaaGreatDoorZcBaC
import Derived.Test.YtifkfhnbkjkakaaGreatDoorZcBaD
import Derived.Test.YtifkfhnbkjkakaaGreatDoorZcBaB
import Derived.Test.YtifkfhnbkjkakaaGreatDoorZcBaA
import Derived.BigQuiet
import Derived.Laws.EntriesVeiled
import Derived.Shelf.Lay
import Derived.WalkKit
import Derived.WalkSpells
namespace Go.Proofs.YtifkfhnbkjkakaaGreatDoor
set_option linter.unusedSimpArgs false
set_option linter.unusedVariables false
set_option maxHeartbeats 2000000
set_option maxRecDepth 100000
section
open Go.RowKit
section
variable {P : Program}
theorem equalIn_func_nil (w : World) (d : Nat) (t : TypeId) (ps rs : Array TypeId) (vr : Bool) (f : Fn) (a c : Array Value) (h : P.underlying t = some (.func ps rs vr)) :
 (Op.equalIn (d + 1) t (.func f a c) .nilFunc).run P w = .ok false w := by
 simp [Op.equalIn, run_underlying h]
theorem equalIn_nil_nil (w : World) (d : Nat) (t : TypeId) (ps rs : Array TypeId) (vr : Bool) (h : P.underlying t = some (.func ps rs vr)) :
 (Op.equalIn (d + 1) t .nilFunc .nilFunc).run P w = .ok true w := by
 simp [Op.equalIn, run_underlying h]
theorem run_eql_func_nil (w : World) (t : TypeId) (ps rs : Array TypeId) (vr : Bool) (f : Fn) (a c : Array Value) (h : P.underlying t = some (.func ps rs vr)) :
 (binOp .eql t (.func f a c) .nilFunc).run P w = .ok (.bool false) w := by
 simp only [binOp]
 simp [Op.equal, Op.maxDepth, equalIn_func_nil w 9999 t ps rs vr f a c h]
theorem run_neq_func_nil (w : World) (t : TypeId) (ps rs : Array TypeId) (vr : Bool) (f : Fn) (a c : Array Value) (h : P.underlying t = some (.func ps rs vr)) :
 (binOp .neq t (.func f a c) .nilFunc).run P w = .ok (.bool true) w := by
 simp only [binOp]
 simp [Op.equal, Op.maxDepth, equalIn_func_nil w 9999 t ps rs vr f a c h]
theorem run_eql_nil_nil (w : World) (t : TypeId) (ps rs : Array TypeId) (vr : Bool) (h : P.underlying t = some (.func ps rs vr)) :
 (binOp .eql t .nilFunc .nilFunc).run P w = .ok (.bool true) w := by
 simp only [binOp]
 simp [Op.equal, Op.maxDepth, equalIn_nil_nil w 9999 t ps rs vr h]
theorem run_neq_nil_nil (w : World) (t : TypeId) (ps rs : Array TypeId) (vr : Bool) (h : P.underlying t = some (.func ps rs vr)) :
 (binOp .neq t .nilFunc .nilFunc).run P w = .ok (.bool false) w := by
 simp only [binOp]
 simp [Op.equal, Op.maxDepth, equalIn_nil_nil w 9999 t ps rs vr h]
end
end
section
open Go.RowKit
def updN (tk : Nat → Int) (j : Nat) (v : Int) : Nat → Int := fun i => if i = j then v else tk i
section
variable {S : Nat → Prop} {O O' : Om} {w w' : World} {B : Wb} {f : Cf} {s : AW}
theorem PW.setTk (h : PW w O B f s) (hhi : ∀ j, O j ≠ 0 → j < w.heap.size) (j : Nat) (hj : j < 64) (v : Int) : PW (w.setCell ⟨B.p, 8 + j, none⟩ (.int .u64 v)) O B f ⟨s.M, s.n, s.la, updN s.tk j v, s.ho, s.it, s.nt⟩ ∧ Ext (fun t => t = 1) O w O (w.setCell ⟨B.p, 8 + j, none⟩ (.int .u64 v)) := by
 have e : Ext (fun t => t = 1) O w O (w.setCell ⟨B.p, 8 + j, none⟩ (.int .u64 v)) := Ext.of_set hhi h.o (by decide) rfl
 have hc : ∀ i, i ≠ 8 + j → (w.setCell ⟨B.p, 8 + j, none⟩ (.int .u64 v)).cell? ⟨B.p, i, none⟩ = w.cell? ⟨B.p, i, none⟩ := fun i hi => World.cell?_setCell_other _ _ _ _ (by simp; try omega)
 have k := h.wo
 refine ⟨⟨h.o, ⟨(hc 0 (by omega)).trans k.c0, (hc 1 (by omega)).trans k.c1, (hc 2 (by omega)).trans k.c2, (hc 3 (by omega)).trans k.c3, (hc 4 (by omega)).trans k.c4, (hc 5 (by omega)).trans k.c5, (hc 6 (by omega)).trans k.c6, (hc 7 (by omega)).trans k.c7, fun i hi => ?_, (hc 72 (by omega)).trans k.ho, fun i => (World.frozen?_setCell _ _ _ _).trans (k.fr i), by simpa using k.lt⟩, h.ce.ext e (by decide) (by decide), h.ar.ext e (by decide), h.no.ext e (by decide)⟩, e⟩
 by_cases hij : i = j
 · subst hij
   show _ = some (Value.int .u64 (if i = i then v else s.tk i))
   rw [if_pos rfl]
   exact World.cell?_setCell_same _ _ _ (k.tk i hi)
 · show _ = some (Value.int .u64 (if i = j then v else s.tk i))
   rw [if_neg hij]
   exact (hc _ (by omega)).trans (k.tk i hi)
theorem PW.setHo (h : PW w O B f s) (hhi : ∀ j, O j ≠ 0 → j < w.heap.size) (v : Int) : PW (w.setCell ⟨B.p, 72, none⟩ (.int .i64 v)) O B f ⟨s.M, s.n, s.la, s.tk, v, s.it, s.nt⟩ ∧ Ext (fun t => t = 1) O w O (w.setCell ⟨B.p, 72, none⟩ (.int .i64 v)) := by
 have e : Ext (fun t => t = 1) O w O (w.setCell ⟨B.p, 72, none⟩ (.int .i64 v)) := Ext.of_set hhi h.o (by decide) rfl
 have hc : ∀ i, i ≠ 72 → (w.setCell ⟨B.p, 72, none⟩ (.int .i64 v)).cell? ⟨B.p, i, none⟩ = w.cell? ⟨B.p, i, none⟩ := fun i hi => World.cell?_setCell_other _ _ _ _ (by simp; try omega)
 have k := h.wo
 exact ⟨⟨h.o, ⟨(hc 0 (by omega)).trans k.c0, (hc 1 (by omega)).trans k.c1, (hc 2 (by omega)).trans k.c2, (hc 3 (by omega)).trans k.c3, (hc 4 (by omega)).trans k.c4, (hc 5 (by omega)).trans k.c5, (hc 6 (by omega)).trans k.c6, (hc 7 (by omega)).trans k.c7, fun i hi => (hc _ (by omega)).trans (k.tk i hi), World.cell?_setCell_same _ _ _ k.ho, fun i => (World.frozen?_setCell _ _ _ _).trans (k.fr i), by simpa using k.lt⟩, h.ce.ext e (by decide) (by decide), h.ar.ext e (by decide), h.no.ext e (by decide)⟩, e⟩
end
section
variable {a b k T : Nat} {cs : List Value} {O O0 : Om} {w w0 : World} {B : Wb} {f : Cf} {s : AW}
theorem Me.setTk (h : Me a b w0 O0 w O B f s k T cs) (hk : 10 ≤ k) (j : Nat) (hj : j < 64) (v : Int) : Me a b w0 O0 (w.setCell ⟨B.p, 8 + j, none⟩ (.int .u64 v)) O B f ⟨s.M, s.n, s.la, updN s.tk j v, s.ho, s.it, s.nt⟩ k T cs := by
 obtain ⟨p1, e1⟩ := h.p.setTk h.e.hi j hj v
 exact ⟨h.e.trans (e1.mono fun t _ ht => .inl (by omega)), p1, h.t.ext e1 (by omega)⟩
theorem Me.setHo (h : Me a b w0 O0 w O B f s k T cs) (hk : 10 ≤ k) (v : Int) : Me a b w0 O0 (w.setCell ⟨B.p, 72, none⟩ (.int .i64 v)) O B f ⟨s.M, s.n, s.la, s.tk, v, s.it, s.nt⟩ k T cs := by
 obtain ⟨p1, e1⟩ := h.p.setHo h.e.hi v
 exact ⟨h.e.trans (e1.mono fun t _ ht => .inl (by omega)), p1, h.t.ext e1 (by omega)⟩
end
def takeCs (t tick : Int) (dr : Bool) (dv : Value) : List Value := [.int .i64 t, .int .u64 tick, .bool dr, dv]
def DRAWV (T : Nat) : Value := .func (.func 123) #[.pointer (some ⟨T, 0, none⟩)] #[]
def LOOKV (T : Nat) : Value := .func (.func 185) #[.pointer (some ⟨T, 0, none⟩)] #[]
def tkV (T ln : Nat) : Value := if ln = 1 then DRAWV T else if ln = 2 then LOOKV T else .nilFunc
theorem c_thread (t : Int) (w : World) : Calls Tryz.prog 122 #[.int .i64 t] w fun e w' => e = .returned (.bool (decide (0 ≤ t ∧ t < 64))) ∧ w = w' := by
 go_enter Tryz.func122, Tryz.ntmps122
 go_wp2
 all_goals
  go_ret
  exact ⟨ret_bool (by rw [Bool.eq_iff_iff]; simp; try omega), rfl⟩
theorem c_NewTake (t : Int) (w : World) (O : Om) (k : Nat) (hk : 10 ≤ k) (h0 : 0 ≤ t) (h1 : t < 64) (hhi : ∀ j, O j ≠ 0 → j < w.heap.size) :
 Calls Tryz.prog 63 #[.int .i64 t] w (RP (fun j => j = k) w O (.pointer (some ⟨w.heap.size, 0, none⟩)) fun W G => Ob W G k w.heap.size (takeCs t 0 false (DRAWV w.heap.size))) := by
 have hd : decide (0 ≤ t ∧ t < 64) = true := by simp; omega
 have HE := Lib.hid (And.intro (Ext.alloc (S := fun j => j = k) (g := k) hhi rfl (.cells #[.int .i64 t, .int .u64 0, .bool false, DRAWV w.heap.size] 234)) (Ob.new w O k #[.int .i64 t, .int .u64 0, .bool false, DRAWV w.heap.size] 234))
 go_enter Tryz.func63, Tryz.ntmps63
 go_wp2_with fail
 refine (c_thread t _).mono ?_
 rintro e w' ⟨rfl, rfl⟩
 go_wp2
 go_ret
 exact ⟨rfl, _, HE.out.1, HE.out.2⟩
@[go_sem] theorem eql_fw (w : World) (f : Fn) (a c : Array Value) : (binOp .eql 71 (.func f a c) .nilFunc).run Tryz.prog w = .ok (.bool false) w := run_eql_func_nil w _ _ _ _ f a c Tryz.underlying71
@[go_sem] theorem neq_fw (w : World) (f : Fn) (a c : Array Value) : (binOp .neq 71 (.func f a c) .nilFunc).run Tryz.prog w = .ok (.bool true) w := run_neq_func_nil w _ _ _ _ f a c Tryz.underlying71
@[go_sem] theorem eql_fw0 (w : World) : (binOp .eql 71 .nilFunc .nilFunc).run Tryz.prog w = .ok (.bool true) w := run_eql_nil_nil w _ _ _ _ Tryz.underlying71
@[go_sem] theorem neq_fw0 (w : World) : (binOp .neq 71 .nilFunc .nilFunc).run Tryz.prog w = .ok (.bool false) w := run_neq_nil_nil w _ _ _ _ Tryz.underlying71
theorem c_TakeOver (T : Nat) (dv : Value) (w : World) (hc : w.cell? ⟨T, 3, none⟩ = some dv) (b : Bool) (hb : (dv = .nilFunc ∧ b = true) ∨ (∃ f a c, dv = .func f a c ∧ b = false)) :
 Calls Tryz.prog 65 #[.pointer (some ⟨T, 0, none⟩)] w fun e w' => e = .returned (.bool b) ∧ w = w' := by
 rcases hb with ⟨rfl, rfl⟩ | ⟨f, a, c, rfl, rfl⟩
 · go_enter Tryz.func65, Tryz.ntmps65
   go_wp2
   go_ret
   exact ⟨rfl, rfl⟩
 · go_enter Tryz.func65, Tryz.ntmps65
   go_wp2
   go_ret
   exact ⟨rfl, rfl⟩
def awDraw (t : Nat) (s : AW) : AW := ⟨upd s.M 0 ((s.M 0 + 1) % 18446744073709551616), s.n + 1, ⟨4, 0, s.M 0, (s.M 0 + 1) % 18446744073709551616⟩, updN s.tk t ((s.M 0 + 1) % 18446744073709551616), s.ho, s.it, s.nt⟩
theorem Me.rp {a b k T : Nat} {cs : List Value} {O O0 : Om} {w w0 : World} {B : Wb} {f : Cf} {s : AW} {v : Value} (h : Me a b w0 O0 w O B f s k T cs) : RP (SX a b) w0 O0 v (fun W G => PW W G B f s ∧ Ob W G k T cs) (.returned v) w := ⟨rfl, O, h.e, h.p, h.t⟩
theorem c_draw (w : World) (O : Om) (B : Wb) (f : Cf) (s : AW) (k T : Nat) (t : Nat) (tick : Int) (dr : Bool) (dv : Value) (hP : PW w O B f s) (hT : Ob w O k T (takeCs t tick dr dv)) (hk : 10 ≤ k) (ht : t < 64) (hhi : ∀ j, O j ≠ 0 → j < w.heap.size) (n0 : 0 ≤ s.n) (n1 : s.n ≤ 4611686018427387904) :
 Calls Tryz.prog 123 #[.pointer (some ⟨T, 0, none⟩), .pointer (some ⟨B.p, 0, none⟩)] w (RP (SX k k) w O (.tuple #[]) fun W G => PW W G B f (awDraw t s) ∧ Ob W G k T (takeCs t (s.M 0) true (LOOKV T))) := by
 have HM : Hid (Me k k w O w O B f s k T (takeCs t tick dr dv)) := Lib.hid (Me.start hhi hP hT)
 have p0 := hP.wo.c0
 have hb := hP.bd 0
 have HA := Lib.hid (c_Add 0 1 hP.ce (by decide) (by decide) (by decide) (by decide) n0 n1)
 clear hP hT hhi
 go_enter Tryz.func123, Tryz.ntmps123
 go_wp2_with fail
 refine (HA.out).mono ?_
 intro e w1 hp
 obtain ⟨rfl, O1, E1, P1⟩ := PW.rp_cells HM.out.p HM.out.e.hi hp
 have M1 := HM.out.world hk E1 P1
 have M2 := M1.set hk (Nat.le_refl _) (Nat.le_refl _) 1 (.int .u64 (s.M 0)) (by simp [takeCs])
 have M3 := Lib.hid (M2.set hk (Nat.le_refl _) (Nat.le_refl _) 2 (.bool true) (by simp [takeCs]))
 have q1 := M1.t.c 1 _ rfl
 have q2 := M1.t.c 2 _ rfl
 have qf := M1.t.f 1
 have qf2 := M1.t.f 2
 have q3 := M2.t.c 2 _ rfl
 have q4 := M2.t.f 2
 obtain ⟨w2, hw2⟩ : ∃ w2, w2 = (w1.setCell ⟨T, 1, none⟩ (.int .u64 (s.M 0))).setCell ⟨T, 2, none⟩ (.bool true) := ⟨_, rfl⟩
 clear M1 M2 E1 P1 hp HA
 go_wp2_with fail
 rw [← hw2] at M3 ⊢
 clear q1 q2 qf qf2 q3 q4 hw2 p0
 have q0 := M3.out.t.c 0 _ rfl
 have q1 := M3.out.t.c 1 _ rfl
 have p8 := M3.out.p.wo.tk t ht
 have pf := M3.out.p.wo.fr (8 + t)
 have hw0 : IntKind.u64.wrap (s.M 0 + 1) = (s.M 0 + 1) % 18446744073709551616 := by rw [IntKind.wrap_u64]
 go_region
 all_goals
  have q3 := M3.out.t.c 3 _ rfl
  have qf := M3.out.t.f 3
  go_wp2
  go_end0
  exact (((M3.out.setTk hk t ht _).set hk (Nat.le_refl _) (Nat.le_refl _) 3 (LOOKV T) (by simp [takeCs])).drew).rp
def awServed (t : Nat) (s : AW) : AW := ⟨s.M, s.n, s.la, updN s.tk t 0, t, s.it, s.nt⟩
theorem c_look_no (w : World) (O : Om) (B : Wb) (f : Cf) (s : AW) (k T : Nat) (t : Nat) (tick : Int) (dr : Bool) (dv : Value) (hP : PW w O B f s) (hT : Ob w O k T (takeCs t tick dr dv)) (hk : 10 ≤ k) (ht : t < 64) (hhi : ∀ j, O j ≠ 0 → j < w.heap.size) (n0 : 0 ≤ s.n) (n1 : s.n ≤ 4611686018427387904) (hn : (s.M 1 == tick) = false) :
 Calls Tryz.prog 185 #[.pointer (some ⟨T, 0, none⟩), .pointer (some ⟨B.p, 0, none⟩)] w (RP (SX k k) w O (.tuple #[]) fun W G => PW W G B f (awLoad 1 s) ∧ Ob W G k T (takeCs t tick dr dv)) := by
 have HM : Hid (Me k k w O w O B f s k T (takeCs t tick dr dv)) := Lib.hid (Me.start hhi hP hT)
 have p0 := hP.wo.c0
 have q1 := hT.c 1 _ rfl
 have HA := Lib.hid (c_Load (w := w.drew) 1 (HM.out.drew.p.ce) (by decide) (by decide) n0 n1)
 have Hn := Lib.hid hn
 have hpl := hP.wo.lt
 have htl := hT.lt
 clear hP hT hhi hn
 go_enter Tryz.func185, Tryz.ntmps185
 go_wp2_with fail
 go_region_held3 (fun w' => w'.cell? ⟨B.p, 0, none⟩ = some (.pointer (some ⟨B.c, 0, none⟩)) ∧ w'.cell? ⟨T, 1, none⟩ = some (.int .u64 tick)) (go_keep)
  ((go_at_call 172; refine (HA.out).mono ?_; intro e w1 hp
    obtain ⟨rfl, O1, E1, P1⟩ := PW.rp_cells HM.out.drew.p HM.out.drew.e.hi hp
    have M1 := HM.out.drew.world hk E1 P1
    have r0 := M1.p.wo.c0
    have r1 := M1.t.c 1 _ rfl
    have HM1 := Lib.hid M1
    clear hp E1 P1 M1))
 all_goals
  rw [Hn.out]
  go_wp2
  go_end0
  exact HM1.out.rp
theorem c_look_yes (w : World) (O : Om) (B : Wb) (f : Cf) (s : AW) (k T : Nat) (t : Nat) (tick : Int) (dr : Bool) (dv : Value) (hP : PW w O B f s) (hT : Ob w O k T (takeCs t tick dr dv)) (hk : 10 ≤ k) (ht : t < 64) (hhi : ∀ j, O j ≠ 0 → j < w.heap.size) (n0 : 0 ≤ s.n) (n1 : s.n ≤ 4611686018427387904) (hn : (s.M 1 == tick) = true) :
 Calls Tryz.prog 185 #[.pointer (some ⟨T, 0, none⟩), .pointer (some ⟨B.p, 0, none⟩)] w (RP (SX k k) w O (.tuple #[]) fun W G => PW W G B f (awServed t (awLoad 1 s)) ∧ Ob W G k T (takeCs t tick dr .nilFunc)) := by
 have HM : Hid (Me k k w O w O B f s k T (takeCs t tick dr dv)) := Lib.hid (Me.start hhi hP hT)
 have p0 := hP.wo.c0
 have q1 := hT.c 1 _ rfl
 have HA := Lib.hid (c_Load (w := w.drew) 1 (HM.out.drew.p.ce) (by decide) (by decide) n0 n1)
 have Hn := Lib.hid hn
 have hpl := hP.wo.lt
 have htl := hT.lt
 clear hP hT hhi hn
 go_enter Tryz.func185, Tryz.ntmps185
 go_wp2_with fail
 go_region_held3 (fun w' => w'.cell? ⟨B.p, 0, none⟩ = some (.pointer (some ⟨B.c, 0, none⟩)) ∧ w'.cell? ⟨T, 1, none⟩ = some (.int .u64 tick)) (go_keep)
  ((go_at_call 172; refine (HA.out).mono ?_; intro e w1 hp
    obtain ⟨rfl, O1, E1, P1⟩ := PW.rp_cells HM.out.drew.p HM.out.drew.e.hi hp
    have M1 := HM.out.drew.world hk E1 P1
    have r0 := M1.p.wo.c0
    have r1 := M1.t.c 1 _ rfl
    have HM1 := Lib.hid M1
    clear hp E1 P1 M1))
 all_goals
  rw [Hn.out]
  clear r0 r1 p0 q1
  have r0 := HM1.out.t.c 0 _ rfl
  have r3 := HM1.out.t.c 3 _ rfl
  have rf := HM1.out.t.f 3
  have p8 := HM1.out.p.wo.tk t ht
  have pf := HM1.out.p.wo.fr (8 + t)
  have p72 := HM1.out.p.wo.ho
  have pf2 := HM1.out.p.wo.fr 72
  go_wp2_with fail
  go_region
  all_goals
   go_wp2
   go_end0
   first
    | exact (((HM1.out.setTk hk t ht 0).setHo hk t).set hk (Nat.le_refl _) (Nat.le_refl _) 3 .nilFunc (by simp [takeCs])).drew.rp
    | skip
structure Tkm where
 ln : Nat
 tick : Int
 dr : Bool
def tkStep (t : Nat) (s : AW) (x : Tkm) : AW × Tkm :=
 if x.ln = 1 then (awDraw t s, ⟨2, s.M 0, true⟩) else if x.ln = 2 then (if s.M 1 == x.tick then (awServed t (awLoad 1 s), ⟨0, x.tick, x.dr⟩) else (awLoad 1 s, x)) else (s, x)
def tkCs (T t : Nat) (x : Tkm) : List Value := takeCs t x.tick x.dr (tkV T x.ln)
theorem tkV1 (T : Nat) : tkV T 1 = DRAWV T := rfl
theorem tkV2 (T : Nat) : tkV T 2 = LOOKV T := rfl
theorem c_TakeStep (w : World) (O : Om) (B : Wb) (f : Cf) (s : AW) (k T : Nat) (t : Nat) (x : Tkm) (hP : PW w O B f s) (hT : Ob w O k T (tkCs T t x)) (hx : x.ln = 1 ∨ x.ln = 2) (hk : 10 ≤ k) (ht : t < 64) (hhi : ∀ j, O j ≠ 0 → j < w.heap.size) (n0 : 0 ≤ s.n) (n1 : s.n ≤ 4611686018427387904) :
 Calls Tryz.prog 106 #[.pointer (some ⟨T, 0, none⟩), .pointer (some ⟨B.p, 0, none⟩)] w (RP (SX k k) w O (.bool (decide ((tkStep t s x).2.ln = 0))) fun W G => PW W G B f (tkStep t s x).1 ∧ Ob W G k T (tkCs T t (tkStep t s x).2)) := by
 obtain ⟨ln, tick, dr⟩ := x
 have h3 : w.cell? ⟨T, 3, none⟩ = some (tkV T ln) := hT.c 3 _ rfl
 rcases hx with h | h
 · dsimp only at h
   subst h
   rw [tkV1] at h3
   have HC := Lib.hid (c_draw w O B f s k T t tick dr (DRAWV T) hP hT hk ht hhi n0 n1)
   clear hP hT hhi
   unfold DRAWV at h3
   go_enter Tryz.func106, Tryz.ntmps106
   go_wp2_with fail
   refine (c_TakeOver T _ _ h3 false (.inr ⟨_, _, _, rfl, rfl⟩)).mono ?_
   rintro e w' ⟨rfl, rfl⟩
   go_wp2_with fail
   refine (HC.out).mono ?_
   rintro e w1 ⟨rfl, O1, E1, P1, T1⟩
   have r3 : w1.cell? ⟨T, 3, none⟩ = some (LOOKV T) := T1.c 3 _ rfl
   have HE := Lib.hid E1
   have HP := Lib.hid P1
   have HT := Lib.hid T1
   clear HC h3 E1 P1 T1
   unfold LOOKV at r3
   go_wp2_with fail
   refine (c_TakeOver T _ _ r3 false (.inr ⟨_, _, _, rfl, rfl⟩)).mono ?_
   rintro e w' ⟨rfl, rfl⟩
   go_wp2
   go_ret
   exact ⟨rfl, O1, HE.out, HP.out, HT.out⟩
 · dsimp only at h
   subst h
   rw [tkV2] at h3
   by_cases hn : (s.M 1 == tick) = true
   · have HC := Lib.hid (c_look_yes w O B f s k T t tick dr (LOOKV T) hP hT hk ht hhi n0 n1 hn)
     have hst : tkStep t s ⟨2, tick, dr⟩ = (awServed t (awLoad 1 s), ⟨0, tick, dr⟩) := by unfold tkStep; rw [if_neg (by simp), if_pos rfl, if_pos hn]
     rw [hst]
     clear hP hT hhi hst hn
     unfold LOOKV at h3
     go_enter Tryz.func106, Tryz.ntmps106
     go_wp2_with fail
     refine (c_TakeOver T _ _ h3 false (.inr ⟨_, _, _, rfl, rfl⟩)).mono ?_
     rintro e w' ⟨rfl, rfl⟩
     go_wp2_with fail
     refine (HC.out).mono ?_
     rintro e w1 ⟨rfl, O1, E1, P1, T1⟩
     have r3 : w1.cell? ⟨T, 3, none⟩ = some .nilFunc := T1.c 3 _ rfl
     have HE := Lib.hid E1
     have HP := Lib.hid P1
     have HT := Lib.hid T1
     clear HC h3 E1 P1 T1
     go_wp2_with fail
     refine (c_TakeOver T _ _ r3 true (.inl ⟨rfl, rfl⟩)).mono ?_
     rintro e w' ⟨rfl, rfl⟩
     go_wp2
     go_ret
     exact ⟨rfl, O1, HE.out, HP.out, HT.out⟩
   · have hn : (s.M 1 == tick) = false := by simpa using hn
     have HC := Lib.hid (c_look_no w O B f s k T t tick dr (LOOKV T) hP hT hk ht hhi n0 n1 hn)
     have hst : tkStep t s ⟨2, tick, dr⟩ = (awLoad 1 s, ⟨2, tick, dr⟩) := by unfold tkStep; rw [if_neg (by simp), if_pos rfl, if_neg (by simp [hn])]
     rw [hst]
     clear hP hT hhi hst hn
     unfold LOOKV at h3
     go_enter Tryz.func106, Tryz.ntmps106
     go_wp2_with fail
     refine (c_TakeOver T _ _ h3 false (.inr ⟨_, _, _, rfl, rfl⟩)).mono ?_
     rintro e w' ⟨rfl, rfl⟩
     go_wp2_with fail
     refine (HC.out).mono ?_
     rintro e w1 ⟨rfl, O1, E1, P1, T1⟩
     have r3 : w1.cell? ⟨T, 3, none⟩ = some (LOOKV T) := T1.c 3 _ rfl
     have HE := Lib.hid E1
     have HP := Lib.hid P1
     have HT := Lib.hid T1
     clear HC h3 E1 P1 T1
     unfold LOOKV at r3
     go_wp2_with fail
     refine (c_TakeOver T _ _ r3 false (.inr ⟨_, _, _, rfl, rfl⟩)).mono ?_
     rintro e w' ⟨rfl, rfl⟩
     go_wp2
     go_ret
     exact ⟨rfl, O1, HE.out, HP.out, HT.out⟩
def awGive (s : AW) : AW := ⟨upd s.M 1 ((s.M 1 + 1) % 18446744073709551616), s.n + 1, ⟨4, 1, s.M 1, (s.M 1 + 1) % 18446744073709551616⟩, s.tk, -1, s.it, s.nt⟩
theorem c_NewGive (w : World) (O : Om) (k : Nat) (hk : 10 ≤ k) (hhi : ∀ j, O j ≠ 0 → j < w.heap.size) :
 Calls Tryz.prog 102 #[] w (RP (fun j => j = k) w O (.pointer (some ⟨w.heap.size, 0, none⟩)) fun W G => Ob W G k w.heap.size [.int .i64 1]) := by
 have HE := Lib.hid (And.intro (Ext.alloc (S := fun j => j = k) (g := k) hhi rfl (.cells #[.int .i64 1] 279)) (Ob.new w O k #[.int .i64 1] 279))
 clear hhi
 go_enter Tryz.func102, Tryz.ntmps102
 go_wp2
 go_ret
 exact ⟨rfl, _, HE.out.1, HE.out.2⟩
theorem c_GiveOver (G : Nat) (n : Int) (w : World) (hc : w.cell? ⟨G, 0, none⟩ = some (.int .i64 n)) :
 Calls Tryz.prog 169 #[.pointer (some ⟨G, 0, none⟩)] w fun e w' => e = .returned (.bool (n == 0)) ∧ w = w' := by
 go_enter Tryz.func169, Tryz.ntmps169
 go_wp2
 go_ret
 exact ⟨rfl, rfl⟩
theorem c_GiveStep (w : World) (O : Om) (B : Wb) (f : Cf) (s : AW) (k T : Nat) (hP : PW w O B f s) (hT : Ob w O k T [.int .i64 1]) (hk : 10 ≤ k) (hhi : ∀ j, O j ≠ 0 → j < w.heap.size) (n0 : 0 ≤ s.n) (n1 : s.n ≤ 4611686018427387904) :
 Calls Tryz.prog 104 #[.pointer (some ⟨T, 0, none⟩), .pointer (some ⟨B.p, 0, none⟩)] w (RP (SX k k) w O (.bool true) fun W G => PW W G B f (awGive s) ∧ Ob W G k T [.int .i64 0]) := by
 have M0 := (Me.start (a := k) (b := k) hhi hP hT)
 have q0 := M0.t.c 0 _ rfl
 have qf := M0.t.f 0
 have M1 := M0.set hk (Nat.le_refl _) (Nat.le_refl _) 0 (.int .i64 0) (by simp)
 have HA := Lib.hid (c_Add 1 1 M1.p.ce (by decide) (by decide) (by decide) (by decide) n0 n1)
 have p0 := M0.p.wo.c0
 have p1 := M1.p.wo.c0
 have HM := Lib.hid M1
 clear hP hT hhi M0 M1
 go_enter Tryz.func104, Tryz.ntmps104
 go_wp2_with fail
 refine (c_GiveOver T 1 _ q0).mono ?_
 rintro e w' ⟨rfl, rfl⟩
 go_wp2_with fail
 refine (HA.out).mono ?_
 intro e w1 hp
 obtain ⟨rfl, O1, E1, P1⟩ := PW.rp_cells HM.out.p HM.out.e.hi hp
 have M1 := HM.out.world hk E1 P1
 have p72 := M1.p.wo.ho
 have pf := M1.p.wo.fr 72
 have M2 := Lib.hid (M1.setHo hk (-1))
 have r0 : (w1.setCell ⟨B.p, 72, none⟩ (.int .i64 (-1))).cell? ⟨T, 0, none⟩ = some (.int .i64 0) := M2.out.t.c 0 _ rfl
 clear hp E1 P1 M1 HA HM p0 p1
 go_wp2_with fail
 refine (c_GiveOver T 0 _ r0).mono ?_
 rintro e w' ⟨rfl, rfl⟩
 go_wp2
 go_ret
 exact M2.out.rp
theorem c_NewTakeE (t : Int) (w : World) (O : Om) (k : Nat) (hk : 10 ≤ k) (h0 : 0 ≤ t) (h1 : t < 64) (hhi : ∀ j, O j ≠ 0 → j < w.heap.size) :
 Calls Tryz.prog 63 #[.int .i64 t] w fun e w' => ∃ T, RP (fun j => j = k) w O (.pointer (some ⟨T, 0, none⟩)) (fun W G => Ob W G k T (takeCs t 0 false (DRAWV T))) e w' :=
 (c_NewTake t w O k hk h0 h1 hhi).mono fun _ _ h => ⟨_, h⟩
theorem c_NewGiveE (w : World) (O : Om) (k : Nat) (hk : 10 ≤ k) (hhi : ∀ j, O j ≠ 0 → j < w.heap.size) :
 Calls Tryz.prog 102 #[] w fun e w' => ∃ T, RP (fun j => j = k) w O (.pointer (some ⟨T, 0, none⟩)) (fun W G => Ob W G k T [.int .i64 1]) e w' :=
 (c_NewGive w O k hk hhi).mono fun _ _ h => ⟨_, h⟩
end
section
open Go.RowKit
structure FB where
 X : Nat
 T : Nat
 G : Nat
 bx : Nat
 bd : Nat
 bt : Nat
 bg : Nat
 be : Nat
section
variable {a b k T : Nat} {cs : List Value} {O O0 : Om} {w w0 w1 : World} {B : Wb} {f : Cf} {s : AW}
theorem ext_set {c : Nat} {j : Nat} {v : Value} (hhi : ∀ j, O j ≠ 0 → j < w.heap.size) (hT : Ob w O k c cs) (hk : 10 ≤ k) : Ext (fun t => t = k) O w O (w.setCell ⟨c, j, none⟩ v) := Ext.of_set hhi hT.o (by omega) rfl
end
end
section
open Go.RowKit
theorem Ob.alloc {O : Om} {w : World} {g b g2 : Nat} {cs : List Value} (h : Ob w O g b cs) (o : Obj) : Ob (w.alloc o) (newOwn O w.heap.size (w.heap.size + 1) g2) g b cs :=
 ⟨by unfold newOwn; rw [if_neg (by have := h.lt; omega)]; exact h.o, by have := h.lt; simp; omega, fun j u hu => (((Below.refl w.heap.size w).alloc (Nat.le_refl _) o).cell (p := ⟨b, j, none⟩) h.lt).trans (h.c j u hu), fun j => (((Below.refl w.heap.size w).alloc (Nat.le_refl _) o).frozen (p := ⟨b, j, none⟩) h.lt).trans (h.f j)⟩
theorem alloc_ob {O : Om} {w : World} (hhi : ∀ j, O j ≠ 0 → j < w.heap.size) (g : Nat) (cs : Array Value) (ty : TypeId) (n : Nat) (hn : n = w.heap.size) :
 ∃ O', Ext (fun j => j = g) O w O' (w.alloc (.cells cs ty)) ∧ Ob (w.alloc (.cells cs ty)) O' g n cs.toList ∧ ∀ g' b' ds, Ob w O g' b' ds → Ob (w.alloc (.cells cs ty)) O' g' b' ds := by
 subst hn
 exact ⟨_, Ext.alloc (S := fun j => j = g) (g := g) hhi rfl (.cells cs ty), Ob.new w O g cs ty, fun g' b' ds h => h.alloc _⟩
end
section
open Go.RowKit
def u64s (l : List Int) : List Value := l.map (Value.int .u64)
structure MkAt (W : World) (G : Om) (k X : Nat) (l : List Int) : Prop where
 ex : ∃ (A off : Nat) (full : List Int), Ob W G k X [.slice (some ⟨A, off, none⟩) l.length l.length] ∧ Ob W G (k + 1) A (u64s full) ∧ (l = [] ∨ full.drop off = l)
theorem MkAt.ext {S : Nat → Prop} {O O' : Om} {w w' : World} {k X : Nat} {l : List Int} (h : MkAt w O k X l) (e : Ext S O w O' w') (h1 : ¬ S k) (h2 : ¬ S (k + 1)) : MkAt w' O' k X l := by
 obtain ⟨A, off, full, a, b, c⟩ := h.ex
 exact ⟨A, off, full, a.ext e h1, b.ext e h2, c⟩
theorem MkAt.below {O : Om} {w w' : World} {k X : Nat} {l : List Int} (h : MkAt w O k X l) (hb : Below w.heap.size w w') : MkAt w' O k X l := by
 obtain ⟨A, off, full, a, b, c⟩ := h.ex
 exact ⟨A, off, full, a.below hb, b.below hb, c⟩
theorem MkAt.cell {O : Om} {w : World} {k X : Nat} {l : List Int} (h : MkAt w O k X l) : ∃ A off, w.cell? ⟨X, 0, none⟩ = some (.slice (some ⟨A, off, none⟩) l.length l.length) := by
 obtain ⟨A, off, full, a, b, c⟩ := h.ex
 exact ⟨A, off, a.c 0 _ rfl⟩
theorem c_MkOver {X : Nat} {ao : Option Addr} {n c : Nat} {w : World} (h : w.cell? ⟨X, 0, none⟩ = some (.slice ao n c)) : Calls Tryz.prog 350 #[.pointer (some ⟨X, 0, none⟩)] w fun e w' => e = .returned (.bool (n == 0)) ∧ w = w' := by
 go_enter Tryz.func350, Tryz.ntmps350
 go_wp2
 go_ret
 exact ⟨ret_bool (by rw [Bool.eq_iff_iff]; simp), rfl⟩
theorem c_LoadP (a : Int) {w : World} {O : Om} {B : Wb} {f : Cf} {s : AW} (hP : PW w O B f s) (hhi : ∀ j, O j ≠ 0 → j < w.heap.size) (a0 : 0 ≤ a) (a1 : a < 18446744073709551616) (n0 : 0 ≤ s.n) (n1 : s.n ≤ 4611686018427387904) :
 Calls Tryz.prog 172 #[.pointer (some ⟨B.c, 0, none⟩), .int .u64 a] w (RP SW w O (.int .u64 (s.M a)) fun W G => PW W G B f (awLoad a s)) := by
 refine (c_Load a hP.ce a0 a1 n0 n1).mono fun e w' hp => ?_
 exact hP.rp_cells hhi hp
theorem c_AddP (a v : Int) {w : World} {O : Om} {B : Wb} {f : Cf} {s : AW} (hP : PW w O B f s) (hhi : ∀ j, O j ≠ 0 → j < w.heap.size) (a0 : 0 ≤ a) (a1 : a < 18446744073709551616) (v0 : 0 ≤ v) (v1 : v < 18446744073709551616) (n0 : 0 ≤ s.n) (n1 : s.n ≤ 4611686018427387904) :
 Calls Tryz.prog 170 #[.pointer (some ⟨B.c, 0, none⟩), .int .u64 a, .int .u64 v] w (RP SW w O (.int .u64 (s.M a)) fun W G => PW W G B f (awAdd a v s)) := by
 refine (c_Add a v hP.ce a0 a1 v0 v1 n0 n1).mono fun e w' hp => ?_
 exact hP.rp_cells hhi hp
theorem c_MkStep {X : Nat} (a : Int) (l : List Int) {w : World} {O : Om} {B : Wb} {f : Cf} {s : AW} (k : Nat) (hP : PW w O B f s) (hX : MkAt w O k X (a :: l)) (hl : l.length ≤ 5) (hk : 10 ≤ k) (hhi : ∀ j, O j ≠ 0 → j < w.heap.size) (a0 : 0 ≤ a) (a1 : a < 18446744073709551616) (n0 : 0 ≤ s.n) (n1 : s.n ≤ 4611686018427387904) :
 Calls Tryz.prog 341 #[.pointer (some ⟨X, 0, none⟩), .pointer (some ⟨B.p, 0, none⟩)] w (RP (SX k k) w O (.bool (l.length == 0)) fun W G => PW W G B f (awAdd a 1 s) ∧ MkAt W G k X l) := by
 obtain ⟨A, off, full, hx, ha, hd⟩ := hX.ex
 have hd : full.drop off = a :: l := by rcases hd with hd | hd; exact absurd hd (by simp); exact hd
 have HM : Hid (Me k k w O w O B f s k X [.slice (some ⟨A, off, none⟩) (l.length + 1) (l.length + 1)]) := Lib.hid (Me.start hhi hP hx)
 have xx := hx.c 0 _ rfl
 have p0 := hP.wo.c0
 have hfo : full[off]? = some a := by
  have := congrArg (fun z : List Int => z[0]?) hd
  simpa using this
 have hfu : (u64s full)[off]? = some (.int .u64 a) := by unfold u64s; rw [List.getElem?_map, hfo]; rfl
 have q0 : w.cell? ⟨A, off, none⟩ = some (.int .u64 a) := ha.c off _ hfu
 have HFU := Lib.hid hfu
 have hd2 : full.drop (off + 1) = l := by
  have := congrArg List.tail hd
  simpa using this
 have HD := Lib.hid (And.intro ha hd2)
 have HA := Lib.hid (fun (W : World) (hW : Below w.heap.size w W) => c_AddP a 1 (w := W) (hP.below hhi hW) (fun j hj => Nat.lt_of_lt_of_le (hhi j hj) hW.size) a0 a1 (by decide) (by decide) n0 n1)
 obtain ⟨n, hn⟩ : ∃ n, n = l.length := ⟨_, rfl⟩
 rw [← hn] at hl HM ⊢
 have x0 : w.cell? ⟨X, 0, none⟩ = some (.slice (some ⟨A, off, none⟩) (n + 1) (n + 1)) := by rw [hn]; exact xx
 have HN := Lib.hid hn
 have e0 : (n + 1 == 0) = false := by simp
 clear hP hX hx ha hd hfo hd2 hhi hn xx hfu
 cases n with
 | zero =>
   go_enter Tryz.func341, Tryz.ntmps341
   go_wp2_with fail
   refine (c_MkOver x0).mono ?_
   rintro e w' ⟨rfl, rfl⟩
   rw [e0]
   go_wp2_with fail
   go_region_held3 (fun w' => w'.cell? ⟨B.p, 0, none⟩ = some (.pointer (some ⟨B.c, 0, none⟩)) ∧ w'.cell? ⟨X, 0, none⟩ = some (.slice (some ⟨A, off, none⟩) 1 1) ∧ w'.cell? ⟨A, off, none⟩ = some (.int .u64 a)) (go_keep)
    ((go_at_call 170
      refine (HA.out _ (drew_below _)).mono ?_
      rintro e w1 ⟨rfl, G1, e1, P1⟩
      have M1 := Lib.hid (HM.out.drew.world hk e1 P1)
      have hA1 := Lib.hid ((HD.out.1.below (drew_below w)).ext e1 (by unfold SW; omega))
      have p01 := M1.out.p.wo.c0
      have a01 := hA1.out.c off _ HFU.out
      have z0 := M1.out.t.c 0 _ rfl
      have zf := M1.out.t.f 0
      have M2 := Lib.hid (M1.out.set hk (Nat.le_refl _) (Nat.le_refl _) 0 (.slice (some ⟨A, off, none⟩) 0 0) (by simp))
      have HE := Lib.hid (ext_set (j := 0) (v := .slice (some ⟨A, off, none⟩) 0 0) M1.out.e.hi M1.out.t hk)
      clear e1 P1))
   all_goals
    clear x0 q0 p0 p01 a01
    go_wp2_with fail
    go_region
    all_goals
     have M3 := Lib.hid M2.out.drew
     have r0 := M3.out.t.c 0 _ rfl
     go_wp2_with fail
     refine (c_MkOver r0).mono ?_
     rintro e w' ⟨rfl, rfl⟩
     go_wp2_with fail
     go_ret
     exact ⟨rfl, _, M3.out.e, M3.out.p, ⟨A, off, full, by rw [← HN.out]; exact M3.out.t, (hA1.out.ext HE.out (by omega)).below (drew_below _), .inl (List.eq_nil_of_length_eq_zero HN.out.symm)⟩⟩
 | succ m =>
   have hi0 : (0 : Int) < (m : Int) + 1 + 1 := by omega
   have hi1 : (0 : Int) < ((m + 1 + 1 : Nat) : Int) := by omega
   have hi2 : (1 : Int) ≤ (m : Int) + 1 + 1 := by omega
   have hi3 : 0 < m + 1 + 1 := by omega
   go_enter Tryz.func341, Tryz.ntmps341
   go_wp2_with fail
   refine (c_MkOver x0).mono ?_
   rintro e w' ⟨rfl, rfl⟩
   rw [e0]
   go_wp2_with fail
   go_region_held3 (fun w' => w'.cell? ⟨B.p, 0, none⟩ = some (.pointer (some ⟨B.c, 0, none⟩)) ∧ w'.cell? ⟨X, 0, none⟩ = some (.slice (some ⟨A, off, none⟩) (m + 1 + 1) (m + 1 + 1)) ∧ w'.cell? ⟨A, off, none⟩ = some (.int .u64 a)) (go_keep)
    ((go_at_call 170
      refine (HA.out _ (drew_below _)).mono ?_
      rintro e w1 ⟨rfl, G1, e1, P1⟩
      have M1 := Lib.hid (HM.out.drew.world hk e1 P1)
      have hA1 := Lib.hid ((HD.out.1.below (drew_below w)).ext e1 (by unfold SW; omega))
      have p01 := M1.out.p.wo.c0
      have a01 := hA1.out.c off _ HFU.out
      have z0 := M1.out.t.c 0 _ rfl
      have zf := M1.out.t.f 0
      have M2 := Lib.hid (M1.out.set hk (Nat.le_refl _) (Nat.le_refl _) 0 (.slice (some ⟨A, off + 1, none⟩) (m + 1) (m + 1)) (by simp))
      have HE := Lib.hid (ext_set (j := 0) (v := .slice (some ⟨A, off + 1, none⟩) (m + 1) (m + 1)) M1.out.e.hi M1.out.t hk)
      clear e1 P1))
   all_goals
    clear x0 q0 p0 p01 a01
    go_wp2_with fail
    go_region
    all_goals
     have M3 := Lib.hid M2.out.drew
     have r0 := M3.out.t.c 0 _ rfl
     go_wp2_with fail
     refine (c_MkOver r0).mono ?_
     rintro e w' ⟨rfl, rfl⟩
     go_wp2_with fail
     go_ret
     exact ⟨rfl, _, M3.out.e, M3.out.p, ⟨A, off + 1, full, by rw [← HN.out]; exact M3.out.t, (hA1.out.ext HE.out (by omega)).below (drew_below _), .inr HD.out.2⟩⟩
theorem c_ContainsA0 (a : Int) (w : World) : Calls Tryz.prog 250 #[.slice none 0 0, .int .u64 a] w fun e w' => e = .returned (.bool false) ∧ w = w' := by
 have hI : Calls Tryz.prog 281 #[.slice none 0 0, .int .u64 a] w fun e w' => e = .returned (.int .i64 (-1)) ∧ w = w' := by
  go_enter Tryz.func281, Tryz.ntmps281
  go_wp2
  refine wp_loop_rounds 1 ?_
  rw [rounds_succ]
  go_wp2
  go_ret
  exact ⟨rfl, rfl⟩
 go_enter Tryz.func250, Tryz.ntmps250
 go_wp2_with (go_at_call 281; refine hI.mono ?_; rintro e w' ⟨rfl, rfl⟩)
 go_ret
 exact ⟨rfl, rfl⟩
theorem c_ClipA (a : Addr) (n c : Nat) (w : World) (hn : n ≤ c) (hc : c ≤ maxLen) :
 Calls Tryz.prog 251 #[.slice (some a) n c] w fun e w' => e = .returned (.slice (some a) n n) ∧ w = w' := by
 unfold maxLen at hc
 go_enter Tryz.func251, Tryz.ntmps251
 go_wp2
 go_ret
 exact ⟨rfl, rfl⟩
theorem infoAd : (Tryz.prog.info? 49).map (fun i => (i.zero, i.size, i.bytes)) = some (some (.int .u64 0), 1, 8) := by kernel_rfl
theorem Row.ob {w : World} {O : Om} {t : Nat} {E : TypeId} {g n cap : Nat} {xs : List Value} (h : Row w O t E 1 (.slice (some ⟨g, 0, none⟩) n cap) n xs) (hn : 0 < n) : Ob w O t g xs := by
 obtain ⟨b, o, c, he, -, -, hlt, hx⟩ := (Arr.of_own h.own).open hn (by decide)
 cases he
 exact ⟨h.vo g rfl, hlt, fun j u hu => by have := hx j u hu; rwa [Nat.zero_add] at this, h.own.frozenAt⟩
theorem c_Of1 (p : Spt) (hp : p.ok) {b o c : Nat} {w : World} {O : Om} (g : Nat) (hg : g ≠ 0) (hc : 1 ≤ c ∧ c ≤ maxLen) (hb : b < w.heap.size) (x0 : w.cell? ⟨b, o, none⟩ = some (.int .i64 p.b)) (x1 : w.cell? ⟨b, o + 1, none⟩ = some (.int .i64 p.q)) (hhi : ∀ j, O j ≠ 0 → j < w.heap.size) :
 Calls Tryz.prog 196 #[.slice (some ⟨b, o, none⟩) 1 c] w fun e w' => ∃ A, e = .returned (.slice (some ⟨A, 0, none⟩) 1 1) ∧ ∃ G, Ext (fun j => j = g) O w G w' ∧ Ob w' G g A [.int .u64 p.ver] := by
 obtain ⟨i0, hi, hz0, hz1, hz2⟩ := info_parts infoAd
 have HI := Lib.hid (And.intro hi (And.intro hz0 (And.intro hz1 hz2)))
 have hq := hp.q2
 have hv := hp.ver
 have HV := Lib.hid (fun W => c_Version p.b p.q W (by have := hp.b0; omega) (by have := hp.b1; omega) (by have := hp.q0; omega) (by omega))
 obtain ⟨ve, hve⟩ : ∃ ve, ve = p.ver := ⟨_, rfl⟩
 have hve2 : plVersion p.b p.q = ve := hve.symm
 rw [hve2] at HV
 rw [← hve] at hv ⊢
 obtain ⟨pb, hpb⟩ : ∃ z, z = p.b := ⟨_, rfl⟩
 obtain ⟨pq, hpq⟩ : ∃ z, z = p.q := ⟨_, rfl⟩
 rw [← hpb, ← hpq] at HV
 rw [← hpb] at x0
 rw [← hpq] at x1
 have dv : (ve != 0) = true := by simp; omega
 have HH := Lib.hid hhi
 clear hp hq hv hve hve2 hpb hpq hhi hi hz0 hz1 hz2
 go_enter Tryz.func196, Tryz.ntmps196
 go_wp2_with fail
 refine wp_loop_rounds 2 ?_
 rw [rounds_succ]
 go_wp2_with fail
 refine (HV.out _).mono ?_
 rintro e w1 ⟨rfl, hb1⟩
 have HB1 : Hid (Below w.heap.size w w1) := Lib.hid (by first | exact ((Below.refl _ _).alloc (Nat.le_refl _) _).trans (hb1.mono (by simp)) | exact hb1)
 have E1 := Lib.hid (Ext.of_below (S := fun j => j = g) HH.out HB1.out)
 clear hb1
 go_wp2_with fail
 refine (c_ContainsA0 _ _).mono ?_
 rintro e w' ⟨rfl, rfl⟩
 go_wp2_with (at_builtin; refine append_row w1 rfl _ _ 294 rfl 49 i0 (.int .u64 0) 1 8 Tryz.underlying294 HI.out.1 HI.out.2.1 HI.out.2.2.1 HI.out.2.2.2 rfl (by decide) (by decide) O g hg E1.out.hi (.slice none 0 0) 0 [] rfl (Row.nil _ _ _ _ _) [.int .u64 ve] _ rfl rfl (by simp [Value.oneCell']) (by omega) ?_; intro gg cap w2 G2 e2 r2; have HR2 := Lib.hid r2; have E2 := Lib.hid (E1.out.trans e2); clear e2 r2)
 rw [rounds_succ]
 go_wp2_with fail
 refine (c_ClipA _ _ _ _ (by obtain ⟨_, _, _, he, h1, h2, -⟩ := (Arr.of_own HR2.out.own).open (by decide) (by decide); cases he; exact h1) (by obtain ⟨_, _, _, he, h1, h2, -⟩ := (Arr.of_own HR2.out.own).open (by decide) (by decide); cases he; exact h2)).mono ?_
 rintro e w' ⟨rfl, rfl⟩
 go_wp2_with fail
 go_ret
 exact ⟨gg, rfl, G2, E2.out, HR2.out.ob (by decide)⟩
theorem c_NewMark1 (p : Spt) (hp : p.ok) {b o c : Nat} {w : World} {O : Om} (k : Nat) (hk : 10 ≤ k) (hc : 1 ≤ c ∧ c ≤ maxLen) (hb : b < w.heap.size) (x0 : w.cell? ⟨b, o, none⟩ = some (.int .i64 p.b)) (x1 : w.cell? ⟨b, o + 1, none⟩ = some (.int .i64 p.q)) (hhi : ∀ j, O j ≠ 0 → j < w.heap.size) :
 Calls Tryz.prog 135 #[.slice (some ⟨b, o, none⟩) 1 c] w fun e w' => ∃ X, RP (fun t => t = k ∨ t = k + 1) w O (.pointer (some ⟨X, 0, none⟩)) (fun W G => MkAt W G k X [p.ver]) e w' := by
 have HO := Lib.hid (c_Of1 p hp (k + 1) (by omega) hc hb x0 x1 hhi)
 clear hp hb x0 x1 hhi
 go_enter Tryz.func135, Tryz.ntmps135
 go_wp2_with fail
 refine HO.out.mono ?_
 rintro e w1 ⟨A, rfl, G1, e1, a1⟩
 obtain ⟨G2, e2, x2, k2⟩ := alloc_ob e1.hi k #[.slice (some ⟨A, 0, none⟩) 1 1] 297 w1.heap.size rfl
 have HE := Lib.hid (And.intro ((e1.mono (T := fun t => t = k ∨ t = k + 1) fun t _ h => .inr h).trans (e2.mono fun t _ h => .inl h)) (And.intro x2 (k2 _ _ _ a1)))
 clear e1 a1 e2 x2 k2
 go_wp2_with fail
 go_ret
 exact ⟨_, rfl, G2, HE.out.1, ⟨A, 0, [p.ver], HE.out.2.1, HE.out.2.2, .inr rfl⟩⟩
end
section
open Go.RowKit
theorem and255 (x : Int) (x0 : 0 ≤ x) (x1 : x < 18446744073709551616) : bits BinOp.and IntKind.u64 x 255 = x % 256 := by
 obtain ⟨a, rfl⟩ := Int.eq_ofNat_of_zero_le x0
 have h := u64_and_nat a 255 (by omega) (by decide)
 rw [show ((255 : Nat) : Int) = 255 by rfl] at h
 rw [h, show (255 : Nat) = 2 ^ 8 - 1 by rfl, Nat.and_two_pow_sub_one_eq_mod]
 omega
theorem c_rTwTag (x s : Int) (w : World) (x0 : 0 ≤ x) (x1 : x < 18446744073709551616) (s0 : -9223372036854775808 ≤ s) (s1 : s ≤ 9223372036854775807) :
 Calls Tryz.prog 182 #[.int .u64 x, .int .i64 s] w fun e w' => e = .returned (.int .i64 (twTag x s)) ∧ w = w' := by
 by_cases h : 0 ≤ s ∧ s ≤ 3
 · have hs : s = 0 ∨ s = 1 ∨ s = 2 ∨ s = 3 := by omega
   have h2 : x / 256 / 256 = x / 65536 := by omega
   have h3 : x / 65536 / 256 = x / 16777216 := by omega
   have g0 : 0 ≤ x / 256 ∧ x / 256 < 18446744073709551616 := by omega
   have g1 : 0 ≤ x / 65536 ∧ x / 65536 < 18446744073709551616 := by omega
   have g2 : 0 ≤ x / 16777216 ∧ x / 16777216 < 18446744073709551616 := by omega
   clear h
   rcases hs with rfl | rfl | rfl | rfl
   · rw [twTag0]
     go_enter Tryz.func182, Tryz.ntmps182
     go_wp2
     refine wp_loop_rounds 1 ?_
     rw [rounds_succ]
     go_wp2
     go_ret
     exact ⟨rfl, rfl⟩
   · rw [twTag1]
     go_enter Tryz.func182, Tryz.ntmps182
     go_wp2
     refine wp_loop_rounds 2 ?_
     rw [rounds_succ]
     go_wp2
     rw [rounds_succ]
     go_wp2
     go_ret
     exact ⟨rfl, rfl⟩
   · rw [twTag2]
     go_enter Tryz.func182, Tryz.ntmps182
     go_wp2
     refine wp_loop_rounds 3 ?_
     rw [rounds_succ]
     go_wp2
     rw [rounds_succ]
     go_wp2
     rw [rounds_succ]
     go_wp2
     go_ret
     exact ⟨ret_int (by rw [← h2]), rfl⟩
   · rw [twTag3]
     go_enter Tryz.func182, Tryz.ntmps182
     go_wp2
     refine wp_loop_rounds 4 ?_
     rw [rounds_succ]
     go_wp2
     rw [rounds_succ]
     go_wp2
     rw [rounds_succ]
     go_wp2
     rw [rounds_succ]
     go_wp2
     go_ret
     exact ⟨ret_int (by rw [← h3, ← h2]), rfl⟩
 · have ht : twTag x s = 0 := by unfold twTag; rw [if_neg h]
   rw [ht]
   by_cases h0 : s < 0
   · have d : decide (s < 0) = true := by simp [h0]
     clear h
     go_enter Tryz.func182, Tryz.ntmps182
     go_wp2
     go_ret
     exact ⟨rfl, rfl⟩
   · have d : decide (s < 0) = false := by simp; omega
     have d2 : decide (3 < s) = true := by simp; omega
     clear h h0
     go_enter Tryz.func182, Tryz.ntmps182
     go_wp2
     go_ret
     exact ⟨rfl, rfl⟩
theorem twMul_bd (x s : Int) (h : 0 ≤ s ∧ s ≤ 3) (x0 : 0 ≤ x) : twTag x s * twUnit s ≤ x ∧ 0 ≤ twTag x s * twUnit s := by
 have hs : s = 0 ∨ s = 1 ∨ s = 2 ∨ s = 3 := by omega
 rcases hs with rfl | rfl | rfl | rfl
 · rw [twTag0, twU0]; omega
 · rw [twTag1, twU1]; omega
 · rw [twTag2, twU2]; omega
 · rw [twTag3, twU3]; omega
theorem twUnit_bd (s : Int) : 0 ≤ twUnit s ∧ twUnit s ≤ 16777216 := by
 unfold twUnit
 repeat' split
 all_goals omega
theorem twWith_wrap (x t : Int) (s u : Int) (hs : 0 ≤ s ∧ s ≤ 3) (hu : u = twUnit s) (x0 : 0 ≤ x) (x1 : x < 18446744073709551616) (t0 : 0 ≤ t) (t1 : t ≤ 255) :
 ((x - twTag x s * u % 18446744073709551616) % 18446744073709551616 + t * u % 18446744073709551616) % 18446744073709551616 = twWith x s t := by
 have h1 := twMul_bd x s hs x0
 have h2 := twWith_bd (s := s) (t := t) x0 x1
 have hw : twWith x s t = x - twTag x s * twUnit s + t * twUnit s := by unfold twWith; rw [if_pos ⟨hs.1, hs.2, t0, t1⟩]
 rw [hw] at h2 ⊢
 subst hu
 have hu2 := twUnit_bd s
 have h3 : 0 ≤ t * twUnit s ∧ t * twUnit s ≤ 255 * 16777216 := ⟨Int.mul_nonneg t0 hu2.1, Int.le_trans (Int.mul_le_mul_of_nonneg_left hu2.2 t0) (by omega)⟩
 obtain ⟨a, ha⟩ : ∃ a, a = twTag x s * twUnit s := ⟨_, rfl⟩
 obtain ⟨b, hb⟩ : ∃ b, b = t * twUnit s := ⟨_, rfl⟩
 rw [← ha] at h1 h2 ⊢
 rw [← hb] at h2 h3 ⊢
 omega
theorem c_rTwWith (x s t : Int) (w : World) (x0 : 0 ≤ x) (x1 : x < 18446744073709551616) (s0 : 0 ≤ s) (s1 : s ≤ 3) (t0 : 0 ≤ t) (t1 : t ≤ 255) :
 Calls Tryz.prog 118 #[.int .u64 x, .int .i64 s, .int .i64 t] w fun e w' => e = .returned (.int .u64 (twWith x s t)) ∧ w = w' := by
 have hs : s = 0 ∨ s = 1 ∨ s = 2 ∨ s = 3 := by omega
 have hb := twTag_bd x s
 have HW := Lib.hid (twWith_wrap x t s (twUnit s) ⟨s0, s1⟩ rfl x0 x1 t0 t1)
 have HT := Lib.hid (fun W => c_rTwTag x s W x0 x1 (by omega) (by omega))
 obtain ⟨g, hg⟩ : ∃ g, g = twTag x s := ⟨_, rfl⟩
 rw [← hg] at HT HW hb
 have HG := Lib.hid hg
 clear hg
 have d0 : decide (t < 0) = false := by simp; omega
 have d1 : decide (255 < t) = false := by simp; omega
 rcases hs with rfl | rfl | rfl | rfl
 · go_enter Tryz.func118, Tryz.ntmps118
   go_wp2
   refine wp_loop_rounds 1 ?_
   rw [rounds_succ]
   go_wp2_with (go_at_call 182; refine (HT.out _).mono ?_; rintro e w' ⟨rfl, rfl⟩)
   go_ret
   exact ⟨ret_int (by rw [← HW.out]; simp [IntKind.wrap_u64, twUnit]), rfl⟩
 · go_enter Tryz.func118, Tryz.ntmps118
   go_wp2
   refine wp_loop_rounds 2 ?_
   rw [rounds_succ]
   go_wp2
   rw [rounds_succ]
   go_wp2_with (go_at_call 182; refine (HT.out _).mono ?_; rintro e w' ⟨rfl, rfl⟩)
   go_ret
   exact ⟨ret_int (by rw [← HW.out]; simp [IntKind.wrap_u64, twUnit]), rfl⟩
 · go_enter Tryz.func118, Tryz.ntmps118
   go_wp2
   refine wp_loop_rounds 3 ?_
   rw [rounds_succ]
   go_wp2
   rw [rounds_succ]
   go_wp2
   rw [rounds_succ]
   go_wp2_with (go_at_call 182; refine (HT.out _).mono ?_; rintro e w' ⟨rfl, rfl⟩)
   go_ret
   exact ⟨ret_int (by rw [← HW.out]; simp [IntKind.wrap_u64, twUnit]), rfl⟩
 · go_enter Tryz.func118, Tryz.ntmps118
   go_wp2
   refine wp_loop_rounds 4 ?_
   rw [rounds_succ]
   go_wp2
   rw [rounds_succ]
   go_wp2
   rw [rounds_succ]
   go_wp2
   rw [rounds_succ]
   go_wp2_with (go_at_call 182; refine (HT.out _).mono ?_; rintro e w' ⟨rfl, rfl⟩)
   go_ret
   exact ⟨ret_int (by rw [← HW.out]; simp [IntKind.wrap_u64, twUnit]), rfl⟩
theorem c_TwParts (x : Int) (w : World) (x0 : 0 ≤ x) (x1 : x < 18446744073709551616) : Calls Tryz.prog 212 #[.int .u64 x] w fun e w' => e = .returned (.agg #[.int .i64 (twTag x 0), .int .i64 (twTag x 1), .int .i64 (twTag x 2), .int .i64 (twTag x 3)]) ∧ Below w.heap.size w w' := by
 rw [twTag0, twTag1, twTag2, twTag3]
 have a0 := and255 x x0 x1
 have a1 := and255 (x / 256) (by omega) (by omega)
 have a2 := and255 (x / 65536) (by omega) (by omega)
 have a3 := and255 (x / 16777216) (by omega) (by omega)
 have b0 : wrap64 (x % 256) = x % 256 := by unfold wrap64; omega
 have b1 : wrap64 (x / 256 % 256) = x / 256 % 256 := by unfold wrap64; omega
 have b2 : wrap64 (x / 65536 % 256) = x / 65536 % 256 := by unfold wrap64; omega
 have b3 : wrap64 (x / 16777216 % 256) = x / 16777216 % 256 := by unfold wrap64; omega
 go_enter Tryz.func212, Tryz.ntmps212
 go_wp2_with fail
 refine wp_loop_rounds 5 ?_
 rw [rounds_succ]
 go_wp2_with fail
 rw [rounds_succ]
 go_wp2_with fail
 rw [rounds_succ]
 go_wp2_with fail
 rw [rounds_succ]
 go_wp2_with fail
 rw [rounds_succ]
 go_wp2_with fail
 exact bodyPost_ret (v := .agg #[.int .i64 (x % 256), .int .i64 (x / 256 % 256), .int .i64 (x / 65536 % 256), .int .i64 (x / 16777216 % 256)]) (by simp [results, Tryz.results212, go_sem, a0, a1, a2, a3, b0, b1, b2, b3]) rfl ⟨rfl, (Below.refl _ _).alloc (Nat.le_refl _) _⟩
theorem c_twthere (k : Int) (w : World) (b : Bool) (hb : b = decide (0 ≤ k ∧ k < 4)) : Calls Tryz.prog 211 #[.int .i64 k] w fun e w' => e = .returned (.bool b) ∧ w = w' := by
 subst hb
 go_enter Tryz.func211, Tryz.ntmps211
 go_wp2
 all_goals
  go_ret
  exact ⟨ret_bool (by rw [Bool.eq_iff_iff]; simp; try omega), rfl⟩
theorem c_TwTag (x k : Int) (w : World) (x0 : 0 ≤ x) (x1 : x < 18446744073709551616) (k0 : 0 ≤ k) (k1 : k ≤ 3) : Calls Tryz.prog 152 #[.int .u64 x, .int .i64 k] w fun e w' => e = .returned (.int .i64 (twTag x k)) ∧ Below w.heap.size w w' := by
 have hk : k = 0 ∨ k = 1 ∨ k = 2 ∨ k = 3 := by omega
 have HP := Lib.hid (fun W => c_TwParts x W x0 x1)
 obtain ⟨t0, e0⟩ : ∃ t, t = twTag x 0 := ⟨_, rfl⟩
 obtain ⟨t1, e1⟩ : ∃ t, t = twTag x 1 := ⟨_, rfl⟩
 obtain ⟨t2, e2⟩ : ∃ t, t = twTag x 2 := ⟨_, rfl⟩
 obtain ⟨t3, e3⟩ : ∃ t, t = twTag x 3 := ⟨_, rfl⟩
 rw [← e0, ← e1, ← e2, ← e3] at HP
 have h0 : ∀ W, (Instr.index 310 (.agg #[.int .i64 t0, .int .i64 t1, .int .i64 t2, .int .i64 t3]) (.int .i64 0)).run Tryz.prog W = .ok (.int .i64 t0) W := fun W => by kernel_rfl
 have h1 : ∀ W, (Instr.index 310 (.agg #[.int .i64 t0, .int .i64 t1, .int .i64 t2, .int .i64 t3]) (.int .i64 1)).run Tryz.prog W = .ok (.int .i64 t1) W := fun W => by kernel_rfl
 have h2 : ∀ W, (Instr.index 310 (.agg #[.int .i64 t0, .int .i64 t1, .int .i64 t2, .int .i64 t3]) (.int .i64 2)).run Tryz.prog W = .ok (.int .i64 t2) W := fun W => by kernel_rfl
 have h3 : ∀ W, (Instr.index 310 (.agg #[.int .i64 t0, .int .i64 t1, .int .i64 t2, .int .i64 t3]) (.int .i64 3)).run Tryz.prog W = .ok (.int .i64 t3) W := fun W => by kernel_rfl
 have HE := Lib.hid (And.intro e0 (And.intro e1 (And.intro e2 e3)))
 clear e0 e1 e2 e3
 rcases hk with rfl | rfl | rfl | rfl
 all_goals
  go_enter Tryz.func152, Tryz.ntmps152
  go_wp2_with fail
  refine (c_twthere _ _ true (by decide)).mono ?_
  rintro e w' ⟨rfl, rfl⟩
  go_wp2_with fail
  refine (HP.out _).mono ?_
  rintro e w' ⟨rfl, hb⟩
  go_wp2_with fail
  go_ret
  exact ⟨ret_int (by first | exact HE.out.1 | exact HE.out.2.1 | exact HE.out.2.2.1 | exact HE.out.2.2.2), hb⟩
theorem c_TwWith (x s t : Int) (w : World) (x0 : 0 ≤ x) (x1 : x < 18446744073709551616) (s0 : 0 ≤ s) (s1 : s ≤ 3) (t0 : 0 ≤ t) (t1 : t ≤ 255) :
 Calls Tryz.prog 359 #[.int .u64 x, .int .i64 s, .int .i64 t] w fun e w' => e = .returned (.int .u64 (twWith x s t)) ∧ Below w.heap.size w w' := by
 have hs : s = 0 ∨ s = 1 ∨ s = 2 ∨ s = 3 := by omega
 have d0 : decide (t < 0) = false := by simp; omega
 have d1 : decide (255 < t) = false := by simp; omega
 have hw : twWith x s t = x - twTag x s * twUnit s + t * twUnit s := by unfold twWith; rw [if_pos ⟨s0, s1, t0, t1⟩]
 have HW := Lib.hid hw
 have wt : IntKind.u64.wrap t = t := by rw [IntKind.wrap_u64]; omega
 clear hw
 have b0 := with_bits x t 0 (by decide) x0 x1 t0 t1
 have b1 := with_bits x t 8 (by decide) x0 x1 t0 t1
 have b2 := with_bits x t 16 (by decide) x0 x1 t0 t1
 have b3 := with_bits x t 24 (by decide) x0 x1 t0 t1
 have HB := Lib.hid (And.intro b0 (And.intro b1 (And.intro b2 b3)))
 clear b0 b1 b2 b3
 rcases hs with rfl | rfl | rfl | rfl
 all_goals
  go_enter Tryz.func359, Tryz.ntmps359
  go_wp2_with fail
  refine (c_twthere _ _ true (by decide)).mono ?_
  rintro e w' ⟨rfl, rfl⟩
  go_wp2_with fail
  go_quiet (fail)
  go_wp2_with fail
  go_ret
  refine ⟨ret_int ?_, ⟨rfl, rfl, rfl, Nat.le_refl _, fun _ _ => rfl⟩⟩
  rw [HW.out]
  have := HB.out
  simp [twTag, twUnit, IntKind.wrap_u64] at this ⊢
  first | exact this.1 | exact this.2.1 | exact this.2.2.1 | exact this.2.2.2
end
section
open Go.RowKit Go.Shelf
theorem blk_lt {w : World} {a : Addr} {u : Value} (h : w.cell? a = some u) : a.block < w.heap.size := by
 unfold World.cell? at h
 split at h
 · rename_i he; exact (Array.getElem?_eq_some_iff.1 he).1
 · cases h
theorem below_setCell' {a w : World} {B : Nat} (h : Below B a w) {b : Nat} (hb : B ≤ b) (o : Nat) (u : Value) : Below B a (w.setCell ⟨b, o, none⟩ u) := h.setCell (p := ⟨b, o, none⟩) hb u
def slCs (p : Spt) (o : Otm) : List Value := [.int .u64 p.tags, .int .u64 p.item, .int .i64 p.s, .int .u64 o.w, .int .i64 o.ln]
def OUTSV : Value := .agg #[.func (.func 354) #[] #[], .func (.func 355) #[] #[], .func (.func 356) #[] #[]]
theorem c_outs (w : World) : Calls Tryz.prog 352 #[] w fun e w' => e = .returned OUTSV ∧ Below w.heap.size w w' := by
 go_enter Tryz.func352, Tryz.ntmps352
 go_wp2
 exact bodyPost_ret (v := OUTSV) (by simp [results, Tryz.results352, go_sem, OUTSV]) rfl ⟨rfl, (Below.refl _ _).alloc (Nat.le_refl _) _⟩
theorem c_OutOver {U : Nat} {w : World} (a : Int) (n : Nat) (h0 : w.cell? ⟨U, 0, none⟩ = some (.int .u64 a)) (h4 : w.cell? ⟨U, 4, none⟩ = some (.int .i64 n)) (ha : a ≠ 0) (hn : n ≤ 3) :
 Calls Tryz.prog 351 #[.pointer (some ⟨U, 0, none⟩)] w fun e w' => e = .returned (.bool (n == 3)) ∧ Below w.heap.size w w' := by
 have hU := blk_lt h0
 dsimp only at hU
 have d0 : (a == 0) = false := by simp [ha]
 have d3 : ((n : Int) == 3) = (n == 3) := by rw [Bool.eq_iff_iff]; simp; omega
 clear ha
 go_enter Tryz.func351, Tryz.ntmps351
 go_wp2_with fail
 refine wp_region_via (by kernel_rfl) (by kernel_rfl) ?_
 repeat (go_big_quiet_step ((first
  | (go_at_call 352; exact viaB (c_outs _)))))
 refine wpQuiet_nil ?_
 rintro _ ⟨e, rfl⟩
 go_wp2_with fail
 go_ret
 exact ⟨ret_bool (by first | exact d3 | rfl), via_below _ _⟩
section
variable {U : Nat} {w : World} {O : Om} {B : Wb} {f : Cf} {s : AW} {k : Nat}
theorem c_slLoad (cs : List Value) (a : Int) (hP : PW w O B f s) (hU : Ob w O k U cs) (hc : cs[0]? = some (.int .u64 a)) (h3 : ∃ v, cs[3]? = some v) (hk : 10 ≤ k) (hhi : ∀ j, O j ≠ 0 → j < w.heap.size) (a0 : 0 ≤ a) (a1 : a < 18446744073709551616) (n0 : 0 ≤ s.n) (n1 : s.n ≤ 4611686018427387904) :
 Calls Tryz.prog 357 #[.pointer (some ⟨U, 0, none⟩), .pointer (some ⟨B.p, 0, none⟩)] w (RP (SX k k) w O (.tuple #[]) fun W G => PW W G B f (awLoad a s) ∧ Ob W G k U (cs.set 3 (.int .u64 (s.M a)))) := by
 have HM : Hid (Me k k w O w O B f s k U cs) := Lib.hid (Me.start hhi hP hU)
 have p0 := hP.wo.c0
 have x0 := hU.c 0 _ hc
 obtain ⟨v3, h3⟩ := h3
 have H3 := Lib.hid h3
 have HC := Lib.hid hc
 have hl3 : 3 < cs.length := (List.getElem?_eq_some_iff.1 h3).1
 clear hP hU hhi hc h3
 go_enter Tryz.func357, Tryz.ntmps357
 go_wp2_with fail
 go_region_held3 (fun w' => w'.cell? ⟨B.p, 0, none⟩ = some (.pointer (some ⟨B.c, 0, none⟩)) ∧ w'.cell? ⟨U, 0, none⟩ = some (.int .u64 a)) (go_keep)
  ((go_at_call 172
    refine (c_LoadP a (w := w.drew) HM.out.drew.p HM.out.drew.e.hi a0 a1 n0 n1).mono ?_
    rintro e w1 ⟨rfl, G1, e1, P1⟩
    have M1 := Lib.hid (HM.out.drew.world hk e1 P1)
    have p01 := M1.out.p.wo.c0
    have x01 := M1.out.t.c 0 _ HC.out
    have z3 := M1.out.t.c 3 _ H3.out
    have zf := M1.out.t.f 3
    have M2 := Lib.hid (M1.out.set hk (Nat.le_refl _) (Nat.le_refl _) 3 (.int .u64 (s.M a)) hl3)
    have p02 := M2.out.p.wo.c0
    have x02 := M2.out.t.c 0 _ (by rw [List.getElem?_set_ne (by decide)]; exact HC.out)
    clear e1 P1))
 all_goals
  go_wp2_with fail
  go_end0
  exact M2.out.rp
theorem c_slStore (cs : List Value) (a wd sl t : Int) (hP : PW w O B f s) (hU : Ob w O k U cs) (hc : cs[0]? = some (.int .u64 a)) (h2 : cs[2]? = some (.int .i64 sl)) (h3 : cs[3]? = some (.int .u64 wd)) (hk : 10 ≤ k) (hhi : ∀ j, O j ≠ 0 → j < w.heap.size) (a0 : 0 ≤ a) (a1 : a < 18446744073709551616) (d0 : 0 ≤ wd) (d1 : wd < 18446744073709551616) (s0 : 0 ≤ sl) (s1 : sl ≤ 3) (t0 : 0 ≤ t) (t1 : t ≤ 255) (n0 : 0 ≤ s.n) (n1 : s.n ≤ 4611686018427387904) :
 Calls Tryz.prog 358 #[.pointer (some ⟨U, 0, none⟩), .pointer (some ⟨B.p, 0, none⟩), .int .i64 t] w (RP (SX k k) w O (.tuple #[]) fun W G => PW W G B f (awStore a (twWith wd sl t) s) ∧ Ob W G k U cs) := by
 have HM : Hid (Me k k w O w O B f s k U cs) := Lib.hid (Me.start hhi hP hU)
 have p0 := hP.wo.c0
 have x0 := hU.c 0 _ hc
 have x2 := hU.c 2 _ h2
 have x3 := hU.c 3 _ h3
 have hb := twWith_bd (s := sl) (t := t) d0 d1
 have HW := Lib.hid (fun W => c_TwWith wd sl t W d0 d1 s0 s1 t0 t1)
 obtain ⟨z, hz⟩ : ∃ z, z = twWith wd sl t := ⟨_, rfl⟩
 rw [← hz] at HW hb ⊢
 have H3 := Lib.hid (And.intro hc (And.intro h2 h3))
 clear hP hU hhi hc h2 h3 hz
 go_enter Tryz.func358, Tryz.ntmps358
 go_wp2_with fail
 go_region_held3 (fun w' => w'.cell? ⟨B.p, 0, none⟩ = some (.pointer (some ⟨B.c, 0, none⟩)) ∧ w'.cell? ⟨U, 0, none⟩ = some (.int .u64 a) ∧ w'.cell? ⟨U, 2, none⟩ = some (.int .i64 sl) ∧ w'.cell? ⟨U, 3, none⟩ = some (.int .u64 wd)) (go_keep)
  ((first
    | (go_at_call 359
       refine (HW.out _).mono ?_
       rintro e w1 ⟨rfl, hb1⟩
       have M1 := Lib.hid (HM.out.drew.below hb1)
       have p01 := M1.out.p.wo.c0
       have x01 := M1.out.t.c 0 _ H3.out.1
       have x21 := M1.out.t.c 2 _ H3.out.2.1
       have x31 := M1.out.t.c 3 _ H3.out.2.2
       clear hb1)
    | (go_at_call 50
       refine (c_StoreP a z M1.out.p M1.out.e.hi a0 a1 hb.1 hb.2 n0 n1).mono ?_
       rintro e w2 ⟨rfl, G2, e2, P2⟩
       have M2 := Lib.hid (M1.out.world hk e2 P2)
       have p02 := M2.out.p.wo.c0
       have x02 := M2.out.t.c 0 _ H3.out.1
       have x22 := M2.out.t.c 2 _ H3.out.2.1
       have x32 := M2.out.t.c 3 _ H3.out.2.2
       clear e2 P2)))
 all_goals
  go_wp2_with fail
  go_end0
  exact M2.out.rp
end
structure OutAt (W : World) (G : Om) (k U : Nat) (p : Spt) (o : Otm) : Prop where
 ob : Ob W G k U (slCs p o)
theorem OutAt.ext {S : Nat → Prop} {O O' : Om} {w w' : World} {k U : Nat} {p : Spt} {o : Otm} (h : OutAt w O k U p o) (e : Ext S O w O' w') (h1 : ¬ S k) : OutAt w' O' k U p o := ⟨h.ob.ext e h1⟩
theorem OutAt.below {O : Om} {w w' : World} {k U : Nat} {p : Spt} {o : Otm} (h : OutAt w O k U p o) (hb : Below w.heap.size w w') : OutAt w' O k U p o := ⟨h.ob.below hb⟩
section
variable {U : Nat} {w : World} {O : Om} {B : Wb} {f : Cf} {s : AW} {k : Nat} {p : Spt}
theorem ixOuts : (∀ W, (Instr.index 437 OUTSV (.int .i64 0)).run Tryz.prog W = .ok (.func (.func 354) #[] #[]) W) ∧ (∀ W, (Instr.index 437 OUTSV (.int .i64 1)).run Tryz.prog W = .ok (.func (.func 355) #[] #[]) W) ∧ (∀ W, (Instr.index 437 OUTSV (.int .i64 2)).run Tryz.prog W = .ok (.func (.func 356) #[] #[]) W) := ⟨fun W => by kernel_rfl, fun W => by kernel_rfl, fun W => by kernel_rfl⟩
theorem c_Outfirst (o : Otm) (hP : PW w O B f s) (hU : OutAt w O k U p o) (hp : p.ok) (hk : 10 ≤ k) (hhi : ∀ j, O j ≠ 0 → j < w.heap.size) (n0 : 0 ≤ s.n) (n1 : s.n ≤ 4611686018427387904) :
 Calls Tryz.prog 354 #[.pointer (some ⟨U, 0, none⟩), .pointer (some ⟨B.p, 0, none⟩)] w (RP (SX k k) w O (.tuple #[]) fun W G => PW W G B f (awLoad p.tags s) ∧ OutAt W G k U p ⟨o.ln, s.M p.tags⟩) := by
 have ht := hp.tags
 have HL := Lib.hid (c_slLoad _ p.tags hP hU.ob rfl ⟨_, rfl⟩ hk hhi (by omega) (by omega) n0 n1)
 clear hP hU hhi hp ht
 go_enter Tryz.func354, Tryz.ntmps354
 go_wp2_with fail
 refine HL.out.mono ?_
 rintro e w1 ⟨rfl, G1, e1, P1, U1⟩
 have HE := Lib.hid (And.intro e1 (And.intro P1 (OutAt.mk (p := p) (o := ⟨o.ln, s.M p.tags⟩) U1)))
 clear e1 P1 U1 HL
 go_wp2
 go_end0
 exact ⟨rfl, G1, HE.out⟩
theorem c_Outsecond (o : Otm) (hP : PW w O B f s) (hU : OutAt w O k U p o) (hp : p.ok) (hk : 10 ≤ k) (hhi : ∀ j, O j ≠ 0 → j < w.heap.size) (w0 : 0 ≤ o.w) (w1 : o.w < 18446744073709551616) (n0 : 0 ≤ s.n) (n1 : s.n ≤ 4611686018427387904) :
 Calls Tryz.prog 355 #[.pointer (some ⟨U, 0, none⟩), .pointer (some ⟨B.p, 0, none⟩)] w (RP (SX k k) w O (.tuple #[]) fun W G => PW W G B f (awStore p.tags (twWith o.w p.s 0) s) ∧ OutAt W G k U p o) := by
 have ht := hp.tags
 have HL := Lib.hid (c_slStore _ p.tags o.w p.s 0 hP hU.ob rfl rfl rfl hk hhi (by omega) (by omega) w0 w1 hp.s0 hp.s1 (by decide) (by decide) n0 n1)
 clear hP hU hhi hp ht
 go_enter Tryz.func355, Tryz.ntmps355
 go_wp2_with fail
 refine HL.out.mono ?_
 rintro e w1 ⟨rfl, G1, e1, P1, U1⟩
 have HE := Lib.hid (And.intro e1 (And.intro P1 (OutAt.mk (p := p) (o := o) U1)))
 clear e1 P1 U1 HL
 go_wp2
 go_end0
 exact ⟨rfl, G1, HE.out⟩
theorem c_Outthird (o : Otm) (hP : PW w O B f s) (hU : OutAt w O k U p o) (hp : p.ok) (hk : 10 ≤ k) (hhi : ∀ j, O j ≠ 0 → j < w.heap.size) (n0 : 0 ≤ s.n) (n1 : s.n ≤ 4611686018427387904) :
 Calls Tryz.prog 356 #[.pointer (some ⟨U, 0, none⟩), .pointer (some ⟨B.p, 0, none⟩)] w (RP (SX k k) w O (.tuple #[]) fun W G => PW W G B f (awStore p.item 0 s) ∧ OutAt W G k U p o) := by
 have ht := hp.item
 have HM : Hid (Me k k w O w O B f s k U (slCs p o)) := Lib.hid (Me.start hhi hP hU.ob)
 have p0 := hP.wo.c0
 have x1 := hU.ob.c 1 _ rfl
 obtain ⟨it, hit⟩ : ∃ it, it = p.item := ⟨_, rfl⟩
 rw [← hit] at ht x1 ⊢
 have HIT := Lib.hid hit
 have hb : 0 ≤ it ∧ it < 18446744073709551616 := by omega
 clear hP hU hhi hp ht hit
 go_enter Tryz.func356, Tryz.ntmps356
 go_wp2_with fail
 go_region_held3 (fun w' => w'.cell? ⟨B.p, 0, none⟩ = some (.pointer (some ⟨B.c, 0, none⟩)) ∧ w'.cell? ⟨U, 1, none⟩ = some (.int .u64 it)) (go_keep)
  ((go_at_call 50
    refine (c_StoreP it 0 (w := w.drew) HM.out.drew.p HM.out.drew.e.hi hb.1 hb.2 (by decide) (by decide) n0 n1).mono ?_
    rintro e w2 ⟨rfl, G2, e2, P2⟩
    have M2 := Lib.hid (HM.out.drew.world hk e2 P2)
    have p02 := M2.out.p.wo.c0
    have x12 := M2.out.t.c 1 _ rfl
    rw [← HIT.out] at x12
    clear e2 P2))
 all_goals
  go_wp2_with fail
  go_end0
  obtain ⟨e0, G, e1, P1, t1⟩ := M2.out.rp (v := .tuple #[])
  exact ⟨rfl, G, e1, P1, ⟨t1⟩⟩
theorem outStep_ln (p : Spt) (s : AW) (o : Otm) (h : o.ln < 3) : (outStep p s o).2.ln = o.ln + 1 := by
 unfold outStep
 split
 · rename_i e; rw [e]
 · split
   · rename_i e; rw [e]
   · split
     · rename_i e; rw [e]
     · omega
theorem c_OutStep (o : Otm) (hP : PW w O B f s) (hU : OutAt w O k U p o) (hp : p.ok) (ho : o.ln < 3) (w0 : 0 ≤ o.w) (w1 : o.w < 18446744073709551616) (hk : 10 ≤ k) (hhi : ∀ j, O j ≠ 0 → j < w.heap.size) (n0 : 0 ≤ s.n) (n1 : s.n ≤ 4611686018427387904) :
 Calls Tryz.prog 344 #[.pointer (some ⟨U, 0, none⟩), .pointer (some ⟨B.p, 0, none⟩)] w (RP (SX k k) w O (.bool (o.ln == 2)) fun W G => PW W G B f (outStep p s o).1 ∧ OutAt W G k U p (outStep p s o).2) := by
 obtain ⟨ln, wd⟩ := o
 dsimp only at ho w0 w1
 have x0 := hU.ob.c 0 _ rfl
 have x4 := hU.ob.c 4 _ rfl
 have ht := hp.tags
 have ht0 : p.tags ≠ 0 := by omega
 obtain ⟨ix0, ix1, ix2⟩ := ixOuts
 have hk0 : ∀ args W, (callFunc 354 args).run Tryz.prog W = .ok (.enter 354 args) W := enters_of Tryz.func354 (by kernel_rfl) rfl
 have hk1 : ∀ args W, (callFunc 355 args).run Tryz.prog W = .ok (.enter 355 args) W := enters_of Tryz.func355 (by kernel_rfl) rfl
 have hk2 : ∀ args W, (callFunc 356 args).run Tryz.prog W = .ok (.enter 356 args) W := enters_of Tryz.func356 (by kernel_rfl) rfl
 have HU := Lib.hid hU
 have HP := Lib.hid hP
 have HH := Lib.hid hhi
 have HB := Lib.hid hp
 have hln : ln = 0 ∨ ln = 1 ∨ ln = 2 := by omega
 obtain ⟨ta, hta⟩ : ∃ ta, ta = p.tags := ⟨_, rfl⟩
 rw [← hta] at x0 ht0
 have HT := Lib.hid hta
 clear hU hP hhi hp ht ho hta
 rcases hln with rfl | rfl | rfl
 · clear hk1 hk2 ix1 ix2
   go_enter Tryz.func344, Tryz.ntmps344
   go_wp2_with fail
   refine (c_OutOver ta 0 x0 x4 ht0 (by decide)).mono ?_
   rintro e wa ⟨rfl, hba⟩
   have P1 := Lib.hid (HP.out.below HH.out hba)
   have U1 := Lib.hid (HU.out.below hba)
   have E1 := Lib.hid (Ext.of_below (S := SX k k) HH.out hba)
   have y4 := U1.out.ob.c 4 _ rfl
   have yl := U1.out.ob.lt
   clear hba x0 x4
   go_wp2_with fail
   go_region_held3 (fun w' => w'.cell? ⟨U, 4, none⟩ = some (.int .i64 0)) (go_keep)
    ((first
      | (go_at_call 352
         refine (c_outs _).mono ?_
         rintro e wb ⟨rfl, hbb⟩
         have P2 := Lib.hid ((P1.out.below E1.out.hi (drew_below wa)).below E1.out.drew.hi hbb)
         have U2 := Lib.hid ((U1.out.below (drew_below wa)).below hbb)
         have E2 := Lib.hid (E1.out.drew.below hbb)
         have y42 := U2.out.ob.c 4 _ rfl
         clear hbb)
      | (go_at_call 354
         refine (c_Outfirst ⟨0, wd⟩ P2.out U2.out HB.out hk E2.out.hi n0 n1).mono ?_
         rintro e wc ⟨rfl, G3, e3, P3, U3⟩
         have M3 : Hid (Me k k w O wc G3 B f (awLoad p.tags s) k U _) := Lib.hid ⟨E2.out.trans e3, P3, U3.ob⟩
         have y43 := M3.out.t.c 4 _ rfl
         clear e3 P3 U3)))
   all_goals
    have z4 := M3.out.t.c 4 _ rfl
    have zf := M3.out.t.f 4
    have M4 := Lib.hid (M3.out.set hk (Nat.le_refl _) (Nat.le_refl _) 4 (.int .i64 ((1 : Nat) : Int)) (by simp [slCs]))
    have q0 := M4.out.t.c 0 _ rfl
    have q4 := M4.out.t.c 4 _ rfl
    go_wp2_with fail
    refine (c_OutOver p.tags 1 q0 q4 (by rw [← HT.out]; exact ht0) (by decide)).mono ?_
    rintro e wd ⟨rfl, hbd⟩
    have M5 := Lib.hid (M4.out.below hbd)
    clear hbd q0 q4
    go_wp2_with fail
    go_ret
    exact ⟨rfl, _, M5.out.e, M5.out.p, ⟨M5.out.t⟩⟩
 · clear hk0 hk2 ix0 ix2
   go_enter Tryz.func344, Tryz.ntmps344
   go_wp2_with fail
   refine (c_OutOver ta 1 x0 x4 ht0 (by decide)).mono ?_
   rintro e wa ⟨rfl, hba⟩
   have P1 := Lib.hid (HP.out.below HH.out hba)
   have U1 := Lib.hid (HU.out.below hba)
   have E1 := Lib.hid (Ext.of_below (S := SX k k) HH.out hba)
   have y4 := U1.out.ob.c 4 _ rfl
   have yl := U1.out.ob.lt
   clear hba x0 x4
   go_wp2_with fail
   go_region_held3 (fun w' => w'.cell? ⟨U, 4, none⟩ = some (.int .i64 1)) (go_keep)
    ((first
      | (go_at_call 352
         refine (c_outs _).mono ?_
         rintro e wb ⟨rfl, hbb⟩
         have P2 := Lib.hid ((P1.out.below E1.out.hi (drew_below wa)).below E1.out.drew.hi hbb)
         have U2 := Lib.hid ((U1.out.below (drew_below wa)).below hbb)
         have E2 := Lib.hid (E1.out.drew.below hbb)
         have y42 := U2.out.ob.c 4 _ rfl
         clear hbb)
      | (go_at_call 355
         refine (c_Outsecond ⟨1, wd⟩ P2.out U2.out HB.out hk E2.out.hi w0 w1 n0 n1).mono ?_
         rintro e wc ⟨rfl, G3, e3, P3, U3⟩
         have M3 : Hid (Me k k w O wc G3 B f (awStore p.tags (twWith wd p.s 0) s) k U _) := Lib.hid ⟨E2.out.trans e3, P3, U3.ob⟩
         have y43 := M3.out.t.c 4 _ rfl
         clear e3 P3 U3)))
   all_goals
    have z4 := M3.out.t.c 4 _ rfl
    have zf := M3.out.t.f 4
    have M4 := Lib.hid (M3.out.set hk (Nat.le_refl _) (Nat.le_refl _) 4 (.int .i64 ((2 : Nat) : Int)) (by simp [slCs]))
    have q0 := M4.out.t.c 0 _ rfl
    have q4 := M4.out.t.c 4 _ rfl
    go_wp2_with fail
    refine (c_OutOver p.tags 2 q0 q4 (by rw [← HT.out]; exact ht0) (by decide)).mono ?_
    rintro e wd ⟨rfl, hbd⟩
    have M5 := Lib.hid (M4.out.below hbd)
    clear hbd q0 q4
    go_wp2_with fail
    go_ret
    exact ⟨rfl, _, M5.out.e, M5.out.p, ⟨M5.out.t⟩⟩
 · clear hk0 hk1 ix0 ix1
   go_enter Tryz.func344, Tryz.ntmps344
   go_wp2_with fail
   refine (c_OutOver ta 2 x0 x4 ht0 (by decide)).mono ?_
   rintro e wa ⟨rfl, hba⟩
   have P1 := Lib.hid (HP.out.below HH.out hba)
   have U1 := Lib.hid (HU.out.below hba)
   have E1 := Lib.hid (Ext.of_below (S := SX k k) HH.out hba)
   have y4 := U1.out.ob.c 4 _ rfl
   have yl := U1.out.ob.lt
   clear hba x0 x4
   go_wp2_with fail
   go_region_held3 (fun w' => w'.cell? ⟨U, 4, none⟩ = some (.int .i64 2)) (go_keep)
    ((first
      | (go_at_call 352
         refine (c_outs _).mono ?_
         rintro e wb ⟨rfl, hbb⟩
         have P2 := Lib.hid ((P1.out.below E1.out.hi (drew_below wa)).below E1.out.drew.hi hbb)
         have U2 := Lib.hid ((U1.out.below (drew_below wa)).below hbb)
         have E2 := Lib.hid (E1.out.drew.below hbb)
         have y42 := U2.out.ob.c 4 _ rfl
         clear hbb)
      | (go_at_call 356
         refine (c_Outthird ⟨2, wd⟩ P2.out U2.out HB.out hk E2.out.hi n0 n1).mono ?_
         rintro e wc ⟨rfl, G3, e3, P3, U3⟩
         have M3 : Hid (Me k k w O wc G3 B f (awStore p.item 0 s) k U _) := Lib.hid ⟨E2.out.trans e3, P3, U3.ob⟩
         have y43 := M3.out.t.c 4 _ rfl
         clear e3 P3 U3)))
   all_goals
    have z4 := M3.out.t.c 4 _ rfl
    have zf := M3.out.t.f 4
    have M4 := Lib.hid (M3.out.set hk (Nat.le_refl _) (Nat.le_refl _) 4 (.int .i64 ((3 : Nat) : Int)) (by simp [slCs]))
    have q0 := M4.out.t.c 0 _ rfl
    have q4 := M4.out.t.c 4 _ rfl
    go_wp2_with fail
    refine (c_OutOver p.tags 3 q0 q4 (by rw [← HT.out]; exact ht0) (by decide)).mono ?_
    rintro e wd ⟨rfl, hbd⟩
    have M5 := Lib.hid (M4.out.below hbd)
    clear hbd q0 q4
    go_wp2_with fail
    go_ret
    exact ⟨rfl, _, M5.out.e, M5.out.p, ⟨M5.out.t⟩⟩
theorem c_of (hp : p.ok) : Calls Tryz.prog 243 #[.agg #[.int .i64 p.b, .int .i64 p.q, .int .i64 p.s]] w fun e w' => e = .returned (.agg #[.int .u64 p.tags, .int .u64 p.item, .int .i64 p.s, .int .u64 0, .int .i64 0]) ∧ Below w.heap.size w w' := by
 have hit := hp.item
 have htg := hp.tags
 have hq2 := hp.q2
 have HI := Lib.hid (fun W => c_Item p.b p.q p.s W (by have := hp.b0; omega) (by have := hp.b1; omega) (by have := hp.q0; omega) (by omega) (by have := hp.s0; omega) (by have := hp.s1; omega))
 have HT := Lib.hid (fun W => c_Tags p.b p.q W (by have := hp.b0; omega) (by have := hp.b1; omega) (by have := hp.q0; omega) (by omega))
 obtain ⟨ia, hia⟩ : ∃ ia, ia = p.item := ⟨_, rfl⟩
 obtain ⟨ta, hta⟩ : ∃ ta, ta = p.tags := ⟨_, rfl⟩
 have hia2 : plItem p.b p.q p.s = ia := hia.symm
 have hta2 : plTags p.b p.q = ta := hta.symm
 rw [hia2] at HI
 rw [hta2] at HT
 rw [← hia] at hit
 have di : (ia == 0) = false := by rw [beq_eq_false_iff_ne]; omega
 rw [← hia, ← hta]
 obtain ⟨b, hb⟩ : ∃ z, z = p.b := ⟨_, rfl⟩
 obtain ⟨q, hq⟩ : ∃ z, z = p.q := ⟨_, rfl⟩
 obtain ⟨sl, hs⟩ : ∃ z, z = p.s := ⟨_, rfl⟩
 rw [← hb, ← hq, ← hs] at HI
 rw [← hb, ← hq] at HT
 rw [← hb, ← hq, ← hs]
 clear hit htg hq2 hia hta hia2 hta2 hp hb hq hs
 go_enter Tryz.func243, Tryz.ntmps243
 go_wp2_with fail
 obtain ⟨W, hW⟩ : ∃ W, W = (w.alloc (.cells #[.int .i64 b, .int .i64 q, .int .i64 sl] 75)).alloc (.cells #[.int .u64 0, .int .u64 0, .int .i64 0, .int .u64 0, .int .i64 0] 331) := ⟨_, rfl⟩
 have hB : Below w.heap.size w W := by rw [hW]; exact ((Below.refl _ _).alloc (Nat.le_refl _) _).alloc (by simp) _
 have y0 : W.cell? ⟨w.heap.size, 0, none⟩ = some (.int .i64 b) := by rw [hW]; simp
 have y1 : W.cell? ⟨w.heap.size, 1, none⟩ = some (.int .i64 q) := by rw [hW]; simp
 have y2 : W.cell? ⟨w.heap.size, 2, none⟩ = some (.int .i64 sl) := by rw [hW]; simp
 have z0 : W.cell? ⟨w.heap.size + 1, 0, none⟩ = some (.int .u64 0) := by rw [hW]; simp
 have z1 : W.cell? ⟨w.heap.size + 1, 1, none⟩ = some (.int .u64 0) := by rw [hW]; simp
 have z2 : W.cell? ⟨w.heap.size + 1, 2, none⟩ = some (.int .i64 0) := by rw [hW]; simp
 have z3 : W.cell? ⟨w.heap.size + 1, 3, none⟩ = some (.int .u64 0) := by rw [hW]; simp
 have z4 : W.cell? ⟨w.heap.size + 1, 4, none⟩ = some (.int .i64 0) := by rw [hW]; simp
 have zf : ∀ j, W.frozen? ⟨w.heap.size + 1, j, none⟩ = false := fun j => by rw [hW]; exact frozen_newA _ #[.int .u64 0, .int .u64 0, .int .i64 0, .int .u64 0, .int .i64 0] _ _ (by simp) j
 have hl : w.heap.size < W.heap.size := by rw [hW]; simp; omega
 have hl2 : w.heap.size + 1 < W.heap.size := by rw [hW]; simp
 have HB := Lib.hid hB
 have HZ := Lib.hid (And.intro z0 (And.intro z1 (And.intro z2 (And.intro z3 (And.intro z4 zf)))))
 rw [← hW]
 clear hW hB
 refine (HI.out _).mono ?_
 rintro e w1 ⟨rfl, hb1⟩
 have k0 := (hb1.cell (p := ⟨w.heap.size, 0, none⟩) hl).trans y0
 have k1 := (hb1.cell (p := ⟨w.heap.size, 1, none⟩) hl).trans y1
 have k2 := (hb1.cell (p := ⟨w.heap.size, 2, none⟩) hl).trans y2
 have HK := Lib.hid (fun j => hb1.cell (p := ⟨w.heap.size + 1, j, none⟩) hl2)
 have HF := Lib.hid (fun j => (hb1.frozen (p := ⟨w.heap.size + 1, j, none⟩) hl2).trans (HZ.out.2.2.2.2.2 j))
 have HB1 := Lib.hid (HB.out.trans (hb1.mono HB.out.size))
 have m1 : w.heap.size < w1.heap.size := Nat.lt_of_lt_of_le hl hb1.size
 have m2 : w.heap.size + 1 < w1.heap.size := Nat.lt_of_lt_of_le hl2 hb1.size
 clear hb1 y0 y1 y2 z0 z1 z2 z3 z4 zf hl hl2
 go_wp2_with fail
 go_region_held3 (fun w' => w'.cell? ⟨w.heap.size, 0, none⟩ = some (.int .i64 b) ∧ w'.cell? ⟨w.heap.size, 1, none⟩ = some (.int .i64 q) ∧ w'.cell? ⟨w.heap.size, 2, none⟩ = some (.int .i64 sl)) (go_keep)
  ((first
    | (go_at_call 153
       refine (HT.out _).mono ?_
       rintro e w2 ⟨rfl, hb2⟩
       have i0 := (hb2.cell (p := ⟨w.heap.size, 0, none⟩) m1).trans k0
       have i1 := (hb2.cell (p := ⟨w.heap.size, 1, none⟩) m1).trans k1
       have i2 := (hb2.cell (p := ⟨w.heap.size, 2, none⟩) m1).trans k2
       have HB2 := Lib.hid (HB1.out.drew.trans (hb2.mono HB1.out.size))
       have HK2 := Lib.hid (fun j => (hb2.cell (p := ⟨w.heap.size + 1, j, none⟩) m2).trans (HK.out j))
       have HF2 := Lib.hid (fun j => (hb2.frozen (p := ⟨w.heap.size + 1, j, none⟩) m2).trans (HF.out j))
       have m12 : w.heap.size < w2.heap.size := Nat.lt_of_lt_of_le m1 hb2.size
       have m22 : w.heap.size + 1 < w2.heap.size := Nat.lt_of_lt_of_le m2 hb2.size
       clear hb2)
    | (go_at_call 154
       refine (HI.out _).mono ?_
       rintro e w3 ⟨rfl, hb3⟩
       have j0 := (hb3.cell (p := ⟨w.heap.size, 0, none⟩) m12).trans i0
       have j1 := (hb3.cell (p := ⟨w.heap.size, 1, none⟩) m12).trans i1
       have j2 := (hb3.cell (p := ⟨w.heap.size, 2, none⟩) m12).trans i2
       have HB3 := Lib.hid (HB2.out.trans (hb3.mono HB2.out.size))
       have m13 : w.heap.size < w3.heap.size := Nat.lt_of_lt_of_le m12 hb3.size
       have m23 : w.heap.size + 1 < w3.heap.size := Nat.lt_of_lt_of_le m22 hb3.size
       have e0 := ((hb3.cell (p := ⟨w.heap.size + 1, 0, none⟩) m22).trans (HK2.out 0)).trans HZ.out.1
       have e1 := ((hb3.cell (p := ⟨w.heap.size + 1, 1, none⟩) m22).trans (HK2.out 1)).trans HZ.out.2.1
       have e2 := ((hb3.cell (p := ⟨w.heap.size + 1, 2, none⟩) m22).trans (HK2.out 2)).trans HZ.out.2.2.1
       have e3 := ((hb3.cell (p := ⟨w.heap.size + 1, 3, none⟩) m22).trans (HK2.out 3)).trans HZ.out.2.2.2.1
       have e4 := ((hb3.cell (p := ⟨w.heap.size + 1, 4, none⟩) m22).trans (HK2.out 4)).trans HZ.out.2.2.2.2.1
       have g0 := (hb3.frozen (p := ⟨w.heap.size + 1, 0, none⟩) m22).trans (HF2.out 0)
       have g1 := (hb3.frozen (p := ⟨w.heap.size + 1, 1, none⟩) m22).trans (HF2.out 1)
       have g2 := (hb3.frozen (p := ⟨w.heap.size + 1, 2, none⟩) m22).trans (HF2.out 2)
       have g3 := (hb3.frozen (p := ⟨w.heap.size + 1, 3, none⟩) m22).trans (HF2.out 3)
       have g4 := (hb3.frozen (p := ⟨w.heap.size + 1, 4, none⟩) m22).trans (HF2.out 4)
       clear hb3)))
 all_goals
  go_wp2_with fail
  exact bodyPost_ret (v := .agg #[.int .u64 ta, .int .u64 ia, .int .i64 sl, .int .u64 0, .int .i64 0]) (by simp [results, Tryz.results243, go_sem, *]) rfl ⟨rfl, by (repeat (first | exact HB3.out | exact HB3.out.drew | (with_reducible refine below_setCell' ?_ (by omega) _ _) | (with_reducible refine Below.drew ?_)))⟩
theorem c_NewOut (hp : p.ok) (hhi : ∀ j, O j ≠ 0 → j < w.heap.size) : Calls Tryz.prog 186 #[.agg #[.int .i64 p.b, .int .i64 p.q, .int .i64 p.s]] w fun e w' => ∃ U, RP (fun t => t = k) w O (.pointer (some ⟨U, 0, none⟩)) (fun W G => OutAt W G k U p ⟨0, 0⟩) e w' := by
 have HO := Lib.hid (fun (W : World) => c_of (w := W) hp)
 have HH := Lib.hid hhi
 clear hp hhi
 go_enter Tryz.func186, Tryz.ntmps186
 go_wp2_with fail
 refine (HO.out _).mono ?_
 rintro e w1 ⟨rfl, hb⟩
 have HB : Hid (Below w.heap.size w w1) := Lib.hid (((Below.refl _ _).alloc (Nat.le_refl _) _).trans (hb.mono (by simp)))
 obtain ⟨G2, e2, x2, -⟩ := alloc_ob (Ext.of_below (S := fun t => t = k) HH.out HB.out).hi k (slCs p ⟨0, 0⟩).toArray 334 w1.heap.size rfl
 have HE := Lib.hid (And.intro ((Ext.of_below HH.out HB.out).trans e2) x2)
 clear hb e2 x2
 go_wp2_with fail
 go_ret
 exact ⟨_, rfl, G2, HE.out.1, ⟨HE.out.2⟩⟩
end
end
section
open Go.RowKit
def mk2 (p q : Spt) : List Int := if q.ver = p.ver then [p.ver] else [p.ver, q.ver]
end
end Go.Proofs.YtifkfhnbkjkakaaGreatDoor
