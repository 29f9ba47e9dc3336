/- Over any program: a function value against nil. Layer 11: contracts of the writers' lock. Layer 27: contracts of a Flush. Layer 27: a new Flush; what it got. Layer 12: contracts of a Mark of one place or two. Layer 2: contracts of both sides. Layer 13: contracts of an Out and a Put. Layer 12: a Mark of two places. -/
import Derived.Test.YtifkfhnbkjkakaaGreatDoorZrBaC
import Derived.Test.YtifkfhnbkjkakaaGreatDoorZrBaD
import Derived.Test.YtifkfhnbkjkakaaGreatDoorZrBaB
import Derived.Test.YtifkfhnbkjkakaaGreatDoorZrBaA
import Derived.BigQuiet
import Derived.Laws.EntriesVeiled
import Derived.Shelf.Lay
import Derived.WalkKit
import Derived.WalkSpells
namespace Go.Proofs.YtifkfhnbkjkakaaGreatDoor
set_option linter.unusedSimpArgs false
set_option linter.unusedVariables false
set_option maxHeartbeats 2000000
set_option maxRecDepth 100000
section
open Go.RowKit
section
variable {P : Program}
theorem equalIn_func_nil (w : World) (d : Nat) (t : TypeId) (ps rs : Array TypeId) (vr : Bool) (f : Fn) (a c : Array Value) (h : P.underlying t = some (.func ps rs vr)) :
 (Op.equalIn (d + 1) t (.func f a c) .nilFunc).run P w = .ok false w := by
 simp [Op.equalIn, run_underlying h]
theorem equalIn_nil_nil (w : World) (d : Nat) (t : TypeId) (ps rs : Array TypeId) (vr : Bool) (h : P.underlying t = some (.func ps rs vr)) :
 (Op.equalIn (d + 1) t .nilFunc .nilFunc).run P w = .ok true w := by
 simp [Op.equalIn, run_underlying h]
theorem run_eql_func_nil (w : World) (t : TypeId) (ps rs : Array TypeId) (vr : Bool) (f : Fn) (a c : Array Value) (h : P.underlying t = some (.func ps rs vr)) :
 (binOp .eql t (.func f a c) .nilFunc).run P w = .ok (.bool false) w := by
 simp only [binOp]
 simp [Op.equal, Op.maxDepth, equalIn_func_nil w 9999 t ps rs vr f a c h]
theorem run_neq_func_nil (w : World) (t : TypeId) (ps rs : Array TypeId) (vr : Bool) (f : Fn) (a c : Array Value) (h : P.underlying t = some (.func ps rs vr)) :
 (binOp .neq t (.func f a c) .nilFunc).run P w = .ok (.bool true) w := by
 simp only [binOp]
 simp [Op.equal, Op.maxDepth, equalIn_func_nil w 9999 t ps rs vr f a c h]
theorem run_eql_nil_nil (w : World) (t : TypeId) (ps rs : Array TypeId) (vr : Bool) (h : P.underlying t = some (.func ps rs vr)) :
 (binOp .eql t .nilFunc .nilFunc).run P w = .ok (.bool true) w := by
 simp only [binOp]
 simp [Op.equal, Op.maxDepth, equalIn_nil_nil w 9999 t ps rs vr h]
theorem run_neq_nil_nil (w : World) (t : TypeId) (ps rs : Array TypeId) (vr : Bool) (h : P.underlying t = some (.func ps rs vr)) :
 (binOp .neq t .nilFunc .nilFunc).run P w = .ok (.bool false) w := by
 simp only [binOp]
 simp [Op.equal, Op.maxDepth, equalIn_nil_nil w 9999 t ps rs vr h]
end
end
section
open Go.RowKit
def updN (tk : Nat → Int) (j : Nat) (v : Int) : Nat → Int := fun i => if i = j then v else tk i
section
variable {S : Nat → Prop} {O O' : Om} {w w' : World} {B : Wb} {f : Cf} {s : AW}
theorem PW.setTk (h : PW w O B f s) (hhi : ∀ j, O j ≠ 0 → j < w.heap.size) (j : Nat) (hj : j < 64) (v : Int) : PW (w.setCell ⟨B.p, 8 + j, none⟩ (.int .u64 v)) O B f ⟨s.M, s.n, s.la, updN s.tk j v, s.ho, s.it, s.nt⟩ ∧ Ext (fun t => t = 1) O w O (w.setCell ⟨B.p, 8 + j, none⟩ (.int .u64 v)) := by
 have e : Ext (fun t => t = 1) O w O (w.setCell ⟨B.p, 8 + j, none⟩ (.int .u64 v)) := Ext.of_set hhi h.o (by decide) rfl
 have hc : ∀ i, i ≠ 8 + j → (w.setCell ⟨B.p, 8 + j, none⟩ (.int .u64 v)).cell? ⟨B.p, i, none⟩ = w.cell? ⟨B.p, i, none⟩ := fun i hi => World.cell?_setCell_other _ _ _ _ (by simp; try omega)
 have k := h.wo
 refine ⟨⟨h.o, ⟨(hc 0 (by omega)).trans k.c0, (hc 1 (by omega)).trans k.c1, (hc 2 (by omega)).trans k.c2, (hc 3 (by omega)).trans k.c3, (hc 4 (by omega)).trans k.c4, (hc 5 (by omega)).trans k.c5, (hc 6 (by omega)).trans k.c6, (hc 7 (by omega)).trans k.c7, fun i hi => ?_, (hc 72 (by omega)).trans k.ho, fun i => (World.frozen?_setCell _ _ _ _).trans (k.fr i), by simpa using k.lt⟩, h.ce.ext e (by decide) (by decide), h.ar.ext e (by decide), h.no.ext e (by decide)⟩, e⟩
 by_cases hij : i = j
 · subst hij
   show _ = some (Value.int .u64 (if i = i then v else s.tk i))
   rw [if_pos rfl]
   exact World.cell?_setCell_same _ _ _ (k.tk i hi)
 · show _ = some (Value.int .u64 (if i = j then v else s.tk i))
   rw [if_neg hij]
   exact (hc _ (by omega)).trans (k.tk i hi)
theorem PW.setHo (h : PW w O B f s) (hhi : ∀ j, O j ≠ 0 → j < w.heap.size) (v : Int) : PW (w.setCell ⟨B.p, 72, none⟩ (.int .i64 v)) O B f ⟨s.M, s.n, s.la, s.tk, v, s.it, s.nt⟩ ∧ Ext (fun t => t = 1) O w O (w.setCell ⟨B.p, 72, none⟩ (.int .i64 v)) := by
 have e : Ext (fun t => t = 1) O w O (w.setCell ⟨B.p, 72, none⟩ (.int .i64 v)) := Ext.of_set hhi h.o (by decide) rfl
 have hc : ∀ i, i ≠ 72 → (w.setCell ⟨B.p, 72, none⟩ (.int .i64 v)).cell? ⟨B.p, i, none⟩ = w.cell? ⟨B.p, i, none⟩ := fun i hi => World.cell?_setCell_other _ _ _ _ (by simp; try omega)
 have k := h.wo
 exact ⟨⟨h.o, ⟨(hc 0 (by omega)).trans k.c0, (hc 1 (by omega)).trans k.c1, (hc 2 (by omega)).trans k.c2, (hc 3 (by omega)).trans k.c3, (hc 4 (by omega)).trans k.c4, (hc 5 (by omega)).trans k.c5, (hc 6 (by omega)).trans k.c6, (hc 7 (by omega)).trans k.c7, fun i hi => (hc _ (by omega)).trans (k.tk i hi), World.cell?_setCell_same _ _ _ k.ho, fun i => (World.frozen?_setCell _ _ _ _).trans (k.fr i), by simpa using k.lt⟩, h.ce.ext e (by decide) (by decide), h.ar.ext e (by decide), h.no.ext e (by decide)⟩, e⟩
end
section
variable {a b k T : Nat} {cs : List Value} {O O0 : Om} {w w0 : World} {B : Wb} {f : Cf} {s : AW}
theorem Me.setTk (h : Me a b w0 O0 w O B f s k T cs) (hk : 10 ≤ k) (j : Nat) (hj : j < 64) (v : Int) : Me a b w0 O0 (w.setCell ⟨B.p, 8 + j, none⟩ (.int .u64 v)) O B f ⟨s.M, s.n, s.la, updN s.tk j v, s.ho, s.it, s.nt⟩ k T cs := by
 obtain ⟨p1, e1⟩ := h.p.setTk h.e.hi j hj v
 exact ⟨h.e.trans (e1.mono fun t _ ht => .inl (by omega)), p1, h.t.ext e1 (by omega)⟩
theorem Me.setHo (h : Me a b w0 O0 w O B f s k T cs) (hk : 10 ≤ k) (v : Int) : Me a b w0 O0 (w.setCell ⟨B.p, 72, none⟩ (.int .i64 v)) O B f ⟨s.M, s.n, s.la, s.tk, v, s.it, s.nt⟩ k T cs := by
 obtain ⟨p1, e1⟩ := h.p.setHo h.e.hi v
 exact ⟨h.e.trans (e1.mono fun t _ ht => .inl (by omega)), p1, h.t.ext e1 (by omega)⟩
end
def takeCs (t tick : Int) (dr : Bool) (dv : Value) : List Value := [.int .i64 t, .int .u64 tick, .bool dr, dv]
def DRAWV (T : Nat) : Value := .func (.func 123) #[.pointer (some ⟨T, 0, none⟩)] #[]
def LOOKV (T : Nat) : Value := .func (.func 185) #[.pointer (some ⟨T, 0, none⟩)] #[]
def tkV (T ln : Nat) : Value := if ln = 1 then DRAWV T else if ln = 2 then LOOKV T else .nilFunc
theorem c_thread (t : Int) (w : World) : Calls Tryz.prog 122 #[.int .i64 t] w fun e w' => e = .returned (.bool (decide (0 ≤ t ∧ t < 64))) ∧ w = w' := by
 go_enter Tryz.func122, Tryz.ntmps122
 go_wp2
 all_goals
  go_ret
  exact ⟨ret_bool (by rw [Bool.eq_iff_iff]; simp; try omega), rfl⟩
theorem c_NewTake (t : Int) (w : World) (O : Om) (k : Nat) (hk : 10 ≤ k) (h0 : 0 ≤ t) (h1 : t < 64) (hhi : ∀ j, O j ≠ 0 → j < w.heap.size) :
 Calls Tryz.prog 63 #[.int .i64 t] w (RP (fun j => j = k) w O (.pointer (some ⟨w.heap.size, 0, none⟩)) fun W G => Ob W G k w.heap.size (takeCs t 0 false (DRAWV w.heap.size))) := by
 have hd : decide (0 ≤ t ∧ t < 64) = true := by simp; omega
 have HE := Lib.hid (And.intro (Ext.alloc (S := fun j => j = k) (g := k) hhi rfl (.cells #[.int .i64 t, .int .u64 0, .bool false, DRAWV w.heap.size] 234)) (Ob.new w O k #[.int .i64 t, .int .u64 0, .bool false, DRAWV w.heap.size] 234))
 go_enter Tryz.func63, Tryz.ntmps63
 go_wp2_with fail
 refine (c_thread t _).mono ?_
 rintro e w' ⟨rfl, rfl⟩
 go_wp2
 go_ret
 exact ⟨rfl, _, HE.out.1, HE.out.2⟩
@[go_sem] theorem eql_fw (w : World) (f : Fn) (a c : Array Value) : (binOp .eql 71 (.func f a c) .nilFunc).run Tryz.prog w = .ok (.bool false) w := run_eql_func_nil w _ _ _ _ f a c Tryz.underlying71
@[go_sem] theorem neq_fw (w : World) (f : Fn) (a c : Array Value) : (binOp .neq 71 (.func f a c) .nilFunc).run Tryz.prog w = .ok (.bool true) w := run_neq_func_nil w _ _ _ _ f a c Tryz.underlying71
@[go_sem] theorem eql_fw0 (w : World) : (binOp .eql 71 .nilFunc .nilFunc).run Tryz.prog w = .ok (.bool true) w := run_eql_nil_nil w _ _ _ _ Tryz.underlying71
@[go_sem] theorem neq_fw0 (w : World) : (binOp .neq 71 .nilFunc .nilFunc).run Tryz.prog w = .ok (.bool false) w := run_neq_nil_nil w _ _ _ _ Tryz.underlying71
theorem c_TakeOver (T : Nat) (dv : Value) (w : World) (hc : w.cell? ⟨T, 3, none⟩ = some dv) (b : Bool) (hb : (dv = .nilFunc ∧ b = true) ∨ (∃ f a c, dv = .func f a c ∧ b = false)) :
 Calls Tryz.prog 65 #[.pointer (some ⟨T, 0, none⟩)] w fun e w' => e = .returned (.bool b) ∧ w = w' := by
 rcases hb with ⟨rfl, rfl⟩ | ⟨f, a, c, rfl, rfl⟩
 · go_enter Tryz.func65, Tryz.ntmps65
   go_wp2
   go_ret
   exact ⟨rfl, rfl⟩
 · go_enter Tryz.func65, Tryz.ntmps65
   go_wp2
   go_ret
   exact ⟨rfl, rfl⟩
def awDraw (t : Nat) (s : AW) : AW := ⟨upd s.M 0 ((s.M 0 + 1) % 18446744073709551616), s.n + 1, ⟨4, 0, s.M 0, (s.M 0 + 1) % 18446744073709551616⟩, updN s.tk t ((s.M 0 + 1) % 18446744073709551616), s.ho, s.it, s.nt⟩
theorem Me.rp {a b k T : Nat} {cs : List Value} {O O0 : Om} {w w0 : World} {B : Wb} {f : Cf} {s : AW} {v : Value} (h : Me a b w0 O0 w O B f s k T cs) : RP (SX a b) w0 O0 v (fun W G => PW W G B f s ∧ Ob W G k T cs) (.returned v) w := ⟨rfl, O, h.e, h.p, h.t⟩
theorem c_draw (w : World) (O : Om) (B : Wb) (f : Cf) (s : AW) (k T : Nat) (t : Nat) (tick : Int) (dr : Bool) (dv : Value) (hP : PW w O B f s) (hT : Ob w O k T (takeCs t tick dr dv)) (hk : 10 ≤ k) (ht : t < 64) (hhi : ∀ j, O j ≠ 0 → j < w.heap.size) (n0 : 0 ≤ s.n) (n1 : s.n ≤ 4611686018427387904) :
 Calls Tryz.prog 123 #[.pointer (some ⟨T, 0, none⟩), .pointer (some ⟨B.p, 0, none⟩)] w (RP (SX k k) w O (.tuple #[]) fun W G => PW W G B f (awDraw t s) ∧ Ob W G k T (takeCs t (s.M 0) true (LOOKV T))) := by
 have HM : Hid (Me k k w O w O B f s k T (takeCs t tick dr dv)) := Lib.hid (Me.start hhi hP hT)
 have p0 := hP.wo.c0
 have hb := hP.bd 0
 have HA := Lib.hid (c_Add 0 1 hP.ce (by decide) (by decide) (by decide) (by decide) n0 n1)
 clear hP hT hhi
 go_enter Tryz.func123, Tryz.ntmps123
 go_wp2_with fail
 refine (HA.out).mono ?_
 intro e w1 hp
 obtain ⟨rfl, O1, E1, P1⟩ := PW.rp_cells HM.out.p HM.out.e.hi hp
 have M1 := HM.out.world hk E1 P1
 have M2 := M1.set hk (Nat.le_refl _) (Nat.le_refl _) 1 (.int .u64 (s.M 0)) (by simp [takeCs])
 have M3 := Lib.hid (M2.set hk (Nat.le_refl _) (Nat.le_refl _) 2 (.bool true) (by simp [takeCs]))
 have q1 := M1.t.c 1 _ rfl
 have q2 := M1.t.c 2 _ rfl
 have qf := M1.t.f 1
 have qf2 := M1.t.f 2
 have q3 := M2.t.c 2 _ rfl
 have q4 := M2.t.f 2
 obtain ⟨w2, hw2⟩ : ∃ w2, w2 = (w1.setCell ⟨T, 1, none⟩ (.int .u64 (s.M 0))).setCell ⟨T, 2, none⟩ (.bool true) := ⟨_, rfl⟩
 clear M1 M2 E1 P1 hp HA
 go_wp2_with fail
 rw [← hw2] at M3 ⊢
 clear q1 q2 qf qf2 q3 q4 hw2 p0
 have q0 := M3.out.t.c 0 _ rfl
 have q1 := M3.out.t.c 1 _ rfl
 have p8 := M3.out.p.wo.tk t ht
 have pf := M3.out.p.wo.fr (8 + t)
 have hw0 : IntKind.u64.wrap (s.M 0 + 1) = (s.M 0 + 1) % 18446744073709551616 := by rw [IntKind.wrap_u64]
 go_region
 all_goals
  have q3 := M3.out.t.c 3 _ rfl
  have qf := M3.out.t.f 3
  go_wp2
  go_end0
  exact (((M3.out.setTk hk t ht _).set hk (Nat.le_refl _) (Nat.le_refl _) 3 (LOOKV T) (by simp [takeCs])).drew).rp
def awServed (t : Nat) (s : AW) : AW := ⟨s.M, s.n, s.la, updN s.tk t 0, t, s.it, s.nt⟩
theorem c_look_no (w : World) (O : Om) (B : Wb) (f : Cf) (s : AW) (k T : Nat) (t : Nat) (tick : Int) (dr : Bool) (dv : Value) (hP : PW w O B f s) (hT : Ob w O k T (takeCs t tick dr dv)) (hk : 10 ≤ k) (ht : t < 64) (hhi : ∀ j, O j ≠ 0 → j < w.heap.size) (n0 : 0 ≤ s.n) (n1 : s.n ≤ 4611686018427387904) (hn : (s.M 1 == tick) = false) :
 Calls Tryz.prog 185 #[.pointer (some ⟨T, 0, none⟩), .pointer (some ⟨B.p, 0, none⟩)] w (RP (SX k k) w O (.tuple #[]) fun W G => PW W G B f (awLoad 1 s) ∧ Ob W G k T (takeCs t tick dr dv)) := by
 have HM : Hid (Me k k w O w O B f s k T (takeCs t tick dr dv)) := Lib.hid (Me.start hhi hP hT)
 have p0 := hP.wo.c0
 have q1 := hT.c 1 _ rfl
 have HA := Lib.hid (c_Load (w := w.drew) 1 (HM.out.drew.p.ce) (by decide) (by decide) n0 n1)
 have Hn := Lib.hid hn
 have hpl := hP.wo.lt
 have htl := hT.lt
 clear hP hT hhi hn
 go_enter Tryz.func185, Tryz.ntmps185
 go_wp2_with fail
 go_region_held3 (fun w' => w'.cell? ⟨B.p, 0, none⟩ = some (.pointer (some ⟨B.c, 0, none⟩)) ∧ w'.cell? ⟨T, 1, none⟩ = some (.int .u64 tick)) (go_keep)
  ((go_at_call 172; refine (HA.out).mono ?_; intro e w1 hp
    obtain ⟨rfl, O1, E1, P1⟩ := PW.rp_cells HM.out.drew.p HM.out.drew.e.hi hp
    have M1 := HM.out.drew.world hk E1 P1
    have r0 := M1.p.wo.c0
    have r1 := M1.t.c 1 _ rfl
    have HM1 := Lib.hid M1
    clear hp E1 P1 M1))
 all_goals
  rw [Hn.out]
  go_wp2
  go_end0
  exact HM1.out.rp
theorem c_look_yes (w : World) (O : Om) (B : Wb) (f : Cf) (s : AW) (k T : Nat) (t : Nat) (tick : Int) (dr : Bool) (dv : Value) (hP : PW w O B f s) (hT : Ob w O k T (takeCs t tick dr dv)) (hk : 10 ≤ k) (ht : t < 64) (hhi : ∀ j, O j ≠ 0 → j < w.heap.size) (n0 : 0 ≤ s.n) (n1 : s.n ≤ 4611686018427387904) (hn : (s.M 1 == tick) = true) :
 Calls Tryz.prog 185 #[.pointer (some ⟨T, 0, none⟩), .pointer (some ⟨B.p, 0, none⟩)] w (RP (SX k k) w O (.tuple #[]) fun W G => PW W G B f (awServed t (awLoad 1 s)) ∧ Ob W G k T (takeCs t tick dr .nilFunc)) := by
 have HM : Hid (Me k k w O w O B f s k T (takeCs t tick dr dv)) := Lib.hid (Me.start hhi hP hT)
 have p0 := hP.wo.c0
 have q1 := hT.c 1 _ rfl
 have HA := Lib.hid (c_Load (w := w.drew) 1 (HM.out.drew.p.ce) (by decide) (by decide) n0 n1)
 have Hn := Lib.hid hn
 have hpl := hP.wo.lt
 have htl := hT.lt
 clear hP hT hhi hn
 go_enter Tryz.func185, Tryz.ntmps185
 go_wp2_with fail
 go_region_held3 (fun w' => w'.cell? ⟨B.p, 0, none⟩ = some (.pointer (some ⟨B.c, 0, none⟩)) ∧ w'.cell? ⟨T, 1, none⟩ = some (.int .u64 tick)) (go_keep)
  ((go_at_call 172; refine (HA.out).mono ?_; intro e w1 hp
    obtain ⟨rfl, O1, E1, P1⟩ := PW.rp_cells HM.out.drew.p HM.out.drew.e.hi hp
    have M1 := HM.out.drew.world hk E1 P1
    have r0 := M1.p.wo.c0
    have r1 := M1.t.c 1 _ rfl
    have HM1 := Lib.hid M1
    clear hp E1 P1 M1))
 all_goals
  rw [Hn.out]
  clear r0 r1 p0 q1
  have r0 := HM1.out.t.c 0 _ rfl
  have r3 := HM1.out.t.c 3 _ rfl
  have rf := HM1.out.t.f 3
  have p8 := HM1.out.p.wo.tk t ht
  have pf := HM1.out.p.wo.fr (8 + t)
  have p72 := HM1.out.p.wo.ho
  have pf2 := HM1.out.p.wo.fr 72
  go_wp2_with fail
  go_region
  all_goals
   go_wp2
   go_end0
   first
    | exact (((HM1.out.setTk hk t ht 0).setHo hk t).set hk (Nat.le_refl _) (Nat.le_refl _) 3 .nilFunc (by simp [takeCs])).drew.rp
    | skip
structure Tkm where
 ln : Nat
 tick : Int
 dr : Bool
def tkStep (t : Nat) (s : AW) (x : Tkm) : AW × Tkm :=
 if x.ln = 1 then (awDraw t s, ⟨2, s.M 0, true⟩) else if x.ln = 2 then (if s.M 1 == x.tick then (awServed t (awLoad 1 s), ⟨0, x.tick, x.dr⟩) else (awLoad 1 s, x)) else (s, x)
def tkCs (T t : Nat) (x : Tkm) : List Value := takeCs t x.tick x.dr (tkV T x.ln)
theorem tkV1 (T : Nat) : tkV T 1 = DRAWV T := rfl
theorem tkV2 (T : Nat) : tkV T 2 = LOOKV T := rfl
theorem c_TakeStep (w : World) (O : Om) (B : Wb) (f : Cf) (s : AW) (k T : Nat) (t : Nat) (x : Tkm) (hP : PW w O B f s) (hT : Ob w O k T (tkCs T t x)) (hx : x.ln = 1 ∨ x.ln = 2) (hk : 10 ≤ k) (ht : t < 64) (hhi : ∀ j, O j ≠ 0 → j < w.heap.size) (n0 : 0 ≤ s.n) (n1 : s.n ≤ 4611686018427387904) :
 Calls Tryz.prog 106 #[.pointer (some ⟨T, 0, none⟩), .pointer (some ⟨B.p, 0, none⟩)] w (RP (SX k k) w O (.bool (decide ((tkStep t s x).2.ln = 0))) fun W G => PW W G B f (tkStep t s x).1 ∧ Ob W G k T (tkCs T t (tkStep t s x).2)) := by
 obtain ⟨ln, tick, dr⟩ := x
 have h3 : w.cell? ⟨T, 3, none⟩ = some (tkV T ln) := hT.c 3 _ rfl
 rcases hx with h | h
 · dsimp only at h
   subst h
   rw [tkV1] at h3
   have HC := Lib.hid (c_draw w O B f s k T t tick dr (DRAWV T) hP hT hk ht hhi n0 n1)
   clear hP hT hhi
   unfold DRAWV at h3
   go_enter Tryz.func106, Tryz.ntmps106
   go_wp2_with fail
   refine (c_TakeOver T _ _ h3 false (.inr ⟨_, _, _, rfl, rfl⟩)).mono ?_
   rintro e w' ⟨rfl, rfl⟩
   go_wp2_with fail
   refine (HC.out).mono ?_
   rintro e w1 ⟨rfl, O1, E1, P1, T1⟩
   have r3 : w1.cell? ⟨T, 3, none⟩ = some (LOOKV T) := T1.c 3 _ rfl
   have HE := Lib.hid E1
   have HP := Lib.hid P1
   have HT := Lib.hid T1
   clear HC h3 E1 P1 T1
   unfold LOOKV at r3
   go_wp2_with fail
   refine (c_TakeOver T _ _ r3 false (.inr ⟨_, _, _, rfl, rfl⟩)).mono ?_
   rintro e w' ⟨rfl, rfl⟩
   go_wp2
   go_ret
   exact ⟨rfl, O1, HE.out, HP.out, HT.out⟩
 · dsimp only at h
   subst h
   rw [tkV2] at h3
   by_cases hn : (s.M 1 == tick) = true
   · have HC := Lib.hid (c_look_yes w O B f s k T t tick dr (LOOKV T) hP hT hk ht hhi n0 n1 hn)
     have hst : tkStep t s ⟨2, tick, dr⟩ = (awServed t (awLoad 1 s), ⟨0, tick, dr⟩) := by unfold tkStep; rw [if_neg (by simp), if_pos rfl, if_pos hn]
     rw [hst]
     clear hP hT hhi hst hn
     unfold LOOKV at h3
     go_enter Tryz.func106, Tryz.ntmps106
     go_wp2_with fail
     refine (c_TakeOver T _ _ h3 false (.inr ⟨_, _, _, rfl, rfl⟩)).mono ?_
     rintro e w' ⟨rfl, rfl⟩
     go_wp2_with fail
     refine (HC.out).mono ?_
     rintro e w1 ⟨rfl, O1, E1, P1, T1⟩
     have r3 : w1.cell? ⟨T, 3, none⟩ = some .nilFunc := T1.c 3 _ rfl
     have HE := Lib.hid E1
     have HP := Lib.hid P1
     have HT := Lib.hid T1
     clear HC h3 E1 P1 T1
     go_wp2_with fail
     refine (c_TakeOver T _ _ r3 true (.inl ⟨rfl, rfl⟩)).mono ?_
     rintro e w' ⟨rfl, rfl⟩
     go_wp2
     go_ret
     exact ⟨rfl, O1, HE.out, HP.out, HT.out⟩
   · have hn : (s.M 1 == tick) = false := by simpa using hn
     have HC := Lib.hid (c_look_no w O B f s k T t tick dr (LOOKV T) hP hT hk ht hhi n0 n1 hn)
     have hst : tkStep t s ⟨2, tick, dr⟩ = (awLoad 1 s, ⟨2, tick, dr⟩) := by unfold tkStep; rw [if_neg (by simp), if_pos rfl, if_neg (by simp [hn])]
     rw [hst]
     clear hP hT hhi hst hn
     unfold LOOKV at h3
     go_enter Tryz.func106, Tryz.ntmps106
     go_wp2_with fail
     refine (c_TakeOver T _ _ h3 false (.inr ⟨_, _, _, rfl, rfl⟩)).mono ?_
     rintro e w' ⟨rfl, rfl⟩
     go_wp2_with fail
     refine (HC.out).mono ?_
     rintro e w1 ⟨rfl, O1, E1, P1, T1⟩
     have r3 : w1.cell? ⟨T, 3, none⟩ = some (LOOKV T) := T1.c 3 _ rfl
     have HE := Lib.hid E1
     have HP := Lib.hid P1
     have HT := Lib.hid T1
     clear HC h3 E1 P1 T1
     unfold LOOKV at r3
     go_wp2_with fail
     refine (c_TakeOver T _ _ r3 false (.inr ⟨_, _, _, rfl, rfl⟩)).mono ?_
     rintro e w' ⟨rfl, rfl⟩
     go_wp2
     go_ret
     exact ⟨rfl, O1, HE.out, HP.out, HT.out⟩
def awGive (s : AW) : AW := ⟨upd s.M 1 ((s.M 1 + 1) % 18446744073709551616), s.n + 1, ⟨4, 1, s.M 1, (s.M 1 + 1) % 18446744073709551616⟩, s.tk, -1, s.it, s.nt⟩
theorem c_NewGive (w : World) (O : Om) (k : Nat) (hk : 10 ≤ k) (hhi : ∀ j, O j ≠ 0 → j < w.heap.size) :
 Calls Tryz.prog 102 #[] w (RP (fun j => j = k) w O (.pointer (some ⟨w.heap.size, 0, none⟩)) fun W G => Ob W G k w.heap.size [.int .i64 1]) := by
 have HE := Lib.hid (And.intro (Ext.alloc (S := fun j => j = k) (g := k) hhi rfl (.cells #[.int .i64 1] 279)) (Ob.new w O k #[.int .i64 1] 279))
 clear hhi
 go_enter Tryz.func102, Tryz.ntmps102
 go_wp2
 go_ret
 exact ⟨rfl, _, HE.out.1, HE.out.2⟩
theorem c_GiveOver (G : Nat) (n : Int) (w : World) (hc : w.cell? ⟨G, 0, none⟩ = some (.int .i64 n)) :
 Calls Tryz.prog 169 #[.pointer (some ⟨G, 0, none⟩)] w fun e w' => e = .returned (.bool (n == 0)) ∧ w = w' := by
 go_enter Tryz.func169, Tryz.ntmps169
 go_wp2
 go_ret
 exact ⟨rfl, rfl⟩
theorem c_GiveStep (w : World) (O : Om) (B : Wb) (f : Cf) (s : AW) (k T : Nat) (hP : PW w O B f s) (hT : Ob w O k T [.int .i64 1]) (hk : 10 ≤ k) (hhi : ∀ j, O j ≠ 0 → j < w.heap.size) (n0 : 0 ≤ s.n) (n1 : s.n ≤ 4611686018427387904) :
 Calls Tryz.prog 104 #[.pointer (some ⟨T, 0, none⟩), .pointer (some ⟨B.p, 0, none⟩)] w (RP (SX k k) w O (.bool true) fun W G => PW W G B f (awGive s) ∧ Ob W G k T [.int .i64 0]) := by
 have M0 := (Me.start (a := k) (b := k) hhi hP hT)
 have q0 := M0.t.c 0 _ rfl
 have qf := M0.t.f 0
 have M1 := M0.set hk (Nat.le_refl _) (Nat.le_refl _) 0 (.int .i64 0) (by simp)
 have HA := Lib.hid (c_Add 1 1 M1.p.ce (by decide) (by decide) (by decide) (by decide) n0 n1)
 have p0 := M0.p.wo.c0
 have p1 := M1.p.wo.c0
 have HM := Lib.hid M1
 clear hP hT hhi M0 M1
 go_enter Tryz.func104, Tryz.ntmps104
 go_wp2_with fail
 refine (c_GiveOver T 1 _ q0).mono ?_
 rintro e w' ⟨rfl, rfl⟩
 go_wp2_with fail
 refine (HA.out).mono ?_
 intro e w1 hp
 obtain ⟨rfl, O1, E1, P1⟩ := PW.rp_cells HM.out.p HM.out.e.hi hp
 have M1 := HM.out.world hk E1 P1
 have p72 := M1.p.wo.ho
 have pf := M1.p.wo.fr 72
 have M2 := Lib.hid (M1.setHo hk (-1))
 have r0 : (w1.setCell ⟨B.p, 72, none⟩ (.int .i64 (-1))).cell? ⟨T, 0, none⟩ = some (.int .i64 0) := M2.out.t.c 0 _ rfl
 clear hp E1 P1 M1 HA HM p0 p1
 go_wp2_with fail
 refine (c_GiveOver T 0 _ r0).mono ?_
 rintro e w' ⟨rfl, rfl⟩
 go_wp2
 go_ret
 exact M2.out.rp
theorem c_NewTakeE (t : Int) (w : World) (O : Om) (k : Nat) (hk : 10 ≤ k) (h0 : 0 ≤ t) (h1 : t < 64) (hhi : ∀ j, O j ≠ 0 → j < w.heap.size) :
 Calls Tryz.prog 63 #[.int .i64 t] w fun e w' => ∃ T, RP (fun j => j = k) w O (.pointer (some ⟨T, 0, none⟩)) (fun W G => Ob W G k T (takeCs t 0 false (DRAWV T))) e w' :=
 (c_NewTake t w O k hk h0 h1 hhi).mono fun _ _ h => ⟨_, h⟩
theorem c_NewGiveE (w : World) (O : Om) (k : Nat) (hk : 10 ≤ k) (hhi : ∀ j, O j ≠ 0 → j < w.heap.size) :
 Calls Tryz.prog 102 #[] w fun e w' => ∃ T, RP (fun j => j = k) w O (.pointer (some ⟨T, 0, none⟩)) (fun W G => Ob W G k T [.int .i64 1]) e w' :=
 (c_NewGive w O k hk hhi).mono fun _ _ h => ⟨_, h⟩
end
section
open Go.RowKit
structure Flm where
 ln : Nat
 tk : Tkm
 an : Int
 ep : Int
 pt : Int
structure FB where
 X : Nat
 T : Nat
 G : Nat
 bx : Nat
 bd : Nat
 bt : Nat
 bg : Nat
 be : Nat
def ENDSV (b : FB) : Value := .func (.func 103) #[] #[.pointer (some ⟨b.bg, 0, none⟩), .pointer (some ⟨b.bx, 0, none⟩)]
def TAKESV (b : FB) : Value := .func (.func 105) #[] #[.pointer (some ⟨b.bt, 0, none⟩), .pointer (some ⟨b.bx, 0, none⟩), .pointer (some ⟨b.bd, 0, none⟩), .pointer (some ⟨b.be, 0, none⟩)]
def FLUSHV (b : FB) : Value := .func (.func 107) #[] #[.pointer (some ⟨b.bx, 0, none⟩), .pointer (some ⟨b.bd, 0, none⟩), .pointer (some ⟨b.be, 0, none⟩)]
def flV (b : FB) (ln : Nat) : Value := if ln = 1 then TAKESV b else if ln = 2 then FLUSHV b else if ln = 3 then ENDSV b else .nilFunc
def flCs (dv : Value) (an ep pt : Int) : List Value := [dv, .int .u8 an, .int .u64 0, .string ⟨#[]⟩, .string ⟨#[]⟩, .int .u32 0, .int .u64 0, .int .i64 0, .int .i64 0, .int .u64 ep, .int .i64 pt]
structure FR (w : World) (O : Om) (k : Nat) (b : FB) (t : Nat) (d : Int) (x : Tkm) (g : Int) : Prop where
 tk : Ob w O (k + 1) b.T (tkCs b.T t x)
 gv : Ob w O (k + 2) b.G [.int .i64 g]
 kx : Ob w O (k + 3) b.bx [.pointer (some ⟨b.X, 0, none⟩)]
 kd : Ob w O (k + 3) b.bd [.int .i64 d]
 kt : Ob w O (k + 3) b.bt [.pointer (some ⟨b.T, 0, none⟩)]
 kg : Ob w O (k + 3) b.bg [.pointer (some ⟨b.G, 0, none⟩)]
 ke : Ob w O (k + 3) b.be [ENDSV b]
theorem FR.ext {S : Nat → Prop} {O O' : Om} {w w' : World} {k : Nat} {b : FB} {t : Nat} {d : Int} {x : Tkm} {g : Int} (h : FR w O k b t d x g) (e : Ext S O w O' w') (h1 : ¬ S (k + 1)) (h2 : ¬ S (k + 2)) (h3 : ¬ S (k + 3)) : FR w' O' k b t d x g :=
 ⟨h.tk.ext e h1, h.gv.ext e h2, h.kx.ext e h3, h.kd.ext e h3, h.kt.ext e h3, h.kg.ext e h3, h.ke.ext e h3⟩
theorem FR.below {O : Om} {w w' : World} {k : Nat} {b : FB} {t : Nat} {d : Int} {x : Tkm} {g : Int} (h : FR w O k b t d x g) (e : Below w.heap.size w w') : FR w' O k b t d x g :=
 ⟨h.tk.below e, h.gv.below e, h.kx.below e, h.kd.below e, h.kt.below e, h.kg.below e, h.ke.below e⟩
theorem c_FOver (X : Nat) (dv : Value) (w : World) (hc : w.cell? ⟨X, 0, none⟩ = some dv) (b : Bool) (hb : (dv = .nilFunc ∧ b = true) ∨ (∃ f a c, dv = .func f a c ∧ b = false)) :
 Calls Tryz.prog 439 #[.pointer (some ⟨X, 0, none⟩)] w fun e w' => e = .returned (.bool b) ∧ w = w' := by
 rcases hb with ⟨rfl, rfl⟩ | ⟨f, a, c, rfl, rfl⟩
 · go_enter Tryz.func439, Tryz.ntmps439
   go_wp2
   go_ret
   exact ⟨rfl, rfl⟩
 · go_enter Tryz.func439, Tryz.ntmps439
   go_wp2
   go_ret
   exact ⟨rfl, rfl⟩
def awFlush (d : Int) (s : AW) : AW := if epFlushOk (s.M 8) then ⟨upd s.M 8 (epFlush (s.M 8) d), s.n + 1, ⟨3, 8, s.M 8, epFlush (s.M 8) d⟩, s.tk, s.ho, s.it, s.nt⟩ else awLoad 8 s
def anFlush (e : Int) : Int := if epFlushOk e then 10 else 5
theorem awFlush_n (d : Int) (s : AW) : (awFlush d s).n = s.n + 1 := by unfold awFlush; split <;> rfl
section
variable {a b k T : Nat} {cs : List Value} {O O0 : Om} {w w0 w1 : World} {B : Wb} {f : Cf} {s : AW}
theorem ext_set {c : Nat} {j : Nat} {v : Value} (hhi : ∀ j, O j ≠ 0 → j < w.heap.size) (hT : Ob w O k c cs) (hk : 10 ≤ k) : Ext (fun t => t = k) O w O (w.setCell ⟨c, j, none⟩ v) := Ext.of_set hhi hT.o (by omega) rfl
end
theorem c_flush (w : World) (O : Om) (B : Wb) (f : Cf) (s : AW) (k X : Nat) (d : Int) (dv : Value) (an ep pt : Int) (hP : PW w O B f s) (hX : Ob w O k X (flCs dv an ep pt)) (hk : 10 ≤ k) (hhi : ∀ j, O j ≠ 0 → j < w.heap.size) (n0 : 0 ≤ s.n) (n1 : s.n ≤ 4611686018427387904) (d0 : -9223372036854775808 ≤ d) (d1 : d ≤ 9223372036854775807) :
 Calls Tryz.prog 108 #[.pointer (some ⟨X, 0, none⟩), .pointer (some ⟨B.p, 0, none⟩), .int .i64 d] w (RP (SX k k) w O (.tuple #[]) fun W G => PW W G B f (awFlush d s) ∧ Ob W G k X (flCs dv (anFlush (s.M 8)) (s.M 8) (s.n + 1))) := by
 have HM : Hid (Me k k w O w O B f s k X (flCs dv an ep pt)) := Lib.hid (Me.start hhi hP hX)
 have p0 := hP.wo.c0
 have hb := hP.bd 8
 have hfb := epFlush_bd d hb.1 (by omega : s.M 8 ≤ 18446744073709551615)
 have q9 := hX.c 9 _ rfl
 have f9 := hX.f 9
 have HK := Lib.hid (c_Peek 8 hP.ce (by decide) (by decide))
 clear hP hX hhi
 by_cases hok : epFlushOk (s.M 8) = true
 · have hst : awFlush d s = ⟨upd s.M 8 (epFlush (s.M 8) d), s.n + 1, ⟨3, 8, s.M 8, epFlush (s.M 8) d⟩, s.tk, s.ho, s.it, s.nt⟩ := by unfold awFlush; rw [if_pos hok]
   have han : anFlush (s.M 8) = 10 := by unfold anFlush; rw [if_pos hok]
   rw [hst, han]
   have HOK := Lib.hid hok
   clear hst han hok
   go_enter Tryz.func108, Tryz.ntmps108
   go_wp2_with fail
   refine (HK.out).mono ?_
   rintro e w' ⟨rfl, rfl⟩
   have M1 := HM.out.set hk (Nat.le_refl _) (Nat.le_refl _) 9 (.int .u64 (s.M 8)) (by simp [flCs])
   have HM1 := Lib.hid M1
   have r9 := M1.t.c 9 _ rfl
   obtain ⟨w1, hw1⟩ : ∃ w1, w1 = w.setCell ⟨X, 9, none⟩ (.int .u64 (s.M 8)) := ⟨_, rfl⟩
   have HW1 := Lib.hid hw1
   clear M1 HK hw1
   go_wp2_with fail
   refine (c_Flush (s.M 8) d _ hb.1 (by omega) d0 d1).mono ?_
   rintro e w2 ⟨rfl, hb2⟩
   rw [← HW1.out] at HM1 hb2
   have HM2 := Lib.hid (HM1.out.below hb2)
   clear p0 q9 f9 r9 hb2
   have p0 := HM2.out.p.wo.c0
   have q9 := HM2.out.t.c 9 _ rfl
   have q1 := HM2.out.t.c 1 _ rfl
   have f1 := HM2.out.t.f 1
   have q10 := HM2.out.t.c 10 _ rfl
   have f10 := HM2.out.t.f 10
   have hpl := HM2.out.p.wo.lt
   have hxl := HM2.out.t.lt
   rw [HOK.out]
   have HA := Lib.hid (c_CAS_hit (w := w2.drew) 8 (s.M 8) (epFlush (s.M 8) d) (HM2.out.drew.p.ce) (by decide) (by decide) hfb.1 (by omega) n0 n1 rfl)
   go_wp2_with fail
   go_region_held3 (fun w' => w'.cell? ⟨B.p, 0, none⟩ = some (.pointer (some ⟨B.c, 0, none⟩)) ∧ w'.cell? ⟨X, 9, none⟩ = some (.int .u64 (s.M 8))) (go_keep)
    ((go_at_call 42; refine (HA.out).mono ?_; intro e w3 hp
      obtain ⟨rfl, O3, E3, P3⟩ := PW.rp_cells HM2.out.drew.p HM2.out.drew.e.hi hp
      have M3 := HM2.out.drew.world hk E3 P3
      have r0 := M3.p.wo.c0
      have r9 := M3.t.c 9 _ rfl
      have HM3 := Lib.hid M3
      clear hp E3 P3 M3))
   all_goals
    clear p0 q9 q1 f1 q10 f10
    have q1 := HM3.out.t.c 1 _ rfl
    have f1 := HM3.out.t.f 1
    have M4 := HM3.out.set hk (Nat.le_refl _) (Nat.le_refl _) 1 (.int .u8 10) (by simp [flCs])
    have HM4 := Lib.hid M4
    have HK := Lib.hid (c_WSteps _ _ _ _ _ M4.p)
    have q10 := M4.t.c 10 _ rfl
    have f10 := M4.t.f 10
    clear M4
    go_wp2_with fail
    refine (HK.out).mono ?_
    rintro e w' ⟨rfl, rfl⟩
    go_wp2
    go_end0
    exact (HM4.out.set hk (Nat.le_refl _) (Nat.le_refl _) 10 (.int .i64 (s.n + 1)) (by simp [flCs])).rp
 · have hok : epFlushOk (s.M 8) = false := by simpa using hok
   have hst : awFlush d s = awLoad 8 s := by unfold awFlush; rw [if_neg (by simp [hok])]
   have han : anFlush (s.M 8) = 5 := by unfold anFlush; rw [if_neg (by simp [hok])]
   rw [hst, han]
   have HOK := Lib.hid hok
   clear hst han hok
   go_enter Tryz.func108, Tryz.ntmps108
   go_wp2_with fail
   refine (HK.out).mono ?_
   rintro e w' ⟨rfl, rfl⟩
   have M1 := HM.out.set hk (Nat.le_refl _) (Nat.le_refl _) 9 (.int .u64 (s.M 8)) (by simp [flCs])
   have HM1 := Lib.hid M1
   have r9 := M1.t.c 9 _ rfl
   obtain ⟨w1, hw1⟩ : ∃ w1, w1 = w.setCell ⟨X, 9, none⟩ (.int .u64 (s.M 8)) := ⟨_, rfl⟩
   have HW1 := Lib.hid hw1
   clear M1 HK hw1
   go_wp2_with fail
   refine (c_Flush (s.M 8) d _ hb.1 (by omega) d0 d1).mono ?_
   rintro e w2 ⟨rfl, hb2⟩
   rw [← HW1.out] at HM1 hb2
   have HM2 := Lib.hid (HM1.out.below hb2)
   clear p0 q9 f9 r9 hb2
   have p0 := HM2.out.p.wo.c0
   have q9 := HM2.out.t.c 9 _ rfl
   have q1 := HM2.out.t.c 1 _ rfl
   have f1 := HM2.out.t.f 1
   have q10 := HM2.out.t.c 10 _ rfl
   have f10 := HM2.out.t.f 10
   have hpl := HM2.out.p.wo.lt
   have hxl := HM2.out.t.lt
   rw [HOK.out]
   have HA := Lib.hid (c_Load (w := w2) 8 (HM2.out.p.ce) (by decide) (by decide) n0 n1)
   go_wp2_with fail
   refine (HA.out).mono ?_
   intro e w3 hp
   obtain ⟨rfl, O3, E3, P3⟩ := PW.rp_cells HM2.out.p HM2.out.e.hi hp
   have M3 := HM2.out.world hk E3 P3
   have HM3 := Lib.hid M3
   clear hp E3 P3 M3 p0 q9 q1 f1 q10 f10
   have q1 := HM3.out.t.c 1 _ rfl
   have f1 := HM3.out.t.f 1
   have M4 := HM3.out.set hk (Nat.le_refl _) (Nat.le_refl _) 1 (.int .u8 5) (by simp [flCs])
   have HM4 := Lib.hid M4
   have HK := Lib.hid (c_WSteps _ _ _ _ _ M4.p)
   have q10 := M4.t.c 10 _ rfl
   have f10 := M4.t.f 10
   clear M4
   go_wp2_with fail
   refine (HK.out).mono ?_
   rintro e w' ⟨rfl, rfl⟩
   go_wp2
   go_end0
   exact (HM4.out.set hk (Nat.le_refl _) (Nat.le_refl _) 10 (.int .i64 (s.n + 1)) (by simp [flCs])).rp
structure FAt (w : World) (O : Om) (k : Nat) (b : FB) (t : Nat) (d : Int) (y : Flm) : Prop where
 x : Ob w O k b.X (flCs (flV b y.ln) y.an y.ep y.pt)
 r : FR w O k b t d y.tk (if y.ln = 0 then 0 else 1)
def flStep (t : Nat) (d : Int) (s : AW) (y : Flm) : AW × Flm :=
 if y.ln = 1 then ((tkStep t s y.tk).1, ⟨if (tkStep t s y.tk).2.ln = 0 then 2 else 1, (tkStep t s y.tk).2, y.an, y.ep, y.pt⟩)
 else if y.ln = 2 then (awFlush d s, ⟨3, y.tk, anFlush (s.M 8), s.M 8, s.n + 1⟩)
 else if y.ln = 3 then (awGive s, ⟨0, y.tk, y.an, y.ep, y.pt⟩)
 else (s, y)
def FPost (w : World) (O : Om) (B : Wb) (f : Cf) (k : Nat) (b : FB) (t : Nat) (d : Int) (z : AW × Flm) (v : Value) (e : Ending) (w' : World) : Prop :=
 RP (SX k (k + 3)) w O v (fun W G => PW W G B f z.1 ∧ FAt W G k b t d z.2) e w'
section
variable {w : World} {O : Om} {B : Wb} {f : Cf} {s : AW} {k t : Nat} {b : FB} {d : Int}
theorem c_takes (tk : Tkm) (an ep pt : Int) (hP : PW w O B f s) (hX : FAt w O k b t d ⟨1, tk, an, ep, pt⟩) (hx : tk.ln = 1 ∨ tk.ln = 2) (hk : 10 ≤ k) (ht : t < 64) (hhi : ∀ j, O j ≠ 0 → j < w.heap.size) (n0 : 0 ≤ s.n) (n1 : s.n ≤ 4611686018427387904) :
 Calls Tryz.prog 105 #[.pointer (some ⟨B.p, 0, none⟩), .pointer (some ⟨b.bt, 0, none⟩), .pointer (some ⟨b.bx, 0, none⟩), .pointer (some ⟨b.bd, 0, none⟩), .pointer (some ⟨b.be, 0, none⟩)] w
  (FPost w O B f k b t d (flStep t d s ⟨1, tk, an, ep, pt⟩) (.tuple #[])) := by
 have HC := Lib.hid (c_TakeStep w O B f s (k + 1) b.T t tk hP hX.r.tk hx (by omega) ht hhi n0 n1)
 have HX := Lib.hid hX
 have HH := Lib.hid hhi
 have qt := hX.r.kt.c 0 _ rfl
 have hst : flStep t d s ⟨1, tk, an, ep, pt⟩ = ((tkStep t s tk).1, ⟨if (tkStep t s tk).2.ln = 0 then 2 else 1, (tkStep t s tk).2, an, ep, pt⟩) := by unfold flStep; rw [if_pos rfl]
 rw [hst]
 obtain ⟨z, hz⟩ : ∃ z, z = tkStep t s tk := ⟨_, rfl⟩
 rw [← hz] at HC ⊢
 clear hP hX hhi hst hz
 obtain ⟨s1, x1⟩ := z
 by_cases h0 : x1.ln = 0
 · dsimp only at HC ⊢
   rw [if_pos h0]
   have hd : decide (x1.ln = 0) = true := by simp [h0]
   rw [hd] at HC
   have H0 := Lib.hid h0
   clear hd h0
   go_enter Tryz.func105, Tryz.ntmps105
   go_wp2_with fail
   refine (HC.out).mono ?_
   rintro e w1 ⟨rfl, O1, E1, P1, T1⟩
   have X1 := HX.out.x.ext E1 (SX.not (by omega) (by omega))
   have M1 : Me k (k + 3) w O w1 O1 B f s1 k b.X _ := ⟨E1.mono fun t _ h => SX.mono (by omega) (by omega) h, P1, X1⟩
   have R1 : FR w1 O1 k b t d x1 1 := ⟨T1, HX.out.r.gv.ext E1 (SX.not (by omega) (by omega)), HX.out.r.kx.ext E1 (SX.not (by omega) (by omega)), HX.out.r.kd.ext E1 (SX.not (by omega) (by omega)), HX.out.r.kt.ext E1 (SX.not (by omega) (by omega)), HX.out.r.kg.ext E1 (SX.not (by omega) (by omega)), HX.out.r.ke.ext E1 (SX.not (by omega) (by omega))⟩
   have qx := R1.kx.c 0 _ rfl
   have q0 := M1.t.c 0 _ rfl
   have f0 := M1.t.f 0
   have HM := Lib.hid M1
   have HR := Lib.hid R1
   clear E1 P1 T1 X1 M1 R1 qt
   go_wp2
   go_end0
   have M2 := HM.out.set hk (Nat.le_refl _) (by omega) 0 (FLUSHV b) (by simp [flCs])
   exact ⟨rfl, O1, M2.e, M2.p, M2.t, HR.out.ext (ext_set HM.out.e.hi HM.out.t hk) (by omega) (by omega) (by omega)⟩
 · dsimp only at HC ⊢
   rw [if_neg h0]
   have hd : decide (x1.ln = 0) = false := by simp [h0]
   rw [hd] at HC
   clear hd h0
   go_enter Tryz.func105, Tryz.ntmps105
   go_wp2_with fail
   refine (HC.out).mono ?_
   rintro e w1 ⟨rfl, O1, E1, P1, T1⟩
   have X1 := HX.out.x.ext E1 (SX.not (by omega) (by omega))
   have M1 : Me k (k + 3) w O w1 O1 B f s1 k b.X _ := ⟨E1.mono fun t _ h => SX.mono (by omega) (by omega) h, P1, X1⟩
   have R1 : FR w1 O1 k b t d x1 1 := ⟨T1, HX.out.r.gv.ext E1 (SX.not (by omega) (by omega)), HX.out.r.kx.ext E1 (SX.not (by omega) (by omega)), HX.out.r.kd.ext E1 (SX.not (by omega) (by omega)), HX.out.r.kt.ext E1 (SX.not (by omega) (by omega)), HX.out.r.kg.ext E1 (SX.not (by omega) (by omega)), HX.out.r.ke.ext E1 (SX.not (by omega) (by omega))⟩
   have HM := Lib.hid M1
   have HR := Lib.hid R1
   clear E1 P1 T1 X1 M1 R1 qt
   go_wp2
   go_end0
   exact ⟨rfl, O1, HM.out.e, HM.out.p, HM.out.t, HR.out⟩
theorem c_flushes (tk : Tkm) (an ep pt : Int) (hP : PW w O B f s) (hX : FAt w O k b t d ⟨2, tk, an, ep, pt⟩) (hk : 10 ≤ k) (hhi : ∀ j, O j ≠ 0 → j < w.heap.size) (n0 : 0 ≤ s.n) (n1 : s.n ≤ 4611686018427387904) (d0 : -9223372036854775808 ≤ d) (d1 : d ≤ 9223372036854775807) :
 Calls Tryz.prog 107 #[.pointer (some ⟨B.p, 0, none⟩), .pointer (some ⟨b.bx, 0, none⟩), .pointer (some ⟨b.bd, 0, none⟩), .pointer (some ⟨b.be, 0, none⟩)] w
  (FPost w O B f k b t d (flStep t d s ⟨2, tk, an, ep, pt⟩) (.tuple #[])) := by
 have HC := Lib.hid (c_flush w O B f s k b.X d _ an ep pt hP hX.x hk hhi n0 n1 d0 d1)
 have HX := Lib.hid hX
 have qx := hX.r.kx.c 0 _ rfl
 have qd := hX.r.kd.c 0 _ rfl
 have hst : flStep t d s ⟨2, tk, an, ep, pt⟩ = (awFlush d s, ⟨3, tk, anFlush (s.M 8), s.M 8, s.n + 1⟩) := by unfold flStep; rw [if_neg (by simp), if_pos rfl]
 rw [hst]
 clear hP hX hhi hst
 go_enter Tryz.func107, Tryz.ntmps107
 go_wp2_with fail
 refine (HC.out).mono ?_
 rintro e w1 ⟨rfl, O1, E1, P1, X1⟩
 have M1 : Me k (k + 3) w O w1 O1 B f _ k b.X _ := ⟨E1.mono fun t _ h => SX.mono (by omega) (by omega) h, P1, X1⟩
 have R1 := HX.out.r.ext E1 (SX.not (by omega) (by omega)) (SX.not (by omega) (by omega)) (SX.not (by omega) (by omega))
 clear qx qd
 have qx := R1.kx.c 0 _ rfl
 have qe := R1.ke.c 0 _ rfl
 have q0 := M1.t.c 0 _ rfl
 have f0 := M1.t.f 0
 unfold ENDSV at qe
 have HM := Lib.hid M1
 have HR := Lib.hid R1
 clear E1 P1 X1 M1 R1 HC
 go_wp2
 go_end0
 have M2 := HM.out.set hk (Nat.le_refl _) (by omega) 0 (ENDSV b) (by simp [flCs])
 exact ⟨rfl, O1, M2.e, M2.p, M2.t, HR.out.ext (ext_set HM.out.e.hi HM.out.t hk) (by omega) (by omega) (by omega)⟩
theorem c_ends (tk : Tkm) (an ep pt : Int) (hP : PW w O B f s) (hX : FAt w O k b t d ⟨3, tk, an, ep, pt⟩) (hk : 10 ≤ k) (hhi : ∀ j, O j ≠ 0 → j < w.heap.size) (n0 : 0 ≤ s.n) (n1 : s.n ≤ 4611686018427387904) :
 Calls Tryz.prog 103 #[.pointer (some ⟨B.p, 0, none⟩), .pointer (some ⟨b.bg, 0, none⟩), .pointer (some ⟨b.bx, 0, none⟩)] w
  (FPost w O B f k b t d (flStep t d s ⟨3, tk, an, ep, pt⟩) (.tuple #[])) := by
 have HC := Lib.hid (c_GiveStep w O B f s (k + 2) b.G hP hX.r.gv (by omega) hhi n0 n1)
 have HX := Lib.hid hX
 have qg := hX.r.kg.c 0 _ rfl
 have hst : flStep t d s ⟨3, tk, an, ep, pt⟩ = (awGive s, ⟨0, tk, an, ep, pt⟩) := by unfold flStep; rw [if_neg (by simp), if_neg (by simp), if_pos rfl]
 rw [hst]
 clear hP hX hhi hst
 go_enter Tryz.func103, Tryz.ntmps103
 go_wp2_with fail
 refine (HC.out).mono ?_
 rintro e w1 ⟨rfl, O1, E1, P1, G1⟩
 have X1 := HX.out.x.ext E1 (SX.not (by omega) (by omega))
 have M1 : Me k (k + 3) w O w1 O1 B f _ k b.X _ := ⟨E1.mono fun t _ h => SX.mono (by omega) (by omega) h, P1, X1⟩
 have R1 : FR w1 O1 k b t d tk 0 := ⟨HX.out.r.tk.ext E1 (SX.not (by omega) (by omega)), G1, HX.out.r.kx.ext E1 (SX.not (by omega) (by omega)), HX.out.r.kd.ext E1 (SX.not (by omega) (by omega)), HX.out.r.kt.ext E1 (SX.not (by omega) (by omega)), HX.out.r.kg.ext E1 (SX.not (by omega) (by omega)), HX.out.r.ke.ext E1 (SX.not (by omega) (by omega))⟩
 clear qg
 have qx := R1.kx.c 0 _ rfl
 have q0 := M1.t.c 0 _ rfl
 have f0 := M1.t.f 0
 have HM := Lib.hid M1
 have HR := Lib.hid R1
 clear E1 P1 X1 G1 M1 R1 HC
 go_wp2
 go_end0
 have M2 := HM.out.set hk (Nat.le_refl _) (by omega) 0 .nilFunc (by simp [flCs])
 exact ⟨rfl, O1, M2.e, M2.p, M2.t, HR.out.ext (ext_set HM.out.e.hi HM.out.t hk) (by omega) (by omega) (by omega)⟩
theorem flV_some {b : FB} {ln : Nat} (h : ln = 1 ∨ ln = 2 ∨ ln = 3) : ∃ f a c, flV b ln = .func f a c := by
 rcases h with rfl | rfl | rfl
 · exact ⟨_, _, _, rfl⟩
 · exact ⟨_, _, _, rfl⟩
 · exact ⟨_, _, _, rfl⟩
theorem flOver (b : FB) {ln : Nat} (h : ln ≤ 3) : (flV b ln = .nilFunc ∧ decide (ln = 0) = true) ∨ (∃ f a c, flV b ln = .func f a c ∧ decide (ln = 0) = false) := by
 by_cases h0 : ln = 0
 · subst h0; exact .inl ⟨rfl, rfl⟩
 · obtain ⟨f, a, c, h1⟩ := flV_some (b := b) (show ln = 1 ∨ ln = 2 ∨ ln = 3 by omega)
   exact .inr ⟨f, a, c, h1, by simp [h0]⟩
def Flm.ok (y : Flm) : Prop := y.ln ≤ 3 ∧ (y.ln = 1 → y.tk.ln = 1 ∨ y.tk.ln = 2)
theorem tkStep_ln {t : Nat} {s : AW} {x : Tkm} (h : x.ln = 1 ∨ x.ln = 2) : (tkStep t s x).2.ln = 0 ∨ (tkStep t s x).2.ln = 2 := by
 unfold tkStep
 rcases h with h | h
 · rw [if_pos h]; exact .inr rfl
 · rw [if_neg (by omega), if_pos h]
   split
   · exact .inl rfl
   · exact .inr h
theorem flStep_ok {y : Flm} (h : y.ok) : (flStep t d s y).2.ok := by
 obtain ⟨h1, h2⟩ := h
 unfold flStep
 split
 · rename_i h3
   refine ⟨?_, ?_⟩
   · dsimp only; split <;> omega
   · dsimp only
     intro h4
     rcases tkStep_ln (t := t) (s := s) (h2 h3) with h5 | h5
     · rw [if_pos h5] at h4; omega
     · exact .inr h5
 · split
   · exact ⟨by show 3 ≤ 3; omega, fun h => by have h4 : (3 : Nat) = 1 := h; omega⟩
   · split
     · exact ⟨by show 0 ≤ 3; omega, fun h => by have h4 : (0 : Nat) = 1 := h; omega⟩
     · exact ⟨h1, h2⟩
theorem c_FStep (y : Flm) (hP : PW w O B f s) (hX : FAt w O k b t d y) (hy : y.ok) (hk : 10 ≤ k) (ht : t < 64) (hhi : ∀ j, O j ≠ 0 → j < w.heap.size) (n0 : 0 ≤ s.n) (n1 : s.n ≤ 4611686018427387904) (d0 : -9223372036854775808 ≤ d) (d1 : d ≤ 9223372036854775807) :
 Calls Tryz.prog 440 #[.pointer (some ⟨b.X, 0, none⟩), .pointer (some ⟨B.p, 0, none⟩)] w
  (FPost w O B f k b t d (flStep t d s y) (.bool (decide ((flStep t d s y).2.ln = 0)))) := by
 obtain ⟨ln, tk, an, ep, pt⟩ := y
 have h0 : w.cell? ⟨b.X, 0, none⟩ = some (flV b ln) := hX.x.c 0 _ rfl
 have hok2 := (flStep_ok (s := s) (t := t) (d := d) hy).1
 have h3 : ln ≤ 3 := hy.1
 by_cases hz : ln = 0
 · subst hz
   have hst : flStep t d s ⟨0, tk, an, ep, pt⟩ = (s, ⟨0, tk, an, ep, pt⟩) := rfl
   rw [hst]
   have h0 : w.cell? ⟨b.X, 0, none⟩ = some .nilFunc := h0
   have HP := Lib.hid hP
   have HX := Lib.hid hX
   have HH := Lib.hid hhi
   clear hP hX hhi hst hok2 hy
   go_enter Tryz.func440, Tryz.ntmps440
   go_wp2_with fail
   refine (c_FOver b.X _ _ h0 true (.inl ⟨rfl, rfl⟩)).mono ?_
   rintro e w' ⟨rfl, rfl⟩
   go_wp2_with fail
   refine (c_FOver b.X _ _ h0 true (.inl ⟨rfl, rfl⟩)).mono ?_
   rintro e w' ⟨rfl, rfl⟩
   go_wp2
   go_ret
   exact ⟨rfl, O, Ext.refl HH.out, HP.out, HX.out⟩
 · obtain ⟨z, hzz⟩ : ∃ z, z = flStep t d s ⟨ln, tk, an, ep, pt⟩ := ⟨_, rfl⟩
   have hcall : ∃ K caps, flV b ln = .func (.func K) #[] caps ∧ (∀ args W, (callFunc K args).run Tryz.prog W = .ok (.enter K args) W) ∧ Calls Tryz.prog K (#[.pointer (some ⟨B.p, 0, none⟩)] ++ caps) w (FPost w O B f k b t d z (.tuple #[])) := by
    rw [hzz]
    rcases (show ln = 1 ∨ ln = 2 ∨ ln = 3 by omega) with h | h | h
    · subst h
      exact ⟨_, _, rfl, run_enter Tryz.func105 (by kernel_rfl) (by kernel_rfl), c_takes tk an ep pt hP hX (hy.2 rfl) hk ht hhi n0 n1⟩
    · subst h
      exact ⟨_, _, rfl, run_enter Tryz.func107 (by kernel_rfl) (by kernel_rfl), c_flushes tk an ep pt hP hX hk hhi n0 n1 d0 d1⟩
    · subst h
      exact ⟨_, _, rfl, run_enter Tryz.func103 (by kernel_rfl) (by kernel_rfl), c_ends tk an ep pt hP hX hk hhi n0 n1⟩
   rw [← hzz] at hok2 ⊢
   obtain ⟨K, caps, hv, hK, HC⟩ := hcall
   rw [hv] at h0
   have HCC := Lib.hid HC
   have Hok := Lib.hid hok2
   clear hP hX hhi hy hzz HC hv hok2
   go_enter Tryz.func440, Tryz.ntmps440
   go_wp2_with fail
   refine (c_FOver b.X _ _ h0 false (.inr ⟨_, _, _, rfl, rfl⟩)).mono ?_
   rintro e w' ⟨rfl, rfl⟩
   go_wp2_with fail
   refine (HCC.out).mono ?_
   rintro e w1 ⟨rfl, O1, E1, P1, X1⟩
   have r0 : w1.cell? ⟨b.X, 0, none⟩ = some (flV b z.2.ln) := X1.x.c 0 _ rfl
   have HE := Lib.hid (And.intro E1 (And.intro P1 X1))
   clear E1 P1 X1 h0 HCC
   go_wp2_with fail
   refine (c_FOver b.X _ _ r0 _ (flOver b Hok.out)).mono ?_
   rintro e w' ⟨rfl, rfl⟩
   go_wp2
   go_ret
   exact ⟨rfl, O1, HE.out⟩
end
end
section
open Go.RowKit
def flNew : Flm := ⟨1, ⟨1, 0, false⟩, 0, 0, 0⟩
theorem Ob.alloc {O : Om} {w : World} {g b g2 : Nat} {cs : List Value} (h : Ob w O g b cs) (o : Obj) : Ob (w.alloc o) (newOwn O w.heap.size (w.heap.size + 1) g2) g b cs :=
 ⟨by unfold newOwn; rw [if_neg (by have := h.lt; omega)]; exact h.o, by have := h.lt; simp; omega, fun j u hu => (((Below.refl w.heap.size w).alloc (Nat.le_refl _) o).cell (p := ⟨b, j, none⟩) h.lt).trans (h.c j u hu), fun j => (((Below.refl w.heap.size w).alloc (Nat.le_refl _) o).frozen (p := ⟨b, j, none⟩) h.lt).trans (h.f j)⟩
theorem alloc_ob {O : Om} {w : World} (hhi : ∀ j, O j ≠ 0 → j < w.heap.size) (g : Nat) (cs : Array Value) (ty : TypeId) (n : Nat) (hn : n = w.heap.size) :
 ∃ O', Ext (fun j => j = g) O w O' (w.alloc (.cells cs ty)) ∧ Ob (w.alloc (.cells cs ty)) O' g n cs.toList ∧ ∀ g' b' ds, Ob w O g' b' ds → Ob (w.alloc (.cells cs ty)) O' g' b' ds := by
 subst hn
 exact ⟨_, Ext.alloc (S := fun j => j = g) (g := g) hhi rfl (.cells cs ty), Ob.new w O g cs ty, fun g' b' ds h => h.alloc _⟩
theorem c_NewFlush (w : World) (O : Om) (k t : Nat) (d : Int) (hk : 10 ≤ k) (ht : t < 64) (hhi : ∀ j, O j ≠ 0 → j < w.heap.size) :
 Calls Tryz.prog 54 #[.int .i64 t, .int .i64 d] w fun e w' => ∃ b, RP (fun j => k ≤ j ∧ j ≤ k + 3) w O (.pointer (some ⟨b.X, 0, none⟩)) (fun W G => FAt W G k b t d flNew) e w' := by
 obtain ⟨O1, e1, d1, -⟩ := alloc_ob hhi (k + 3) #[.int .i64 d] 2 _ rfl
 obtain ⟨O2, e2, x2, k2⟩ := alloc_ob e1.hi k (flCs .nilFunc 0 0 0).toArray 218 (w.heap.size + 1) (by simp)
 obtain ⟨O3, e3, b3, k3⟩ := alloc_ob e2.hi (k + 3) #[.pointer (some ⟨w.heap.size + 1, 0, none⟩)] 136 (w.heap.size + 1 + 1) (by simp)
 have E3 : Hid (Ext (fun j => k ≤ j ∧ j ≤ k + 3) O w O3 _) := Lib.hid (((e1.mono fun t _ h => by omega).trans (e2.mono fun t _ h => by omega)).trans (e3.mono fun t _ h => by omega))
 have D3 := Lib.hid (k3 _ _ _ (k2 _ _ _ d1))
 have X3 := Lib.hid (k3 _ _ _ x2)
 have B3 := Lib.hid b3
 clear e1 d1 e2 x2 k2 e3 b3 k3
 go_enter Tryz.func54, Tryz.ntmps54
 go_wp2_with fail
 refine (c_NewTakeE t _ O3 (k + 1) (by omega) (by omega) (by omega) E3.out.hi).mono ?_
 rintro e w4 ⟨T, rfl, O4, e4, t4⟩
 obtain ⟨O5, e5, b5, k5⟩ := alloc_ob e4.hi (k + 3) #[.pointer (some ⟨T, 0, none⟩)] 150 w4.heap.size rfl
 have E5 : Hid (Ext (fun j => k ≤ j ∧ j ≤ k + 3) O w O5 _) := Lib.hid ((E3.out.trans (e4.mono fun t _ h => by omega)).trans (e5.mono fun t _ h => by omega))
 have D5 := Lib.hid (k5 _ _ _ (D3.out.ext e4 (by omega)))
 have X5 := Lib.hid (k5 _ _ _ (X3.out.ext e4 (by omega)))
 have B5 := Lib.hid (k5 _ _ _ (B3.out.ext e4 (by omega)))
 have T5 := Lib.hid (k5 _ _ _ t4)
 have C5 := Lib.hid b5
 have q5 := T5.out.c 3 _ rfl
 clear e4 t4 e5 b5 k5 E3 D3 X3 B3
 go_wp2_with fail
 refine (c_TakeOver T _ _ q5 false (.inr ⟨_, _, _, rfl, rfl⟩)).mono ?_
 rintro e w' ⟨rfl, rfl⟩
 clear q5
 go_wp2_with fail
 refine (c_NewGiveE _ O5 (k + 2) (by omega) E5.out.hi).mono ?_
 rintro e w6 ⟨G, rfl, O6, e6, g6⟩
 obtain ⟨O7, e7, b7, k7⟩ := alloc_ob e6.hi (k + 3) #[.pointer (some ⟨G, 0, none⟩)] 219 w6.heap.size rfl
 obtain ⟨O8, e8, b8, k8⟩ := alloc_ob e7.hi (k + 3) #[.func (.func 103) #[] #[.pointer (some ⟨w6.heap.size, 0, none⟩), .pointer (some ⟨w.heap.size + 1 + 1, 0, none⟩)]] 71 (w6.heap.size + 1) (by simp)
 have D8 := k8 _ _ _ (k7 _ _ _ (D5.out.ext e6 (by omega)))
 have X8 := k8 _ _ _ (k7 _ _ _ (X5.out.ext e6 (by omega)))
 have B8 := k8 _ _ _ (k7 _ _ _ (B5.out.ext e6 (by omega)))
 have T8 := k8 _ _ _ (k7 _ _ _ (T5.out.ext e6 (by omega)))
 have C8 := k8 _ _ _ (k7 _ _ _ (C5.out.ext e6 (by omega)))
 have G8 := k8 _ _ _ (k7 _ _ _ g6)
 have H8 := k8 _ _ _ b7
 have E8 : Ext (fun j => k ≤ j ∧ j ≤ k + 3) O w O8 _ := ((E5.out.trans (e6.mono fun t _ h => by omega)).trans (e7.mono fun t _ h => by omega)).trans (e8.mono fun t _ h => by omega)
 have q0 := X8.c 0 _ rfl
 have f0 := X8.f 0
 have qb := B8.c 0 _ rfl
 have Q := Lib.hid (And.intro E8 (And.intro (FR.mk (b := ⟨w.heap.size + 1, T, G, w.heap.size + 1 + 1, w.heap.size, w4.heap.size, w6.heap.size, w6.heap.size + 1⟩) (x := ⟨1, 0, false⟩) T8 G8 B8 D8 C8 H8 b8) X8))
 clear e6 g6 e7 b7 k7 e8 b8 k8 D8 X8 B8 T8 C8 G8 H8 E8 E5 D5 X5 B5 T5 C5
 go_wp2
 go_ret
 obtain ⟨E8, R8, X8⟩ := Q.out
 have s8 := ext_set (j := 0) (v := TAKESV ⟨w.heap.size + 1, T, G, w.heap.size + 1 + 1, w.heap.size, w4.heap.size, w6.heap.size, w6.heap.size + 1⟩) E8.hi X8 hk
 exact ⟨⟨w.heap.size + 1, T, G, w.heap.size + 1 + 1, w.heap.size, w4.heap.size, w6.heap.size, w6.heap.size + 1⟩, rfl, O8, E8.trans (s8.mono fun t _ h => by omega), X8.set 0 _ (by simp [flCs]), R8.ext s8 (by omega) (by omega) (by omega)⟩
def anV (an : Int) : Value := .agg #[.int .u8 an, .int .u64 0, .string ⟨#[]⟩, .string ⟨#[]⟩, .int .u32 0, .int .u64 0, .int .i64 0, .int .i64 0]
theorem c_FGot (w : World) (O : Om) (k X : Nat) (an ep pt : Int) (hX : Ob w O k X (flCs .nilFunc an ep pt)) :
 Calls Tryz.prog 55 #[.pointer (some ⟨X, 0, none⟩)] w fun e w' => e = .returned (.tuple #[anV an, .int .u64 ep, .int .i64 pt]) ∧ Below w.heap.size w w' := by
 have q0 := hX.c 0 _ rfl
 have q1 := hX.c 1 _ rfl
 have q2 := hX.c 2 _ rfl
 have q3 := hX.c 3 _ rfl
 have q4 := hX.c 4 _ rfl
 have q5 := hX.c 5 _ rfl
 have q6 := hX.c 6 _ rfl
 have q7 := hX.c 7 _ rfl
 have q8 := hX.c 8 _ rfl
 have q9 := hX.c 9 _ rfl
 have q10 := hX.c 10 _ rfl
 have hl := hX.lt
 clear hX
 go_enter Tryz.func55, Tryz.ntmps55
 go_wp2_with fail
 go_region
 all_goals
  go_wp2
  exact bodyPost_ret (v := .tuple #[anV an, .int .u64 ep, .int .i64 pt]) (by simp [results, Tryz.results55, go_sem, anV]) rfl ⟨rfl, by first | exact ((Below.refl _ _).alloc (Nat.le_refl _) _).drew | exact (((Below.refl _ _).alloc (Nat.le_refl _) _).setCell (by simp) _).drew⟩
end
section
open Go.RowKit
def u64s (l : List Int) : List Value := l.map (Value.int .u64)
structure MkAt (W : World) (G : Om) (k X : Nat) (l : List Int) : Prop where
 ex : ∃ (A off : Nat) (full : List Int), Ob W G k X [.slice (some ⟨A, off, none⟩) l.length l.length] ∧ Ob W G (k + 1) A (u64s full) ∧ (l = [] ∨ full.drop off = l)
theorem MkAt.ext {S : Nat → Prop} {O O' : Om} {w w' : World} {k X : Nat} {l : List Int} (h : MkAt w O k X l) (e : Ext S O w O' w') (h1 : ¬ S k) (h2 : ¬ S (k + 1)) : MkAt w' O' k X l := by
 obtain ⟨A, off, full, a, b, c⟩ := h.ex
 exact ⟨A, off, full, a.ext e h1, b.ext e h2, c⟩
theorem MkAt.below {O : Om} {w w' : World} {k X : Nat} {l : List Int} (h : MkAt w O k X l) (hb : Below w.heap.size w w') : MkAt w' O k X l := by
 obtain ⟨A, off, full, a, b, c⟩ := h.ex
 exact ⟨A, off, full, a.below hb, b.below hb, c⟩
theorem MkAt.cell {O : Om} {w : World} {k X : Nat} {l : List Int} (h : MkAt w O k X l) : ∃ A off, w.cell? ⟨X, 0, none⟩ = some (.slice (some ⟨A, off, none⟩) l.length l.length) := by
 obtain ⟨A, off, full, a, b, c⟩ := h.ex
 exact ⟨A, off, a.c 0 _ rfl⟩
theorem c_MkOver {X : Nat} {ao : Option Addr} {n c : Nat} {w : World} (h : w.cell? ⟨X, 0, none⟩ = some (.slice ao n c)) : Calls Tryz.prog 350 #[.pointer (some ⟨X, 0, none⟩)] w fun e w' => e = .returned (.bool (n == 0)) ∧ w = w' := by
 go_enter Tryz.func350, Tryz.ntmps350
 go_wp2
 go_ret
 exact ⟨ret_bool (by rw [Bool.eq_iff_iff]; simp), rfl⟩
theorem c_LoadP (a : Int) {w : World} {O : Om} {B : Wb} {f : Cf} {s : AW} (hP : PW w O B f s) (hhi : ∀ j, O j ≠ 0 → j < w.heap.size) (a0 : 0 ≤ a) (a1 : a < 18446744073709551616) (n0 : 0 ≤ s.n) (n1 : s.n ≤ 4611686018427387904) :
 Calls Tryz.prog 172 #[.pointer (some ⟨B.c, 0, none⟩), .int .u64 a] w (RP SW w O (.int .u64 (s.M a)) fun W G => PW W G B f (awLoad a s)) := by
 refine (c_Load a hP.ce a0 a1 n0 n1).mono fun e w' hp => ?_
 exact hP.rp_cells hhi hp
theorem c_AddP (a v : Int) {w : World} {O : Om} {B : Wb} {f : Cf} {s : AW} (hP : PW w O B f s) (hhi : ∀ j, O j ≠ 0 → j < w.heap.size) (a0 : 0 ≤ a) (a1 : a < 18446744073709551616) (v0 : 0 ≤ v) (v1 : v < 18446744073709551616) (n0 : 0 ≤ s.n) (n1 : s.n ≤ 4611686018427387904) :
 Calls Tryz.prog 170 #[.pointer (some ⟨B.c, 0, none⟩), .int .u64 a, .int .u64 v] w (RP SW w O (.int .u64 (s.M a)) fun W G => PW W G B f (awAdd a v s)) := by
 refine (c_Add a v hP.ce a0 a1 v0 v1 n0 n1).mono fun e w' hp => ?_
 exact hP.rp_cells hhi hp
theorem c_MkStep {X : Nat} (a : Int) (l : List Int) {w : World} {O : Om} {B : Wb} {f : Cf} {s : AW} (k : Nat) (hP : PW w O B f s) (hX : MkAt w O k X (a :: l)) (hl : l.length ≤ 5) (hk : 10 ≤ k) (hhi : ∀ j, O j ≠ 0 → j < w.heap.size) (a0 : 0 ≤ a) (a1 : a < 18446744073709551616) (n0 : 0 ≤ s.n) (n1 : s.n ≤ 4611686018427387904) :
 Calls Tryz.prog 341 #[.pointer (some ⟨X, 0, none⟩), .pointer (some ⟨B.p, 0, none⟩)] w (RP (SX k k) w O (.bool (l.length == 0)) fun W G => PW W G B f (awAdd a 1 s) ∧ MkAt W G k X l) := by
 obtain ⟨A, off, full, hx, ha, hd⟩ := hX.ex
 have hd : full.drop off = a :: l := by rcases hd with hd | hd; exact absurd hd (by simp); exact hd
 have HM : Hid (Me k k w O w O B f s k X [.slice (some ⟨A, off, none⟩) (l.length + 1) (l.length + 1)]) := Lib.hid (Me.start hhi hP hx)
 have xx := hx.c 0 _ rfl
 have p0 := hP.wo.c0
 have hfo : full[off]? = some a := by
  have := congrArg (fun z : List Int => z[0]?) hd
  simpa using this
 have hfu : (u64s full)[off]? = some (.int .u64 a) := by unfold u64s; rw [List.getElem?_map, hfo]; rfl
 have q0 : w.cell? ⟨A, off, none⟩ = some (.int .u64 a) := ha.c off _ hfu
 have HFU := Lib.hid hfu
 have hd2 : full.drop (off + 1) = l := by
  have := congrArg List.tail hd
  simpa using this
 have HD := Lib.hid (And.intro ha hd2)
 have HA := Lib.hid (fun (W : World) (hW : Below w.heap.size w W) => c_AddP a 1 (w := W) (hP.below hhi hW) (fun j hj => Nat.lt_of_lt_of_le (hhi j hj) hW.size) a0 a1 (by decide) (by decide) n0 n1)
 obtain ⟨n, hn⟩ : ∃ n, n = l.length := ⟨_, rfl⟩
 rw [← hn] at hl HM ⊢
 have x0 : w.cell? ⟨X, 0, none⟩ = some (.slice (some ⟨A, off, none⟩) (n + 1) (n + 1)) := by rw [hn]; exact xx
 have HN := Lib.hid hn
 have e0 : (n + 1 == 0) = false := by simp
 clear hP hX hx ha hd hfo hd2 hhi hn xx hfu
 cases n with
 | zero =>
   go_enter Tryz.func341, Tryz.ntmps341
   go_wp2_with fail
   refine (c_MkOver x0).mono ?_
   rintro e w' ⟨rfl, rfl⟩
   rw [e0]
   go_wp2_with fail
   go_region_held3 (fun w' => w'.cell? ⟨B.p, 0, none⟩ = some (.pointer (some ⟨B.c, 0, none⟩)) ∧ w'.cell? ⟨X, 0, none⟩ = some (.slice (some ⟨A, off, none⟩) 1 1) ∧ w'.cell? ⟨A, off, none⟩ = some (.int .u64 a)) (go_keep)
    ((go_at_call 170
      refine (HA.out _ (drew_below _)).mono ?_
      rintro e w1 ⟨rfl, G1, e1, P1⟩
      have M1 := Lib.hid (HM.out.drew.world hk e1 P1)
      have hA1 := Lib.hid ((HD.out.1.below (drew_below w)).ext e1 (by unfold SW; omega))
      have p01 := M1.out.p.wo.c0
      have a01 := hA1.out.c off _ HFU.out
      have z0 := M1.out.t.c 0 _ rfl
      have zf := M1.out.t.f 0
      have M2 := Lib.hid (M1.out.set hk (Nat.le_refl _) (Nat.le_refl _) 0 (.slice (some ⟨A, off, none⟩) 0 0) (by simp))
      have HE := Lib.hid (ext_set (j := 0) (v := .slice (some ⟨A, off, none⟩) 0 0) M1.out.e.hi M1.out.t hk)
      clear e1 P1))
   all_goals
    clear x0 q0 p0 p01 a01
    go_wp2_with fail
    go_region
    all_goals
     have M3 := Lib.hid M2.out.drew
     have r0 := M3.out.t.c 0 _ rfl
     go_wp2_with fail
     refine (c_MkOver r0).mono ?_
     rintro e w' ⟨rfl, rfl⟩
     go_wp2_with fail
     go_ret
     exact ⟨rfl, _, M3.out.e, M3.out.p, ⟨A, off, full, by rw [← HN.out]; exact M3.out.t, (hA1.out.ext HE.out (by omega)).below (drew_below _), .inl (List.eq_nil_of_length_eq_zero HN.out.symm)⟩⟩
 | succ m =>
   have hi0 : (0 : Int) < (m : Int) + 1 + 1 := by omega
   have hi1 : (0 : Int) < ((m + 1 + 1 : Nat) : Int) := by omega
   have hi2 : (1 : Int) ≤ (m : Int) + 1 + 1 := by omega
   have hi3 : 0 < m + 1 + 1 := by omega
   go_enter Tryz.func341, Tryz.ntmps341
   go_wp2_with fail
   refine (c_MkOver x0).mono ?_
   rintro e w' ⟨rfl, rfl⟩
   rw [e0]
   go_wp2_with fail
   go_region_held3 (fun w' => w'.cell? ⟨B.p, 0, none⟩ = some (.pointer (some ⟨B.c, 0, none⟩)) ∧ w'.cell? ⟨X, 0, none⟩ = some (.slice (some ⟨A, off, none⟩) (m + 1 + 1) (m + 1 + 1)) ∧ w'.cell? ⟨A, off, none⟩ = some (.int .u64 a)) (go_keep)
    ((go_at_call 170
      refine (HA.out _ (drew_below _)).mono ?_
      rintro e w1 ⟨rfl, G1, e1, P1⟩
      have M1 := Lib.hid (HM.out.drew.world hk e1 P1)
      have hA1 := Lib.hid ((HD.out.1.below (drew_below w)).ext e1 (by unfold SW; omega))
      have p01 := M1.out.p.wo.c0
      have a01 := hA1.out.c off _ HFU.out
      have z0 := M1.out.t.c 0 _ rfl
      have zf := M1.out.t.f 0
      have M2 := Lib.hid (M1.out.set hk (Nat.le_refl _) (Nat.le_refl _) 0 (.slice (some ⟨A, off + 1, none⟩) (m + 1) (m + 1)) (by simp))
      have HE := Lib.hid (ext_set (j := 0) (v := .slice (some ⟨A, off + 1, none⟩) (m + 1) (m + 1)) M1.out.e.hi M1.out.t hk)
      clear e1 P1))
   all_goals
    clear x0 q0 p0 p01 a01
    go_wp2_with fail
    go_region
    all_goals
     have M3 := Lib.hid M2.out.drew
     have r0 := M3.out.t.c 0 _ rfl
     go_wp2_with fail
     refine (c_MkOver r0).mono ?_
     rintro e w' ⟨rfl, rfl⟩
     go_wp2_with fail
     go_ret
     exact ⟨rfl, _, M3.out.e, M3.out.p, ⟨A, off + 1, full, by rw [← HN.out]; exact M3.out.t, (hA1.out.ext HE.out (by omega)).below (drew_below _), .inr HD.out.2⟩⟩
theorem c_ContainsA0 (a : Int) (w : World) : Calls Tryz.prog 250 #[.slice none 0 0, .int .u64 a] w fun e w' => e = .returned (.bool false) ∧ w = w' := by
 have hI : Calls Tryz.prog 281 #[.slice none 0 0, .int .u64 a] w fun e w' => e = .returned (.int .i64 (-1)) ∧ w = w' := by
  go_enter Tryz.func281, Tryz.ntmps281
  go_wp2
  refine wp_loop_rounds 1 ?_
  rw [rounds_succ]
  go_wp2
  go_ret
  exact ⟨rfl, rfl⟩
 go_enter Tryz.func250, Tryz.ntmps250
 go_wp2_with (go_at_call 281; refine hI.mono ?_; rintro e w' ⟨rfl, rfl⟩)
 go_ret
 exact ⟨rfl, rfl⟩
theorem c_ClipA (a : Addr) (n c : Nat) (w : World) (hn : n ≤ c) (hc : c ≤ maxLen) :
 Calls Tryz.prog 251 #[.slice (some a) n c] w fun e w' => e = .returned (.slice (some a) n n) ∧ w = w' := by
 unfold maxLen at hc
 go_enter Tryz.func251, Tryz.ntmps251
 go_wp2
 go_ret
 exact ⟨rfl, rfl⟩
theorem infoAd : (Tryz.prog.info? 49).map (fun i => (i.zero, i.size, i.bytes)) = some (some (.int .u64 0), 1, 8) := by kernel_rfl
theorem Row.ob {w : World} {O : Om} {t : Nat} {E : TypeId} {g n cap : Nat} {xs : List Value} (h : Row w O t E 1 (.slice (some ⟨g, 0, none⟩) n cap) n xs) (hn : 0 < n) : Ob w O t g xs := by
 obtain ⟨b, o, c, he, -, -, hlt, hx⟩ := (Arr.of_own h.own).open hn (by decide)
 cases he
 exact ⟨h.vo g rfl, hlt, fun j u hu => by have := hx j u hu; rwa [Nat.zero_add] at this, h.own.frozenAt⟩
theorem c_Of1 (p : Spt) (hp : p.ok) {b o c : Nat} {w : World} {O : Om} (g : Nat) (hg : g ≠ 0) (hc : 1 ≤ c ∧ c ≤ maxLen) (hb : b < w.heap.size) (x0 : w.cell? ⟨b, o, none⟩ = some (.int .i64 p.b)) (x1 : w.cell? ⟨b, o + 1, none⟩ = some (.int .i64 p.q)) (hhi : ∀ j, O j ≠ 0 → j < w.heap.size) :
 Calls Tryz.prog 196 #[.slice (some ⟨b, o, none⟩) 1 c] w fun e w' => ∃ A, e = .returned (.slice (some ⟨A, 0, none⟩) 1 1) ∧ ∃ G, Ext (fun j => j = g) O w G w' ∧ Ob w' G g A [.int .u64 p.ver] := by
 obtain ⟨i0, hi, hz0, hz1, hz2⟩ := info_parts infoAd
 have HI := Lib.hid (And.intro hi (And.intro hz0 (And.intro hz1 hz2)))
 have hq := hp.q2
 have hv := hp.ver
 have HV := Lib.hid (fun W => c_Version p.b p.q W (by have := hp.b0; omega) (by have := hp.b1; omega) (by have := hp.q0; omega) (by omega))
 obtain ⟨ve, hve⟩ : ∃ ve, ve = p.ver := ⟨_, rfl⟩
 have hve2 : plVersion p.b p.q = ve := hve.symm
 rw [hve2] at HV
 rw [← hve] at hv ⊢
 obtain ⟨pb, hpb⟩ : ∃ z, z = p.b := ⟨_, rfl⟩
 obtain ⟨pq, hpq⟩ : ∃ z, z = p.q := ⟨_, rfl⟩
 rw [← hpb, ← hpq] at HV
 rw [← hpb] at x0
 rw [← hpq] at x1
 have dv : (ve != 0) = true := by simp; omega
 have HH := Lib.hid hhi
 clear hp hq hv hve hve2 hpb hpq hhi hi hz0 hz1 hz2
 go_enter Tryz.func196, Tryz.ntmps196
 go_wp2_with fail
 refine wp_loop_rounds 2 ?_
 rw [rounds_succ]
 go_wp2_with fail
 refine (HV.out _).mono ?_
 rintro e w1 ⟨rfl, hb1⟩
 have HB1 : Hid (Below w.heap.size w w1) := Lib.hid (by first | exact ((Below.refl _ _).alloc (Nat.le_refl _) _).trans (hb1.mono (by simp)) | exact hb1)
 have E1 := Lib.hid (Ext.of_below (S := fun j => j = g) HH.out HB1.out)
 clear hb1
 go_wp2_with fail
 refine (c_ContainsA0 _ _).mono ?_
 rintro e w' ⟨rfl, rfl⟩
 go_wp2_with (at_builtin; refine append_row w1 rfl _ _ 294 rfl 49 i0 (.int .u64 0) 1 8 Tryz.underlying294 HI.out.1 HI.out.2.1 HI.out.2.2.1 HI.out.2.2.2 rfl (by decide) (by decide) O g hg E1.out.hi (.slice none 0 0) 0 [] rfl (Row.nil _ _ _ _ _) [.int .u64 ve] _ rfl rfl (by simp [Value.oneCell']) (by omega) ?_; intro gg cap w2 G2 e2 r2; have HR2 := Lib.hid r2; have E2 := Lib.hid (E1.out.trans e2); clear e2 r2)
 rw [rounds_succ]
 go_wp2_with fail
 refine (c_ClipA _ _ _ _ (by obtain ⟨_, _, _, he, h1, h2, -⟩ := (Arr.of_own HR2.out.own).open (by decide) (by decide); cases he; exact h1) (by obtain ⟨_, _, _, he, h1, h2, -⟩ := (Arr.of_own HR2.out.own).open (by decide) (by decide); cases he; exact h2)).mono ?_
 rintro e w' ⟨rfl, rfl⟩
 go_wp2_with fail
 go_ret
 exact ⟨gg, rfl, G2, E2.out, HR2.out.ob (by decide)⟩
theorem c_NewMark1 (p : Spt) (hp : p.ok) {b o c : Nat} {w : World} {O : Om} (k : Nat) (hk : 10 ≤ k) (hc : 1 ≤ c ∧ c ≤ maxLen) (hb : b < w.heap.size) (x0 : w.cell? ⟨b, o, none⟩ = some (.int .i64 p.b)) (x1 : w.cell? ⟨b, o + 1, none⟩ = some (.int .i64 p.q)) (hhi : ∀ j, O j ≠ 0 → j < w.heap.size) :
 Calls Tryz.prog 135 #[.slice (some ⟨b, o, none⟩) 1 c] w fun e w' => ∃ X, RP (fun t => t = k ∨ t = k + 1) w O (.pointer (some ⟨X, 0, none⟩)) (fun W G => MkAt W G k X [p.ver]) e w' := by
 have HO := Lib.hid (c_Of1 p hp (k + 1) (by omega) hc hb x0 x1 hhi)
 clear hp hb x0 x1 hhi
 go_enter Tryz.func135, Tryz.ntmps135
 go_wp2_with fail
 refine HO.out.mono ?_
 rintro e w1 ⟨A, rfl, G1, e1, a1⟩
 obtain ⟨G2, e2, x2, k2⟩ := alloc_ob e1.hi k #[.slice (some ⟨A, 0, none⟩) 1 1] 297 w1.heap.size rfl
 have HE := Lib.hid (And.intro ((e1.mono (T := fun t => t = k ∨ t = k + 1) fun t _ h => .inr h).trans (e2.mono fun t _ h => .inl h)) (And.intro x2 (k2 _ _ _ a1)))
 clear e1 a1 e2 x2 k2
 go_wp2_with fail
 go_ret
 exact ⟨_, rfl, G2, HE.out.1, ⟨A, 0, [p.ver], HE.out.2.1, HE.out.2.2, .inr rfl⟩⟩
end
section
open Go.RowKit
theorem and255 (x : Int) (x0 : 0 ≤ x) (x1 : x < 18446744073709551616) : bits BinOp.and IntKind.u64 x 255 = x % 256 := by
 obtain ⟨a, rfl⟩ := Int.eq_ofNat_of_zero_le x0
 have h := u64_and_nat a 255 (by omega) (by decide)
 rw [show ((255 : Nat) : Int) = 255 by rfl] at h
 rw [h, show (255 : Nat) = 2 ^ 8 - 1 by rfl, Nat.and_two_pow_sub_one_eq_mod]
 omega
theorem c_TwParts (x : Int) (w : World) (x0 : 0 ≤ x) (x1 : x < 18446744073709551616) : Calls Tryz.prog 212 #[.int .u64 x] w fun e w' => e = .returned (.agg #[.int .i64 (twTag x 0), .int .i64 (twTag x 1), .int .i64 (twTag x 2), .int .i64 (twTag x 3)]) ∧ Below w.heap.size w w' := by
 rw [twTag0, twTag1, twTag2, twTag3]
 have a0 := and255 x x0 x1
 have a1 := and255 (x / 256) (by omega) (by omega)
 have a2 := and255 (x / 65536) (by omega) (by omega)
 have a3 := and255 (x / 16777216) (by omega) (by omega)
 have b0 : wrap64 (x % 256) = x % 256 := by unfold wrap64; omega
 have b1 : wrap64 (x / 256 % 256) = x / 256 % 256 := by unfold wrap64; omega
 have b2 : wrap64 (x / 65536 % 256) = x / 65536 % 256 := by unfold wrap64; omega
 have b3 : wrap64 (x / 16777216 % 256) = x / 16777216 % 256 := by unfold wrap64; omega
 go_enter Tryz.func212, Tryz.ntmps212
 go_wp2_with fail
 refine wp_loop_rounds 5 ?_
 rw [rounds_succ]
 go_wp2_with fail
 rw [rounds_succ]
 go_wp2_with fail
 rw [rounds_succ]
 go_wp2_with fail
 rw [rounds_succ]
 go_wp2_with fail
 rw [rounds_succ]
 go_wp2_with fail
 exact bodyPost_ret (v := .agg #[.int .i64 (x % 256), .int .i64 (x / 256 % 256), .int .i64 (x / 65536 % 256), .int .i64 (x / 16777216 % 256)]) (by simp [results, Tryz.results212, go_sem, a0, a1, a2, a3, b0, b1, b2, b3]) rfl ⟨rfl, (Below.refl _ _).alloc (Nat.le_refl _) _⟩
theorem c_twthere (k : Int) (w : World) (b : Bool) (hb : b = decide (0 ≤ k ∧ k < 4)) : Calls Tryz.prog 211 #[.int .i64 k] w fun e w' => e = .returned (.bool b) ∧ w = w' := by
 subst hb
 go_enter Tryz.func211, Tryz.ntmps211
 go_wp2
 all_goals
  go_ret
  exact ⟨ret_bool (by rw [Bool.eq_iff_iff]; simp; try omega), rfl⟩
theorem c_TwTag (x k : Int) (w : World) (x0 : 0 ≤ x) (x1 : x < 18446744073709551616) (k0 : 0 ≤ k) (k1 : k ≤ 3) : Calls Tryz.prog 152 #[.int .u64 x, .int .i64 k] w fun e w' => e = .returned (.int .i64 (twTag x k)) ∧ Below w.heap.size w w' := by
 have hk : k = 0 ∨ k = 1 ∨ k = 2 ∨ k = 3 := by omega
 have HP := Lib.hid (fun W => c_TwParts x W x0 x1)
 obtain ⟨t0, e0⟩ : ∃ t, t = twTag x 0 := ⟨_, rfl⟩
 obtain ⟨t1, e1⟩ : ∃ t, t = twTag x 1 := ⟨_, rfl⟩
 obtain ⟨t2, e2⟩ : ∃ t, t = twTag x 2 := ⟨_, rfl⟩
 obtain ⟨t3, e3⟩ : ∃ t, t = twTag x 3 := ⟨_, rfl⟩
 rw [← e0, ← e1, ← e2, ← e3] at HP
 have h0 : ∀ W, (Instr.index 310 (.agg #[.int .i64 t0, .int .i64 t1, .int .i64 t2, .int .i64 t3]) (.int .i64 0)).run Tryz.prog W = .ok (.int .i64 t0) W := fun W => by kernel_rfl
 have h1 : ∀ W, (Instr.index 310 (.agg #[.int .i64 t0, .int .i64 t1, .int .i64 t2, .int .i64 t3]) (.int .i64 1)).run Tryz.prog W = .ok (.int .i64 t1) W := fun W => by kernel_rfl
 have h2 : ∀ W, (Instr.index 310 (.agg #[.int .i64 t0, .int .i64 t1, .int .i64 t2, .int .i64 t3]) (.int .i64 2)).run Tryz.prog W = .ok (.int .i64 t2) W := fun W => by kernel_rfl
 have h3 : ∀ W, (Instr.index 310 (.agg #[.int .i64 t0, .int .i64 t1, .int .i64 t2, .int .i64 t3]) (.int .i64 3)).run Tryz.prog W = .ok (.int .i64 t3) W := fun W => by kernel_rfl
 have HE := Lib.hid (And.intro e0 (And.intro e1 (And.intro e2 e3)))
 clear e0 e1 e2 e3
 rcases hk with rfl | rfl | rfl | rfl
 all_goals
  go_enter Tryz.func152, Tryz.ntmps152
  go_wp2_with fail
  refine (c_twthere _ _ true (by decide)).mono ?_
  rintro e w' ⟨rfl, rfl⟩
  go_wp2_with fail
  refine (HP.out _).mono ?_
  rintro e w' ⟨rfl, hb⟩
  go_wp2_with fail
  go_ret
  exact ⟨ret_int (by first | exact HE.out.1 | exact HE.out.2.1 | exact HE.out.2.2.1 | exact HE.out.2.2.2), hb⟩
theorem c_TwWith (x s t : Int) (w : World) (x0 : 0 ≤ x) (x1 : x < 18446744073709551616) (s0 : 0 ≤ s) (s1 : s ≤ 3) (t0 : 0 ≤ t) (t1 : t ≤ 255) :
 Calls Tryz.prog 359 #[.int .u64 x, .int .i64 s, .int .i64 t] w fun e w' => e = .returned (.int .u64 (twWith x s t)) ∧ Below w.heap.size w w' := by
 have hs : s = 0 ∨ s = 1 ∨ s = 2 ∨ s = 3 := by omega
 have d0 : decide (t < 0) = false := by simp; omega
 have d1 : decide (255 < t) = false := by simp; omega
 have hw : twWith x s t = x - twTag x s * twUnit s + t * twUnit s := by unfold twWith; rw [if_pos ⟨s0, s1, t0, t1⟩]
 have HW := Lib.hid hw
 have wt : IntKind.u64.wrap t = t := by rw [IntKind.wrap_u64]; omega
 clear hw
 have b0 := with_bits x t 0 (by decide) x0 x1 t0 t1
 have b1 := with_bits x t 8 (by decide) x0 x1 t0 t1
 have b2 := with_bits x t 16 (by decide) x0 x1 t0 t1
 have b3 := with_bits x t 24 (by decide) x0 x1 t0 t1
 have HB := Lib.hid (And.intro b0 (And.intro b1 (And.intro b2 b3)))
 clear b0 b1 b2 b3
 rcases hs with rfl | rfl | rfl | rfl
 all_goals
  go_enter Tryz.func359, Tryz.ntmps359
  go_wp2_with fail
  refine (c_twthere _ _ true (by decide)).mono ?_
  rintro e w' ⟨rfl, rfl⟩
  go_wp2_with fail
  go_quiet (fail)
  go_wp2_with fail
  go_ret
  refine ⟨ret_int ?_, ⟨rfl, rfl, rfl, Nat.le_refl _, fun _ _ => rfl⟩⟩
  rw [HW.out]
  have := HB.out
  simp [twTag, twUnit, IntKind.wrap_u64] at this ⊢
  first | exact this.1 | exact this.2.1 | exact this.2.2.1 | exact this.2.2.2
end
section
open Go.RowKit Go.Shelf
theorem blk_lt {w : World} {a : Addr} {u : Value} (h : w.cell? a = some u) : a.block < w.heap.size := by
 unfold World.cell? at h
 split at h
 · rename_i he; exact (Array.getElem?_eq_some_iff.1 he).1
 · cases h
theorem below_setCell' {a w : World} {B : Nat} (h : Below B a w) {b : Nat} (hb : B ≤ b) (o : Nat) (u : Value) : Below B a (w.setCell ⟨b, o, none⟩ u) := h.setCell (p := ⟨b, o, none⟩) hb u
def slCs (p : Spt) (o : Otm) : List Value := [.int .u64 p.tags, .int .u64 p.item, .int .i64 p.s, .int .u64 o.w, .int .i64 o.ln]
def OUTSV : Value := .agg #[.func (.func 354) #[] #[], .func (.func 355) #[] #[], .func (.func 356) #[] #[]]
theorem c_outs (w : World) : Calls Tryz.prog 352 #[] w fun e w' => e = .returned OUTSV ∧ Below w.heap.size w w' := by
 go_enter Tryz.func352, Tryz.ntmps352
 go_wp2
 exact bodyPost_ret (v := OUTSV) (by simp [results, Tryz.results352, go_sem, OUTSV]) rfl ⟨rfl, (Below.refl _ _).alloc (Nat.le_refl _) _⟩
theorem c_OutOver {U : Nat} {w : World} (a : Int) (n : Nat) (h0 : w.cell? ⟨U, 0, none⟩ = some (.int .u64 a)) (h4 : w.cell? ⟨U, 4, none⟩ = some (.int .i64 n)) (ha : a ≠ 0) (hn : n ≤ 3) :
 Calls Tryz.prog 351 #[.pointer (some ⟨U, 0, none⟩)] w fun e w' => e = .returned (.bool (n == 3)) ∧ Below w.heap.size w w' := by
 have hU := blk_lt h0
 dsimp only at hU
 have d0 : (a == 0) = false := by simp [ha]
 have d3 : ((n : Int) == 3) = (n == 3) := by rw [Bool.eq_iff_iff]; simp; omega
 clear ha
 go_enter Tryz.func351, Tryz.ntmps351
 go_wp2_with fail
 refine wp_region_via (by kernel_rfl) (by kernel_rfl) ?_
 repeat (go_big_quiet_step ((first
  | (go_at_call 352; exact viaB (c_outs _)))))
 refine wpQuiet_nil ?_
 rintro _ ⟨e, rfl⟩
 go_wp2_with fail
 go_ret
 exact ⟨ret_bool (by first | exact d3 | rfl), via_below _ _⟩
section
variable {U : Nat} {w : World} {O : Om} {B : Wb} {f : Cf} {s : AW} {k : Nat}
theorem c_slLoad (cs : List Value) (a : Int) (hP : PW w O B f s) (hU : Ob w O k U cs) (hc : cs[0]? = some (.int .u64 a)) (h3 : ∃ v, cs[3]? = some v) (hk : 10 ≤ k) (hhi : ∀ j, O j ≠ 0 → j < w.heap.size) (a0 : 0 ≤ a) (a1 : a < 18446744073709551616) (n0 : 0 ≤ s.n) (n1 : s.n ≤ 4611686018427387904) :
 Calls Tryz.prog 357 #[.pointer (some ⟨U, 0, none⟩), .pointer (some ⟨B.p, 0, none⟩)] w (RP (SX k k) w O (.tuple #[]) fun W G => PW W G B f (awLoad a s) ∧ Ob W G k U (cs.set 3 (.int .u64 (s.M a)))) := by
 have HM : Hid (Me k k w O w O B f s k U cs) := Lib.hid (Me.start hhi hP hU)
 have p0 := hP.wo.c0
 have x0 := hU.c 0 _ hc
 obtain ⟨v3, h3⟩ := h3
 have H3 := Lib.hid h3
 have HC := Lib.hid hc
 have hl3 : 3 < cs.length := (List.getElem?_eq_some_iff.1 h3).1
 clear hP hU hhi hc h3
 go_enter Tryz.func357, Tryz.ntmps357
 go_wp2_with fail
 go_region_held3 (fun w' => w'.cell? ⟨B.p, 0, none⟩ = some (.pointer (some ⟨B.c, 0, none⟩)) ∧ w'.cell? ⟨U, 0, none⟩ = some (.int .u64 a)) (go_keep)
  ((go_at_call 172
    refine (c_LoadP a (w := w.drew) HM.out.drew.p HM.out.drew.e.hi a0 a1 n0 n1).mono ?_
    rintro e w1 ⟨rfl, G1, e1, P1⟩
    have M1 := Lib.hid (HM.out.drew.world hk e1 P1)
    have p01 := M1.out.p.wo.c0
    have x01 := M1.out.t.c 0 _ HC.out
    have z3 := M1.out.t.c 3 _ H3.out
    have zf := M1.out.t.f 3
    have M2 := Lib.hid (M1.out.set hk (Nat.le_refl _) (Nat.le_refl _) 3 (.int .u64 (s.M a)) hl3)
    have p02 := M2.out.p.wo.c0
    have x02 := M2.out.t.c 0 _ (by rw [List.getElem?_set_ne (by decide)]; exact HC.out)
    clear e1 P1))
 all_goals
  go_wp2_with fail
  go_end0
  exact M2.out.rp
theorem c_slStore (cs : List Value) (a wd sl t : Int) (hP : PW w O B f s) (hU : Ob w O k U cs) (hc : cs[0]? = some (.int .u64 a)) (h2 : cs[2]? = some (.int .i64 sl)) (h3 : cs[3]? = some (.int .u64 wd)) (hk : 10 ≤ k) (hhi : ∀ j, O j ≠ 0 → j < w.heap.size) (a0 : 0 ≤ a) (a1 : a < 18446744073709551616) (d0 : 0 ≤ wd) (d1 : wd < 18446744073709551616) (s0 : 0 ≤ sl) (s1 : sl ≤ 3) (t0 : 0 ≤ t) (t1 : t ≤ 255) (n0 : 0 ≤ s.n) (n1 : s.n ≤ 4611686018427387904) :
 Calls Tryz.prog 358 #[.pointer (some ⟨U, 0, none⟩), .pointer (some ⟨B.p, 0, none⟩), .int .i64 t] w (RP (SX k k) w O (.tuple #[]) fun W G => PW W G B f (awStore a (twWith wd sl t) s) ∧ Ob W G k U cs) := by
 have HM : Hid (Me k k w O w O B f s k U cs) := Lib.hid (Me.start hhi hP hU)
 have p0 := hP.wo.c0
 have x0 := hU.c 0 _ hc
 have x2 := hU.c 2 _ h2
 have x3 := hU.c 3 _ h3
 have hb := twWith_bd (s := sl) (t := t) d0 d1
 have HW := Lib.hid (fun W => c_TwWith wd sl t W d0 d1 s0 s1 t0 t1)
 obtain ⟨z, hz⟩ : ∃ z, z = twWith wd sl t := ⟨_, rfl⟩
 rw [← hz] at HW hb ⊢
 have H3 := Lib.hid (And.intro hc (And.intro h2 h3))
 clear hP hU hhi hc h2 h3 hz
 go_enter Tryz.func358, Tryz.ntmps358
 go_wp2_with fail
 go_region_held3 (fun w' => w'.cell? ⟨B.p, 0, none⟩ = some (.pointer (some ⟨B.c, 0, none⟩)) ∧ w'.cell? ⟨U, 0, none⟩ = some (.int .u64 a) ∧ w'.cell? ⟨U, 2, none⟩ = some (.int .i64 sl) ∧ w'.cell? ⟨U, 3, none⟩ = some (.int .u64 wd)) (go_keep)
  ((first
    | (go_at_call 359
       refine (HW.out _).mono ?_
       rintro e w1 ⟨rfl, hb1⟩
       have M1 := Lib.hid (HM.out.drew.below hb1)
       have p01 := M1.out.p.wo.c0
       have x01 := M1.out.t.c 0 _ H3.out.1
       have x21 := M1.out.t.c 2 _ H3.out.2.1
       have x31 := M1.out.t.c 3 _ H3.out.2.2
       clear hb1)
    | (go_at_call 50
       refine (c_StoreP a z M1.out.p M1.out.e.hi a0 a1 hb.1 hb.2 n0 n1).mono ?_
       rintro e w2 ⟨rfl, G2, e2, P2⟩
       have M2 := Lib.hid (M1.out.world hk e2 P2)
       have p02 := M2.out.p.wo.c0
       have x02 := M2.out.t.c 0 _ H3.out.1
       have x22 := M2.out.t.c 2 _ H3.out.2.1
       have x32 := M2.out.t.c 3 _ H3.out.2.2
       clear e2 P2)))
 all_goals
  go_wp2_with fail
  go_end0
  exact M2.out.rp
end
structure OutAt (W : World) (G : Om) (k U : Nat) (p : Spt) (o : Otm) : Prop where
 ob : Ob W G k U (slCs p o)
theorem OutAt.ext {S : Nat → Prop} {O O' : Om} {w w' : World} {k U : Nat} {p : Spt} {o : Otm} (h : OutAt w O k U p o) (e : Ext S O w O' w') (h1 : ¬ S k) : OutAt w' O' k U p o := ⟨h.ob.ext e h1⟩
theorem OutAt.below {O : Om} {w w' : World} {k U : Nat} {p : Spt} {o : Otm} (h : OutAt w O k U p o) (hb : Below w.heap.size w w') : OutAt w' O k U p o := ⟨h.ob.below hb⟩
section
variable {U : Nat} {w : World} {O : Om} {B : Wb} {f : Cf} {s : AW} {k : Nat} {p : Spt}
theorem ixOuts : (∀ W, (Instr.index 437 OUTSV (.int .i64 0)).run Tryz.prog W = .ok (.func (.func 354) #[] #[]) W) ∧ (∀ W, (Instr.index 437 OUTSV (.int .i64 1)).run Tryz.prog W = .ok (.func (.func 355) #[] #[]) W) ∧ (∀ W, (Instr.index 437 OUTSV (.int .i64 2)).run Tryz.prog W = .ok (.func (.func 356) #[] #[]) W) := ⟨fun W => by kernel_rfl, fun W => by kernel_rfl, fun W => by kernel_rfl⟩
theorem c_Outfirst (o : Otm) (hP : PW w O B f s) (hU : OutAt w O k U p o) (hp : p.ok) (hk : 10 ≤ k) (hhi : ∀ j, O j ≠ 0 → j < w.heap.size) (n0 : 0 ≤ s.n) (n1 : s.n ≤ 4611686018427387904) :
 Calls Tryz.prog 354 #[.pointer (some ⟨U, 0, none⟩), .pointer (some ⟨B.p, 0, none⟩)] w (RP (SX k k) w O (.tuple #[]) fun W G => PW W G B f (awLoad p.tags s) ∧ OutAt W G k U p ⟨o.ln, s.M p.tags⟩) := by
 have ht := hp.tags
 have HL := Lib.hid (c_slLoad _ p.tags hP hU.ob rfl ⟨_, rfl⟩ hk hhi (by omega) (by omega) n0 n1)
 clear hP hU hhi hp ht
 go_enter Tryz.func354, Tryz.ntmps354
 go_wp2_with fail
 refine HL.out.mono ?_
 rintro e w1 ⟨rfl, G1, e1, P1, U1⟩
 have HE := Lib.hid (And.intro e1 (And.intro P1 (OutAt.mk (p := p) (o := ⟨o.ln, s.M p.tags⟩) U1)))
 clear e1 P1 U1 HL
 go_wp2
 go_end0
 exact ⟨rfl, G1, HE.out⟩
theorem c_Outsecond (o : Otm) (hP : PW w O B f s) (hU : OutAt w O k U p o) (hp : p.ok) (hk : 10 ≤ k) (hhi : ∀ j, O j ≠ 0 → j < w.heap.size) (w0 : 0 ≤ o.w) (w1 : o.w < 18446744073709551616) (n0 : 0 ≤ s.n) (n1 : s.n ≤ 4611686018427387904) :
 Calls Tryz.prog 355 #[.pointer (some ⟨U, 0, none⟩), .pointer (some ⟨B.p, 0, none⟩)] w (RP (SX k k) w O (.tuple #[]) fun W G => PW W G B f (awStore p.tags (twWith o.w p.s 0) s) ∧ OutAt W G k U p o) := by
 have ht := hp.tags
 have HL := Lib.hid (c_slStore _ p.tags o.w p.s 0 hP hU.ob rfl rfl rfl hk hhi (by omega) (by omega) w0 w1 hp.s0 hp.s1 (by decide) (by decide) n0 n1)
 clear hP hU hhi hp ht
 go_enter Tryz.func355, Tryz.ntmps355
 go_wp2_with fail
 refine HL.out.mono ?_
 rintro e w1 ⟨rfl, G1, e1, P1, U1⟩
 have HE := Lib.hid (And.intro e1 (And.intro P1 (OutAt.mk (p := p) (o := o) U1)))
 clear e1 P1 U1 HL
 go_wp2
 go_end0
 exact ⟨rfl, G1, HE.out⟩
theorem c_Outthird (o : Otm) (hP : PW w O B f s) (hU : OutAt w O k U p o) (hp : p.ok) (hk : 10 ≤ k) (hhi : ∀ j, O j ≠ 0 → j < w.heap.size) (n0 : 0 ≤ s.n) (n1 : s.n ≤ 4611686018427387904) :
 Calls Tryz.prog 356 #[.pointer (some ⟨U, 0, none⟩), .pointer (some ⟨B.p, 0, none⟩)] w (RP (SX k k) w O (.tuple #[]) fun W G => PW W G B f (awStore p.item 0 s) ∧ OutAt W G k U p o) := by
 have ht := hp.item
 have HM : Hid (Me k k w O w O B f s k U (slCs p o)) := Lib.hid (Me.start hhi hP hU.ob)
 have p0 := hP.wo.c0
 have x1 := hU.ob.c 1 _ rfl
 obtain ⟨it, hit⟩ : ∃ it, it = p.item := ⟨_, rfl⟩
 rw [← hit] at ht x1 ⊢
 have HIT := Lib.hid hit
 have hb : 0 ≤ it ∧ it < 18446744073709551616 := by omega
 clear hP hU hhi hp ht hit
 go_enter Tryz.func356, Tryz.ntmps356
 go_wp2_with fail
 go_region_held3 (fun w' => w'.cell? ⟨B.p, 0, none⟩ = some (.pointer (some ⟨B.c, 0, none⟩)) ∧ w'.cell? ⟨U, 1, none⟩ = some (.int .u64 it)) (go_keep)
  ((go_at_call 50
    refine (c_StoreP it 0 (w := w.drew) HM.out.drew.p HM.out.drew.e.hi hb.1 hb.2 (by decide) (by decide) n0 n1).mono ?_
    rintro e w2 ⟨rfl, G2, e2, P2⟩
    have M2 := Lib.hid (HM.out.drew.world hk e2 P2)
    have p02 := M2.out.p.wo.c0
    have x12 := M2.out.t.c 1 _ rfl
    rw [← HIT.out] at x12
    clear e2 P2))
 all_goals
  go_wp2_with fail
  go_end0
  obtain ⟨e0, G, e1, P1, t1⟩ := M2.out.rp (v := .tuple #[])
  exact ⟨rfl, G, e1, P1, ⟨t1⟩⟩
theorem outStep_ln (p : Spt) (s : AW) (o : Otm) (h : o.ln < 3) : (outStep p s o).2.ln = o.ln + 1 := by
 unfold outStep
 split
 · rename_i e; rw [e]
 · split
   · rename_i e; rw [e]
   · split
     · rename_i e; rw [e]
     · omega
theorem c_OutStep (o : Otm) (hP : PW w O B f s) (hU : OutAt w O k U p o) (hp : p.ok) (ho : o.ln < 3) (w0 : 0 ≤ o.w) (w1 : o.w < 18446744073709551616) (hk : 10 ≤ k) (hhi : ∀ j, O j ≠ 0 → j < w.heap.size) (n0 : 0 ≤ s.n) (n1 : s.n ≤ 4611686018427387904) :
 Calls Tryz.prog 344 #[.pointer (some ⟨U, 0, none⟩), .pointer (some ⟨B.p, 0, none⟩)] w (RP (SX k k) w O (.bool (o.ln == 2)) fun W G => PW W G B f (outStep p s o).1 ∧ OutAt W G k U p (outStep p s o).2) := by
 obtain ⟨ln, wd⟩ := o
 dsimp only at ho w0 w1
 have x0 := hU.ob.c 0 _ rfl
 have x4 := hU.ob.c 4 _ rfl
 have ht := hp.tags
 have ht0 : p.tags ≠ 0 := by omega
 obtain ⟨ix0, ix1, ix2⟩ := ixOuts
 have hk0 : ∀ args W, (callFunc 354 args).run Tryz.prog W = .ok (.enter 354 args) W := enters_of Tryz.func354 (by kernel_rfl) rfl
 have hk1 : ∀ args W, (callFunc 355 args).run Tryz.prog W = .ok (.enter 355 args) W := enters_of Tryz.func355 (by kernel_rfl) rfl
 have hk2 : ∀ args W, (callFunc 356 args).run Tryz.prog W = .ok (.enter 356 args) W := enters_of Tryz.func356 (by kernel_rfl) rfl
 have HU := Lib.hid hU
 have HP := Lib.hid hP
 have HH := Lib.hid hhi
 have HB := Lib.hid hp
 have hln : ln = 0 ∨ ln = 1 ∨ ln = 2 := by omega
 obtain ⟨ta, hta⟩ : ∃ ta, ta = p.tags := ⟨_, rfl⟩
 rw [← hta] at x0 ht0
 have HT := Lib.hid hta
 clear hU hP hhi hp ht ho hta
 rcases hln with rfl | rfl | rfl
 · clear hk1 hk2 ix1 ix2
   go_enter Tryz.func344, Tryz.ntmps344
   go_wp2_with fail
   refine (c_OutOver ta 0 x0 x4 ht0 (by decide)).mono ?_
   rintro e wa ⟨rfl, hba⟩
   have P1 := Lib.hid (HP.out.below HH.out hba)
   have U1 := Lib.hid (HU.out.below hba)
   have E1 := Lib.hid (Ext.of_below (S := SX k k) HH.out hba)
   have y4 := U1.out.ob.c 4 _ rfl
   have yl := U1.out.ob.lt
   clear hba x0 x4
   go_wp2_with fail
   go_region_held3 (fun w' => w'.cell? ⟨U, 4, none⟩ = some (.int .i64 0)) (go_keep)
    ((first
      | (go_at_call 352
         refine (c_outs _).mono ?_
         rintro e wb ⟨rfl, hbb⟩
         have P2 := Lib.hid ((P1.out.below E1.out.hi (drew_below wa)).below E1.out.drew.hi hbb)
         have U2 := Lib.hid ((U1.out.below (drew_below wa)).below hbb)
         have E2 := Lib.hid (E1.out.drew.below hbb)
         have y42 := U2.out.ob.c 4 _ rfl
         clear hbb)
      | (go_at_call 354
         refine (c_Outfirst ⟨0, wd⟩ P2.out U2.out HB.out hk E2.out.hi n0 n1).mono ?_
         rintro e wc ⟨rfl, G3, e3, P3, U3⟩
         have M3 : Hid (Me k k w O wc G3 B f (awLoad p.tags s) k U _) := Lib.hid ⟨E2.out.trans e3, P3, U3.ob⟩
         have y43 := M3.out.t.c 4 _ rfl
         clear e3 P3 U3)))
   all_goals
    have z4 := M3.out.t.c 4 _ rfl
    have zf := M3.out.t.f 4
    have M4 := Lib.hid (M3.out.set hk (Nat.le_refl _) (Nat.le_refl _) 4 (.int .i64 ((1 : Nat) : Int)) (by simp [slCs]))
    have q0 := M4.out.t.c 0 _ rfl
    have q4 := M4.out.t.c 4 _ rfl
    go_wp2_with fail
    refine (c_OutOver p.tags 1 q0 q4 (by rw [← HT.out]; exact ht0) (by decide)).mono ?_
    rintro e wd ⟨rfl, hbd⟩
    have M5 := Lib.hid (M4.out.below hbd)
    clear hbd q0 q4
    go_wp2_with fail
    go_ret
    exact ⟨rfl, _, M5.out.e, M5.out.p, ⟨M5.out.t⟩⟩
 · clear hk0 hk2 ix0 ix2
   go_enter Tryz.func344, Tryz.ntmps344
   go_wp2_with fail
   refine (c_OutOver ta 1 x0 x4 ht0 (by decide)).mono ?_
   rintro e wa ⟨rfl, hba⟩
   have P1 := Lib.hid (HP.out.below HH.out hba)
   have U1 := Lib.hid (HU.out.below hba)
   have E1 := Lib.hid (Ext.of_below (S := SX k k) HH.out hba)
   have y4 := U1.out.ob.c 4 _ rfl
   have yl := U1.out.ob.lt
   clear hba x0 x4
   go_wp2_with fail
   go_region_held3 (fun w' => w'.cell? ⟨U, 4, none⟩ = some (.int .i64 1)) (go_keep)
    ((first
      | (go_at_call 352
         refine (c_outs _).mono ?_
         rintro e wb ⟨rfl, hbb⟩
         have P2 := Lib.hid ((P1.out.below E1.out.hi (drew_below wa)).below E1.out.drew.hi hbb)
         have U2 := Lib.hid ((U1.out.below (drew_below wa)).below hbb)
         have E2 := Lib.hid (E1.out.drew.below hbb)
         have y42 := U2.out.ob.c 4 _ rfl
         clear hbb)
      | (go_at_call 355
         refine (c_Outsecond ⟨1, wd⟩ P2.out U2.out HB.out hk E2.out.hi w0 w1 n0 n1).mono ?_
         rintro e wc ⟨rfl, G3, e3, P3, U3⟩
         have M3 : Hid (Me k k w O wc G3 B f (awStore p.tags (twWith wd p.s 0) s) k U _) := Lib.hid ⟨E2.out.trans e3, P3, U3.ob⟩
         have y43 := M3.out.t.c 4 _ rfl
         clear e3 P3 U3)))
   all_goals
    have z4 := M3.out.t.c 4 _ rfl
    have zf := M3.out.t.f 4
    have M4 := Lib.hid (M3.out.set hk (Nat.le_refl _) (Nat.le_refl _) 4 (.int .i64 ((2 : Nat) : Int)) (by simp [slCs]))
    have q0 := M4.out.t.c 0 _ rfl
    have q4 := M4.out.t.c 4 _ rfl
    go_wp2_with fail
    refine (c_OutOver p.tags 2 q0 q4 (by rw [← HT.out]; exact ht0) (by decide)).mono ?_
    rintro e wd ⟨rfl, hbd⟩
    have M5 := Lib.hid (M4.out.below hbd)
    clear hbd q0 q4
    go_wp2_with fail
    go_ret
    exact ⟨rfl, _, M5.out.e, M5.out.p, ⟨M5.out.t⟩⟩
 · clear hk0 hk1 ix0 ix1
   go_enter Tryz.func344, Tryz.ntmps344
   go_wp2_with fail
   refine (c_OutOver ta 2 x0 x4 ht0 (by decide)).mono ?_
   rintro e wa ⟨rfl, hba⟩
   have P1 := Lib.hid (HP.out.below HH.out hba)
   have U1 := Lib.hid (HU.out.below hba)
   have E1 := Lib.hid (Ext.of_below (S := SX k k) HH.out hba)
   have y4 := U1.out.ob.c 4 _ rfl
   have yl := U1.out.ob.lt
   clear hba x0 x4
   go_wp2_with fail
   go_region_held3 (fun w' => w'.cell? ⟨U, 4, none⟩ = some (.int .i64 2)) (go_keep)
    ((first
      | (go_at_call 352
         refine (c_outs _).mono ?_
         rintro e wb ⟨rfl, hbb⟩
         have P2 := Lib.hid ((P1.out.below E1.out.hi (drew_below wa)).below E1.out.drew.hi hbb)
         have U2 := Lib.hid ((U1.out.below (drew_below wa)).below hbb)
         have E2 := Lib.hid (E1.out.drew.below hbb)
         have y42 := U2.out.ob.c 4 _ rfl
         clear hbb)
      | (go_at_call 356
         refine (c_Outthird ⟨2, wd⟩ P2.out U2.out HB.out hk E2.out.hi n0 n1).mono ?_
         rintro e wc ⟨rfl, G3, e3, P3, U3⟩
         have M3 : Hid (Me k k w O wc G3 B f (awStore p.item 0 s) k U _) := Lib.hid ⟨E2.out.trans e3, P3, U3.ob⟩
         have y43 := M3.out.t.c 4 _ rfl
         clear e3 P3 U3)))
   all_goals
    have z4 := M3.out.t.c 4 _ rfl
    have zf := M3.out.t.f 4
    have M4 := Lib.hid (M3.out.set hk (Nat.le_refl _) (Nat.le_refl _) 4 (.int .i64 ((3 : Nat) : Int)) (by simp [slCs]))
    have q0 := M4.out.t.c 0 _ rfl
    have q4 := M4.out.t.c 4 _ rfl
    go_wp2_with fail
    refine (c_OutOver p.tags 3 q0 q4 (by rw [← HT.out]; exact ht0) (by decide)).mono ?_
    rintro e wd ⟨rfl, hbd⟩
    have M5 := Lib.hid (M4.out.below hbd)
    clear hbd q0 q4
    go_wp2_with fail
    go_ret
    exact ⟨rfl, _, M5.out.e, M5.out.p, ⟨M5.out.t⟩⟩
theorem c_of (hp : p.ok) : Calls Tryz.prog 243 #[.agg #[.int .i64 p.b, .int .i64 p.q, .int .i64 p.s]] w fun e w' => e = .returned (.agg #[.int .u64 p.tags, .int .u64 p.item, .int .i64 p.s, .int .u64 0, .int .i64 0]) ∧ Below w.heap.size w w' := by
 have hit := hp.item
 have htg := hp.tags
 have hq2 := hp.q2
 have HI := Lib.hid (fun W => c_Item p.b p.q p.s W (by have := hp.b0; omega) (by have := hp.b1; omega) (by have := hp.q0; omega) (by omega) (by have := hp.s0; omega) (by have := hp.s1; omega))
 have HT := Lib.hid (fun W => c_Tags p.b p.q W (by have := hp.b0; omega) (by have := hp.b1; omega) (by have := hp.q0; omega) (by omega))
 obtain ⟨ia, hia⟩ : ∃ ia, ia = p.item := ⟨_, rfl⟩
 obtain ⟨ta, hta⟩ : ∃ ta, ta = p.tags := ⟨_, rfl⟩
 have hia2 : plItem p.b p.q p.s = ia := hia.symm
 have hta2 : plTags p.b p.q = ta := hta.symm
 rw [hia2] at HI
 rw [hta2] at HT
 rw [← hia] at hit
 have di : (ia == 0) = false := by rw [beq_eq_false_iff_ne]; omega
 rw [← hia, ← hta]
 obtain ⟨b, hb⟩ : ∃ z, z = p.b := ⟨_, rfl⟩
 obtain ⟨q, hq⟩ : ∃ z, z = p.q := ⟨_, rfl⟩
 obtain ⟨sl, hs⟩ : ∃ z, z = p.s := ⟨_, rfl⟩
 rw [← hb, ← hq, ← hs] at HI
 rw [← hb, ← hq] at HT
 rw [← hb, ← hq, ← hs]
 clear hit htg hq2 hia hta hia2 hta2 hp hb hq hs
 go_enter Tryz.func243, Tryz.ntmps243
 go_wp2_with fail
 obtain ⟨W, hW⟩ : ∃ W, W = (w.alloc (.cells #[.int .i64 b, .int .i64 q, .int .i64 sl] 75)).alloc (.cells #[.int .u64 0, .int .u64 0, .int .i64 0, .int .u64 0, .int .i64 0] 331) := ⟨_, rfl⟩
 have hB : Below w.heap.size w W := by rw [hW]; exact ((Below.refl _ _).alloc (Nat.le_refl _) _).alloc (by simp) _
 have y0 : W.cell? ⟨w.heap.size, 0, none⟩ = some (.int .i64 b) := by rw [hW]; simp
 have y1 : W.cell? ⟨w.heap.size, 1, none⟩ = some (.int .i64 q) := by rw [hW]; simp
 have y2 : W.cell? ⟨w.heap.size, 2, none⟩ = some (.int .i64 sl) := by rw [hW]; simp
 have z0 : W.cell? ⟨w.heap.size + 1, 0, none⟩ = some (.int .u64 0) := by rw [hW]; simp
 have z1 : W.cell? ⟨w.heap.size + 1, 1, none⟩ = some (.int .u64 0) := by rw [hW]; simp
 have z2 : W.cell? ⟨w.heap.size + 1, 2, none⟩ = some (.int .i64 0) := by rw [hW]; simp
 have z3 : W.cell? ⟨w.heap.size + 1, 3, none⟩ = some (.int .u64 0) := by rw [hW]; simp
 have z4 : W.cell? ⟨w.heap.size + 1, 4, none⟩ = some (.int .i64 0) := by rw [hW]; simp
 have zf : ∀ j, W.frozen? ⟨w.heap.size + 1, j, none⟩ = false := fun j => by rw [hW]; exact frozen_newA _ #[.int .u64 0, .int .u64 0, .int .i64 0, .int .u64 0, .int .i64 0] _ _ (by simp) j
 have hl : w.heap.size < W.heap.size := by rw [hW]; simp; omega
 have hl2 : w.heap.size + 1 < W.heap.size := by rw [hW]; simp
 have HB := Lib.hid hB
 have HZ := Lib.hid (And.intro z0 (And.intro z1 (And.intro z2 (And.intro z3 (And.intro z4 zf)))))
 rw [← hW]
 clear hW hB
 refine (HI.out _).mono ?_
 rintro e w1 ⟨rfl, hb1⟩
 have k0 := (hb1.cell (p := ⟨w.heap.size, 0, none⟩) hl).trans y0
 have k1 := (hb1.cell (p := ⟨w.heap.size, 1, none⟩) hl).trans y1
 have k2 := (hb1.cell (p := ⟨w.heap.size, 2, none⟩) hl).trans y2
 have HK := Lib.hid (fun j => hb1.cell (p := ⟨w.heap.size + 1, j, none⟩) hl2)
 have HF := Lib.hid (fun j => (hb1.frozen (p := ⟨w.heap.size + 1, j, none⟩) hl2).trans (HZ.out.2.2.2.2.2 j))
 have HB1 := Lib.hid (HB.out.trans (hb1.mono HB.out.size))
 have m1 : w.heap.size < w1.heap.size := Nat.lt_of_lt_of_le hl hb1.size
 have m2 : w.heap.size + 1 < w1.heap.size := Nat.lt_of_lt_of_le hl2 hb1.size
 clear hb1 y0 y1 y2 z0 z1 z2 z3 z4 zf hl hl2
 go_wp2_with fail
 go_region_held3 (fun w' => w'.cell? ⟨w.heap.size, 0, none⟩ = some (.int .i64 b) ∧ w'.cell? ⟨w.heap.size, 1, none⟩ = some (.int .i64 q) ∧ w'.cell? ⟨w.heap.size, 2, none⟩ = some (.int .i64 sl)) (go_keep)
  ((first
    | (go_at_call 153
       refine (HT.out _).mono ?_
       rintro e w2 ⟨rfl, hb2⟩
       have i0 := (hb2.cell (p := ⟨w.heap.size, 0, none⟩) m1).trans k0
       have i1 := (hb2.cell (p := ⟨w.heap.size, 1, none⟩) m1).trans k1
       have i2 := (hb2.cell (p := ⟨w.heap.size, 2, none⟩) m1).trans k2
       have HB2 := Lib.hid (HB1.out.drew.trans (hb2.mono HB1.out.size))
       have HK2 := Lib.hid (fun j => (hb2.cell (p := ⟨w.heap.size + 1, j, none⟩) m2).trans (HK.out j))
       have HF2 := Lib.hid (fun j => (hb2.frozen (p := ⟨w.heap.size + 1, j, none⟩) m2).trans (HF.out j))
       have m12 : w.heap.size < w2.heap.size := Nat.lt_of_lt_of_le m1 hb2.size
       have m22 : w.heap.size + 1 < w2.heap.size := Nat.lt_of_lt_of_le m2 hb2.size
       clear hb2)
    | (go_at_call 154
       refine (HI.out _).mono ?_
       rintro e w3 ⟨rfl, hb3⟩
       have j0 := (hb3.cell (p := ⟨w.heap.size, 0, none⟩) m12).trans i0
       have j1 := (hb3.cell (p := ⟨w.heap.size, 1, none⟩) m12).trans i1
       have j2 := (hb3.cell (p := ⟨w.heap.size, 2, none⟩) m12).trans i2
       have HB3 := Lib.hid (HB2.out.trans (hb3.mono HB2.out.size))
       have m13 : w.heap.size < w3.heap.size := Nat.lt_of_lt_of_le m12 hb3.size
       have m23 : w.heap.size + 1 < w3.heap.size := Nat.lt_of_lt_of_le m22 hb3.size
       have e0 := ((hb3.cell (p := ⟨w.heap.size + 1, 0, none⟩) m22).trans (HK2.out 0)).trans HZ.out.1
       have e1 := ((hb3.cell (p := ⟨w.heap.size + 1, 1, none⟩) m22).trans (HK2.out 1)).trans HZ.out.2.1
       have e2 := ((hb3.cell (p := ⟨w.heap.size + 1, 2, none⟩) m22).trans (HK2.out 2)).trans HZ.out.2.2.1
       have e3 := ((hb3.cell (p := ⟨w.heap.size + 1, 3, none⟩) m22).trans (HK2.out 3)).trans HZ.out.2.2.2.1
       have e4 := ((hb3.cell (p := ⟨w.heap.size + 1, 4, none⟩) m22).trans (HK2.out 4)).trans HZ.out.2.2.2.2.1
       have g0 := (hb3.frozen (p := ⟨w.heap.size + 1, 0, none⟩) m22).trans (HF2.out 0)
       have g1 := (hb3.frozen (p := ⟨w.heap.size + 1, 1, none⟩) m22).trans (HF2.out 1)
       have g2 := (hb3.frozen (p := ⟨w.heap.size + 1, 2, none⟩) m22).trans (HF2.out 2)
       have g3 := (hb3.frozen (p := ⟨w.heap.size + 1, 3, none⟩) m22).trans (HF2.out 3)
       have g4 := (hb3.frozen (p := ⟨w.heap.size + 1, 4, none⟩) m22).trans (HF2.out 4)
       clear hb3)))
 all_goals
  go_wp2_with fail
  exact bodyPost_ret (v := .agg #[.int .u64 ta, .int .u64 ia, .int .i64 sl, .int .u64 0, .int .i64 0]) (by simp [results, Tryz.results243, go_sem, *]) rfl ⟨rfl, by (repeat (first | exact HB3.out | exact HB3.out.drew | (with_reducible refine below_setCell' ?_ (by omega) _ _) | (with_reducible refine Below.drew ?_)))⟩
theorem c_NewOut (hp : p.ok) (hhi : ∀ j, O j ≠ 0 → j < w.heap.size) : Calls Tryz.prog 186 #[.agg #[.int .i64 p.b, .int .i64 p.q, .int .i64 p.s]] w fun e w' => ∃ U, RP (fun t => t = k) w O (.pointer (some ⟨U, 0, none⟩)) (fun W G => OutAt W G k U p ⟨0, 0⟩) e w' := by
 have HO := Lib.hid (fun (W : World) => c_of (w := W) hp)
 have HH := Lib.hid hhi
 clear hp hhi
 go_enter Tryz.func186, Tryz.ntmps186
 go_wp2_with fail
 refine (HO.out _).mono ?_
 rintro e w1 ⟨rfl, hb⟩
 have HB : Hid (Below w.heap.size w w1) := Lib.hid (((Below.refl _ _).alloc (Nat.le_refl _) _).trans (hb.mono (by simp)))
 obtain ⟨G2, e2, x2, -⟩ := alloc_ob (Ext.of_below (S := fun t => t = k) HH.out HB.out).hi k (slCs p ⟨0, 0⟩).toArray 334 w1.heap.size rfl
 have HE := Lib.hid (And.intro ((Ext.of_below HH.out HB.out).trans e2) x2)
 clear hb e2 x2
 go_wp2_with fail
 go_ret
 exact ⟨_, rfl, G2, HE.out.1, ⟨HE.out.2⟩⟩
end
end
section
open Go.RowKit
def mk2 (p q : Spt) : List Int := if q.ver = p.ver then [p.ver] else [p.ver, q.ver]
end
end Go.Proofs.YtifkfhnbkjkakaaGreatDoor
