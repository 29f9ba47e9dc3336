/- Layer 11: contracts of the writers' lock. -/
import Derived.Test.YtkamcgcpfnkodaaGreatWtk
import Derived.Laws.EntriesVeiled
import Derived.Test.YtkamcgcpfnkodaaGreatFnil
namespace Go.Proofs.YtkamcgcpfnkodaaGreat
set_option linter.unusedSimpArgs false
open Go.RowKit
set_option linter.unusedVariables false

def updN (tk : Nat → Int) (j : Nat) (v : Int) : Nat → Int := fun i => if i = j then v else tk i
section
variable {S : Nat → Prop} {O O' : Om} {w w' : World} {B : Wb} {f : Cf} {s : AW}
theorem PW.setTk (h : PW w O B f s) (hhi : ∀ j, O j ≠ 0 → j < w.heap.size) (j : Nat) (hj : j < 64) (v : Int) : PW (w.setCell ⟨B.p, 8 + j, none⟩ (.int .u64 v)) O B f ⟨s.M, s.n, s.la, updN s.tk j v, s.ho, s.it, s.nt⟩ ∧ Ext (fun t => t = 1) O w O (w.setCell ⟨B.p, 8 + j, none⟩ (.int .u64 v)) := by
  have e : Ext (fun t => t = 1) O w O (w.setCell ⟨B.p, 8 + j, none⟩ (.int .u64 v)) := Ext.of_set hhi h.o (by decide) rfl
  have hc : ∀ i, i ≠ 8 + j → (w.setCell ⟨B.p, 8 + j, none⟩ (.int .u64 v)).cell? ⟨B.p, i, none⟩ = w.cell? ⟨B.p, i, none⟩ := fun i hi => World.cell?_setCell_other _ _ _ _ (by simp; try omega)
  have k := h.wo
  refine ⟨⟨h.o, ⟨(hc 0 (by omega)).trans k.c0, (hc 1 (by omega)).trans k.c1, (hc 2 (by omega)).trans k.c2, (hc 3 (by omega)).trans k.c3, (hc 4 (by omega)).trans k.c4, (hc 5 (by omega)).trans k.c5, (hc 6 (by omega)).trans k.c6, (hc 7 (by omega)).trans k.c7, fun i hi => ?_, (hc 72 (by omega)).trans k.ho, fun i => (World.frozen?_setCell _ _ _ _).trans (k.fr i), by simpa using k.lt⟩, h.ce.ext e (by decide) (by decide), h.ar.ext e (by decide), h.no.ext e (by decide)⟩, e⟩
  by_cases hij : i = j
  · subst hij
    show _ = some (Value.int .u64 (if i = i then v else s.tk i))
    rw [if_pos rfl]
    exact World.cell?_setCell_same _ _ _ (k.tk i hi)
  · show _ = some (Value.int .u64 (if i = j then v else s.tk i))
    rw [if_neg hij]
    exact (hc _ (by omega)).trans (k.tk i hi)
theorem PW.setHo (h : PW w O B f s) (hhi : ∀ j, O j ≠ 0 → j < w.heap.size) (v : Int) : PW (w.setCell ⟨B.p, 72, none⟩ (.int .i64 v)) O B f ⟨s.M, s.n, s.la, s.tk, v, s.it, s.nt⟩ ∧ Ext (fun t => t = 1) O w O (w.setCell ⟨B.p, 72, none⟩ (.int .i64 v)) := by
  have e : Ext (fun t => t = 1) O w O (w.setCell ⟨B.p, 72, none⟩ (.int .i64 v)) := Ext.of_set hhi h.o (by decide) rfl
  have hc : ∀ i, i ≠ 72 → (w.setCell ⟨B.p, 72, none⟩ (.int .i64 v)).cell? ⟨B.p, i, none⟩ = w.cell? ⟨B.p, i, none⟩ := fun i hi => World.cell?_setCell_other _ _ _ _ (by simp; try omega)
  have k := h.wo
  exact ⟨⟨h.o, ⟨(hc 0 (by omega)).trans k.c0, (hc 1 (by omega)).trans k.c1, (hc 2 (by omega)).trans k.c2, (hc 3 (by omega)).trans k.c3, (hc 4 (by omega)).trans k.c4, (hc 5 (by omega)).trans k.c5, (hc 6 (by omega)).trans k.c6, (hc 7 (by omega)).trans k.c7, fun i hi => (hc _ (by omega)).trans (k.tk i hi), World.cell?_setCell_same _ _ _ k.ho, fun i => (World.frozen?_setCell _ _ _ _).trans (k.fr i), by simpa using k.lt⟩, h.ce.ext e (by decide) (by decide), h.ar.ext e (by decide), h.no.ext e (by decide)⟩, e⟩
end
section
variable {a b k T : Nat} {cs : List Value} {O O0 : Om} {w w0 : World} {B : Wb} {f : Cf} {s : AW}
theorem Me.setTk (h : Me a b w0 O0 w O B f s k T cs) (hk : 10 ≤ k) (j : Nat) (hj : j < 64) (v : Int) : Me a b w0 O0 (w.setCell ⟨B.p, 8 + j, none⟩ (.int .u64 v)) O B f ⟨s.M, s.n, s.la, updN s.tk j v, s.ho, s.it, s.nt⟩ k T cs := by
  obtain ⟨p1, e1⟩ := h.p.setTk h.e.hi j hj v
  exact ⟨h.e.trans (e1.mono fun t _ ht => .inl (by omega)), p1, h.t.ext e1 (by omega)⟩
theorem Me.setHo (h : Me a b w0 O0 w O B f s k T cs) (hk : 10 ≤ k) (v : Int) : Me a b w0 O0 (w.setCell ⟨B.p, 72, none⟩ (.int .i64 v)) O B f ⟨s.M, s.n, s.la, s.tk, v, s.it, s.nt⟩ k T cs := by
  obtain ⟨p1, e1⟩ := h.p.setHo h.e.hi v
  exact ⟨h.e.trans (e1.mono fun t _ ht => .inl (by omega)), p1, h.t.ext e1 (by omega)⟩
end
/-- The Take's struct. -/
def takeCs (t tick : Int) (dr : Bool) (dv : Value) : List Value := [.int .i64 t, .int .u64 tick, .bool dr, dv]
@[go_sem] theorem eql_fw (w : World) (f : Fn) (a c : Array Value) : (binOp .eql 108 (.func f a c) .nilFunc).run Tryz.prog w = .ok (.bool false) w := run_eql_func_nil w _ _ _ _ f a c Tryz.underlying108
@[go_sem] theorem neq_fw (w : World) (f : Fn) (a c : Array Value) : (binOp .neq 108 (.func f a c) .nilFunc).run Tryz.prog w = .ok (.bool true) w := run_neq_func_nil w _ _ _ _ f a c Tryz.underlying108
@[go_sem] theorem eql_fw0 (w : World) : (binOp .eql 108 .nilFunc .nilFunc).run Tryz.prog w = .ok (.bool true) w := run_eql_nil_nil w _ _ _ _ Tryz.underlying108
@[go_sem] theorem neq_fw0 (w : World) : (binOp .neq 108 .nilFunc .nilFunc).run Tryz.prog w = .ok (.bool false) w := run_neq_nil_nil w _ _ _ _ Tryz.underlying108
/-- A Take that draws. -/
def awDraw (t : Nat) (s : AW) : AW := ⟨upd s.M 0 ((s.M 0 + 1) % 18446744073709551616), s.n + 1, ⟨4, 0, s.M 0, (s.M 0 + 1) % 18446744073709551616⟩, updN s.tk t ((s.M 0 + 1) % 18446744073709551616), s.ho, s.it, s.nt⟩
theorem Me.rp {a b k T : Nat} {cs : List Value} {O O0 : Om} {w w0 : World} {B : Wb} {f : Cf} {s : AW} {v : Value} (h : Me a b w0 O0 w O B f s k T cs) : RP (SX a b) w0 O0 v (fun W G => PW W G B f s ∧ Ob W G k T cs) (.returned v) w := ⟨rfl, O, h.e, h.p, h.t⟩
/-- A Take that looks, and is served, or not. -/
def awServed (t : Nat) (s : AW) : AW := ⟨s.M, s.n, s.la, updN s.tk t 0, t, s.it, s.nt⟩
/-- A Take. -/
structure Tkm where
  ln : Nat
  tick : Int
  dr : Bool
def tkStep (t : Nat) (s : AW) (x : Tkm) : AW × Tkm :=
  if x.ln = 1 then (awDraw t s, ⟨2, s.M 0, true⟩) else if x.ln = 2 then (if s.M 1 == x.tick then (awServed t (awLoad 1 s), ⟨0, x.tick, x.dr⟩) else (awLoad 1 s, x)) else (s, x)
/-- Giving the lock back. -/
def awGive (s : AW) : AW := ⟨upd s.M 1 ((s.M 1 + 1) % 18446744073709551616), s.n + 1, ⟨4, 1, s.M 1, (s.M 1 + 1) % 18446744073709551616⟩, s.tk, -1, s.it, s.nt⟩
end Go.Proofs.YtkamcgcpfnkodaaGreat
