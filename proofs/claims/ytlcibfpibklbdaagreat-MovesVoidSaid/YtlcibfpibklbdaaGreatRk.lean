/- Layer 18: the program's Room: its object; a new one; a look into a bucket that has a free slot. -/
import Derived.Test.YtlcibfpibklbdaaGreatMvP
import Derived.Test.YtlcibfpibklbdaaGreatSls
import Derived.Test.YtlcibfpibklbdaaGreatMf
import Derived.Test.YtlcibfpibklbdaaGreatFw4
import Derived.Test.YtlcibfpibklbdaaGreatBaH
import Derived.Laws.EntriesVeiled
import Derived.Shelf.Lay
namespace Go.Proofs.YtlcibfpibklbdaaGreat
set_option linter.unusedSimpArgs false
open Go.RowKit Go.Shelf
set_option linter.unusedVariables false

set_option maxHeartbeats 1000000 in
set_option maxRecDepth 100000 in
theorem c_TwFree (x : Int) (w : World) (x0 : 0 ≤ x) (x1 : x < 18446744073709551616) : Calls Tryz.prog 246 #[.int .u64 x] w fun e w' => e = .returned (.int .i64 (twFree x)) ∧ Below w.heap.size w w' := by
  have HP := Lib.hid (fun W => c_TwParts x W x0 x1)
  unfold twFree
  obtain ⟨t0, e0⟩ : ∃ t, t = twTag x 0 := ⟨_, rfl⟩
  obtain ⟨t1, e1⟩ : ∃ t, t = twTag x 1 := ⟨_, rfl⟩
  obtain ⟨t2, e2⟩ : ∃ t, t = twTag x 2 := ⟨_, rfl⟩
  obtain ⟨t3, e3⟩ : ∃ t, t = twTag x 3 := ⟨_, rfl⟩
  rw [← e0, ← e1, ← e2, ← e3] at HP
  rw [← e0, ← e1, ← e2, ← e3]
  have h0 : ∀ W, (Instr.index 257 (.agg #[.int .i64 t0, .int .i64 t1, .int .i64 t2, .int .i64 t3]) (.int .i64 0)).run Tryz.prog W = .ok (.int .i64 t0) W := fun W => by kernel_rfl
  have h1 : ∀ W, (Instr.index 257 (.agg #[.int .i64 t0, .int .i64 t1, .int .i64 t2, .int .i64 t3]) (.int .i64 1)).run Tryz.prog W = .ok (.int .i64 t1) W := fun W => by kernel_rfl
  have h2 : ∀ W, (Instr.index 257 (.agg #[.int .i64 t0, .int .i64 t1, .int .i64 t2, .int .i64 t3]) (.int .i64 2)).run Tryz.prog W = .ok (.int .i64 t2) W := fun W => by kernel_rfl
  have h3 : ∀ W, (Instr.index 257 (.agg #[.int .i64 t0, .int .i64 t1, .int .i64 t2, .int .i64 t3]) (.int .i64 3)).run Tryz.prog W = .ok (.int .i64 t3) W := fun W => by kernel_rfl
  clear e0 e1 e2 e3
  obtain ⟨r, hr⟩ : ∃ r, r = (if t0 = 0 then (0 : Int) else if t1 = 0 then 1 else if t2 = 0 then 2 else if t3 = 0 then 3 else -1) := ⟨_, rfl⟩
  rw [← hr]
  by_cases c0 : t0 = 0
  · have hr2 : r = 0 := by rw [hr, if_pos c0]
    clear hr
    subst hr2
    have d0 : (t0 == 0) = true := by simp [c0]
    clear c0
    go_enter Tryz.func246, Tryz.ntmps246
    go_wp2_with fail
    refine (HP.out _).mono ?_
    rintro e w' ⟨rfl, hb⟩
    go_wp2_with fail
    refine wp_loop_rounds 1 ?_
    rw [rounds_succ]
    go_wp2_with fail
    go_ret
    exact ⟨rfl, hb⟩
  · have d0 : (t0 == 0) = false := by simp [c0]
    by_cases c1 : t1 = 0
    · have hr2 : r = 1 := by rw [hr, if_neg c0, if_pos c1]
      clear hr
      subst hr2
      have d1 : (t1 == 0) = true := by simp [c1]
      clear c0 c1
      go_enter Tryz.func246, Tryz.ntmps246
      go_wp2_with fail
      refine (HP.out _).mono ?_
      rintro e w' ⟨rfl, hb⟩
      go_wp2_with fail
      refine wp_loop_rounds 2 ?_
      rw [rounds_succ]
      go_wp2_with fail
      rw [rounds_succ]
      go_wp2_with fail
      go_ret
      exact ⟨rfl, hb⟩
    · have d1 : (t1 == 0) = false := by simp [c1]
      by_cases c2 : t2 = 0
      · have hr2 : r = 2 := by rw [hr, if_neg c0, if_neg c1, if_pos c2]
        clear hr
        subst hr2
        have d2 : (t2 == 0) = true := by simp [c2]
        clear c0 c1 c2
        go_enter Tryz.func246, Tryz.ntmps246
        go_wp2_with fail
        refine (HP.out _).mono ?_
        rintro e w' ⟨rfl, hb⟩
        go_wp2_with fail
        refine wp_loop_rounds 3 ?_
        rw [rounds_succ]
        go_wp2_with fail
        rw [rounds_succ]
        go_wp2_with fail
        rw [rounds_succ]
        go_wp2_with fail
        go_ret
        exact ⟨rfl, hb⟩
      · have d2 : (t2 == 0) = false := by simp [c2]
        by_cases c3 : t3 = 0
        · have hr2 : r = 3 := by rw [hr, if_neg c0, if_neg c1, if_neg c2, if_pos c3]
          clear hr
          subst hr2
          have d3 : (t3 == 0) = true := by simp [c3]
          clear c0 c1 c2 c3
          go_enter Tryz.func246, Tryz.ntmps246
          go_wp2_with fail
          refine (HP.out _).mono ?_
          rintro e w' ⟨rfl, hb⟩
          go_wp2_with fail
          refine wp_loop_rounds 4 ?_
          rw [rounds_succ]
          go_wp2_with fail
          rw [rounds_succ]
          go_wp2_with fail
          rw [rounds_succ]
          go_wp2_with fail
          rw [rounds_succ]
          go_wp2_with fail
          go_ret
          exact ⟨rfl, hb⟩
        · have hr2 : r = -1 := by rw [hr, if_neg c0, if_neg c1, if_neg c2, if_neg c3]
          clear hr
          subst hr2
          have d3 : (t3 == 0) = false := by simp [c3]
          clear c0 c1 c2 c3
          go_enter Tryz.func246, Tryz.ntmps246
          go_wp2_with fail
          refine (HP.out _).mono ?_
          rintro e w' ⟨rfl, hb⟩
          go_wp2_with fail
          refine wp_loop_rounds 5 ?_
          rw [rounds_succ]
          go_wp2_with fail
          rw [rounds_succ]
          go_wp2_with fail
          rw [rounds_succ]
          go_wp2_with fail
          rw [rounds_succ]
          go_wp2_with fail
          rw [rounds_succ]
          go_wp2_with fail
          go_ret
          exact ⟨rfl, hb⟩
def spl (p : Spt) : List Value := [.int .i64 p.b, .int .i64 p.q, .int .i64 p.s]
def wyEnt (n : Wnd) : Int × Int × Int := (n.q, n.fr, if n.fr < 0 then -1 else n.sl)
/-- The program's Way in block X. -/
structure WyAt (W : World) (G : Om) (k X : Nat) (z : Wym) : Prop where
  ex : ∃ (bv mv wv : Value) (ov md : Bool), Ob W G k X [.int .i64 z.b, .int .i64 z.mo, bv, mv, .int .i64 z.i, wv, .bool ov, .bool md] ∧ (z.ln = 1 → ov = false ∧ md = true) ∧ (z.ln = 0 → ov = true ∨ md = false) ∧
    (z.ln = 1 → Sls W G (k + 1) 1 bv z.l.length (z.l.map fun n => .int .i64 n.q)) ∧ (z.ln = 1 → ∃ m, mv = .map (some m) ∧ G m = k + 2 ∧ MapF W m (z.l.map wyEnt)) ∧ Sls W G (k + 3) 3 wv z.way.length (z.way.flatMap spl)
theorem WyAt.ext {S : Nat → Prop} {O O' : Om} {w w' : World} {k X : Nat} {z : Wym} (h : WyAt w O k X z) (e : Ext S O w O' w') (hs : ∀ t, k ≤ t → t < k + 4 → ¬ S t) : WyAt w' O' k X z := by
  obtain ⟨bv, mv, wv, ov, md, h1, h2, h3, h4, h5, h6⟩ := h.ex
  refine ⟨bv, mv, wv, ov, md, h1.ext e (hs _ (by omega) (by omega)), h2, h3, fun g => (h4 g).ext e (hs _ (by omega) (by omega)), fun g => ?_, h6.ext e (hs _ (by omega) (by omega))⟩
  obtain ⟨m, q1, q2, q3⟩ := h5 g
  exact ⟨m, q1, (e.lo _ q3.lt).trans q2, q3.block (e.wr.block m q3.lt fun hh => hs (k + 2) (by omega) (by omega) (by have := hh.1; rwa [q2] at this))⟩
theorem WyAt.below {O : Om} {w w' : World} {k X : Nat} {z : Wym} (h : WyAt w O k X z) (e : Below w.heap.size w w') : WyAt w' O k X z := by
  obtain ⟨bv, mv, wv, ov, md, h1, h2, h3, h4, h5, h6⟩ := h.ex
  refine ⟨bv, mv, wv, ov, md, h1.below e, h2, h3, fun g => (h4 g).below e, fun g => ?_, h6.below e⟩
  obtain ⟨m, q1, q2, q3⟩ := h5 g
  exact ⟨m, q1, q2, q3.block (e.block m q3.lt)⟩
/-- A Put in block U, or what a NewPut of none comes to. -/
def PvAt (W : World) (G : Om) (k U : Nat) (p : Spt) (tg rf : Int) (o : Otm) : Prop :=
  (1 ≤ tg ∧ tg ≤ 255 ∧ 1 ≤ rf → PutAt W G k U p tg rf o) ∧ (¬ (1 ≤ tg ∧ tg ≤ 255 ∧ 1 ≤ rf) → Ob W G k U [.int .u64 0, .int .u64 0, .int .i64 0, .int .u64 0, .int .i64 0, .int .i64 0, .int .i64 0])
theorem PvAt.ext {S : Nat → Prop} {O O' : Om} {w w' : World} {k U : Nat} {p : Spt} {tg rf : Int} {o : Otm} (h : PvAt w O k U p tg rf o) (e : Ext S O w O' w') (hs : ¬ S k) : PvAt w' O' k U p tg rf o := ⟨fun g => (h.1 g).ext e hs, fun g => (h.2 g).ext e hs⟩
theorem PvAt.below {O : Om} {w w' : World} {k U : Nat} {p : Spt} {tg rf : Int} {o : Otm} (h : PvAt w O k U p tg rf o) (e : Below w.heap.size w w') : PvAt w' O k U p tg rf o := ⟨fun g => (h.1 g).below e, fun g => (h.2 g).below e⟩
def IMark (m : Nat) : Value := .iface 130 (.pointer (some ⟨m, 0, none⟩))
def IOut (m : Nat) : Value := .iface 78 (.pointer (some ⟨m, 0, none⟩))
def IPut (m : Nat) : Value := .iface 153 (.pointer (some ⟨m, 0, none⟩))
/-- The program's Hops in block X. -/
structure HoAt (W : World) (G : Om) (k X : Nat) (z : Hom) : Prop where
  ex : ∃ (wv dv : Value) (ld : Bool), Ob W G k X [wv, .int .i64 (max (z.k + 1) 0), .int .i64 z.tag, .bool ld, dv] ∧ (z.ln ≠ 0 → Sls W G (k + 1) 3 wv z.way.length (z.way.flatMap spl)) ∧ (z.ln = 1 → ld = false) ∧ (2 ≤ z.ln → ld = true) ∧
    (z.ln ≤ 2 → ∃ n, Sls W G (k + 2) 1 dv 0 [] ∧ n = 0) ∧
    (3 ≤ z.ln → ∃ m1 u p m2, Sls W G (k + 2) 1 dv (7 - z.ln).toNat ([IMark m1, IOut u, IPut p, IMark m2].drop (z.ln - 3).toNat) ∧ (z.ln = 3 → MkAt W G (k + 3) m1 z.m1) ∧ (z.ln ≤ 4 → OutAt W G (k + 5) u z.s z.o) ∧ (z.ln ≤ 5 → PvAt W G (k + 6) p z.t z.tag z.ref z.u) ∧ (z.ln ≤ 6 → MkAt W G (k + 7) m2 z.m2))
theorem HoAt.ext {S : Nat → Prop} {O O' : Om} {w w' : World} {k X : Nat} {z : Hom} (h : HoAt w O k X z) (e : Ext S O w O' w') (hs : ∀ t, k ≤ t → t < k + 9 → ¬ S t) : HoAt w' O' k X z := by
  obtain ⟨wv, dv, ld, h1, h2, h3, h4, h5, h6⟩ := h.ex
  refine ⟨wv, dv, ld, h1.ext e (hs _ (by omega) (by omega)), fun g => (h2 g).ext e (hs _ (by omega) (by omega)), h3, h4, fun g => ?_, fun g => ?_⟩
  · obtain ⟨n, q1, q2⟩ := h5 g; exact ⟨n, q1.ext e (hs _ (by omega) (by omega)), q2⟩
  · obtain ⟨m1, u, p, m2, q1, q2, q3, q4, q5⟩ := h6 g
    exact ⟨m1, u, p, m2, q1.ext e (hs _ (by omega) (by omega)), fun g => (q2 g).ext e (hs _ (by omega) (by omega)) (hs _ (by omega) (by omega)), fun g => (q3 g).ext e (hs _ (by omega) (by omega)), fun g => (q4 g).ext e (hs _ (by omega) (by omega)), fun g => (q5 g).ext e (hs _ (by omega) (by omega)) (hs _ (by omega) (by omega))⟩
theorem HoAt.below {O : Om} {w w' : World} {k X : Nat} {z : Hom} (h : HoAt w O k X z) (e : Below w.heap.size w w') : HoAt w' O k X z := by
  obtain ⟨wv, dv, ld, h1, h2, h3, h4, h5, h6⟩ := h.ex
  refine ⟨wv, dv, ld, h1.below e, fun g => (h2 g).below e, h3, h4, fun g => ?_, fun g => ?_⟩
  · obtain ⟨n, q1, q2⟩ := h5 g; exact ⟨n, q1.below e, q2⟩
  · obtain ⟨m1, u, p, m2, q1, q2, q3, q4, q5⟩ := h6 g
    exact ⟨m1, u, p, m2, q1.below e, fun g => (q2 g).below e, fun g => (q3 g).below e, fun g => (q4 g).below e, fun g => (q5 g).below e⟩
def rmCs (b : Int) (bv : Value) (a c : Int) (dv wv hv : Value) (p : Spt) (is : Bool) : List Value := [.int .i64 b, bv, .int .i64 a, .int .i64 c, dv, wv, hv, .int .i64 p.b, .int .i64 p.q, .int .i64 p.s, .bool is]
def LOOKR : Value := .func (.func 238) #[] #[]
def SEARCHR : Value := .func (.func 249) #[] #[]
def HOPR : Value := .func (.func 264) #[] #[]
def rmDo (ln : Int) : Value := if ln = 0 then .nilFunc else if ln ≤ 2 then LOOKR else if ln = 3 then SEARCHR else HOPR
/-- The buckets that are still to be looked at. -/
def rmLeft (z : Rmm) : List Int := if z.ln = 1 then (if z.c = z.a then [z.a] else [z.a, z.c]) else if z.ln = 2 then [z.c] else []
/-- The program's Room in block X. -/
structure RoomAt (W : World) (G : Om) (k X : Nat) (z : Rmm) : Prop where
  ex : ∃ (bv wv hv : Value), Ob W G k X (rmCs z.b bv z.a z.c (rmDo z.ln) wv hv z.p z.is) ∧ (z.ln = 1 ∨ z.ln = 2 → Sls W G (k + 1) 1 bv (rmLeft z).length ((rmLeft z).map (Value.int .i64))) ∧ (z.ln = 3 → ∃ Y, wv = .pointer (some ⟨Y, 0, none⟩) ∧ WyAt W G (k + 2) Y z.wy) ∧ (z.ln = 4 → ∃ Y, hv = .pointer (some ⟨Y, 0, none⟩) ∧ HoAt W G (k + 6) Y z.ho)
theorem RoomAt.ext {S : Nat → Prop} {O O' : Om} {w w' : World} {k X : Nat} {z : Rmm} (h : RoomAt w O k X z) (e : Ext S O w O' w') (hs : ∀ t, k ≤ t → t < k + 15 → ¬ S t) : RoomAt w' O' k X z := by
  obtain ⟨bv, wv, hv, h1, h2, h3, h4⟩ := h.ex
  refine ⟨bv, wv, hv, h1.ext e (hs _ (by omega) (by omega)), fun g => (h2 g).ext e (hs _ (by omega) (by omega)), fun g => ?_, fun g => ?_⟩
  · obtain ⟨Y, q1, q2⟩ := h3 g; exact ⟨Y, q1, q2.ext e fun t a b => hs t (by omega) (by omega)⟩
  · obtain ⟨Y, q1, q2⟩ := h4 g; exact ⟨Y, q1, q2.ext e fun t a b => hs t (by omega) (by omega)⟩
theorem RoomAt.below {O : Om} {w w' : World} {k X : Nat} {z : Rmm} (h : RoomAt w O k X z) (e : Below w.heap.size w w') : RoomAt w' O k X z := by
  obtain ⟨bv, wv, hv, h1, h2, h3, h4⟩ := h.ex
  refine ⟨bv, wv, hv, h1.below e, fun g => (h2 g).below e, fun g => ?_, fun g => ?_⟩
  · obtain ⟨Y, q1, q2⟩ := h3 g; exact ⟨Y, q1, q2.below e⟩
  · obtain ⟨Y, q1, q2⟩ := h4 g; exact ⟨Y, q1, q2.below e⟩
theorem RoomAt.c4 {O : Om} {w : World} {k X : Nat} {z : Rmm} (h : RoomAt w O k X z) : w.cell? ⟨X, 4, none⟩ = some (rmDo z.ln) := by
  obtain ⟨bv, wv, hv, h1, -⟩ := h.ex
  exact h1.c 4 _ rfl
@[go_sem] theorem eql_fr (w : World) (f : Fn) (a c : Array Value) : (binOp .eql 335 (.func f a c) .nilFunc).run Tryz.prog w = .ok (.bool false) w := run_eql_func_nil w _ _ _ _ f a c Tryz.underlying335
@[go_sem] theorem eql_fr0 (w : World) : (binOp .eql 335 .nilFunc .nilFunc).run Tryz.prog w = .ok (.bool true) w := run_eql_nil_nil w _ _ _ _ Tryz.underlying335
theorem c_RmOver (X : Nat) (dv : Value) (w : World) (hc : w.cell? ⟨X, 4, none⟩ = some dv) (b : Bool) (hb : (dv = .nilFunc ∧ b = true) ∨ (∃ f a c, dv = .func f a c ∧ b = false)) :
    Calls Tryz.prog 327 #[.pointer (some ⟨X, 0, none⟩)] w fun e w' => e = .returned (.bool b) ∧ w = w' := by
  rcases hb with ⟨rfl, rfl⟩ | ⟨f, a, c, rfl, rfl⟩
  · go_enter Tryz.func327, Tryz.ntmps327
    go_wp2
    go_ret
    exact ⟨rfl, rfl⟩
  · go_enter Tryz.func327, Tryz.ntmps327
    go_wp2
    go_ret
    exact ⟨rfl, rfl⟩
theorem rmDo_cases (ln : Int) : (rmDo ln = .nilFunc ∧ (ln == 0) = true) ∨ (∃ f a c, rmDo ln = .func f a c ∧ (ln == 0) = false) := by
  unfold rmDo
  by_cases h : ln = 0
  · rw [if_pos h]; exact .inl ⟨rfl, by simp [h]⟩
  · rw [if_neg h]
    have d : (ln == 0) = false := by simp [h]
    split
    · exact .inr ⟨_, _, _, rfl, d⟩
    · split
      · exact .inr ⟨_, _, _, rfl, d⟩
      · exact .inr ⟨_, _, _, rfl, d⟩
theorem c_RmOver' {O : Om} {w : World} {k X : Nat} {z : Rmm} (h : RoomAt w O k X z) : Calls Tryz.prog 327 #[.pointer (some ⟨X, 0, none⟩)] w fun e w' => e = .returned (.bool (z.ln == 0)) ∧ w = w' := c_RmOver X _ w h.c4 _ (rmDo_cases z.ln)
end Go.Proofs.YtlcibfpibklbdaaGreat
