/- Layer 22: the chapter's examples. -/
import Derived.Test.YtijifjiehldcaaaGreatRfRun
namespace Go.Proofs.YtijifjiehldcaaaGreat
set_option linter.unusedSimpArgs false
open Go.RowKit
set_option linter.unusedVariables false

/-- A world of a law's own, as its cells go on. -/
structure Lw (w0 w : World) (F : Nat → Prop) (p c : Nat) (M : Int → Int) (n : Int) (la : La) : Prop where
  ce : Ce w F c M n la
  hp : w.cell? ⟨p, 0, none⟩ = some (.pointer (some ⟨c, 0, none⟩))
  pl : p < w.heap.size
  pn : ¬ F p
  base : ∀ j, F j → w0.heap.size ≤ j
  pb : w0.heap.size ≤ p
  bel : Below w0.heap.size w0 w
section
variable {w0 w w1 : World} {F : Nat → Prop} {p c ip np t : Nat} {f : Cf} {M M1 : Int → Int} {n n1 : Int} {la la1 : La} {tk : Nat → Int} {ho : Int} {z : TM} {T : Tc} {v : Value} {e : Ending}
theorem Sy.lw (h : Sy w0 w F p c ip np f M n la tk ho) : Lw w0 w F p c M n la := ⟨h.ce, h.wo.c0, h.wo.lt, h.pn, h.base, h.pb, h.bel⟩
theorem Lw.go (h : Lw w0 w F p c M n la) (hb : Below w.heap.size w w1) : Lw w0 w1 F p c M n la :=
  ⟨h.ce.below hb, (hb.cell (p := ⟨p, 0, none⟩) h.pl).trans h.hp, Nat.lt_of_lt_of_le h.pl hb.size, h.pn, h.base, h.pb, h.bel.trans (hb.mono h.bel.size)⟩
theorem Lw.ts (h : Lw w0 w F p c M n la) (ta : TAt w t T) (tn : ¬ F t) (tp : t ≠ p) : TS w F p c t ⟨M, n, la, T⟩ := ⟨h.ce, h.hp, h.pl, h.pn, ta, tn, tp⟩
/-- Behind a call that goes on with the cells alone. -/
theorem Lw.ce_post (h : Lw w0 w F p c M n la) (hp : CePost w F c M1 n1 la1 v e w1) : e = .returned v ∧ ∃ F', Lw w0 w1 F' p c M1 n1 la1 ∧ Grow w F w1 F' ∧ Wrote F w w1 := by
  obtain ⟨rfl, F', h1, h2, h3⟩ := hp
  have hs := h.bel.size
  refine ⟨rfl, F', ⟨h1, (h3.cell (p := ⟨p, 0, none⟩) h.pl h.pn).trans h.hp, Nat.lt_of_lt_of_le h.pl h3.size, fun hf => ?_, fun j hj => ?_, h.pb, h.bel.trans (h3.below (fun j _ hj => h.base j hj) hs)⟩, h2, h3⟩
  · rcases h2.new p hf with h4 | h4
    · exact h.pn h4
    · have := h.pl; omega
  · rcases h2.new j hj with h4 | h4
    · exact h.base j h4
    · omega
/-- Behind a call that goes on with a Touch, too. -/
theorem Lw.ts_post (h : Lw w0 w F p c M n la) (tb : w0.heap.size ≤ t) (hp : TSPost w F p c t z v e w1) : e = .returned v ∧ ∃ F', Lw w0 w1 F' p c z.M z.n z.la ∧ TAt w1 t z.t ∧ ¬ F' t ∧ t ≠ p ∧ Grow w F w1 F' ∧ Wrote (fun j => F j ∨ j = t) w w1 := by
  obtain ⟨rfl, F', h1, h2, h3⟩ := hp
  have hs := h.bel.size
  refine ⟨rfl, F', ⟨h1.ce, h1.hp, h1.pl, h1.pn, fun j hj => ?_, h.pb, h.bel.trans (h3.below (fun j _ hj => hj.elim (h.base j) fun e => by omega) hs)⟩, h1.ta, h1.tn, h1.tp, h2, h3⟩
  rcases h2.new j hj with h4 | h4
  · exact h.base j h4
  · omega
end
/-- A Touch that stands beside. -/
structure Tk (w : World) (F : Nat → Prop) (t : Nat) (T : Tc) : Prop where
  ta : TAt w t T
  tn : ¬ F t
theorem Tk.on {w w1 : World} {F F1 S : Nat → Prop} {t : Nat} {T : Tc} (h : Tk w F t T) (g : Grow w F w1 F1) (v : Wrote S w w1) (hs : ¬ S t) : Tk w1 F1 t T :=
  ⟨h.ta.wrote v hs, fun hf => (g.new t hf).elim h.tn fun h2 => by have := h.ta.lt; omega⟩
theorem Tk.go {w w1 : World} {F : Nat → Prop} {t : Nat} {T : Tc} (h : Tk w F t T) (hb : Below w.heap.size w w1) : Tk w1 F t T := ⟨h.ta.wrote (S := fun _ => False) (Wrote.of_below hb) id, h.tn⟩
theorem c_NewT {w0 w : World} {F : Nat → Prop} {p c : Nat} {M : Int → Int} {n : Int} {la : La} (h : Lw w0 w F p c M n la) (r : Int) (r0 : -9223372036854775808 ≤ r) (r1 : r ≤ 9223372036854775807) :
    Calls Tryz.prog 10 #[.int .i64 r] w fun e w' => ∃ t, e = .returned (.pointer (some ⟨t, 0, none⟩)) ∧ Lw w0 w' F p c M n la ∧ Tk w' F t (tcNew (plRef r)) ∧ t ≠ p ∧ w0.heap.size ≤ t ∧ w.heap.size ≤ t ∧ Below w.heap.size w w' := by
  refine (c_NewTouch r w r0 r1).mono ?_
  rintro e w2 ⟨rfl, hw2⟩
  have T2 := TAt.new w (plRef r) 59 w.heap.size rfl
  rw [hw2] at T2
  have hb2 : Below w.heap.size w w2 := by rw [← hw2]; exact (Below.refl _ _).alloc (Nat.le_refl _) _
  exact ⟨_, rfl, h.go hb2, ⟨T2, fun hf => by have := h.ce.lts _ hf; omega⟩, fun e => by have := h.pl; omega, h.bel.size, Nat.le_refl _, hb2⟩
def RunPost (w0 w : World) (F : Nat → Prop) (p c t : Nat) (z : TM) (v : Value) (e : Ending) (w' : World) : Prop :=
  e = .returned v ∧ ∃ F', Lw w0 w' F' p c z.M z.n z.la ∧ Tk w' F' t z.t ∧ Grow w F w' F' ∧ Wrote (fun j => F j ∨ j = t) w w'
theorem c_RunT {w0 w : World} {F : Nat → Prop} {p c t : Nat} {M : Int → Int} {n : Int} {la : La} {T : Tc} (m : Nat) (h : Lw w0 w F p c M n la) (k : Tk w F t T) (tp : t ≠ p) (tb : w0.heap.size ≤ t) (hok : T.ok) (n0 : 0 ≤ n) (n1 : n + m ≤ 4611686018427387904) :
    Calls Tryz.prog 34 #[.pointer (some ⟨p, 0, none⟩), .iface 43 (.pointer (some ⟨t, 0, none⟩)), .int .i64 m] w (RunPost w0 w F p c t (tcRun m ⟨M, n, la, T⟩).2 (.int .i64 (tcRun m ⟨M, n, la, T⟩).1)) := by
  refine (c_Run w F p c t m ⟨M, n, la, T⟩ (h.ts k.ta k.tn tp) hok n0 n1).mono ?_
  intro e w3 hp3
  obtain ⟨rfl, F3, l3, ta3, tn3, tp3, g3, v3⟩ := h.ts_post tb hp3
  exact ⟨rfl, F3, l3, ⟨ta3, tn3⟩, g3, v3⟩
def CeLw (w0 w : World) (F : Nat → Prop) (p c : Nat) (M : Int → Int) (n : Int) (la : La) (v : Value) (e : Ending) (w' : World) : Prop :=
  e = .returned v ∧ ∃ F', Lw w0 w' F' p c M n la ∧ Grow w F w' F' ∧ Wrote F w w'
theorem c_StoreL {w0 w : World} {F : Nat → Prop} {p c : Nat} {M : Int → Int} {n : Int} {la : La} (x y : Int) (h : Lw w0 w F p c M n la) (x0 : 0 ≤ x) (x1 : x < 18446744073709551616) (y0 : 0 ≤ y) (y1 : y < 18446744073709551616) (hn0 : 0 ≤ n) (hn : n ≤ 4611686018427387904) :
    Calls Tryz.prog 36 #[.pointer (some ⟨c, 0, none⟩), .int .u64 x, .int .u64 y] w (CeLw w0 w F p c (upd M x y) (n + 1) ⟨2, x, M x, y⟩ (.int .u64 (M x))) :=
  (c_Store x y h.ce x0 x1 y0 y1 hn0 hn).mono fun e w' hp => h.ce_post hp
theorem tcNew_ok {a : Int} (a0 : 0 ≤ a) (a1 : a < 18446744073709551616) : (tcNew a).ok := ⟨a0, a1, Int.le_refl 0, (by show (0 : Int) < 18446744073709551616; omega), fun _ => .inl rfl⟩
def lA : Int := 4294967305
theorem lA_eq : plRef 9 = lA := by decide
def lz0 : TM := ⟨upd (fun _ => 0) 2 (plWord 1 0), 0, ⟨0, 0, 0, 0⟩, tcNew lA⟩
def ly1 : TM := (tcRun 9 lz0).2
def lz1 : TM := ⟨ly1.M, ly1.n, ly1.la, tcNew lA⟩
def ly2 : TM := (tcRun 9 lz1).2
def lz3 : TM := ⟨upd ly2.M lA 2, ly2.n + 1, ⟨2, lA, ly2.M lA, 2⟩, tcNew lA⟩
def ly3 : TM := (tcRun 9 lz3).2
def lz5 : TM := ⟨upd (upd ly3.M lA 2) 5 1, ly3.n + 1 + 1, ⟨2, 5, upd ly3.M lA 2 5, 1⟩, tcNew lA⟩
def ly5 : TM := (tcRun 9 lz5).2
theorem l_facts : (tcRun 9 lz0).1 = 3 ∧ ly1.t.done = true ∧ ly1.M lA = 1 ∧ (tcRun 9 lz1).1 = 1 ∧ ly3.M lA = 3 ∧ (tcRun 9 lz5).1 = 2 ∧ ly5.t.done = false ∧ rfLess 1 = 2 := by decide
theorem l_bounds : (0 ≤ ly1.n ∧ ly1.n ≤ 1000) ∧ (0 ≤ ly2.n ∧ ly2.n ≤ 1000) ∧ (0 ≤ ly3.n ∧ ly3.n ≤ 1000) := by decide
theorem lA_lt : 0 ≤ lA ∧ lA < 18446744073709551616 := by decide
set_option maxHeartbeats 2000000 in
set_option maxRecDepth 100000 in
theorem c_lives22 (w : World) : Calls Tryz.prog 8 #[] w fun e w' => e = .returned (.bool true) ∧ Below w.heap.size w w' := by
  have HA := Lib.hid lA_lt
  have HB := Lib.hid l_bounds
  have HF := Lib.hid l_facts
  have HT := Lib.hid (tcNew_ok lA_lt.1 lA_lt.2)
  go_enter Tryz.func8, Tryz.ntmps8
  go_wp2_with fail
  refine (c_World 1 w (by decide) (by decide)).mono ?_
  rintro e w1 ⟨p, c, ip, np, F1, rfl, hS⟩
  have L1 := Lib.hid hS.lw
  clear hS
  go_wp2_with fail
  refine (c_Ref 9 _ (by decide) (by decide)).mono ?_
  rintro e w' ⟨rfl, rfl⟩
  rw [lA_eq]
  go_wp2_with fail
  refine (c_NewT L1.out 9 (by decide) (by decide)).mono ?_
  rintro e w2 ⟨x, rfl, l2, k2, xp, xb, _, _⟩
  rw [lA_eq] at k2
  have L2 := Lib.hid l2
  have K2 := Lib.hid k2
  have XP := Lib.hid xp
  have XB := Lib.hid xb
  clear l2 k2 xp xb
  go_wp2_with fail
  refine (c_RunT 9 L2.out K2.out XP.out XB.out HT.out (by decide) (by decide)).mono ?_
  rintro e w3 ⟨rfl, F3, l3, k3, g3, v3⟩
  rw [show (tcRun 9 ⟨upd (fun _ => 0) 2 (plWord 1 0), 0, ⟨0, 0, 0, 0⟩, tcNew lA⟩).1 = 3 from HF.out.1]
  have L3 : Hid (Lw w w3 F3 p c ly1.M ly1.n ly1.la) := Lib.hid l3
  have X3 : Hid (Tk w3 F3 x ly1.t) := Lib.hid k3
  clear l3 k3 g3 v3 L2 K2
  have p3 := L3.out.hp
  go_wp2_with fail
  refine (c_Peek lA L3.out.ce HA.out.1 HA.out.2).mono ?_
  rintro e w' ⟨rfl, rfl⟩
  rw [show ly1.M lA = 1 from HF.out.2.2.1]
  go_wp2_with fail
  refine (c_NewT L3.out 9 (by decide) (by decide)).mono ?_
  rintro e w4 ⟨t4, rfl, l4, k4, tp4, tb4, ts4, b4⟩
  rw [lA_eq] at k4
  have L4 := Lib.hid l4
  have K4 := Lib.hid k4
  have TP4 := Lib.hid tp4
  have TB4 := Lib.hid tb4
  have X4 := Lib.hid (X3.out.go b4)
  have XT4 : Hid (x ≠ t4) := Lib.hid fun e => by have := X3.out.ta.lt; omega
  clear l4 k4 tp4 tb4 ts4 b4 p3
  go_wp2_with fail
  refine (c_RunT 9 L4.out K4.out TP4.out TB4.out HT.out HB.out.1.1 (by have := HB.out.1.2; omega)).mono ?_
  rintro e w5 ⟨rfl, F5, l5, k5, g5, v5⟩
  rw [show (tcRun 9 ⟨ly1.M, ly1.n, ly1.la, tcNew lA⟩).1 = 1 from HF.out.2.2.2.1]
  have L5 : Hid (Lw w w5 F5 p c ly2.M ly2.n ly2.la) := Lib.hid l5
  have X5 := Lib.hid (X4.out.on g5 v5 (fun h => h.elim X4.out.tn XT4.out))
  clear l5 k5 g5 v5 L4 K4
  have p5 := L5.out.hp
  go_wp2_with fail
  go_region_held3 (fun w' => w'.cell? ⟨p, 0, none⟩ = some (.pointer (some ⟨c, 0, none⟩))) (go_keep)
    (first
      | (go_at_call 37; refine (c_Less 1 _ (by decide) (by decide)).mono ?_; rintro e w' ⟨rfl, rfl⟩; rw [show rfLess 1 = 2 from HF.out.2.2.2.2.2.2.2])
      | (go_at_call 36
         refine (c_StoreL lA 2 (L5.out.go (Below.refl _ _).drew) HA.out.1 HA.out.2 (by decide) (by decide) HB.out.2.1.1 (by have := HB.out.2.1.2; omega)).mono ?_
         rintro e w6 ⟨rfl, F6, l6, g6, v6⟩
         have p6 := l6.hp
         have L6 := Lib.hid l6
         have X6 := Lib.hid ((X5.out.go (Below.refl _ _).drew).on g6 v6 X5.out.tn)
         clear l6 g6 v6))
  all_goals
    go_wp2_with fail
    refine (c_NewT L6.out 9 (by decide) (by decide)).mono ?_
    rintro e w7 ⟨t7, rfl, l7, k7, tp7, tb7, ts7, b7⟩
    rw [lA_eq] at k7
    have L7 := Lib.hid l7
    have K7 := Lib.hid k7
    have TP7 := Lib.hid tp7
    have TB7 := Lib.hid tb7
    have X7 := Lib.hid (X6.out.go b7)
    have XT7 : Hid (x ≠ t7) := Lib.hid fun e => by have := X6.out.ta.lt; omega
    clear l7 k7 tp7 tb7 ts7 b7 p6
    go_wp2_with fail
    refine (c_RunT 9 L7.out K7.out TP7.out TB7.out HT.out (by have := HB.out.2.1.1; omega) (by have := HB.out.2.1.2; omega)).mono ?_
    rintro e w8 ⟨rfl, F8, l8, k8, g8, v8⟩
    have L8 : Hid (Lw w w8 F8 p c ly3.M ly3.n ly3.la) := Lib.hid l8
    have X8 := Lib.hid (X7.out.on g8 v8 (fun h => h.elim X7.out.tn XT7.out))
    clear l8 k8 g8 v8 L7 K7
    have p8 := L8.out.hp
    go_wp2_with fail
    refine (c_Peek lA L8.out.ce HA.out.1 HA.out.2).mono ?_
    rintro e w' ⟨rfl, rfl⟩
    rw [show ly3.M lA = 3 from HF.out.2.2.2.2.1]
    go_wp2_with fail
    refine (c_StoreL lA 2 L8.out HA.out.1 HA.out.2 (by decide) (by decide) HB.out.2.2.1 (by have := HB.out.2.2.2; omega)).mono ?_
    rintro e w9 ⟨rfl, F9, l9, g9, v9⟩
    have p9 := l9.hp
    have L9 := Lib.hid l9
    have X9 := Lib.hid (X8.out.on g9 v9 X8.out.tn)
    clear l9 g9 v9 p8
    go_wp2_with fail
    refine (c_StoreL 5 1 L9.out (by decide) (by decide) (by decide) (by decide) (by have := HB.out.2.2.1; omega) (by have := HB.out.2.2.2; omega)).mono ?_
    rintro e w10 ⟨rfl, F10, l10, g10, v10⟩
    have L10 := Lib.hid l10
    have X10 := Lib.hid (X9.out.on g10 v10 X9.out.tn)
    clear l10 g10 v10 p9
    go_wp2_with fail
    refine (c_NewT L10.out 9 (by decide) (by decide)).mono ?_
    rintro e w11 ⟨y, rfl, l11, k11, tp11, tb11, ts11, b11⟩
    rw [lA_eq] at k11
    have L11 := Lib.hid l11
    have K11 := Lib.hid k11
    have TP11 := Lib.hid tp11
    have TB11 := Lib.hid tb11
    have X11 := Lib.hid (X10.out.go b11)
    have XT11 : Hid (x ≠ y) := Lib.hid fun e => by have := X10.out.ta.lt; omega
    clear l11 k11 tp11 tb11 ts11 b11
    go_wp2_with fail
    refine (c_RunT 9 L11.out K11.out TP11.out TB11.out HT.out (by have := HB.out.2.2.1; omega) (by have := HB.out.2.2.2; omega)).mono ?_
    rintro e w12 ⟨rfl, F12, l12, k12, g12, v12⟩
    rw [show (tcRun 9 ⟨upd (upd ly3.M lA 2) 5 1, ly3.n + 1 + 1, ⟨2, 5, upd ly3.M lA 2 5, 1⟩, tcNew lA⟩).1 = 2 from HF.out.2.2.2.2.2.1]
    have L12 := Lib.hid l12
    have Y12 : Hid (Tk w12 F12 y ly5.t) := Lib.hid k12
    have X12 := Lib.hid (X11.out.on g12 v12 (fun h => h.elim X11.out.tn XT11.out))
    clear l12 k12 g12 v12 L11 K11
    go_wp2_with fail
    refine (c_Done x _ _ X12.out.ta).mono ?_
    rintro e w' ⟨rfl, rfl⟩
    rw [show ly1.t.done = true from HF.out.2.1]
    go_wp2_with fail
    refine (c_Less 1 _ (by decide) (by decide)).mono ?_
    rintro e w' ⟨rfl, rfl⟩
    rw [show rfLess 1 = 2 from HF.out.2.2.2.2.2.2.2]
    go_wp2_with fail
    refine (c_Done y _ _ Y12.out.ta).mono ?_
    rintro e w' ⟨rfl, rfl⟩
    rw [show ly5.t.done = false from HF.out.2.2.2.2.2.2.1]
    go_wp2
    go_ret
    exact ⟨rfl, L12.out.bel⟩
end Go.Proofs.YtijifjiehldcaaaGreat
