/- Layer 18: the program's Room: its object; a new one; a look into a bucket that has a free slot. Layer 18: the program's Room: a new one; a look into a bucket that has a free slot; what it got. Layer 20: the program's Move: its object, a new one, is it over, on to what is not over. Layer 20: the program's Move goes on to what is not over. Layer 20: parts of the program's Move: are they over, a step of an act, the tags of a bucket. -/
import Derived.Test.YtfnmdafpdcgcmaaGreatZ1
import Derived.Test.YtfnmdafpdcgcmaaGreatZH
import Derived.Laws.EntriesVeiled
import Derived.Shelf.Lay
namespace Go.Proofs.YtfnmdafpdcgcmaaGreat
set_option linter.unusedSimpArgs false
section
set_option linter.unusedVariables false
set_option maxHeartbeats 1000000
set_option maxRecDepth 100000
open Go.RowKit Go.Shelf
theorem c_TwFree (x : Int) (w : World) (x0 : 0 ≤ x) (x1 : x < 18446744073709551616) : Calls Tryz.prog 89 #[.int .u64 x] w fun e w' => e = .returned (.int .i64 (twFree x)) ∧ Below w.heap.size w w' := by
 have HP := Lib.hid (fun W => c_TwParts x W x0 x1)
 unfold twFree
 obtain ⟨t0, e0⟩ : ∃ t, t = twTag x 0 := ⟨_, rfl⟩
 obtain ⟨t1, e1⟩ : ∃ t, t = twTag x 1 := ⟨_, rfl⟩
 obtain ⟨t2, e2⟩ : ∃ t, t = twTag x 2 := ⟨_, rfl⟩
 obtain ⟨t3, e3⟩ : ∃ t, t = twTag x 3 := ⟨_, rfl⟩
 rw [← e0, ← e1, ← e2, ← e3] at HP
 rw [← e0, ← e1, ← e2, ← e3]
 have h0 : ∀ W, (Instr.index 159 (.agg #[.int .i64 t0, .int .i64 t1, .int .i64 t2, .int .i64 t3]) (.int .i64 0)).run Tryz.prog W = .ok (.int .i64 t0) W := fun W => by kernel_rfl
 have h1 : ∀ W, (Instr.index 159 (.agg #[.int .i64 t0, .int .i64 t1, .int .i64 t2, .int .i64 t3]) (.int .i64 1)).run Tryz.prog W = .ok (.int .i64 t1) W := fun W => by kernel_rfl
 have h2 : ∀ W, (Instr.index 159 (.agg #[.int .i64 t0, .int .i64 t1, .int .i64 t2, .int .i64 t3]) (.int .i64 2)).run Tryz.prog W = .ok (.int .i64 t2) W := fun W => by kernel_rfl
 have h3 : ∀ W, (Instr.index 159 (.agg #[.int .i64 t0, .int .i64 t1, .int .i64 t2, .int .i64 t3]) (.int .i64 3)).run Tryz.prog W = .ok (.int .i64 t3) W := fun W => by kernel_rfl
 clear e0 e1 e2 e3
 obtain ⟨r, hr⟩ : ∃ r, r = (if t0 = 0 then (0 : Int) else if t1 = 0 then 1 else if t2 = 0 then 2 else if t3 = 0 then 3 else -1) := ⟨_, rfl⟩
 rw [← hr]
 by_cases c0 : t0 = 0
 · have hr2 : r = 0 := by rw [hr, if_pos c0]
   clear hr
   subst hr2
   have d0 : (t0 == 0) = true := by simp [c0]
   clear c0
   go_enter Tryz.func89, Tryz.ntmps89
   go_wp2_with fail
   refine (HP.out _).mono ?_
   rintro e w' ⟨rfl, hb⟩
   go_wp2_with fail
   refine wp_loop_rounds 1 ?_
   rw [rounds_succ]
   go_wp2_with fail
   go_ret
   exact ⟨rfl, hb⟩
 · have d0 : (t0 == 0) = false := by simp [c0]
   by_cases c1 : t1 = 0
   · have hr2 : r = 1 := by rw [hr, if_neg c0, if_pos c1]
     clear hr
     subst hr2
     have d1 : (t1 == 0) = true := by simp [c1]
     clear c0 c1
     go_enter Tryz.func89, Tryz.ntmps89
     go_wp2_with fail
     refine (HP.out _).mono ?_
     rintro e w' ⟨rfl, hb⟩
     go_wp2_with fail
     refine wp_loop_rounds 2 ?_
     rw [rounds_succ]
     go_wp2_with fail
     rw [rounds_succ]
     go_wp2_with fail
     go_ret
     exact ⟨rfl, hb⟩
   · have d1 : (t1 == 0) = false := by simp [c1]
     by_cases c2 : t2 = 0
     · have hr2 : r = 2 := by rw [hr, if_neg c0, if_neg c1, if_pos c2]
       clear hr
       subst hr2
       have d2 : (t2 == 0) = true := by simp [c2]
       clear c0 c1 c2
       go_enter Tryz.func89, Tryz.ntmps89
       go_wp2_with fail
       refine (HP.out _).mono ?_
       rintro e w' ⟨rfl, hb⟩
       go_wp2_with fail
       refine wp_loop_rounds 3 ?_
       rw [rounds_succ]
       go_wp2_with fail
       rw [rounds_succ]
       go_wp2_with fail
       rw [rounds_succ]
       go_wp2_with fail
       go_ret
       exact ⟨rfl, hb⟩
     · have d2 : (t2 == 0) = false := by simp [c2]
       by_cases c3 : t3 = 0
       · have hr2 : r = 3 := by rw [hr, if_neg c0, if_neg c1, if_neg c2, if_pos c3]
         clear hr
         subst hr2
         have d3 : (t3 == 0) = true := by simp [c3]
         clear c0 c1 c2 c3
         go_enter Tryz.func89, Tryz.ntmps89
         go_wp2_with fail
         refine (HP.out _).mono ?_
         rintro e w' ⟨rfl, hb⟩
         go_wp2_with fail
         refine wp_loop_rounds 4 ?_
         rw [rounds_succ]
         go_wp2_with fail
         rw [rounds_succ]
         go_wp2_with fail
         rw [rounds_succ]
         go_wp2_with fail
         rw [rounds_succ]
         go_wp2_with fail
         go_ret
         exact ⟨rfl, hb⟩
       · have hr2 : r = -1 := by rw [hr, if_neg c0, if_neg c1, if_neg c2, if_neg c3]
         clear hr
         subst hr2
         have d3 : (t3 == 0) = false := by simp [c3]
         clear c0 c1 c2 c3
         go_enter Tryz.func89, Tryz.ntmps89
         go_wp2_with fail
         refine (HP.out _).mono ?_
         rintro e w' ⟨rfl, hb⟩
         go_wp2_with fail
         refine wp_loop_rounds 5 ?_
         rw [rounds_succ]
         go_wp2_with fail
         rw [rounds_succ]
         go_wp2_with fail
         rw [rounds_succ]
         go_wp2_with fail
         rw [rounds_succ]
         go_wp2_with fail
         rw [rounds_succ]
         go_wp2_with fail
         go_ret
         exact ⟨rfl, hb⟩
def spl (p : Spt) : List Value := [.int .i64 p.b, .int .i64 p.q, .int .i64 p.s]
def wyEnt (n : Wnd) : Int × Int × Int := (n.q, n.fr, if n.fr < 0 then -1 else n.sl)
structure WyAt (W : World) (G : Om) (k X : Nat) (z : Wym) : Prop where
 ex : ∃ (bv mv wv : Value) (ov md : Bool), Ob W G k X [.int .i64 z.b, .int .i64 z.mo, bv, mv, .int .i64 z.i, wv, .bool ov, .bool md] ∧ (z.ln = 1 → ov = false ∧ md = true) ∧ (z.ln = 0 → ov = true ∨ md = false) ∧
  (z.ln = 1 → Sls W G (k + 1) 1 bv z.l.length (z.l.map fun n => .int .i64 n.q)) ∧ (z.ln = 1 → ∃ m, mv = .map (some m) ∧ G m = k + 2 ∧ MapF W m (z.l.map wyEnt)) ∧ Sls W G (k + 3) 3 wv z.way.length (z.way.flatMap spl)
theorem WyAt.ext {S : Nat → Prop} {O O' : Om} {w w' : World} {k X : Nat} {z : Wym} (h : WyAt w O k X z) (e : Ext S O w O' w') (hs : ∀ t, k ≤ t → t < k + 4 → ¬ S t) : WyAt w' O' k X z := by
 obtain ⟨bv, mv, wv, ov, md, h1, h2, h3, h4, h5, h6⟩ := h.ex
 refine ⟨bv, mv, wv, ov, md, h1.ext e (hs _ (by omega) (by omega)), h2, h3, fun g => (h4 g).ext e (hs _ (by omega) (by omega)), fun g => ?_, h6.ext e (hs _ (by omega) (by omega))⟩
 obtain ⟨m, q1, q2, q3⟩ := h5 g
 exact ⟨m, q1, (e.lo _ q3.lt).trans q2, q3.block (e.wr.block m q3.lt fun hh => hs (k + 2) (by omega) (by omega) (by have := hh.1; rwa [q2] at this))⟩
theorem WyAt.below {O : Om} {w w' : World} {k X : Nat} {z : Wym} (h : WyAt w O k X z) (e : Below w.heap.size w w') : WyAt w' O k X z := by
 obtain ⟨bv, mv, wv, ov, md, h1, h2, h3, h4, h5, h6⟩ := h.ex
 refine ⟨bv, mv, wv, ov, md, h1.below e, h2, h3, fun g => (h4 g).below e, fun g => ?_, h6.below e⟩
 obtain ⟨m, q1, q2, q3⟩ := h5 g
 exact ⟨m, q1, q2, q3.block (e.block m q3.lt)⟩
def PvAt (W : World) (G : Om) (k U : Nat) (p : Spt) (tg rf : Int) (o : Otm) : Prop :=
 (1 ≤ tg ∧ tg ≤ 255 ∧ 1 ≤ rf → PutAt W G k U p tg rf o) ∧ (¬ (1 ≤ tg ∧ tg ≤ 255 ∧ 1 ≤ rf) → Ob W G k U [.int .u64 0, .int .u64 0, .int .i64 0, .int .u64 0, .int .i64 0, .int .i64 0, .int .i64 0])
theorem PvAt.ext {S : Nat → Prop} {O O' : Om} {w w' : World} {k U : Nat} {p : Spt} {tg rf : Int} {o : Otm} (h : PvAt w O k U p tg rf o) (e : Ext S O w O' w') (hs : ¬ S k) : PvAt w' O' k U p tg rf o := ⟨fun g => (h.1 g).ext e hs, fun g => (h.2 g).ext e hs⟩
theorem PvAt.below {O : Om} {w w' : World} {k U : Nat} {p : Spt} {tg rf : Int} {o : Otm} (h : PvAt w O k U p tg rf o) (e : Below w.heap.size w w') : PvAt w' O k U p tg rf o := ⟨fun g => (h.1 g).below e, fun g => (h.2 g).below e⟩
def IMark (m : Nat) : Value := .iface 216 (.pointer (some ⟨m, 0, none⟩))
def IOut (m : Nat) : Value := .iface 219 (.pointer (some ⟨m, 0, none⟩))
def IPut (m : Nat) : Value := .iface 85 (.pointer (some ⟨m, 0, none⟩))
structure HoAt (W : World) (G : Om) (k X : Nat) (z : Hom) : Prop where
 ex : ∃ (wv dv : Value) (ld : Bool), Ob W G k X [wv, .int .i64 (max (z.k + 1) 0), .int .i64 z.tag, .bool ld, dv] ∧ (z.ln ≠ 0 → Sls W G (k + 1) 3 wv z.way.length (z.way.flatMap spl)) ∧ (z.ln = 1 → ld = false) ∧ (2 ≤ z.ln → ld = true) ∧
  (z.ln ≤ 2 → ∃ n, Sls W G (k + 2) 1 dv 0 [] ∧ n = 0) ∧
  (3 ≤ z.ln → ∃ m1 u p m2, Sls W G (k + 2) 1 dv (7 - z.ln).toNat ([IMark m1, IOut u, IPut p, IMark m2].drop (z.ln - 3).toNat) ∧ (z.ln = 3 → MkAt W G (k + 3) m1 z.m1) ∧ (z.ln ≤ 4 → OutAt W G (k + 5) u z.s z.o) ∧ (z.ln ≤ 5 → PvAt W G (k + 6) p z.t z.tag z.ref z.u) ∧ (z.ln ≤ 6 → MkAt W G (k + 7) m2 z.m2))
theorem HoAt.ext {S : Nat → Prop} {O O' : Om} {w w' : World} {k X : Nat} {z : Hom} (h : HoAt w O k X z) (e : Ext S O w O' w') (hs : ∀ t, k ≤ t → t < k + 9 → ¬ S t) : HoAt w' O' k X z := by
 obtain ⟨wv, dv, ld, h1, h2, h3, h4, h5, h6⟩ := h.ex
 refine ⟨wv, dv, ld, h1.ext e (hs _ (by omega) (by omega)), fun g => (h2 g).ext e (hs _ (by omega) (by omega)), h3, h4, fun g => ?_, fun g => ?_⟩
 · obtain ⟨n, q1, q2⟩ := h5 g; exact ⟨n, q1.ext e (hs _ (by omega) (by omega)), q2⟩
 · obtain ⟨m1, u, p, m2, q1, q2, q3, q4, q5⟩ := h6 g
   exact ⟨m1, u, p, m2, q1.ext e (hs _ (by omega) (by omega)), fun g => (q2 g).ext e (hs _ (by omega) (by omega)) (hs _ (by omega) (by omega)), fun g => (q3 g).ext e (hs _ (by omega) (by omega)), fun g => (q4 g).ext e (hs _ (by omega) (by omega)), fun g => (q5 g).ext e (hs _ (by omega) (by omega)) (hs _ (by omega) (by omega))⟩
theorem HoAt.below {O : Om} {w w' : World} {k X : Nat} {z : Hom} (h : HoAt w O k X z) (e : Below w.heap.size w w') : HoAt w' O k X z := by
 obtain ⟨wv, dv, ld, h1, h2, h3, h4, h5, h6⟩ := h.ex
 refine ⟨wv, dv, ld, h1.below e, fun g => (h2 g).below e, h3, h4, fun g => ?_, fun g => ?_⟩
 · obtain ⟨n, q1, q2⟩ := h5 g; exact ⟨n, q1.below e, q2⟩
 · obtain ⟨m1, u, p, m2, q1, q2, q3, q4, q5⟩ := h6 g
   exact ⟨m1, u, p, m2, q1.below e, fun g => (q2 g).below e, fun g => (q3 g).below e, fun g => (q4 g).below e, fun g => (q5 g).below e⟩
def rmCs (b : Int) (bv : Value) (a c : Int) (dv wv hv : Value) (p : Spt) (is : Bool) : List Value := [.int .i64 b, bv, .int .i64 a, .int .i64 c, dv, wv, hv, .int .i64 p.b, .int .i64 p.q, .int .i64 p.s, .bool is]
def LOOKR : Value := .func (.func 87) #[] #[]
def SEARCHR : Value := .func (.func 92) #[] #[]
def HOPR : Value := .func (.func 97) #[] #[]
def rmDo (ln : Int) : Value := if ln = 0 then .nilFunc else if ln ≤ 2 then LOOKR else if ln = 3 then SEARCHR else HOPR
def rmLeft (z : Rmm) : List Int := if z.ln = 1 then (if z.c = z.a then [z.a] else [z.a, z.c]) else if z.ln = 2 then [z.c] else []
structure RoomAt (W : World) (G : Om) (k X : Nat) (z : Rmm) : Prop where
 ex : ∃ (bv wv hv : Value), Ob W G k X (rmCs z.b bv z.a z.c (rmDo z.ln) wv hv z.p z.is) ∧ (z.ln = 1 ∨ z.ln = 2 → Sls W G (k + 1) 1 bv (rmLeft z).length ((rmLeft z).map (Value.int .i64))) ∧ (z.ln = 3 → ∃ Y, wv = .pointer (some ⟨Y, 0, none⟩) ∧ WyAt W G (k + 2) Y z.wy) ∧ (z.ln = 4 → ∃ Y, hv = .pointer (some ⟨Y, 0, none⟩) ∧ HoAt W G (k + 6) Y z.ho)
theorem RoomAt.ext {S : Nat → Prop} {O O' : Om} {w w' : World} {k X : Nat} {z : Rmm} (h : RoomAt w O k X z) (e : Ext S O w O' w') (hs : ∀ t, k ≤ t → t < k + 15 → ¬ S t) : RoomAt w' O' k X z := by
 obtain ⟨bv, wv, hv, h1, h2, h3, h4⟩ := h.ex
 refine ⟨bv, wv, hv, h1.ext e (hs _ (by omega) (by omega)), fun g => (h2 g).ext e (hs _ (by omega) (by omega)), fun g => ?_, fun g => ?_⟩
 · obtain ⟨Y, q1, q2⟩ := h3 g; exact ⟨Y, q1, q2.ext e fun t a b => hs t (by omega) (by omega)⟩
 · obtain ⟨Y, q1, q2⟩ := h4 g; exact ⟨Y, q1, q2.ext e fun t a b => hs t (by omega) (by omega)⟩
theorem RoomAt.below {O : Om} {w w' : World} {k X : Nat} {z : Rmm} (h : RoomAt w O k X z) (e : Below w.heap.size w w') : RoomAt w' O k X z := by
 obtain ⟨bv, wv, hv, h1, h2, h3, h4⟩ := h.ex
 refine ⟨bv, wv, hv, h1.below e, fun g => (h2 g).below e, fun g => ?_, fun g => ?_⟩
 · obtain ⟨Y, q1, q2⟩ := h3 g; exact ⟨Y, q1, q2.below e⟩
 · obtain ⟨Y, q1, q2⟩ := h4 g; exact ⟨Y, q1, q2.below e⟩
theorem RoomAt.c4 {O : Om} {w : World} {k X : Nat} {z : Rmm} (h : RoomAt w O k X z) : w.cell? ⟨X, 4, none⟩ = some (rmDo z.ln) := by
 obtain ⟨bv, wv, hv, h1, -⟩ := h.ex
 exact h1.c 4 _ rfl
@[go_sem] theorem eql_fr (w : World) (f : Fn) (a c : Array Value) : (binOp .eql 189 (.func f a c) .nilFunc).run Tryz.prog w = .ok (.bool false) w := run_eql_func_nil w _ _ _ _ f a c Tryz.underlying189
@[go_sem] theorem eql_fr0 (w : World) : (binOp .eql 189 .nilFunc .nilFunc).run Tryz.prog w = .ok (.bool true) w := run_eql_nil_nil w _ _ _ _ Tryz.underlying189
theorem c_RmOver (X : Nat) (dv : Value) (w : World) (hc : w.cell? ⟨X, 4, none⟩ = some dv) (b : Bool) (hb : (dv = .nilFunc ∧ b = true) ∨ (∃ f a c, dv = .func f a c ∧ b = false)) :
 Calls Tryz.prog 155 #[.pointer (some ⟨X, 0, none⟩)] w fun e w' => e = .returned (.bool b) ∧ w = w' := by
 rcases hb with ⟨rfl, rfl⟩ | ⟨f, a, c, rfl, rfl⟩
 · go_enter Tryz.func155, Tryz.ntmps155
   go_wp2
   go_ret
   exact ⟨rfl, rfl⟩
 · go_enter Tryz.func155, Tryz.ntmps155
   go_wp2
   go_ret
   exact ⟨rfl, rfl⟩
theorem rmDo_cases (ln : Int) : (rmDo ln = .nilFunc ∧ (ln == 0) = true) ∨ (∃ f a c, rmDo ln = .func f a c ∧ (ln == 0) = false) := by
 unfold rmDo
 by_cases h : ln = 0
 · rw [if_pos h]; exact .inl ⟨rfl, by simp [h]⟩
 · rw [if_neg h]
   have d : (ln == 0) = false := by simp [h]
   split
   · exact .inr ⟨_, _, _, rfl, d⟩
   · split
     · exact .inr ⟨_, _, _, rfl, d⟩
     · exact .inr ⟨_, _, _, rfl, d⟩
theorem c_RmOver' {O : Om} {w : World} {k X : Nat} {z : Rmm} (h : RoomAt w O k X z) : Calls Tryz.prog 155 #[.pointer (some ⟨X, 0, none⟩)] w fun e w' => e = .returned (.bool (z.ln == 0)) ∧ w = w' := c_RmOver X _ w h.c4 _ (rmDo_cases z.ln)
end
section
set_option linter.unusedVariables false
set_option maxHeartbeats 4000000
set_option maxRecDepth 100000
open Go.RowKit Go.Shelf
section
variable {X : Nat} {w : World} {O : Om} {B : Wb} {f : Cf} {s : AW} {k : Nat}
theorem c_NewRoom (b h : Int) (b0 : -9223372036854775808 ≤ b) (b1 : b ≤ 9223372036854775807) (h0 : 0 ≤ h) (h1 : h < 18446744073709551616) (hk : 10 ≤ k) (hhi : ∀ j, O j ≠ 0 → j < w.heap.size) :
 Calls Tryz.prog 83 #[.int .i64 b, .int .u64 h] w fun e w' => ∃ R, RP (fun t => t = k ∨ t = k + 1) w O (.pointer (some ⟨R, 0, none⟩)) (fun W G => RoomAt W G k R (rmNew b h)) e w' := by
 obtain ⟨z, hz⟩ : ∃ z, z = rmNew b h := ⟨_, rfl⟩
 rw [← hz]
 unfold rmNew at hz
 have HS := Lib.hid (fun W => c_Size b W b0 b1)
 have HB := Lib.hid (fun W => c_fBucket h b W h0 h1 b0 b1)
 have HT := Lib.hid (fun W => c_fTag h W h0 h1)
 have ht := fnvTag_bd h h0 h1
 have HH := Lib.hid hhi
 by_cases hb : 1 ≤ b ∧ b ≤ 12
 · rw [if_pos hb] at hz
   have hs := fnvSize_pos hb.1 hb.2
   have hd : (fnvSize b == 0) = false := by simp; omega
   have hbk := fnvBucket_bd (h := h) hb.1 hb.2
   have hsz := fnvSize_bd b
   have HO := Lib.hid (fun W => c_fOther (fnvBucket h b) (fnvTag h) b W (by omega) (by omega) (by omega) (by omega) b0 b1)
   obtain ⟨bk, hbk2⟩ : ∃ x, x = fnvBucket h b := ⟨_, rfl⟩
   rw [← hbk2] at HB HO hz
   obtain ⟨tg, htg⟩ : ∃ x, x = fnvTag h := ⟨_, rfl⟩
   rw [← htg] at HT HO hz
   obtain ⟨ot, hot⟩ : ∃ x, x = fnvOther bk tg b := ⟨_, rfl⟩
   rw [← hot] at HO hz
   obtain ⟨sz, hsz2⟩ : ∃ x, x = fnvSize b := ⟨_, rfl⟩
   rw [← hsz2] at HS hd
   have HZ := Lib.hid hz
   clear ht hs hbk hsz hbk2 htg hot hsz2 hz hhi hb b0 b1 h0 h1
   obtain ⟨G1, e1, a1, k1⟩ := alloc_ob HH.out (k + 1) #[.int .i64 bk] 3 w.heap.size rfl
   obtain ⟨G2, e2, x2, k2⟩ := alloc_ob e1.hi k #[.int .i64 b, .slice (some ⟨w.heap.size, 0, none⟩) 1 1, .int .i64 bk, .int .i64 ot, LOOKR, .pointer none, .pointer none, .int .i64 0, .int .i64 0, .int .i64 0, .bool false] 193 (w.heap.size + 1) (by simp)
   have HE := Lib.hid (And.intro ((e1.mono (T := fun t => t = k ∨ t = k + 1) fun t _ h => .inr h).trans (e2.mono fun t _ h => .inl h)) (And.intro x2 (k2 _ _ _ a1)))
   clear e1 a1 k1 e2 x2 k2
   by_cases hq : ot = bk
   · have dq : (ot != bk) = false := by simp [hq]
     have HQ := Lib.hid hq
     clear hq
     go_enter Tryz.func83, Tryz.ntmps83
     go_wp2_with fail
     refine (HS.out _).mono ?_
     rintro e w' ⟨rfl, rfl⟩
     go_wp2_with fail
     refine (HB.out _).mono ?_
     rintro e w' ⟨rfl, rfl⟩
     go_wp2_with fail
     refine (HT.out _).mono ?_
     rintro e w' ⟨rfl, rfl⟩
     go_wp2_with fail
     refine (HO.out _).mono ?_
     rintro e w' ⟨rfl, rfl⟩
     go_wp2_with fail
     go_ret
     rw [HZ.out]
     refine ⟨_, rfl, G2, HE.out.1, _, _, _, HE.out.2.1, fun _ => ?_, fun g => absurd g (by dsimp only; omega), fun g => absurd g (by dsimp only; omega)⟩
     unfold rmLeft
     dsimp only
     rw [if_pos rfl, if_pos HQ.out]
     exact Sls.of_ob HE.out.2.2 rfl (by unfold maxLen; decide)
   · have dq : (ot != bk) = true := by simp [hq]
     have HQ := Lib.hid hq
     obtain ⟨i0, hi, hz0, hz1, hz2⟩ := info_parts infoInt
     have HI := Lib.hid (And.intro hi (And.intro hz0 (And.intro hz1 hz2)))
     clear hq hi hz0 hz1 hz2
     go_enter Tryz.func83, Tryz.ntmps83
     go_wp2_with fail
     refine (HS.out _).mono ?_
     rintro e w' ⟨rfl, rfl⟩
     go_wp2_with fail
     refine (HB.out _).mono ?_
     rintro e w' ⟨rfl, rfl⟩
     go_wp2_with fail
     refine (HT.out _).mono ?_
     rintro e w' ⟨rfl, rfl⟩
     go_wp2_with fail
     refine (HO.out _).mono ?_
     rintro e w' ⟨rfl, rfl⟩
     go_upto_region 7 with fail
     obtain ⟨W, hW⟩ : ∃ W, W = (w.alloc (.cells #[.int .i64 bk] 3)).alloc (.cells #[.int .i64 b, .slice (some ⟨w.heap.size, 0, none⟩) 1 1, .int .i64 bk, .int .i64 ot, LOOKR, .pointer none, .pointer none, .int .i64 0, .int .i64 0, .int .i64 0, .bool false] 193) := ⟨_, rfl⟩
     rw [← hW] at HE
     obtain ⟨N, hN⟩ : ∃ N, N = w.heap.size := ⟨_, rfl⟩
     rw [← hN] at HE
     have hL : LOOKR = .func (.func 87) #[] #[] := rfl
     rw [hL] at hW
     rw [← hN] at hW ⊢
     rw [← hW]
     clear hL hW hN
     have x1 := HE.out.2.1.c 1 _ rfl
     have f1 := HE.out.2.1.f 1
     have S1 := Lib.hid (Sls.of_ob (n := 1) (size := 1) HE.out.2.2 rfl (by unfold maxLen; decide))
     go_wp2_with (at_builtin; refine append_sls W rfl _ _ 187 rfl 3 i0 (.int .i64 0) 1 8 Tryz.underlying187 HI.out.1 HI.out.2.1 HI.out.2.2.1 HI.out.2.2.2 rfl (by decide) G2 (k + 1) (by omega) HE.out.1.hi (.slice (some ⟨N, 0, none⟩) 1 1) 1 [.int .i64 bk] rfl S1.out 1 (by decide) [.int .i64 ot] _ rfl rfl (by simp [Value.oneCell']) (by unfold maxLen; decide) (by decide) ?_; intro b3 o3 c3 w3 G3 e3 s3; have HE3 := Lib.hid (And.intro e3 s3); have x13 := (HE.out.2.1.ext e3 (by omega)).c 1 _ rfl; have f13 := (HE.out.2.1.ext e3 (by omega)).f 1; clear e3 s3)
     go_ret
     rw [HZ.out]
     have y3 := HE.out.2.1.ext HE3.out.1 (by omega)
     have e4 := ext_set (j := 1) (v := .slice (some ⟨b3, o3, none⟩) (1 + 1) c3) HE3.out.1.hi y3 hk
     refine ⟨_, rfl, G3, (HE.out.1.trans (HE3.out.1.mono fun t _ h => .inr h)).trans (e4.mono fun t _ h => .inl h), _, .pointer none, .pointer none, y3.set 1 (.slice (some ⟨b3, o3, none⟩) (1 + 1) c3) (by simp), fun _ => ?_, fun g => absurd g (by dsimp only; omega), fun g => absurd g (by dsimp only; omega)⟩
     unfold rmLeft
     dsimp only
     rw [if_pos rfl, if_neg HQ.out]
     exact HE3.out.2.ext e4 (by omega)
 · rw [if_neg hb] at hz
   have hs : fnvSize b = 0 := fnvSize_out (by omega)
   rw [hs] at HS
   obtain ⟨G, e2, x2, -⟩ := alloc_ob hhi k #[.int .i64 0, .slice none 0 0, .int .i64 0, .int .i64 0, .nilFunc, .pointer none, .pointer none, .int .i64 0, .int .i64 0, .int .i64 0, .bool false] 193 w.heap.size rfl
   have HE := Lib.hid (And.intro e2 x2)
   have HZ := Lib.hid hz
   clear e2 x2 hz hhi hb hs ht
   go_enter Tryz.func83, Tryz.ntmps83
   go_wp2_with fail
   refine (HS.out _).mono ?_
   rintro e w' ⟨rfl, rfl⟩
   go_wp2_with fail
   go_ret
   rw [HZ.out]
   exact ⟨_, rfl, G, HE.out.1.mono fun t _ h => .inl h, _, _, _, HE.out.2, fun g => absurd g (by dsimp only; omega), fun g => absurd g (by dsimp only; omega), fun g => absurd g (by dsimp only; omega)⟩
theorem c_RmEnds (bv dv wv hv : Value) (b a c : Int) (p0 p : Spt) (is : Bool) (hx : Ob w O k X (rmCs b bv a c dv wv hv p0 is)) (hk : 10 ≤ k) (hhi : ∀ j, O j ≠ 0 → j < w.heap.size) :
 Calls Tryz.prog 90 #[.pointer (some ⟨X, 0, none⟩), .agg #[.int .i64 p.b, .int .i64 p.q, .int .i64 p.s]] w (RP (fun t => t = k) w O (.tuple #[]) fun W G => Ob W G k X (rmCs b bv a c .nilFunc wv hv p true)) := by
 have E0 := Ext.of_below (S := fun t => t = k) hhi ((Below.refl _ w).alloc (Nat.le_refl _) (.cells #[.int .i64 p.b, .int .i64 p.q, .int .i64 p.s] 56))
 have X0 := hx.below ((Below.refl _ w).alloc (Nat.le_refl _) (.cells #[.int .i64 p.b, .int .i64 p.q, .int .i64 p.s] 56))
 obtain ⟨W, hW⟩ : ∃ W, W = w.alloc (.cells #[.int .i64 p.b, .int .i64 p.q, .int .i64 p.s] 56) := ⟨_, rfl⟩
 have c0 : W.cell? ⟨w.heap.size, 0, none⟩ = some (.int .i64 p.b) := by rw [hW]; simp
 have c1 : W.cell? ⟨w.heap.size, 1, none⟩ = some (.int .i64 p.q) := by rw [hW]; simp
 have c2 : W.cell? ⟨w.heap.size, 2, none⟩ = some (.int .i64 p.s) := by rw [hW]; simp
 rw [← hW] at E0 X0
 have hne : ¬ w.heap.size = X := by have := hx.lt; omega
 obtain ⟨n, hn⟩ : ∃ n, n = w.heap.size := ⟨_, rfl⟩
 rw [← hn] at c0 c1 c2 hne
 have y4 := X0.c 4 _ rfl
 have y7 := X0.c 7 _ rfl
 have y8 := X0.c 8 _ rfl
 have y9 := X0.c 9 _ rfl
 have y10 := X0.c 10 _ rfl
 have q4 := X0.f 4
 have q7 := X0.f 7
 have q8 := X0.f 8
 have q9 := X0.f 9
 have q10 := X0.f 10
 have HN := Lib.hid (And.intro hn hW)
 have HX := Lib.hid (And.intro E0 X0)
 clear hx E0 X0 hn hW hhi
 go_enter Tryz.func90, Tryz.ntmps90
 go_upto_region 1 with fail
 rw [← HN.out.1, ← HN.out.2]
 go_wp2_with fail
 go_end0
 have r7 := HX.out.2.set 7 (.int .i64 p.b) (by simp [rmCs])
 have e7 := ext_set (j := 7) (v := .int .i64 p.b) HX.out.1.hi HX.out.2 hk
 have r8 := r7.set 8 (.int .i64 p.q) (by simp [rmCs])
 have e8 := ext_set (j := 8) (v := .int .i64 p.q) e7.hi r7 hk
 have r9 := r8.set 9 (.int .i64 p.s) (by simp [rmCs])
 have e9 := ext_set (j := 9) (v := .int .i64 p.s) e8.hi r8 hk
 have r10 := r9.set 10 (.bool true) (by simp [rmCs])
 have e10 := ext_set (j := 10) (v := .bool true) e9.hi r9 hk
 have r4 := r10.set 4 (.nilFunc) (by simp [rmCs])
 have e4 := ext_set (j := 4) (v := .nilFunc) e10.hi r10 hk
 exact ⟨rfl, O, HX.out.1.trans (e7.trans (e8.trans (e9.trans (e10.trans e4)))), r4⟩
theorem c_RmLookFree (b q a c : Int) (l : List Int) (bv wv hv : Value) (p : Spt) (is : Bool) (hP : PW w O B f s) (hx : Ob w O k X (rmCs b bv a c LOOKR wv hv p is)) (hS : Sls w O (k + 1) 1 bv (l.length + 1) ((q :: l).map (Value.int .i64)))
 (hb : 1 ≤ b ∧ b ≤ 12) (hq : 0 ≤ q ∧ q < fnvSize b) (hf : 0 ≤ twFree (s.M (plTags b q))) (hk : 10 ≤ k) (hhi : ∀ j, O j ≠ 0 → j < w.heap.size) (n0 : 0 ≤ s.n) (n1 : s.n ≤ 4611686018427387904) :
 Calls Tryz.prog 87 #[.pointer (some ⟨X, 0, none⟩), .pointer (some ⟨B.p, 0, none⟩)] w (RP (SX k (k + 1)) w O (.tuple #[]) fun W G => PW W G B f (awLoad (plTags b q) s) ∧ ∃ bv', Ob W G k X (rmCs b bv' a c .nilFunc wv hv ⟨b, q, twFree (s.M (plTags b q))⟩ true)) := by
 obtain ⟨A, o, cp, rfl, hc1, hc2⟩ := hS.open (by omega)
 have a0 := hS.c 0 _ rfl
 rw [Nat.add_zero] at a0
 have hT := hS.tail (o' := if cp = 1 then o else o + 1) (by by_cases h : cp = 1; rw [if_pos h]; exact .inr ⟨h, rfl⟩; rw [if_neg h]; exact .inl rfl)
 have hsz := fnvSize_bd b
 have ht := plTags_in hq
 have HT := Lib.hid (fun W => c_Tags b q W (by omega) (by omega) (by omega) (by omega))
 have hbd := hP.bd (plTags b q)
 have HF := Lib.hid (fun W => c_TwFree (s.M (plTags b q)) W hbd.1 hbd.2)
 have hta : 0 ≤ plTags b q ∧ plTags b q < 18446744073709551616 := by omega
 have HM : Hid (Me k (k + 1) w O w O B f s k X (rmCs b (.slice (some ⟨A, o, none⟩) (l.length + 1) cp) a c LOOKR wv hv p is)) := Lib.hid (Me.start hhi hP hx)
 obtain ⟨ta, hta2⟩ : ∃ x, x = plTags b q := ⟨_, rfl⟩
 rw [← hta2] at HT HF hta hf ⊢
 obtain ⟨fr, hfr⟩ : ∃ x, x = twFree (s.M ta) := ⟨_, rfl⟩
 rw [← hfr] at HF hf ⊢
 have HTA := Lib.hid hta
 have HL := Lib.hid hS
 have x0 := hx.c 0 _ rfl
 have x1 := hx.c 1 _ rfl
 have f1 := hx.f 1
 have pp := hP.wo.c0
 have hXA : ¬ A = X := fun e => by have h1 := hx.o; have h2 := hS.lt.2; rw [← e, h2] at h1; omega
 have hXB : ¬ B.p = X := hP.ne_obj hx hk
 have dfr : decide (0 ≤ fr) = true := by simp [hf]
 have hXl := hx.lt
 have hAl := hS.lt.1
 have hBl := hP.wo.lt
 have hl0 : (0 : Int) < (l.length : Int) + 1 := by omega
 obtain ⟨e1, t1⟩ := alloc_nbH (S := SX k (k + 1)) hhi #[.int .i64 b, .int .i64 q] 51 w.heap.size rfl
 have hbw : Below w.heap.size w ((w.alloc (.cells #[.int .i64 b, .int .i64 q] 51)).drew) := ((Below.refl _ w).alloc (Nat.le_refl _) _).drew
 have T1 := Lib.hid (t1.below (drew_below _))
 have M1 := Lib.hid (HM.out.below hbw)
 have hXN : ¬ X = w.heap.size := by omega
 have hl1 : (1 : Int) ≤ (l.length : Int) + 1 := by omega
 clear hP hx hS hT hhi hta hta2 hfr hf hbd ht hsz e1 t1 hbw
 by_cases hcp : cp = 1
 · subst hcp
   go_enter Tryz.func87, Tryz.ntmps87
   go_wp2_with fail
   go_region
   all_goals
    obtain ⟨W1, hW1⟩ : ∃ W, W = (w.alloc (.cells #[.int .i64 b, .int .i64 q] 51)).drew := ⟨_, rfl⟩
    rw [← hW1] at M1 T1 ⊢
    obtain ⟨N, hN⟩ : ∃ N, N = w.heap.size := ⟨_, rfl⟩
    rw [← hN] at T1 hXN ⊢
    clear hW1 hN x0 x1 f1 a0 pp
    have x1 := M1.out.t.c 1 _ rfl
    have f1 := M1.out.t.f 1
    go_upto_region 2 with fail
    obtain ⟨V, hV⟩ : ∃ V : Value, V = .slice (some ⟨A, o, none⟩) 0 0 := ⟨_, rfl⟩
    rw [← hV]
    have M2 := Lib.hid (M1.out.set hk (Nat.le_refl _) (by omega) 1 V (by simp [rmCs]))
    have T2 := Lib.hid (T1.out.other (b2 := X) (j := 1) (v := V) hXN)
    obtain ⟨W2, hW2⟩ : ∃ W, W = W1.setCell ⟨X, 1, none⟩ V := ⟨_, rfl⟩
    rw [← hW2] at M2 T2 ⊢
    clear hW2 x1 f1 hV
    have p0 := M2.out.p.wo.c0
    have t0 := T2.out.c 0 _ rfl
    have t1 := T2.out.c 1 _ rfl
    go_region_held3 (fun w' => w'.cell? ⟨B.p, 0, none⟩ = some (.pointer (some ⟨B.c, 0, none⟩)) ∧ w'.cell? ⟨N, 0, none⟩ = some (.int .i64 b) ∧ w'.cell? ⟨N, 1, none⟩ = some (.int .i64 q)) (go_keep)
     ((first
       | (go_at_call 25
          refine (HT.out _).mono ?_
          rintro e w3 ⟨rfl, hb3⟩
          have M3 := Lib.hid (M2.out.drew.below hb3)
          have T3 := Lib.hid ((T2.out.below (drew_below _)).below hb3)
          have p03 := M3.out.p.wo.c0
          have t03 := T3.out.c 0 _ rfl
          have t13 := T3.out.c 1 _ rfl
          clear hb3)
       | (go_at_call 70
          refine (c_LoadP ta M3.out.p M3.out.e.hi HTA.out.1 HTA.out.2 n0 n1).mono ?_
          rintro e w4 ⟨rfl, G4, e4, P4⟩
          have M4 := Lib.hid (M3.out.world hk e4 P4)
          have T4 := Lib.hid (T3.out.ext e4 sw0)
          have p04 := M4.out.p.wo.c0
          have t04 := T4.out.c 0 _ rfl
          have t14 := T4.out.c 1 _ rfl
          clear e4 P4)
       | (go_at_call 89
          refine (HF.out _).mono ?_
          rintro e w5 ⟨rfl, hb5⟩
          have M5 := Lib.hid (M4.out.below hb5)
          have T5 := Lib.hid (T4.out.below hb5)
          have p05 := M5.out.p.wo.c0
          have t05 := T5.out.c 0 _ rfl
          have t15 := T5.out.c 1 _ rfl
          clear hb5)))
    all_goals
     clear p0 t0 t1 p03 t03 t13 p04 t04 t14
     have HEN := Lib.hid (c_RmEnds _ _ _ _ _ _ _ p ⟨b, q, fr⟩ is M5.out.t hk M5.out.e.hi)
     go_wp2_with fail
     refine HEN.out.mono ?_
     rintro e w6 ⟨rfl, G6, e6, x6⟩
     have P6 := M5.out.p.ext e6 (by omega) (by omega) (by omega) (by omega)
     have HX := Lib.hid (And.intro (M5.out.e.trans (e6.mono fun t _ h => .inr (by omega))) (And.intro P6 x6))
     clear e6 x6 P6 HEN
     go_wp2
     go_end0
     exact ⟨rfl, G6, HX.out.1, HX.out.2.1, V, HX.out.2.2⟩
 ·
  go_enter Tryz.func87, Tryz.ntmps87
  go_wp2_with fail
  go_region
  all_goals
   obtain ⟨W1, hW1⟩ : ∃ W, W = (w.alloc (.cells #[.int .i64 b, .int .i64 q] 51)).drew := ⟨_, rfl⟩
   rw [← hW1] at M1 T1 ⊢
   obtain ⟨N, hN⟩ : ∃ N, N = w.heap.size := ⟨_, rfl⟩
   rw [← hN] at T1 hXN ⊢
   clear hW1 hN x0 x1 f1 a0 pp
   have x1 := M1.out.t.c 1 _ rfl
   have f1 := M1.out.t.f 1
   go_upto_region 2 with fail
   obtain ⟨V, hV⟩ : ∃ V : Value, V = .slice (some ⟨A, o + 1, none⟩) l.length (cp - 1) := ⟨_, rfl⟩
   rw [← hV]
   have M2 := Lib.hid (M1.out.set hk (Nat.le_refl _) (by omega) 1 V (by simp [rmCs]))
   have T2 := Lib.hid (T1.out.other (b2 := X) (j := 1) (v := V) hXN)
   obtain ⟨W2, hW2⟩ : ∃ W, W = W1.setCell ⟨X, 1, none⟩ V := ⟨_, rfl⟩
   rw [← hW2] at M2 T2 ⊢
   clear hW2 x1 f1 hV
   have p0 := M2.out.p.wo.c0
   have t0 := T2.out.c 0 _ rfl
   have t1 := T2.out.c 1 _ rfl
   go_region_held3 (fun w' => w'.cell? ⟨B.p, 0, none⟩ = some (.pointer (some ⟨B.c, 0, none⟩)) ∧ w'.cell? ⟨N, 0, none⟩ = some (.int .i64 b) ∧ w'.cell? ⟨N, 1, none⟩ = some (.int .i64 q)) (go_keep)
    ((first
      | (go_at_call 25
         refine (HT.out _).mono ?_
         rintro e w3 ⟨rfl, hb3⟩
         have M3 := Lib.hid (M2.out.drew.below hb3)
         have T3 := Lib.hid ((T2.out.below (drew_below _)).below hb3)
         have p03 := M3.out.p.wo.c0
         have t03 := T3.out.c 0 _ rfl
         have t13 := T3.out.c 1 _ rfl
         clear hb3)
      | (go_at_call 70
         refine (c_LoadP ta M3.out.p M3.out.e.hi HTA.out.1 HTA.out.2 n0 n1).mono ?_
         rintro e w4 ⟨rfl, G4, e4, P4⟩
         have M4 := Lib.hid (M3.out.world hk e4 P4)
         have T4 := Lib.hid (T3.out.ext e4 sw0)
         have p04 := M4.out.p.wo.c0
         have t04 := T4.out.c 0 _ rfl
         have t14 := T4.out.c 1 _ rfl
         clear e4 P4)
      | (go_at_call 89
         refine (HF.out _).mono ?_
         rintro e w5 ⟨rfl, hb5⟩
         have M5 := Lib.hid (M4.out.below hb5)
         have T5 := Lib.hid (T4.out.below hb5)
         have p05 := M5.out.p.wo.c0
         have t05 := T5.out.c 0 _ rfl
         have t15 := T5.out.c 1 _ rfl
         clear hb5)))
   all_goals
    clear p0 t0 t1 p03 t03 t13 p04 t04 t14
    have HEN := Lib.hid (c_RmEnds _ _ _ _ _ _ _ p ⟨b, q, fr⟩ is M5.out.t hk M5.out.e.hi)
    go_wp2_with fail
    refine HEN.out.mono ?_
    rintro e w6 ⟨rfl, G6, e6, x6⟩
    have P6 := M5.out.p.ext e6 (by omega) (by omega) (by omega) (by omega)
    have HX := Lib.hid (And.intro (M5.out.e.trans (e6.mono fun t _ h => .inr (by omega))) (And.intro P6 x6))
    clear e6 x6 P6 HEN
    go_wp2
    go_end0
    exact ⟨rfl, G6, HX.out.1, HX.out.2.1, V, HX.out.2.2⟩
end
end
section
set_option linter.unusedVariables false
set_option maxHeartbeats 4000000
set_option maxRecDepth 100000
open Go.RowKit Go.Shelf
def mvCs (now : Int) (p : Spt) (lv : Value) (tag ref lost : Int) : List Value := [.int .i64 now, .int .i64 p.b, .int .i64 p.q, .int .i64 p.s, lv, .int .i64 tag, .int .i64 ref, .int .i64 lost]
def IAct (d : Nat) : Value := .iface 112 (.pointer (some ⟨d, 0, none⟩))
def ISearch (d : Nat) : Value := .iface 178 (.pointer (some ⟨d, 0, none⟩))
def IDrop (u : Nat) (ref : Int) (p : Spt) : Value := .iface 266 (.agg #[.pointer (some ⟨u, 0, none⟩), .int .i64 ref, .int .i64 p.b, .int .i64 p.q, .int .i64 p.s])
def TAGSM (X : Nat) : Value := .func (.func 49) #[.pointer (some ⟨X, 0, none⟩)] #[]
def ITEMM (X : Nat) : Value := .func (.func 71) #[.pointer (some ⟨X, 0, none⟩)] #[]
def FAILM (X : Nat) : Value := .func (.func 161) #[.pointer (some ⟨X, 0, none⟩)] #[]
def MvParts (W : World) (G : Om) (k X : Nat) (z : Mvm) (lv : Value) : Prop :=
 (z.ln = 0 → Sls W G (k + 1) 1 lv 0 []) ∧
 (z.ln = 1 → ∃ d, Sls W G (k + 1) 1 lv 1 [IAct d] ∧ Ob W G (k + 2) d [TAGSM X, .bool false]) ∧
 (z.ln = 2 → ∃ d, Sls W G (k + 1) 1 lv 1 [IAct d] ∧ Ob W G (k + 2) d [ITEMM X, .bool false]) ∧
 (z.ln = 3 → ∃ d R, Sls W G (k + 1) 1 lv 1 [ISearch d] ∧ Ob W G (k + 3) d [.pointer (some ⟨X, 0, none⟩), .pointer (some ⟨R, 0, none⟩)] ∧ RoomAt W G (k + 4) R z.rm) ∧
 (4 ≤ z.ln ∧ z.ln ≤ 7 → ∃ m1 u p m2, Sls W G (k + 1) 1 lv (8 - z.ln).toNat ([IMark m1, IOut u, IPut p, IMark m2].drop (z.ln - 4).toNat) ∧ (z.ln = 4 → MkAt W G (k + 19) m1 z.m) ∧ (z.ln ≤ 5 → OutAt W G (k + 21) u z.p z.o) ∧ (z.ln ≤ 6 → PvAt W G (k + 22) p z.d z.tag z.ref z.u) ∧ MkAt W G (k + 23) m2 (if z.ln = 7 then z.m else mk2 z.p z.d)) ∧
 (8 ≤ z.ln → ∃ m1 u m2 d, Sls W G (k + 1) 1 lv (12 - z.ln).toNat ([IMark m1, IDrop u z.ref z.p, IMark m2, IAct d].drop (z.ln - 8).toNat) ∧ (z.ln = 8 → MkAt W G (k + 19) m1 [z.p.ver]) ∧ (z.ln ≤ 9 → OutAt W G (k + 21) u z.p z.o) ∧ (z.ln ≤ 10 → MkAt W G (k + 23) m2 [z.p.ver]) ∧ Ob W G (k + 2) d [FAILM X, .bool false])
theorem MvParts.ext {S : Nat → Prop} {O O' : Om} {w w' : World} {k X : Nat} {z : Mvm} {lv : Value} (h : MvParts w O k X z lv) (e : Ext S O w O' w') (hs : ∀ t, k < t → t < k + 25 → ¬ S t) : MvParts w' O' k X z lv := by
 obtain ⟨h0, h1, h2, h3, h4, h5⟩ := h
 refine ⟨fun g => (h0 g).ext e (hs _ (by omega) (by omega)), fun g => ?_, fun g => ?_, fun g => ?_, fun g => ?_, fun g => ?_⟩
 · obtain ⟨d, a, b⟩ := h1 g; exact ⟨d, a.ext e (hs _ (by omega) (by omega)), b.ext e (hs _ (by omega) (by omega))⟩
 · obtain ⟨d, a, b⟩ := h2 g; exact ⟨d, a.ext e (hs _ (by omega) (by omega)), b.ext e (hs _ (by omega) (by omega))⟩
 · obtain ⟨d, R, a, b, c⟩ := h3 g; exact ⟨d, R, a.ext e (hs _ (by omega) (by omega)), b.ext e (hs _ (by omega) (by omega)), c.ext e fun t q1 q2 => hs t (by omega) (by omega)⟩
 · obtain ⟨m1, u, p, m2, a, b, c, d, q⟩ := h4 g
   exact ⟨m1, u, p, m2, a.ext e (hs _ (by omega) (by omega)), fun g => (b g).ext e (hs _ (by omega) (by omega)) (hs _ (by omega) (by omega)), fun g => (c g).ext e (hs _ (by omega) (by omega)), fun g => (d g).ext e (hs _ (by omega) (by omega)), q.ext e (hs _ (by omega) (by omega)) (hs _ (by omega) (by omega))⟩
 · obtain ⟨m1, u, m2, d, a, b, c, q, r⟩ := h5 g
   exact ⟨m1, u, m2, d, a.ext e (hs _ (by omega) (by omega)), fun g => (b g).ext e (hs _ (by omega) (by omega)) (hs _ (by omega) (by omega)), fun g => (c g).ext e (hs _ (by omega) (by omega)), fun g => (q g).ext e (hs _ (by omega) (by omega)) (hs _ (by omega) (by omega)), r.ext e (hs _ (by omega) (by omega))⟩
structure MvAt (W : World) (G : Om) (k X : Nat) (z : Mvm) : Prop where
 ex : ∃ p lv, Ob W G k X (mvCs z.now p lv z.tag z.ref z.lost) ∧ (z.ln ≠ 0 → p = z.p) ∧ MvParts W G k X z lv
theorem MvAt.ext {S : Nat → Prop} {O O' : Om} {w w' : World} {k X : Nat} {z : Mvm} (h : MvAt w O k X z) (e : Ext S O w O' w') (hs : ∀ t, k ≤ t → t < k + 25 → ¬ S t) : MvAt w' O' k X z := by
 obtain ⟨p, lv, h1, h2, h3⟩ := h.ex
 exact ⟨p, lv, h1.ext e (hs _ (by omega) (by omega)), h2, h3.ext e fun t q1 q2 => hs t (by omega) q2⟩
theorem MvAt.below {O : Om} {w w' : World} {k X : Nat} {z : Mvm} (h : MvAt w O k X z) (hhi : ∀ j, O j ≠ 0 → j < w.heap.size) (hb : Below w.heap.size w w') : MvAt w' O k X z := h.ext (S := fun _ => False) (Ext.of_below hhi hb) fun _ _ _ => id
section
variable {X : Nat} {w : World} {O : Om} {B : Wb} {f : Cf} {s : AW} {k : Nat}
theorem c_MvOver0 {ao : Option Addr} {n c : Nat} (h : w.cell? ⟨X, 4, none⟩ = some (.slice ao n c)) : Calls Tryz.prog 20 #[.pointer (some ⟨X, 0, none⟩)] w fun e w' => e = .returned (.bool (n == 0)) ∧ w = w' := by
 go_enter Tryz.func20, Tryz.ntmps20
 go_wp2
 go_ret
 exact ⟨ret_bool (by rw [Bool.eq_iff_iff]; simp), rfl⟩
theorem MvParts.shape {z : Mvm} {lv : Value} (h : MvParts w O k X z lv) (h0 : 0 ≤ z.ln) (h1 : z.ln ≤ 11) : ∃ ao n c, lv = .slice ao n c ∧ (n == 0) = (z.ln == 0) := by
 obtain ⟨q0, q1, q2, q3, q4, q5⟩ := h
 have key : ∀ (n : Nat) xs, Sls w O (k + 1) 1 lv n xs → (n == 0) = (z.ln == 0) → ∃ ao n c, lv = .slice ao n c ∧ (n == 0) = (z.ln == 0) := by
  intro n xs hs hn
  obtain ⟨ao, c, e, -⟩ := hs.shape
  exact ⟨ao, n, c, e, hn⟩
 have hc : z.ln = 0 ∨ z.ln = 1 ∨ z.ln = 2 ∨ z.ln = 3 ∨ (4 ≤ z.ln ∧ z.ln ≤ 7) ∨ 8 ≤ z.ln := by omega
 rcases hc with g | g | g | g | g | g
 · exact key _ _ (q0 g) (by simp [g])
 · obtain ⟨d, a, -⟩ := q1 g; exact key _ _ a (by simp [g])
 · obtain ⟨d, a, -⟩ := q2 g; exact key _ _ a (by simp [g])
 · obtain ⟨d, R, a, -⟩ := q3 g; exact key _ _ a (by simp [g])
 · obtain ⟨m1, u, p, m2, a, -⟩ := q4 g; exact key _ _ a (by rw [Bool.eq_iff_iff]; simp; omega)
 · obtain ⟨m1, u, m2, d, a, -⟩ := q5 g; exact key _ _ a (by rw [Bool.eq_iff_iff]; simp; omega)
theorem c_MvOver {z : Mvm} (h : MvAt w O k X z) (h0 : 0 ≤ z.ln) (h1 : z.ln ≤ 11) : Calls Tryz.prog 20 #[.pointer (some ⟨X, 0, none⟩)] w fun e w' => e = .returned (.bool (mvOver z)) ∧ w = w' := by
 obtain ⟨p, lv, q1, q2, q3⟩ := h.ex
 obtain ⟨ao, n, c, rfl, hn⟩ := q3.shape h0 h1
 have := c_MvOver0 (q1.c 4 _ rfl)
 rw [hn] at this
 exact this
theorem c_MvLost {z : Mvm} (h : MvAt w O k X z) : Calls Tryz.prog 21 #[.pointer (some ⟨X, 0, none⟩)] w fun e w' => e = .returned (.int .i64 z.lost) ∧ w = w' := by
 obtain ⟨p, lv, q1, q2, q3⟩ := h.ex
 have x7 := q1.c 7 _ rfl
 obtain ⟨l, hl⟩ : ∃ l, l = z.lost := ⟨_, rfl⟩
 rw [← hl] at x7 ⊢
 clear q1 q2 q3 h hl
 go_enter Tryz.func21, Tryz.ntmps21
 go_wp2
 go_ret
 exact ⟨rfl, rfl⟩
theorem c_NewMove (t q : Int) (t0 : 0 ≤ t) (t1 : t < 18446744073709551616) (q0 : -9223372036854775808 ≤ q) (q1 : q ≤ 9223372036854775807) (hk : 10 ≤ k) (hhi : ∀ j, O j ≠ 0 → j < w.heap.size) :
 Calls Tryz.prog 18 #[.int .u64 t, .int .i64 q] w fun e w' => ∃ R, RP (fun t => t = k ∨ t = k + 1 ∨ t = k + 2) w O (.pointer (some ⟨R, 0, none⟩)) (fun W G => MvAt W G k R (mvNew t q)) e w' := by
 obtain ⟨z, hz⟩ : ∃ z, z = mvNew t q := ⟨_, rfl⟩
 rw [← hz]
 unfold mvNew at hz
 have HA := Lib.hid (fun W => c_As t W t0 t1)
 have ho := plOld_bd t
 have hn := plNow_bd t
 have HS := Lib.hid (fun W => c_Size (plOld t) W (by omega) (by omega))
 have hsz := fnvSize_bd (plOld t)
 obtain ⟨old, hold⟩ : ∃ x, x = plOld t := ⟨_, rfl⟩
 obtain ⟨now, hnow⟩ : ∃ x, x = plNow t := ⟨_, rfl⟩
 rw [← hold] at HA HS hz hsz ho
 rw [← hnow] at HA hz hn
 obtain ⟨sz, hsz2⟩ : ∃ x, x = fnvSize old := ⟨_, rfl⟩
 rw [← hsz2] at HS hz hsz
 have HH := Lib.hid hhi
 obtain ⟨G1, e1, x1, k1⟩ := alloc_ob HH.out k #[.int .i64 now, .int .i64 old, .int .i64 q, .int .i64 0, .slice none 0 0, .int .i64 0, .int .i64 0, .int .i64 0] 111 w.heap.size rfl
 have H1 := Lib.hid (And.intro e1 x1)
 clear hold hnow hsz2 hhi e1 x1 k1
 by_cases c : now = 0 ∨ q < 0 ∨ sz ≤ q
 · rw [if_pos c] at hz
   have HZ := Lib.hid hz
   clear hz
   have fin : ∃ R, RP (fun t => t = k ∨ t = k + 1 ∨ t = k + 2) w O (.pointer (some ⟨R, 0, none⟩)) (fun W G => MvAt W G k R z) (.returned (.pointer (some ⟨w.heap.size, 0, none⟩))) (w.alloc (.cells #[.int .i64 now, .int .i64 old, .int .i64 q, .int .i64 0, .slice none 0 0, .int .i64 0, .int .i64 0, .int .i64 0] 111)) := by
    rw [HZ.out]
    exact ⟨_, rfl, G1, H1.out.1.mono fun t _ h => .inl h, ⟨old, q, 0⟩, _, H1.out.2, fun g => absurd rfl g, ⟨fun _ => Sls.nil _ _ _ _, fun g => absurd g (by dsimp only; omega), fun g => absurd g (by dsimp only; omega), fun g => absurd g (by dsimp only; omega), fun g => absurd g (by dsimp only; omega), fun g => absurd g (by dsimp only; omega)⟩⟩
   have FIN := Lib.hid fin
   clear fin
   by_cases c1 : now = 0
   · subst c1
     clear c
     go_enter Tryz.func18, Tryz.ntmps18
     go_wp2_with fail
     refine (HA.out _).mono ?_
     rintro e w' ⟨rfl, rfl⟩
     go_wp2_with fail
     go_ret
     exact FIN.out
   · have d1 : (now != 0) = true := by simp [c1]
     by_cases c2 : q < 0
     · have d2 : decide (0 ≤ q) = false := by simp; omega
       clear c c1
       go_enter Tryz.func18, Tryz.ntmps18
       go_wp2_with fail
       refine (HA.out _).mono ?_
       rintro e w' ⟨rfl, rfl⟩
       go_wp2_with fail
       go_ret
       exact FIN.out
     · have d2 : decide (0 ≤ q) = true := by simp; omega
       have d3 : decide (q < sz) = false := by simp; omega
       clear c c1
       go_enter Tryz.func18, Tryz.ntmps18
       go_wp2_with fail
       refine (HA.out _).mono ?_
       rintro e w' ⟨rfl, rfl⟩
       go_wp2_with fail
       refine (HS.out _).mono ?_
       rintro e w' ⟨rfl, rfl⟩
       go_wp2_with fail
       go_ret
       exact FIN.out
 · rw [if_neg c] at hz
   have HZ := Lib.hid hz
   have d1 : (now != 0) = true := by simp; omega
   have d2 : decide (0 ≤ q) = true := by simp; omega
   have d3 : decide (q < sz) = true := by simp; omega
   obtain ⟨G1, e1, x1, k1⟩ := alloc_ob HH.out k #[.int .i64 now, .int .i64 old, .int .i64 q, .int .i64 0, .slice (some ⟨w.heap.size + 1 + 1, 0, none⟩) 1 1, .int .i64 0, .int .i64 0, .int .i64 0] 111 w.heap.size rfl
   obtain ⟨G2, e2, a2, k2⟩ := alloc_ob e1.hi (k + 2) #[TAGSM w.heap.size, .bool false] 115 (w.heap.size + 1) (by simp)
   obtain ⟨G3, e3, a3, k3⟩ := alloc_ob e2.hi (k + 1) #[IAct (w.heap.size + 1)] 245 (w.heap.size + 1 + 1) (by simp)
   have H4 := Lib.hid (And.intro ((e1.mono (T := fun t => t = k ∨ t = k + 1 ∨ t = k + 2) fun t _ h => .inl h).trans ((e2.mono fun t _ h => .inr (.inr h)).trans (e3.mono fun t _ h => .inr (.inl h)))) (And.intro (k3 _ _ _ (k2 _ _ _ x1)) (And.intro a3 (k3 _ _ _ a2))))
   clear c hz e1 x1 k1 e2 a2 k2 e3 a3 k3
   go_enter Tryz.func18, Tryz.ntmps18
   go_wp2_with fail
   refine (HA.out _).mono ?_
   rintro e w' ⟨rfl, rfl⟩
   go_wp2_with fail
   refine (HS.out _).mono ?_
   rintro e w' ⟨rfl, rfl⟩
   go_wp2_with fail
   go_ret
   rw [HZ.out]
   refine ⟨w.heap.size, rfl, G3, H4.out.1, ⟨old, q, 0⟩, _, H4.out.2.1, fun _ => rfl, ⟨fun g => absurd g (by dsimp only; omega), fun _ => ⟨_, Sls.of_ob H4.out.2.2.1 rfl (by unfold maxLen; decide), H4.out.2.2.2⟩, fun g => absurd g (by dsimp only; omega), fun g => absurd g (by dsimp only; omega), fun g => absurd g (by dsimp only; omega), fun g => absurd g (by dsimp only; omega)⟩⟩
end
end
section
set_option linter.unusedVariables false
set_option maxHeartbeats 4000000
set_option maxRecDepth 100000
open Go.RowKit Go.Shelf
def POver (w : World) (O : Om) (k : Nat) (v : Value) (b : Bool) : Prop :=
 ∃ ty r r' fO, v = .iface ty r ∧ (∀ W, (method 371 ty r "Over").run Tryz.prog W = .ok (fO, r') W) ∧ (∀ args W, (callFunc fO args).run Tryz.prog W = .ok (.enter fO args) W) ∧ ∀ W, Ext (fun t => t = k) O w O W → Calls Tryz.prog fO #[r'] W fun e w' => e = .returned (.bool b) ∧ Below W.heap.size W w'
section
variable {X : Nat} {w : World} {O : Om} {B : Wb} {f : Cf} {s : AW} {k : Nat}
theorem c_on0 {now tag ref lost : Int} {p : Spt} {lv : Value} {v0 : Value} {l : List Value} (hx : Ob w O k X (mvCs now p lv tag ref lost)) (hS : Sls w O (k + 1) 1 lv (l.length + 1) (v0 :: l)) (h0 : POver w O k v0 false) (hk : 10 ≤ k) (hhi : ∀ j, O j ≠ 0 → j < w.heap.size) :
 Calls Tryz.prog 138 #[.pointer (some ⟨X, 0, none⟩)] w fun e w' => e = .returned (.tuple #[]) ∧ Below w.heap.size w w' := by
 obtain ⟨A, o, cp, rfl, hc1, hc2⟩ := hS.open (by omega)
 have a0 := hS.c 0 _ rfl
 rw [Nat.add_zero] at a0
 have x4 := hx.c 4 _ rfl
 have hXl := hx.lt
 obtain ⟨ty, r, r', fO, rfl, hm, hK, hC⟩ := h0
 have HC := Lib.hid (hC w (Ext.refl hhi))
 have hl0 : (0 : Int) < (l.length : Int) + 1 := by omega
 have dl : ((l.length : Int) + 1 == 0) = false := by simp; omega
 clear hx hS hC hhi
 go_enter Tryz.func138, Tryz.ntmps138
 go_wp2_with fail
 refine wp_loop_rounds 1 ?_
 rw [rounds_succ]
 go_wp2_with fail
 refine HC.out.mono ?_
 rintro e w1 ⟨rfl, hb⟩
 have x41 := (hb.cell (p := ⟨X, 4, none⟩) hXl).trans x4
 have HB := Lib.hid hb
 clear hb x4 a0 hm hK
 go_wp2_with fail
 go_end0
 exact ⟨rfl, HB.out⟩
theorem c_on1 {now tag ref lost : Int} {p : Spt} {lv : Value} {v0 v1 : Value} {l : List Value} (hx : Ob w O k X (mvCs now p lv tag ref lost)) (hS : Sls w O (k + 1) 1 lv (l.length + 1 + 1) (v0 :: v1 :: l)) (h0 : POver w O k v0 true) (h1 : POver w O k v1 false) (hk : 10 ≤ k) (hhi : ∀ j, O j ≠ 0 → j < w.heap.size) :
 Calls Tryz.prog 138 #[.pointer (some ⟨X, 0, none⟩)] w (RP (fun t => t = k) w O (.tuple #[]) fun W G => G = O ∧ ∃ lv', Ob W G k X (mvCs now p lv' tag ref lost) ∧ Sls W G (k + 1) 1 lv' (l.length + 1) (v1 :: l)) := by
 obtain ⟨A, o, cp, rfl, hc1, hc2⟩ := hS.open (by omega)
 have a0 := hS.c 0 _ rfl
 have a1 := hS.c 1 _ rfl
 rw [Nat.add_zero] at a0
 have hT1 := hS.tail (o' := o + 1) (.inl rfl)
 have x4 := hx.c 4 _ rfl
 have hXl := hx.lt
 have hAl := hS.lt.1
 have hAX : ¬ A = X := fun e => by have h1 := hx.o; have h2 := hS.lt.2; rw [← e, h2] at h1; omega
 have hXA : ¬ X = A := fun e => hAX e.symm
 obtain ⟨ty0, r0, r0', f0, rfl, hm0, hK0, hC0⟩ := h0
 have HC0 := Lib.hid hC0
 obtain ⟨ty1, r1, r1', f1, rfl, hm1, hK1, hC1⟩ := h1
 have HC1 := Lib.hid hC1
 have hl0 : (0 : Int) < (l.length : Int) + 1 + 1 := by omega
 have hl1 : (0 : Int) < (l.length : Int) + 1 := by omega
 have hs0 : (1 : Int) ≤ (l.length : Int) + 1 + 1 := by omega
 have dl : ((l.length : Int) + 1 == 0) = false := by simp; omega
 have hcp : ¬ cp = 1 := by omega
 have HX := Lib.hid (And.intro hx hT1)
 have HH := Lib.hid hhi
 clear hx hS hC0 hC1 hhi hT1
 go_enter Tryz.func138, Tryz.ntmps138
 go_wp2_with fail
 refine wp_loop_rounds 2 ?_
 rw [rounds_succ]
 go_wp2_with fail
 refine (HC0.out w (Ext.refl HH.out)).mono ?_
 rintro e w1 ⟨rfl, hb⟩
 have X1 := Lib.hid (HX.out.1.below hb)
 have T1 := Lib.hid (HX.out.2.below hb)
 have E1 := Lib.hid (Ext.of_below (S := fun t => t = k) HH.out hb)
 have y0 := X1.out.c 4 _ rfl
 have yf0 := X1.out.f 4
 have b01 := (hb.cell (p := ⟨A, o + 1, none⟩) hAl).trans a1
 have hAl1 := Nat.lt_of_lt_of_le hAl hb.size
 clear hb x4 a0 a1
 go_wp2_with fail
 have X2 := Lib.hid (X1.out.set 4 (.slice (some ⟨A, o + 1, none⟩) (l.length + 1) (cp - 1)) (by simp [mvCs]))
 have E2 := Lib.hid (E1.out.trans (ext_set (j := 4) (v := .slice (some ⟨A, o + 1, none⟩) (l.length + 1) (cp - 1)) E1.out.hi X1.out hk))
 have T2 := Lib.hid (T1.out.ext (ext_set (j := 4) (v := .slice (some ⟨A, o + 1, none⟩) (l.length + 1) (cp - 1)) E1.out.hi X1.out hk) (by omega))
 have c01 : (w1.setCell ⟨X, 4, none⟩ (.slice (some ⟨A, o + 1, none⟩) (l.length + 1) (cp - 1))).cell? ⟨A, o + 1, none⟩ = some (.iface ty1 r1) := (World.cell?_setCell_other _ _ _ _ (by simp; try omega)).trans b01
 have hAl2 : A < (w1.setCell ⟨X, 4, none⟩ (.slice (some ⟨A, o + 1, none⟩) (l.length + 1) (cp - 1))).heap.size := by simpa using hAl1
 obtain ⟨w2, hw⟩ : ∃ W, W = w1.setCell ⟨X, 4, none⟩ (.slice (some ⟨A, o + 1, none⟩) (l.length + 1) (cp - 1)) := ⟨_, rfl⟩
 rw [← hw] at X2 E2 T2 hAl2 c01 ⊢
 clear hw y0 yf0 b01 hAl1
 have z0 := X2.out.c 4 _ rfl
 rw [rounds_succ]
 go_wp2_with fail
 refine (HC1.out w2 E2.out).mono ?_
 rintro e w3 ⟨rfl, hb⟩
 have X3 := Lib.hid (X2.out.below hb)
 have T3 := Lib.hid (T2.out.below hb)
 have E3 := Lib.hid (E2.out.below hb)
 have y1 := X3.out.c 4 _ rfl
 have yf1 := X3.out.f 4
 clear hb z0 c01
 go_wp2_with fail
 go_end0
 exact ⟨rfl, O, E3.out, rfl, _, X3.out, T3.out⟩
theorem c_on2 {now tag ref lost : Int} {p : Spt} {lv : Value} {v0 v1 v2 : Value} {l : List Value} (hx : Ob w O k X (mvCs now p lv tag ref lost)) (hS : Sls w O (k + 1) 1 lv (l.length + 1 + 1 + 1) (v0 :: v1 :: v2 :: l)) (h0 : POver w O k v0 true) (h1 : POver w O k v1 true) (h2 : POver w O k v2 false) (hk : 10 ≤ k) (hhi : ∀ j, O j ≠ 0 → j < w.heap.size) :
 Calls Tryz.prog 138 #[.pointer (some ⟨X, 0, none⟩)] w (RP (fun t => t = k) w O (.tuple #[]) fun W G => G = O ∧ ∃ lv', Ob W G k X (mvCs now p lv' tag ref lost) ∧ Sls W G (k + 1) 1 lv' (l.length + 1) (v2 :: l)) := by
 obtain ⟨A, o, cp, rfl, hc1, hc2⟩ := hS.open (by omega)
 have a0 := hS.c 0 _ rfl
 have a1 := hS.c 1 _ rfl
 have a2 := hS.c 2 _ rfl
 rw [Nat.add_zero] at a0
 have hT1 := hS.tail (o' := o + 1) (.inl rfl)
 have hT2 := hT1.tail (o' := o + 2) (.inl rfl)
 have x4 := hx.c 4 _ rfl
 have hXl := hx.lt
 have hAl := hS.lt.1
 have hAX : ¬ A = X := fun e => by have h1 := hx.o; have h2 := hS.lt.2; rw [← e, h2] at h1; omega
 have hXA : ¬ X = A := fun e => hAX e.symm
 obtain ⟨ty0, r0, r0', f0, rfl, hm0, hK0, hC0⟩ := h0
 have HC0 := Lib.hid hC0
 obtain ⟨ty1, r1, r1', f1, rfl, hm1, hK1, hC1⟩ := h1
 have HC1 := Lib.hid hC1
 obtain ⟨ty2, r2, r2', f2, rfl, hm2, hK2, hC2⟩ := h2
 have HC2 := Lib.hid hC2
 have hl0 : (0 : Int) < (l.length : Int) + 1 + 1 + 1 := by omega
 have hl1 : (0 : Int) < (l.length : Int) + 1 + 1 := by omega
 have hl2 : (0 : Int) < (l.length : Int) + 1 := by omega
 have hs0 : (1 : Int) ≤ (l.length : Int) + 1 + 1 + 1 := by omega
 have hs1 : (1 : Int) ≤ (l.length : Int) + 1 + 1 := by omega
 have dl : ((l.length : Int) + 1 == 0) = false := by simp; omega
 have hcp : ¬ cp = 1 := by omega
 have hcp2 : ¬ cp - 1 = 1 := by omega
 have HX := Lib.hid (And.intro hx hT2)
 have HH := Lib.hid hhi
 clear hx hS hC0 hC1 hC2 hhi hT1 hT2
 go_enter Tryz.func138, Tryz.ntmps138
 go_wp2_with fail
 refine wp_loop_rounds 3 ?_
 rw [rounds_succ]
 go_wp2_with fail
 refine (HC0.out w (Ext.refl HH.out)).mono ?_
 rintro e w1 ⟨rfl, hb⟩
 have X1 := Lib.hid (HX.out.1.below hb)
 have T1 := Lib.hid (HX.out.2.below hb)
 have E1 := Lib.hid (Ext.of_below (S := fun t => t = k) HH.out hb)
 have y0 := X1.out.c 4 _ rfl
 have yf0 := X1.out.f 4
 have b01 := (hb.cell (p := ⟨A, o + 1, none⟩) hAl).trans a1
 have b02 := (hb.cell (p := ⟨A, o + 2, none⟩) hAl).trans a2
 have hAl1 := Nat.lt_of_lt_of_le hAl hb.size
 clear hb x4 a0 a1 a2
 go_wp2_with fail
 have X2 := Lib.hid (X1.out.set 4 (.slice (some ⟨A, o + 1, none⟩) (l.length + 1 + 1) (cp - 1)) (by simp [mvCs]))
 have E2 := Lib.hid (E1.out.trans (ext_set (j := 4) (v := .slice (some ⟨A, o + 1, none⟩) (l.length + 1 + 1) (cp - 1)) E1.out.hi X1.out hk))
 have T2 := Lib.hid (T1.out.ext (ext_set (j := 4) (v := .slice (some ⟨A, o + 1, none⟩) (l.length + 1 + 1) (cp - 1)) E1.out.hi X1.out hk) (by omega))
 have c01 : (w1.setCell ⟨X, 4, none⟩ (.slice (some ⟨A, o + 1, none⟩) (l.length + 1 + 1) (cp - 1))).cell? ⟨A, o + 1, none⟩ = some (.iface ty1 r1) := (World.cell?_setCell_other _ _ _ _ (by simp; try omega)).trans b01
 have c02 : (w1.setCell ⟨X, 4, none⟩ (.slice (some ⟨A, o + 1, none⟩) (l.length + 1 + 1) (cp - 1))).cell? ⟨A, o + 2, none⟩ = some (.iface ty2 r2) := (World.cell?_setCell_other _ _ _ _ (by simp; try omega)).trans b02
 have hAl2 : A < (w1.setCell ⟨X, 4, none⟩ (.slice (some ⟨A, o + 1, none⟩) (l.length + 1 + 1) (cp - 1))).heap.size := by simpa using hAl1
 obtain ⟨w2, hw⟩ : ∃ W, W = w1.setCell ⟨X, 4, none⟩ (.slice (some ⟨A, o + 1, none⟩) (l.length + 1 + 1) (cp - 1)) := ⟨_, rfl⟩
 rw [← hw] at X2 E2 T2 hAl2 c01 c02 ⊢
 clear hw y0 yf0 b01 b02 hAl1
 have z0 := X2.out.c 4 _ rfl
 rw [rounds_succ]
 go_wp2_with fail
 refine (HC1.out w2 E2.out).mono ?_
 rintro e w3 ⟨rfl, hb⟩
 have X3 := Lib.hid (X2.out.below hb)
 have T3 := Lib.hid (T2.out.below hb)
 have E3 := Lib.hid (E2.out.below hb)
 have y1 := X3.out.c 4 _ rfl
 have yf1 := X3.out.f 4
 have b12 := (hb.cell (p := ⟨A, o + 2, none⟩) hAl2).trans c02
 have hAl3 := Nat.lt_of_lt_of_le hAl2 hb.size
 clear hb z0 c01 c02
 go_wp2_with fail
 have X4 := Lib.hid (X3.out.set 4 (.slice (some ⟨A, o + 2, none⟩) (l.length + 1) (cp - 1 - 1)) (by simp [mvCs]))
 have E4 := Lib.hid (E3.out.trans (ext_set (j := 4) (v := .slice (some ⟨A, o + 2, none⟩) (l.length + 1) (cp - 1 - 1)) E3.out.hi X3.out hk))
 have T4 := Lib.hid (T3.out.ext (ext_set (j := 4) (v := .slice (some ⟨A, o + 2, none⟩) (l.length + 1) (cp - 1 - 1)) E3.out.hi X3.out hk) (by omega))
 have c12 : (w3.setCell ⟨X, 4, none⟩ (.slice (some ⟨A, o + 2, none⟩) (l.length + 1) (cp - 1 - 1))).cell? ⟨A, o + 2, none⟩ = some (.iface ty2 r2) := (World.cell?_setCell_other _ _ _ _ (by simp; try omega)).trans b12
 have hAl4 : A < (w3.setCell ⟨X, 4, none⟩ (.slice (some ⟨A, o + 2, none⟩) (l.length + 1) (cp - 1 - 1))).heap.size := by simpa using hAl3
 obtain ⟨w4, hw⟩ : ∃ W, W = w3.setCell ⟨X, 4, none⟩ (.slice (some ⟨A, o + 2, none⟩) (l.length + 1) (cp - 1 - 1)) := ⟨_, rfl⟩
 rw [← hw] at X4 E4 T4 hAl4 c12 ⊢
 clear hw y1 yf1 b12 hAl3
 have z1 := X4.out.c 4 _ rfl
 rw [rounds_succ]
 go_wp2_with fail
 refine (HC2.out w4 E4.out).mono ?_
 rintro e w5 ⟨rfl, hb⟩
 have X5 := Lib.hid (X4.out.below hb)
 have T5 := Lib.hid (T4.out.below hb)
 have E5 := Lib.hid (E4.out.below hb)
 have y2 := X5.out.c 4 _ rfl
 have yf2 := X5.out.f 4
 clear hb z1 c12
 go_wp2_with fail
 go_end0
 exact ⟨rfl, O, E5.out, rfl, _, X5.out, T5.out⟩
theorem c_onE {now tag ref lost : Int} {p : Spt} {lv : Value} {v0 : Value} (hx : Ob w O k X (mvCs now p lv tag ref lost)) (hS : Sls w O (k + 1) 1 lv 1 [v0]) (h0 : POver w O k v0 true) (hs : p.s < 3) (hs0 : 0 ≤ p.s) (hs1 : p.s ≤ 3) (hk : 10 ≤ k) (hhi : ∀ j, O j ≠ 0 → j < w.heap.size) :
 Calls Tryz.prog 138 #[.pointer (some ⟨X, 0, none⟩)] w (RP (fun t => t = k ∨ t = k + 1 ∨ t = k + 2) w O (.tuple #[]) fun W G => ∃ lv' d, Ob W G k X (mvCs now ⟨p.b, p.q, p.s + 1⟩ lv' tag ref lost) ∧ Sls W G (k + 1) 1 lv' 1 [IAct d] ∧ Ob W G (k + 2) d [TAGSM X, .bool false]) := by
 obtain ⟨A, o, cp, rfl, hc1, hc2⟩ := hS.open (by omega)
 have a0 := hS.c 0 _ rfl
 rw [Nat.add_zero] at a0
 have x4 := hx.c 4 _ rfl
 have hXl := hx.lt
 have hAl := hS.lt.1
 have hAX : ¬ A = X := fun e => by have h1 := hx.o; have h2 := hS.lt.2; rw [← e, h2] at h1; omega
 have hXA : ¬ X = A := fun e => hAX e.symm
 obtain ⟨ty0, r0, r0', f0, rfl, hm0, hK0, hC0⟩ := h0
 have HC0 := Lib.hid hC0
 obtain ⟨pb, hpb⟩ : ∃ x, x = p.b := ⟨_, rfl⟩
 obtain ⟨pq, hpq⟩ : ∃ x, x = p.q := ⟨_, rfl⟩
 obtain ⟨ps, hps⟩ : ∃ x, x = p.s := ⟨_, rfl⟩
 rw [← hps] at hs hs0 hs1
 have ds : decide (ps < 3) = true := by simp; omega
 have HPP := Lib.hid (And.intro hpb (And.intro hpq hps))
 clear hpb hpq hps
 have HS := Lib.hid hS
 have HX := Lib.hid hx
 have HH := Lib.hid hhi
 clear hx hS hC0 hhi
 by_cases hcp : cp = 1
 · subst hcp
   have HT := Lib.hid (HS.out.tail (n := 0) (o' := o) (.inr ⟨rfl, rfl⟩))
   go_enter Tryz.func138, Tryz.ntmps138
   go_wp2_with fail
   refine wp_loop_rounds 2 ?_
   rw [rounds_succ]
   go_wp2_with fail
   refine (HC0.out w (Ext.refl HH.out)).mono ?_
   rintro e w1 ⟨rfl, hb⟩
   have X1 := Lib.hid (HX.out.below hb)
   have T1 := Lib.hid (HT.out.below hb)
   have E1 := Lib.hid (Ext.of_below (S := fun t => t = k) HH.out hb)
   have y0 := X1.out.c 4 _ rfl
   have yf0 := X1.out.f 4
   clear hb x4 a0
   go_wp2_with fail
   have X2 := Lib.hid (X1.out.set 4 (.slice (some ⟨A, o, none⟩) 0 0) (by simp [mvCs]))
   have E2 := Lib.hid (E1.out.trans (ext_set (j := 4) (v := .slice (some ⟨A, o, none⟩) 0 0) E1.out.hi X1.out hk))
   have T2 := Lib.hid (T1.out.ext (ext_set (j := 4) (v := .slice (some ⟨A, o, none⟩) 0 0) E1.out.hi X1.out hk) (by omega))
   obtain ⟨w2, hw⟩ : ∃ W, W = w1.setCell ⟨X, 4, none⟩ (.slice (some ⟨A, o, none⟩) 0 0) := ⟨_, rfl⟩
   rw [← hw] at X2 E2 T2 ⊢
   clear hw y0 yf0
   have z0 := X2.out.c 4 _ rfl
   have z3 := X2.out.c 3 _ rfl
   rw [← HPP.out.2.2] at z3
   have zf3 := X2.out.f 3
   have zf4 := X2.out.f 4
   have hXl2 := X2.out.lt
   rw [rounds_succ]
   go_wp2_with fail
   go_end0
   have X3 := X2.out.set 3 (.int .i64 (ps + 1)) (by simp [mvCs])
   have E3 := ext_set (j := 3) (v := .int .i64 (ps + 1)) E2.out.hi X2.out hk
   have X4 := X3.set 4 (.slice (some ⟨w2.heap.size + 1, 0, none⟩) 1 1) (by simp [mvCs])
   have E4 := ext_set (j := 4) (v := .slice (some ⟨w2.heap.size + 1, 0, none⟩) 1 1) E3.hi X3 hk
   obtain ⟨G5, e5, a5, k5⟩ := alloc_ob E4.hi (k + 2) #[TAGSM X, .bool false] 115 w2.heap.size (by simp)
   obtain ⟨G6, e6, a6, k6⟩ := alloc_ob e5.hi (k + 1) #[IAct w2.heap.size] 245 (w2.heap.size + 1) (by simp)
   have X6 := k6 _ _ _ (k5 _ _ _ X4)
   refine ⟨rfl, G6, (E2.out.mono fun t _ h => .inl h).trans ((E3.mono fun t _ h => .inl h).trans ((E4.mono fun t _ h => .inl h).trans ((e5.mono fun t _ h => .inr (.inr h)).trans (e6.mono fun t _ h => .inr (.inl h))))), _, _, ?_, Sls.of_ob a6 rfl (by unfold maxLen; decide), k6 _ _ _ a5⟩
   rw [← HPP.out.2.2]
   exact X6
 · skip
   have HT := Lib.hid (HS.out.tail (n := 0) (o' := o + 1) (.inl rfl))
   go_enter Tryz.func138, Tryz.ntmps138
   go_wp2_with fail
   refine wp_loop_rounds 2 ?_
   rw [rounds_succ]
   go_wp2_with fail
   refine (HC0.out w (Ext.refl HH.out)).mono ?_
   rintro e w1 ⟨rfl, hb⟩
   have X1 := Lib.hid (HX.out.below hb)
   have T1 := Lib.hid (HT.out.below hb)
   have E1 := Lib.hid (Ext.of_below (S := fun t => t = k) HH.out hb)
   have y0 := X1.out.c 4 _ rfl
   have yf0 := X1.out.f 4
   clear hb x4 a0
   go_wp2_with fail
   have X2 := Lib.hid (X1.out.set 4 (.slice (some ⟨A, o + 1, none⟩) 0 (cp - 1)) (by simp [mvCs]))
   have E2 := Lib.hid (E1.out.trans (ext_set (j := 4) (v := .slice (some ⟨A, o + 1, none⟩) 0 (cp - 1)) E1.out.hi X1.out hk))
   have T2 := Lib.hid (T1.out.ext (ext_set (j := 4) (v := .slice (some ⟨A, o + 1, none⟩) 0 (cp - 1)) E1.out.hi X1.out hk) (by omega))
   obtain ⟨w2, hw⟩ : ∃ W, W = w1.setCell ⟨X, 4, none⟩ (.slice (some ⟨A, o + 1, none⟩) 0 (cp - 1)) := ⟨_, rfl⟩
   rw [← hw] at X2 E2 T2 ⊢
   clear hw y0 yf0
   have z0 := X2.out.c 4 _ rfl
   have z3 := X2.out.c 3 _ rfl
   rw [← HPP.out.2.2] at z3
   have zf3 := X2.out.f 3
   have zf4 := X2.out.f 4
   have hXl2 := X2.out.lt
   rw [rounds_succ]
   go_wp2_with fail
   go_end0
   have X3 := X2.out.set 3 (.int .i64 (ps + 1)) (by simp [mvCs])
   have E3 := ext_set (j := 3) (v := .int .i64 (ps + 1)) E2.out.hi X2.out hk
   have X4 := X3.set 4 (.slice (some ⟨w2.heap.size + 1, 0, none⟩) 1 1) (by simp [mvCs])
   have E4 := ext_set (j := 4) (v := .slice (some ⟨w2.heap.size + 1, 0, none⟩) 1 1) E3.hi X3 hk
   obtain ⟨G5, e5, a5, k5⟩ := alloc_ob E4.hi (k + 2) #[TAGSM X, .bool false] 115 w2.heap.size (by simp)
   obtain ⟨G6, e6, a6, k6⟩ := alloc_ob e5.hi (k + 1) #[IAct w2.heap.size] 245 (w2.heap.size + 1) (by simp)
   have X6 := k6 _ _ _ (k5 _ _ _ X4)
   refine ⟨rfl, G6, (E2.out.mono fun t _ h => .inl h).trans ((E3.mono fun t _ h => .inl h).trans ((E4.mono fun t _ h => .inl h).trans ((e5.mono fun t _ h => .inr (.inr h)).trans (e6.mono fun t _ h => .inr (.inl h))))), _, _, ?_, Sls.of_ob a6 rfl (by unfold maxLen; decide), k6 _ _ _ a5⟩
   rw [← HPP.out.2.2]
   exact X6
theorem c_onZ {now tag ref lost : Int} {p : Spt} {lv : Value} {v0 : Value} (hx : Ob w O k X (mvCs now p lv tag ref lost)) (hS : Sls w O (k + 1) 1 lv 1 [v0]) (h0 : POver w O k v0 true) (hs : 3 ≤ p.s) (hs0 : 0 ≤ p.s) (hs1 : p.s ≤ 3) (hk : 10 ≤ k) (hhi : ∀ j, O j ≠ 0 → j < w.heap.size) :
 Calls Tryz.prog 138 #[.pointer (some ⟨X, 0, none⟩)] w (RP (fun t => t = k ∨ t = k + 1 ∨ t = k + 2) w O (.tuple #[]) fun W G => ∃ lv', Ob W G k X (mvCs now p lv' tag ref lost) ∧ Sls W G (k + 1) 1 lv' 0 []) := by
 obtain ⟨A, o, cp, rfl, hc1, hc2⟩ := hS.open (by omega)
 have a0 := hS.c 0 _ rfl
 rw [Nat.add_zero] at a0
 have x4 := hx.c 4 _ rfl
 have hXl := hx.lt
 have hAl := hS.lt.1
 have hAX : ¬ A = X := fun e => by have h1 := hx.o; have h2 := hS.lt.2; rw [← e, h2] at h1; omega
 have hXA : ¬ X = A := fun e => hAX e.symm
 obtain ⟨ty0, r0, r0', f0, rfl, hm0, hK0, hC0⟩ := h0
 have HC0 := Lib.hid hC0
 obtain ⟨pb, hpb⟩ : ∃ x, x = p.b := ⟨_, rfl⟩
 obtain ⟨pq, hpq⟩ : ∃ x, x = p.q := ⟨_, rfl⟩
 obtain ⟨ps, hps⟩ : ∃ x, x = p.s := ⟨_, rfl⟩
 rw [← hps] at hs hs0 hs1
 have ds : decide (ps < 3) = false := by simp; omega
 have HPP := Lib.hid (And.intro hpb (And.intro hpq hps))
 clear hpb hpq hps
 have HS := Lib.hid hS
 have HX := Lib.hid hx
 have HH := Lib.hid hhi
 clear hx hS hC0 hhi
 by_cases hcp : cp = 1
 · subst hcp
   have HT := Lib.hid (HS.out.tail (n := 0) (o' := o) (.inr ⟨rfl, rfl⟩))
   go_enter Tryz.func138, Tryz.ntmps138
   go_wp2_with fail
   refine wp_loop_rounds 2 ?_
   rw [rounds_succ]
   go_wp2_with fail
   refine (HC0.out w (Ext.refl HH.out)).mono ?_
   rintro e w1 ⟨rfl, hb⟩
   have X1 := Lib.hid (HX.out.below hb)
   have T1 := Lib.hid (HT.out.below hb)
   have E1 := Lib.hid (Ext.of_below (S := fun t => t = k) HH.out hb)
   have y0 := X1.out.c 4 _ rfl
   have yf0 := X1.out.f 4
   clear hb x4 a0
   go_wp2_with fail
   have X2 := Lib.hid (X1.out.set 4 (.slice (some ⟨A, o, none⟩) 0 0) (by simp [mvCs]))
   have E2 := Lib.hid (E1.out.trans (ext_set (j := 4) (v := .slice (some ⟨A, o, none⟩) 0 0) E1.out.hi X1.out hk))
   have T2 := Lib.hid (T1.out.ext (ext_set (j := 4) (v := .slice (some ⟨A, o, none⟩) 0 0) E1.out.hi X1.out hk) (by omega))
   obtain ⟨w2, hw⟩ : ∃ W, W = w1.setCell ⟨X, 4, none⟩ (.slice (some ⟨A, o, none⟩) 0 0) := ⟨_, rfl⟩
   rw [← hw] at X2 E2 T2 ⊢
   clear hw y0 yf0
   have z0 := X2.out.c 4 _ rfl
   have z3 := X2.out.c 3 _ rfl
   rw [← HPP.out.2.2] at z3
   have zf3 := X2.out.f 3
   have zf4 := X2.out.f 4
   have hXl2 := X2.out.lt
   rw [rounds_succ]
   go_wp2_with fail
   go_end0
   exact ⟨rfl, O, E2.out.mono fun t _ h => .inl h, _, X2.out, T2.out⟩
 · skip
   have HT := Lib.hid (HS.out.tail (n := 0) (o' := o + 1) (.inl rfl))
   go_enter Tryz.func138, Tryz.ntmps138
   go_wp2_with fail
   refine wp_loop_rounds 2 ?_
   rw [rounds_succ]
   go_wp2_with fail
   refine (HC0.out w (Ext.refl HH.out)).mono ?_
   rintro e w1 ⟨rfl, hb⟩
   have X1 := Lib.hid (HX.out.below hb)
   have T1 := Lib.hid (HT.out.below hb)
   have E1 := Lib.hid (Ext.of_below (S := fun t => t = k) HH.out hb)
   have y0 := X1.out.c 4 _ rfl
   have yf0 := X1.out.f 4
   clear hb x4 a0
   go_wp2_with fail
   have X2 := Lib.hid (X1.out.set 4 (.slice (some ⟨A, o + 1, none⟩) 0 (cp - 1)) (by simp [mvCs]))
   have E2 := Lib.hid (E1.out.trans (ext_set (j := 4) (v := .slice (some ⟨A, o + 1, none⟩) 0 (cp - 1)) E1.out.hi X1.out hk))
   have T2 := Lib.hid (T1.out.ext (ext_set (j := 4) (v := .slice (some ⟨A, o + 1, none⟩) 0 (cp - 1)) E1.out.hi X1.out hk) (by omega))
   obtain ⟨w2, hw⟩ : ∃ W, W = w1.setCell ⟨X, 4, none⟩ (.slice (some ⟨A, o + 1, none⟩) 0 (cp - 1)) := ⟨_, rfl⟩
   rw [← hw] at X2 E2 T2 ⊢
   clear hw y0 yf0
   have z0 := X2.out.c 4 _ rfl
   have z3 := X2.out.c 3 _ rfl
   rw [← HPP.out.2.2] at z3
   have zf3 := X2.out.f 3
   have zf4 := X2.out.f 4
   have hXl2 := X2.out.lt
   rw [rounds_succ]
   go_wp2_with fail
   go_end0
   exact ⟨rfl, O, E2.out.mono fun t _ h => .inl h, _, X2.out, T2.out⟩
end
end
section
set_option linter.unusedVariables false
set_option maxHeartbeats 4000000
set_option maxRecDepth 100000
open Go.RowKit Go.Shelf
theorem infoPart : (Tryz.prog.info? 245).map (fun i => (i.zero, i.size, i.bytes)) = some (some .nilIface, 1, 16) := by kernel_rfl
section
variable {X : Nat} {w : World} {O : Om} {B : Wb} {f : Cf} {s : AW} {k : Nat}
theorem c_ActOver {d : Nat} {b : Bool} (h : w.cell? ⟨d, 1, none⟩ = some (.bool b)) : Calls Tryz.prog 153 #[.pointer (some ⟨d, 0, none⟩)] w fun e w' => e = .returned (.bool b) ∧ w = w' := by
 go_enter Tryz.func153, Tryz.ntmps153
 go_wp2
 go_ret
 exact ⟨rfl, rfl⟩
theorem m_ActOver (a : Addr) (w : World) : (method 371 112 (.pointer (some a)) "Over").run Tryz.prog w = .ok (153, .pointer (some a)) w := by kernel_rfl
theorem m_ActStep (a : Addr) (w : World) : (method 371 112 (.pointer (some a)) "Step").run Tryz.prog w = .ok (154, .pointer (some a)) w := by kernel_rfl
theorem m_SeOver (a : Addr) (w : World) : (method 371 178 (.pointer (some a)) "Over").run Tryz.prog w = .ok (157, .pointer (some a)) w := by kernel_rfl
theorem m_SeStep (a : Addr) (w : World) : (method 371 178 (.pointer (some a)) "Step").run Tryz.prog w = .ok (158, .pointer (some a)) w := by kernel_rfl
theorem m_MkOver (a : Addr) (w : World) : (method 371 216 (.pointer (some a)) "Over").run Tryz.prog w = .ok (167, .pointer (some a)) w := by kernel_rfl
theorem m_MkStep (a : Addr) (w : World) : (method 371 216 (.pointer (some a)) "Step").run Tryz.prog w = .ok (168, .pointer (some a)) w := by kernel_rfl
theorem m_OuOver (a : Addr) (w : World) : (method 371 219 (.pointer (some a)) "Over").run Tryz.prog w = .ok (170, .pointer (some a)) w := by kernel_rfl
theorem m_OuStep (a : Addr) (w : World) : (method 371 219 (.pointer (some a)) "Step").run Tryz.prog w = .ok (171, .pointer (some a)) w := by kernel_rfl
theorem POver.act {d g : Nat} {dv : Value} {b : Bool} (h : Ob w O g d [dv, .bool b]) (hg : g ≠ k) : POver w O k (IAct d) b :=
 ⟨_, _, _, _, rfl, m_ActOver _, run_enter Tryz.func153 (by kernel_rfl) (by kernel_rfl), fun W hW => (c_ActOver ((h.ext hW hg).c 1 _ rfl)).mono fun e w' hp => ⟨hp.1, by rw [← hp.2]; exact Below.refl _ _⟩⟩
theorem POver.mark {m g : Nat} {l : List Int} (h : MkAt w O g m l) (hg : g ≠ k ∧ g + 1 ≠ k) : POver w O k (IMark m) (l.length == 0) := by
 refine ⟨_, _, _, _, rfl, m_MkOver _, run_enter Tryz.func167 (by kernel_rfl) (by kernel_rfl), fun W hW => ?_⟩
 obtain ⟨A, off, hc⟩ := (h.ext hW hg.1 hg.2).cell
 exact (c_MkOver hc).mono fun e w' hp => ⟨hp.1, by rw [← hp.2]; exact Below.refl _ _⟩
theorem POver.out {u g : Nat} {p : Spt} {o : Otm} (h : OutAt w O g u p o) (hp : p.ok) (ho : o.ln ≤ 3) (hg : g ≠ k) : POver w O k (IOut u) (o.ln == 3) := by
 refine ⟨_, _, _, _, rfl, m_OuOver _, run_enter Tryz.func170 (by kernel_rfl) (by kernel_rfl), fun W hW => ?_⟩
 have h2 := h.ext hW hg
 have ht := hp.tags
 exact c_OutOver p.tags o.ln (h2.ob.c 0 _ rfl) (h2.ob.c 4 _ rfl) (by omega) ho
theorem c_PutOver0 {U : Nat} (h0 : w.cell? ⟨U, 0, none⟩ = some (.int .u64 0)) : Calls Tryz.prog 144 #[.pointer (some ⟨U, 0, none⟩)] w fun e w' => e = .returned (.bool true) ∧ Below w.heap.size w w' := by
 have hU := blk_lt h0
 dsimp only at hU
 go_enter Tryz.func144, Tryz.ntmps144
 go_wp2_with fail
 refine wp_region_via (by kernel_rfl) (by kernel_rfl) ?_
 repeat (go_big_quiet_step ((first
  | (go_at_call 146; exact viaB (c_puts _)))))
 refine wpQuiet_nil ?_
 rintro _ ⟨e, rfl⟩
 go_wp2_with fail
 go_ret
 exact ⟨rfl, via_below _ _⟩
theorem POver.put {u g : Nat} {p : Spt} {tg rf : Int} {o : Otm} (h : PvAt w O g u p tg rf o) (hp : p.ok) (ho : o.ln ≤ 3) (hg : g ≠ k) (hv : ¬ (1 ≤ tg ∧ tg ≤ 255 ∧ 1 ≤ rf) → o.ln = 3) : POver w O k (IPut u) (o.ln == 3) := by
 refine ⟨_, _, _, _, rfl, m_PuOver _, run_enter Tryz.func144 (by kernel_rfl) (by kernel_rfl), fun W hW => ?_⟩
 have h2 := h.ext hW hg
 have ht := hp.tags
 by_cases c : 1 ≤ tg ∧ tg ≤ 255 ∧ 1 ≤ rf
 · exact c_PutOver p.tags o.ln ((h2.1 c).ob.c 0 _ rfl) ((h2.1 c).ob.c 4 _ rfl) (by omega) ho
 · rw [hv c]
   exact c_PutOver0 ((h2.2 c).c 0 _ rfl)
theorem c_SeOver {d R : Nat} {z : Rmm} {O : Om} {kr : Nat} (h : w.cell? ⟨d, 1, none⟩ = some (.pointer (some ⟨R, 0, none⟩))) (hr : RoomAt w O kr R z) : Calls Tryz.prog 157 #[.pointer (some ⟨d, 0, none⟩)] w fun e w' => e = .returned (.bool (z.ln == 0)) ∧ w = w' := by
 have HR := Lib.hid (c_RmOver' hr)
 clear hr
 obtain ⟨b, hb⟩ : ∃ b, b = (z.ln == 0) := ⟨_, rfl⟩
 rw [← hb] at HR ⊢
 clear hb
 go_enter Tryz.func157, Tryz.ntmps157
 go_wp2_with fail
 refine HR.out.mono ?_
 rintro e w' ⟨rfl, rfl⟩
 go_wp2_with fail
 go_ret
 exact ⟨rfl, rfl⟩
theorem POver.search {d R g kr : Nat} {x : Value} {z : Rmm} (h : Ob w O g d [x, .pointer (some ⟨R, 0, none⟩)]) (hr : RoomAt w O kr R z) (hg : g ≠ k) (hk : k < kr) : POver w O k (ISearch d) (z.ln == 0) := by
 refine ⟨_, _, _, _, rfl, m_SeOver _, run_enter Tryz.func157 (by kernel_rfl) (by kernel_rfl), fun W hW => ?_⟩
 exact (c_SeOver ((h.ext hW hg).c 1 _ rfl) (hr.ext hW fun t q1 q2 => by omega)).mono fun e w' hp => ⟨hp.1, by rw [← hp.2]; exact Below.refl _ _⟩
theorem c_ActStep {d g K p : Nat} {bound : Array Value} {Q : World → Prop} (hd : Ob w O g d [.func (.func K) bound #[], .bool false]) (hK : ∀ args W, (callFunc K args).run Tryz.prog W = .ok (.enter K args) W)
 (HC : Calls Tryz.prog K (bound ++ #[.pointer (some ⟨p, 0, none⟩)] ++ #[]) (w.setCell ⟨d, 1, none⟩ (.bool true)) fun e w' => e = .returned (.tuple #[]) ∧ Q w') :
 Calls Tryz.prog 154 #[.pointer (some ⟨d, 0, none⟩), .pointer (some ⟨p, 0, none⟩)] w fun e w' => e = .returned (.bool true) ∧ Q w' := by
 have x0 := hd.c 0 _ rfl
 have x1 := hd.c 1 _ rfl
 have f1 := hd.f 1
 have HCC := Lib.hid HC
 clear hd HC
 go_enter Tryz.func154, Tryz.ntmps154
 go_wp2_with fail
 refine HCC.out.mono ?_
 rintro e w' ⟨rfl, hq⟩
 have HQ := Lib.hid hq
 clear hq x0 x1 f1
 go_wp2_with fail
 go_ret
 exact ⟨rfl, HQ.out⟩
theorem c_MvTags {now tag ref lost : Int} {p : Spt} {lv : Value} {d : Nat} {ds : List Value} (hP : PW w O B f s) (hx : Ob w O k X (mvCs now p lv tag ref lost)) (hS : Sls w O (k + 1) 1 lv 1 [IAct d]) (hd : Ob w O (k + 2) d ds) (hp : p.ok) (hk : 10 ≤ k) (hhi : ∀ j, O j ≠ 0 → j < w.heap.size) (n0 : 0 ≤ s.n) (n1 : s.n ≤ 4611686018427387904) :
 Calls Tryz.prog 49 #[.pointer (some ⟨X, 0, none⟩), .pointer (some ⟨B.p, 0, none⟩)] w fun e w' => e = .returned (.tuple #[]) ∧ ∃ G, Ext (SX k (k + 2)) O w G w' ∧ PW w' G B f (awLoad p.tags s) ∧ Ob w' G (k + 2) d ds ∧ ∃ lv', Ob w' G k X (mvCs now p lv' (twTag (s.M p.tags) p.s) ref lost) ∧
  (twTag (s.M p.tags) p.s = 0 → Sls w' G (k + 1) 1 lv' 1 [IAct d]) ∧ (twTag (s.M p.tags) p.s ≠ 0 → ∃ d', Sls w' G (k + 1) 1 lv' 2 [IAct d, IAct d'] ∧ Ob w' G (k + 2) d' [ITEMM X, .bool false]) := by
 have HM : Hid (Me k (k + 2) w O w O B f s k X (mvCs now p lv tag ref lost)) := Lib.hid (Me.start hhi hP hx)
 have HS := Lib.hid (And.intro hS hd)
 have p0 := hP.wo.c0
 have x1 := hx.c 1 _ rfl
 have x2 := hx.c 2 _ rfl
 have x3 := hx.c 3 _ rfl
 have htg := hp.tags
 have hq2 := hp.q2
 have hs0 := hp.s0
 have hs1 := hp.s1
 have HT := Lib.hid (fun W => c_Tags p.b p.q W (by have := hp.b0; omega) (by have := hp.b1; omega) (by have := hp.q0; omega) (by omega))
 have hta2 : plTags p.b p.q = p.tags := rfl
 rw [hta2] at HT
 have hbt := hP.bd p.tags
 have HTG := Lib.hid (fun W => c_TwTag (s.M p.tags) p.s W hbt.1 hbt.2 hs0 hs1)
 have hta : 0 ≤ p.tags ∧ p.tags < 18446744073709551616 := by omega
 obtain ⟨ta, hta3⟩ : ∃ ta, ta = p.tags := ⟨_, rfl⟩
 rw [← hta3] at HT HTG hta ⊢
 obtain ⟨tg, htg2⟩ : ∃ x, x = twTag (s.M ta) p.s := ⟨_, rfl⟩
 rw [← htg2] at HTG ⊢
 obtain ⟨pb, hpb⟩ : ∃ z, z = p.b := ⟨_, rfl⟩
 obtain ⟨pq, hpq⟩ : ∃ z, z = p.q := ⟨_, rfl⟩
 obtain ⟨ps, hps⟩ : ∃ z, z = p.s := ⟨_, rfl⟩
 rw [← hpb] at x1 HT
 rw [← hpq] at x2 HT
 rw [← hps] at x3 HTG
 have HPP := Lib.hid (And.intro hpb (And.intro hpq hps))
 have HTA := Lib.hid hta
 have hXB : ¬ B.p = X := hP.ne_obj hx hk
 clear hP hx hS hd hhi hp htg hq2 hs0 hs1 hbt hta hta2 hta3 htg2 hpb hpq hps
 have cut : ∀ w5 G5, Me k (k + 2) w O w5 G5 B f (awLoad ta s) k X (mvCs now p lv tg ref lost) → Sls w5 G5 (k + 1) 1 lv 1 [IAct d] → Ob w5 G5 (k + 2) d ds → True := fun _ _ _ _ _ => trivial
 clear cut
 obtain ⟨i0, hi, hz0, hz1, hz2⟩ := info_parts infoPart
 have HI := Lib.hid (And.intro hi (And.intro hz0 (And.intro hz1 hz2)))
 clear hi hz0 hz1 hz2
 go_enter Tryz.func49, Tryz.ntmps49
 go_wp2_with fail
 go_region_held3 (fun w' => w'.cell? ⟨B.p, 0, none⟩ = some (.pointer (some ⟨B.c, 0, none⟩)) ∧ w'.cell? ⟨X, 1, none⟩ = some (.int .i64 pb) ∧ w'.cell? ⟨X, 2, none⟩ = some (.int .i64 pq) ∧ w'.cell? ⟨X, 3, none⟩ = some (.int .i64 ps)) (go_keep)
  ((first
    | (go_at_call 25
       refine (HT.out _).mono ?_
       rintro e w1 ⟨rfl, hb1⟩
       have M1 := Lib.hid (HM.out.drew.below hb1)
       have S1 := Lib.hid (And.intro ((HS.out.1.below (drew_below _)).below hb1) ((HS.out.2.below (drew_below _)).below hb1))
       have p01 := M1.out.p.wo.c0
       have x11 := M1.out.t.c 1 _ rfl
       have x21 := M1.out.t.c 2 _ rfl
       have x31 := M1.out.t.c 3 _ rfl
       rw [← HPP.out.1] at x11
       rw [← HPP.out.2.1] at x21
       rw [← HPP.out.2.2] at x31
       clear hb1)
    | (go_at_call 70
       refine (c_LoadP ta M1.out.p M1.out.e.hi HTA.out.1 HTA.out.2 n0 n1).mono ?_
       rintro e w2 ⟨rfl, G2, e2, P2⟩
       have M2 := Lib.hid (M1.out.world hk e2 P2)
       have S2 := Lib.hid (And.intro (S1.out.1.ext e2 (by unfold SW; omega)) (S1.out.2.ext e2 (by unfold SW; omega)))
       have p02 := M2.out.p.wo.c0
       have x12 := M2.out.t.c 1 _ rfl
       have x22 := M2.out.t.c 2 _ rfl
       have x32 := M2.out.t.c 3 _ rfl
       rw [← HPP.out.1] at x12
       rw [← HPP.out.2.1] at x22
       rw [← HPP.out.2.2] at x32
       clear e2 P2)
    | (go_at_call 47
       refine (HTG.out _).mono ?_
       rintro e w3 ⟨rfl, hb3⟩
       have M3 := Lib.hid (M2.out.below hb3)
       have S3 := Lib.hid (And.intro (S2.out.1.below hb3) (S2.out.2.below hb3))
       have p03 := M3.out.p.wo.c0
       have x13 := M3.out.t.c 1 _ rfl
       have x23 := M3.out.t.c 2 _ rfl
       have x33 := M3.out.t.c 3 _ rfl
       rw [← HPP.out.1] at x13
       rw [← HPP.out.2.1] at x23
       rw [← HPP.out.2.2] at x33
       have x53 := M3.out.t.c 5 _ rfl
       have f53 := M3.out.t.f 5
       have E4 := Lib.hid (ext_set (j := 5) (v := .int .i64 tg) M3.out.e.hi M3.out.t hk)
       have M4 := Lib.hid (M3.out.set hk (Nat.le_refl _) (by omega) 5 (.int .i64 tg) (by simp [mvCs]))
       have p04 := M4.out.p.wo.c0
       have x14 := M4.out.t.c 1 _ rfl
       have x24 := M4.out.t.c 2 _ rfl
       have x34 := M4.out.t.c 3 _ rfl
       rw [← HPP.out.1] at x14
       rw [← HPP.out.2.1] at x24
       rw [← HPP.out.2.2] at x34
       clear hb3)))
 all_goals
  clear p0 x1 x2 x3 p01 x11 x21 x31 p02 x12 x22 x32 p03 x13 x23 x33 x53 f53
  go_upto_region 1 with fail
  have S4 := Lib.hid (And.intro (S3.out.1.ext E4.out (by omega)) (S3.out.2.ext E4.out (by omega)))
  obtain ⟨w4, hw4⟩ : ∃ w4, w4 = w3.setCell ⟨X, 5, none⟩ (.int .i64 tg) := ⟨_, rfl⟩
  rw [← hw4] at M4 S4 ⊢
  clear hw4 E4 M3 S3 M2 S2 M1 S1 p04 x14 x24 x34
  have x5 := M4.out.t.c 5 _ rfl
  by_cases ht0 : tg = 0
  · have dt : (tg != 0) = false := by simp [ht0]
    have HT0 := Lib.hid ht0
    clear ht0
    go_wp2_with fail
    go_end0
    exact ⟨rfl, G2, M4.out.e, M4.out.p, S4.out.2, lv, M4.out.t, fun _ => S4.out.1, fun h => absurd HT0.out h⟩
  · have dt : (tg != 0) = true := by simp [ht0]
    have HT0 := Lib.hid ht0
    obtain ⟨A, o, cp, rfl, hc1, hc2⟩ := S4.out.1.open (by decide)
    have x4 := M4.out.t.c 4 _ rfl
    have hXl := M4.out.t.lt
    obtain ⟨G5, e5, a5, k5⟩ := alloc_ob M4.out.e.hi (k + 2) #[ITEMM X, .bool false] 115 w4.heap.size rfl
    have M5 := Lib.hid (And.intro (M4.out.e.trans (e5.mono (T := SX k (k + 2)) fun t _ h => .inr (by omega))) (And.intro (M4.out.p.ext e5 (by omega) (by omega) (by omega) (by omega)) (And.intro (k5 _ _ _ M4.out.t) (And.intro (k5 _ _ _ S4.out.2) (And.intro a5 (S4.out.1.kept k5))))))
    clear ht0 e5 a5 k5
    go_wp2_with (at_builtin; refine append_sls (w4.alloc (.cells #[ITEMM X, .bool false] 115)) rfl _ _ 109 rfl 245 i0 .nilIface 1 16 Tryz.underlying109 HI.out.1 HI.out.2.1 HI.out.2.2.1 HI.out.2.2.2 rfl (by decide) G5 (k + 1) (by omega) M5.out.1.hi (.slice (some ⟨A, o, none⟩) 1 cp) 1 [IAct d] rfl M5.out.2.2.2.2.2 1 (by decide) [IAct w4.heap.size] _ (by simp only [World.size_alloc]; rfl) rfl (by simp [IAct, Value.oneCell']) (by unfold maxLen; decide) (by decide) ?_; intro b6 o6 c6 w6 G6 e6 s6; have M6 := Lib.hid (And.intro (M5.out.1.trans (e6.mono (T := SX k (k + 2)) fun t _ h => .inr (by omega))) (And.intro (M5.out.2.1.ext e6 (by omega) (by omega) (by omega) (by omega)) (And.intro (M5.out.2.2.1.ext e6 (by omega)) (And.intro (M5.out.2.2.2.1.ext e6 (by omega)) (And.intro (M5.out.2.2.2.2.1.ext e6 (by omega)) s6))))); have x46 := M6.out.2.2.1.c 4 _ rfl; have f46 := M6.out.2.2.1.f 4; clear e6 s6)
    go_end0
    have E7 := ext_set (j := 4) (v := .slice (some ⟨b6, o6, none⟩) (1 + 1) c6) M6.out.1.hi M6.out.2.2.1 hk
    have X7 := M6.out.2.2.1.set 4 (.slice (some ⟨b6, o6, none⟩) (1 + 1) c6) (by simp [mvCs])
    exact ⟨rfl, G6, M6.out.1.trans (E7.mono fun t _ h => .inr (by omega)), M6.out.2.1.ext E7 (by omega) (by omega) (by omega) (by omega), M6.out.2.2.2.1.ext E7 (by omega), _, X7, fun h => absurd h HT0.out, fun _ => ⟨_, M6.out.2.2.2.2.2.ext E7 (by omega), M6.out.2.2.2.2.1.ext E7 (by omega)⟩⟩
end
end
end Go.Proofs.YtfnmdafpdcgcmaaGreat
