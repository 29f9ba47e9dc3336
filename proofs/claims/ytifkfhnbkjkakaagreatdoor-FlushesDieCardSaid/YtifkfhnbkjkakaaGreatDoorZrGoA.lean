/- Blocks that nobody owns: what closures hold of the variables around them. Layer 21: a Turn where there is one table: it is over by its first load. Layer 25: what a Store's lines share: steps of an operation, an access, the end; its struct. Layer 25: a Store's marks, its end, the epoch it loads, what it tells. Slices whose blocks are nobody's; what is appended to such as were made anew. Layer 2: the slots that have a tag. -/
import Derived.Test.YtifkfhnbkjkakaaGreatDoorZrBaE
import Derived.Test.YtifkfhnbkjkakaaGreatDoorZrSp
import Derived.Test.YtifkfhnbkjkakaaGreatDoorZrWyA
import Derived.Test.YtifkfhnbkjkakaaGreatDoorZrFwA
import Derived.Deep.Upon
namespace Go.Proofs.YtifkfhnbkjkakaaGreatDoor
set_option linter.unusedSimpArgs false
set_option linter.unusedVariables false
set_option maxHeartbeats 4000000
set_option maxRecDepth 100000
section
open Go.RowKit
structure Bx (w : World) (O : Om) (b : Nat) (cs : List Value) : Prop where
 o : O b = 0
 lt : b < w.heap.size
 c : ∀ j u, cs[j]? = some u → w.cell? ⟨b, j, none⟩ = some u
section
variable {S : Nat → Prop} {O O' : Om} {w w' : World} {b : Nat} {cs : List Value}
theorem Bx.ext (h : Bx w O b cs) (e : Ext S O w O' w') : Bx w' O' b cs :=
 ⟨(e.lo b h.lt).trans h.o, Nat.lt_of_lt_of_le h.lt e.size, fun j u hu => (e.wr.cell (p := ⟨b, j, none⟩) h.lt (fun k => k.2 h.o)).trans (h.c j u hu)⟩
theorem Bx.below (h : Bx w O b cs) (hb : Below w.heap.size w w') : Bx w' O b cs :=
 ⟨h.o, Nat.lt_of_lt_of_le h.lt hb.size, fun j u hu => (hb.cell (p := ⟨b, j, none⟩) h.lt).trans (h.c j u hu)⟩
theorem own_new (hhi : ∀ j, O j ≠ 0 → j < w.heap.size) {n : Nat} (hn : w.heap.size ≤ n) : O n = 0 := by
 by_cases q : O n = 0
 · exact q
 · exact absurd (hhi _ q) (by omega)
theorem Bx.new (hhi : ∀ j, O j ≠ 0 → j < w.heap.size) (cs : Array Value) (ty : TypeId) (n : Nat) (hn : n = w.heap.size) : Bx (w.alloc (.cells cs ty)) O n cs.toList := by
 subst hn
 exact ⟨own_new hhi (Nat.le_refl _), by simp, fun j u hu => cell_newA w cs ty _ rfl j u (by simpa using hu)⟩
theorem alloc_below (w : World) (o : Obj) : Below w.heap.size w (w.alloc o) := (Below.refl _ _).alloc (Nat.le_refl _) o
theorem hi_below (hhi : ∀ j, O j ≠ 0 → j < w.heap.size) (hb : Below w.heap.size w w') : ∀ j, O j ≠ 0 → j < w'.heap.size := fun j hj => Nat.lt_of_lt_of_le (hhi j hj) hb.size
end
end
section
open Go.RowKit
def tuCs (ln t : Int) : List Value := [.int .i64 ln, .int .u64 t, .int .u64 0, .int .i64 0, .pointer none, .pointer none]
section
variable {w : World} {O : Om} {B : Wb} {f : Cf} {s : AW} {k X : Nat}
theorem c_TuOver {X : Nat} {ln : Int} {w : World} (h : w.cell? ⟨X, 0, none⟩ = some (.int .i64 ln)) : Calls Tryz.prog 443 #[.pointer (some ⟨X, 0, none⟩)] w fun e w' => e = .returned (.bool (ln == 0)) ∧ w = w' := by
 go_enter Tryz.func443, Tryz.ntmps443
 go_wp2
 go_ret
 exact ⟨rfl, rfl⟩
theorem c_NewTurn1 (k : Nat) (hhi : ∀ j, O j ≠ 0 → j < w.heap.size) : Calls Tryz.prog 68 #[] w fun e w' => ∃ X, RP (fun t => t = k) w O (.pointer (some ⟨X, 0, none⟩)) (fun W G => Ob W G k X (tuCs 1 0)) e w' := by
 obtain ⟨O1, e1, x1, -⟩ := alloc_ob hhi k (tuCs 1 0).toArray 239 w.heap.size rfl
 go_enter Tryz.func68, Tryz.ntmps68
 go_wp2
 go_ret
 exact ⟨w.heap.size, rfl, O1, e1, x1⟩
theorem c_TurnStep1 (hP : PW w O B f s) (hX : Ob w O k X (tuCs 1 0)) (hk : 10 ≤ k) (hn : plNow (s.M 2) = 0) (hhi : ∀ j, O j ≠ 0 → j < w.heap.size) (n0 : 0 ≤ s.n) (n1 : s.n ≤ 4611686018427387904) :
 Calls Tryz.prog 444 #[.pointer (some ⟨X, 0, none⟩), .pointer (some ⟨B.p, 0, none⟩)] w (RP (SX k k) w O (.bool true) fun W G => PW W G B f (awLoad 2 s)) := by
 have HM : Hid (Me k k w O w O B f s k X (tuCs 1 0)) := Lib.hid (Me.start hhi hP hX)
 have x0 := hX.c 0 _ rfl
 have x1 := hX.c 1 _ rfl
 have p0 := hP.wo.c0
 have hbd := Lib.hid (hP.bd 2)
 have HA := Lib.hid (fun W => c_As 0 W (by decide) (by decide))
 have HA2 := Lib.hid (fun W => c_As (s.M 2) W hbd.out.1 hbd.out.2)
 have HL := Lib.hid (c_LoadP 2 hP hhi (by decide) (by decide) n0 n1)
 have e0 : (plNow (s.M 2) == 0) = true := by rw [hn]; rfl
 clear hP hX hhi hn
 go_enter Tryz.func444, Tryz.ntmps444
 go_wp2_with fail
 refine (c_TuOver x0).mono ?_
 rintro e w' ⟨rfl, rfl⟩
 go_wp2_with fail
 refine (HA.out _).mono ?_
 rintro e w' ⟨rfl, rfl⟩
 go_wp2_with fail
 refine HL.out.mono ?_
 rintro e w2 ⟨rfl, G2, e2, P2⟩
 have M2 := HM.out.world hk e2 P2
 have q1 := M2.t.c 1 _ rfl
 have f1 := M2.t.f 1
 have M3 := Lib.hid (M2.set hk (Nat.le_refl _) (Nat.le_refl _) 1 (.int .u64 (s.M 2)) (by simp [tuCs]))
 obtain ⟨w3, hw3⟩ : ∃ w3, w3 = w2.setCell ⟨X, 1, none⟩ (.int .u64 (s.M 2)) := ⟨_, rfl⟩
 clear HL e2 P2 M2 x0 x1 p0 HM
 go_wp2_with fail
 rw [← hw3] at M3 ⊢
 clear q1 f1 hw3
 have q0 := M3.out.t.c 0 _ rfl
 have q1 := M3.out.t.c 1 _ rfl
 have f0 := M3.out.t.f 0
 go_wp2_with fail
 refine (HA2.out _).mono ?_
 rintro e w' ⟨rfl, rfl⟩
 have M4 := Lib.hid (M3.out.set hk (Nat.le_refl _) (Nat.le_refl _) 0 (.int .i64 0) (by simp [tuCs]))
 go_wp2_with fail
 have y0 := M4.out.t.c 0 _ rfl
 refine (c_TuOver y0).mono ?_
 rintro e w' ⟨rfl, rfl⟩
 go_wp2_with fail
 go_ret
 exact ⟨rfl, G2, M4.out.e, M4.out.p⟩
end
end
section
open Go.RowKit
theorem Me.set2 {a b k T i j : Nat} {w w0 : World} {O O0 : Om} {B : Wb} {f : Cf} {s : AW} {cs : List Value} (h : Me a b w0 O0 w O B f s k T cs) (hk : 10 ≤ k) (ha : a ≤ k) (hb : k ≤ b) (u v : Value) (hi : i < cs.length) (hj : j < cs.length) :
 Me a b w0 O0 ((w.setCell ⟨T, i, none⟩ u).setCell ⟨T, j, none⟩ v) O B f s k T ((cs.set i u).set j v) ∧ Ext (fun t => t = k) O w O ((w.setCell ⟨T, i, none⟩ u).setCell ⟨T, j, none⟩ v) := by
 have e1 := Ext.of_set (j := i) (v := u) (S := fun t => t = k) h.e.hi h.t.o (by omega) rfl
 have e2 := Ext.of_set (j := j) (v := v) (S := fun t => t = k) e1.hi h.t.o (by omega) rfl
 exact ⟨(h.set hk ha hb i u hi).set hk ha hb j v (by simpa using hj), e1.trans e2⟩
def stTl (c : Clm) (p : Spt) (an nu ep pt : Int) : List Value := [.int .u8 c.verb, .string c.key, .string c.val, .int .u32 c.fl, .int .i64 c.exp, .int .u64 c.id, .int .u64 c.by_, .int .u64 (kyH c.key), .int .i64 p.b, .int .i64 p.q, .int .i64 p.s, .int .u8 an, .int .u64 nu, .string ⟨#[]⟩, .string ⟨#[]⟩, .int .u32 0, .int .u64 0, .int .i64 0, .int .i64 0, .int .u64 ep, .int .i64 pt]
def stCs (op th ac : Value) (c : Clm) (p : Spt) (an nu ep pt : Int) : List Value := op :: th :: ac :: stTl c p an nu ep pt
def enters (K : FuncId) : Prop := ∀ args W, (callFunc K args).run Tryz.prog W = .ok (.enter K args) W
section
variable {w w0 : World} {O O0 : Om} {B : Wb} {f : Cf} {s : AW} {a b k X : Nat} {v0 v1 v2 : Value} {r : List Value}
theorem c_goAccess (gf : Fn) (gb gc : Array Value) (M : Me a b w0 O0 w O B f s k X (v0 :: v1 :: v2 :: r)) (hk : 10 ≤ k) (ha : a ≤ k) (hb : k ≤ b) :
 Calls Tryz.prog 164 #[.pointer (some ⟨X, 0, none⟩), .func gf gb gc] w fun e w' => e = .returned (.tuple #[]) ∧ Me a b w0 O0 w' O B f s k X (.nilIface :: v1 :: .func gf gb gc :: r) ∧ Ext (fun t => t = k) O w O w' := by
 have q0 := M.t.c 0 _ rfl
 have f0 := M.t.f 0
 have q2 := M.t.c 2 _ rfl
 have f2 := M.t.f 2
 have HM := Lib.hid (M.set2 hk ha hb (i := 0) (j := 2) .nilIface (.func gf gb gc) (by simp) (by simp))
 clear M
 go_enter Tryz.func164, Tryz.ntmps164
 go_wp2
 go_end0
 exact ⟨rfl, HM.out⟩
theorem c_goEnds (V : Value) (M : Me a b w0 O0 w O B f s k X (v0 :: v1 :: v2 :: r)) (hk : 10 ≤ k) (ha : a ≤ k) (hb : k ≤ b) :
 Calls Tryz.prog 266 #[.pointer (some ⟨X, 0, none⟩), V] w fun e w' => e = .returned (.tuple #[]) ∧ Me a b w0 O0 w' O B f s k X (.nilIface :: v1 :: .nilFunc :: r) ∧ Ext (fun t => t = k) O w O w' := by
 have q0 := M.t.c 0 _ rfl
 have f0 := M.t.f 0
 have q2 := M.t.c 2 _ rfl
 have f2 := M.t.f 2
 have HM := Lib.hid (M.set2 hk ha hb (i := 0) (j := 2) .nilIface .nilFunc (by simp) (by simp))
 clear M
 go_enter Tryz.func266, Tryz.ntmps266
 go_wp2
 go_end0
 exact ⟨rfl, HM.out⟩
theorem c_goSteps {ty : TypeId} {fO : FuncId} {v : Value} (gf : Fn) (gb gc : Array Value) (wv : Value) (hm : ∀ W, (method 635 ty v "Over").run Tryz.prog W = .ok (fO, v) W) (hK : enters fO)
 (HC : Calls Tryz.prog fO #[v] w fun e w' => e = .returned (.bool false) ∧ Below w.heap.size w w') (M : Me a b w0 O0 w O B f s k X (v0 :: v1 :: v2 :: r)) (hk : 10 ≤ k) (ha : a ≤ k) (hb : k ≤ b) :
 Calls Tryz.prog 99 #[.pointer (some ⟨X, 0, none⟩), wv, .iface ty v, .func gf gb gc] w fun e w' => e = .returned (.tuple #[]) ∧ Me a b w0 O0 w' O B f s k X (.iface ty v :: .func gf gb gc :: .nilFunc :: r) ∧ Ext (fun t => t = k) O w O w' := by
 unfold enters at hK
 have HCH := Lib.hid HC
 have HM := Lib.hid M
 clear HC M
 go_enter Tryz.func99, Tryz.ntmps99
 go_wp2_with fail
 refine HCH.out.mono ?_
 rintro e w1 ⟨rfl, hb1⟩
 have M := HM.out.below hb1
 have e0 := Ext.of_below (S := fun t => t = k) HM.out.e.hi hb1
 have q0 := M.t.c 0 _ rfl
 have f0 := M.t.f 0
 have q1 := M.t.c 1 _ rfl
 have f1 := M.t.f 1
 have q2 := M.t.c 2 _ rfl
 have f2 := M.t.f 2
 have M2 := M.set2 hk ha hb (i := 0) (j := 1) (.iface ty v) (.func gf gb gc) (by simp) (by simp)
 have e3 := Ext.of_set (j := 2) (v := .nilFunc) (S := fun t => t = k) M2.2.hi M2.1.t.o (by omega) rfl
 have HM := Lib.hid (And.intro (M2.1.set hk ha hb 2 .nilFunc (by simp)) ((e0.trans M2.2).trans e3))
 clear M M2 e0 e3 hb1
 go_wp2
 go_end0
 exact ⟨rfl, HM.out⟩
def Idle (w : World) (X : Nat) (t : Bool) : Prop := (t = true ∧ w.cell? ⟨X, 0, none⟩ = some .nilIface ∧ w.cell? ⟨X, 2, none⟩ = some .nilFunc) ∨ (t = false ∧ ((∃ ty v, w.cell? ⟨X, 0, none⟩ = some (.iface ty v)) ∨ (w.cell? ⟨X, 0, none⟩ = some .nilIface ∧ ∃ f a c, w.cell? ⟨X, 2, none⟩ = some (.func f a c))))
theorem c_goIdle {w : World} {t : Bool} (h : Idle w X t) : Calls Tryz.prog 101 #[.pointer (some ⟨X, 0, none⟩)] w fun e w' => e = .returned (.bool t) ∧ w = w' := by
 rcases h with ⟨rfl, q0, q2⟩ | ⟨rfl, ⟨ty, v, q0⟩ | ⟨q0, ff, aa, cc, q2⟩⟩
 · go_enter Tryz.func101, Tryz.ntmps101
   go_wp2
   go_ret
   exact ⟨rfl, rfl⟩
 · go_enter Tryz.func101, Tryz.ntmps101
   go_wp2
   go_ret
   exact ⟨rfl, rfl⟩
 · go_enter Tryz.func101, Tryz.ntmps101
   go_wp2
   go_ret
   exact ⟨rfl, rfl⟩
theorem c_StOver {w : World} {t : Bool} (h : Idle w X t) : Calls Tryz.prog 436 #[.pointer (some ⟨X, 0, none⟩)] w fun e w' => e = .returned (.bool t) ∧ w = w' := by
 have HI := Lib.hid (c_goIdle h)
 clear h
 go_enter Tryz.func436, Tryz.ntmps436
 go_wp2_with fail
 refine HI.out.mono ?_
 rintro e w' ⟨rfl, rfl⟩
 go_wp2_with fail
 go_ret
 exact ⟨rfl, rfl⟩
theorem c_goOnAct {w : World} {K : FuncId} {bd caps : Array Value} {wv : Value} {R : World → Prop} (q0 : w.cell? ⟨X, 0, none⟩ = some .nilIface) (q2 : w.cell? ⟨X, 2, none⟩ = some (.func (.func K) bd caps)) (hK : enters K)
 (HC : Calls Tryz.prog K (bd ++ #[wv] ++ caps) w fun e w' => e = .returned (.tuple #[]) ∧ R w') :
 Calls Tryz.prog 438 #[.pointer (some ⟨X, 0, none⟩), wv] w fun e w' => e = .returned (.tuple #[]) ∧ R w' := by
 unfold enters at hK
 have HCH := Lib.hid HC
 clear HC
 go_enter Tryz.func438, Tryz.ntmps438
 go_wp2_with fail
 refine HCH.out.mono ?_
 rintro e w' ⟨rfl, h⟩
 have HR := Lib.hid h
 clear h
 go_wp2
 go_end0
 exact ⟨rfl, HR.out⟩
theorem c_goOnNo {w : World} {ty : TypeId} {fS : FuncId} {v wv : Value} {R : World → Prop} (q0 : w.cell? ⟨X, 0, none⟩ = some (.iface ty v)) (hm : ∀ W, (method 635 ty v "Step").run Tryz.prog W = .ok (fS, v) W) (hK : enters fS)
 (HC : Calls Tryz.prog fS #[v, wv] w fun e w' => e = .returned (.bool false) ∧ R w') :
 Calls Tryz.prog 438 #[.pointer (some ⟨X, 0, none⟩), wv] w fun e w' => e = .returned (.tuple #[]) ∧ R w' := by
 unfold enters at hK
 have HCH := Lib.hid HC
 clear HC
 go_enter Tryz.func438, Tryz.ntmps438
 go_wp2_with fail
 refine HCH.out.mono ?_
 rintro e w' ⟨rfl, h⟩
 have HR := Lib.hid h
 clear h
 go_wp2
 go_end0
 exact ⟨rfl, HR.out⟩
theorem c_goOnYes {w : World} {ty : TypeId} {fS K : FuncId} {v wv : Value} {bd caps : Array Value} {R R1 : World → Prop} (q0 : w.cell? ⟨X, 0, none⟩ = some (.iface ty v)) (hm : ∀ W, (method 635 ty v "Step").run Tryz.prog W = .ok (fS, v) W) (hK : enters fS)
 (HC : Calls Tryz.prog fS #[v, wv] w fun e w' => e = .returned (.bool true) ∧ R1 w') (hK2 : enters K)
 (HT : ∀ w1, R1 w1 → w1.cell? ⟨X, 1, none⟩ = some (.func (.func K) bd caps) ∧ Calls Tryz.prog K (bd ++ #[wv] ++ caps) w1 fun e w' => e = .returned (.tuple #[]) ∧ R w') :
 Calls Tryz.prog 438 #[.pointer (some ⟨X, 0, none⟩), wv] w fun e w' => e = .returned (.tuple #[]) ∧ R w' := by
 unfold enters at hK hK2
 have HCH := Lib.hid HC
 have HTH := Lib.hid HT
 clear HC HT
 go_enter Tryz.func438, Tryz.ntmps438
 go_wp2_with fail
 refine HCH.out.mono ?_
 rintro e w1 ⟨rfl, h⟩
 obtain ⟨q1, h2⟩ := HTH.out w1 h
 have HD := Lib.hid h2
 clear h h2 HCH HTH
 go_wp2_with fail
 refine HD.out.mono ?_
 rintro e w' ⟨rfl, h⟩
 have HR := Lib.hid h
 clear h
 go_wp2
 go_end0
 exact ⟨rfl, HR.out⟩
theorem c_StStepBy {w : World} {wp : Addr} {R : World → Prop} {t : Bool} (h : Idle w X false) (HC : Calls Tryz.prog 438 #[.pointer (some ⟨X, 0, none⟩), .pointer (some wp)] w fun e w' => e = .returned (.tuple #[]) ∧ R w') (hR : ∀ w', R w' → Idle w' X t) :
 Calls Tryz.prog 437 #[.pointer (some ⟨X, 0, none⟩), .pointer (some wp)] w fun e w' => e = .returned (.bool t) ∧ R w' := by
 have H0 := Lib.hid (c_StOver h)
 have HCH := Lib.hid HC
 have HRH := Lib.hid hR
 clear h HC hR
 go_enter Tryz.func437, Tryz.ntmps437
 go_wp2_with fail
 refine H0.out.mono ?_
 rintro e w' ⟨rfl, rfl⟩
 go_wp2_with fail
 refine HCH.out.mono ?_
 rintro e w1 ⟨rfl, h⟩
 have H1 := Lib.hid (c_StOver (HRH.out w1 h))
 have HR := Lib.hid h
 clear h
 go_wp2_with fail
 refine H1.out.mono ?_
 rintro e w' ⟨rfl, rfl⟩
 go_wp2_with fail
 go_ret
 exact ⟨rfl, HR.out⟩
end
end
section
open Go.RowKit
theorem m_MkOver (a : Addr) (w : World) : (method 635 246 (.pointer (some a)) "Over").run Tryz.prog w = .ok (350, .pointer (some a)) w := by kernel_rfl
theorem m_MkStep (a : Addr) (w : World) : (method 635 246 (.pointer (some a)) "Step").run Tryz.prog w = .ok (341, .pointer (some a)) w := by kernel_rfl
theorem m_GvOver (a : Addr) (w : World) : (method 635 219 (.pointer (some a)) "Over").run Tryz.prog w = .ok (169, .pointer (some a)) w := by kernel_rfl
theorem m_GvStep (a : Addr) (w : World) : (method 635 219 (.pointer (some a)) "Step").run Tryz.prog w = .ok (104, .pointer (some a)) w := by kernel_rfl
def StQ (k : Nat) (w0 : World) (O0 : Om) (w : World) (O : Om) (B : Wb) (f : Cf) (s : AW) (X : Nat) (op th ac : Value) (tl : List Value) (Q : World → Om → Prop) (e : Ending) (w' : World) : Prop :=
 e = .returned (.tuple #[]) ∧ ∃ G, Me k (k + 30) w0 O0 w' G B f s k X (op :: th :: ac :: tl) ∧ Ext (SX k (k + 30)) O w G w' ∧ Q w' G
section
variable {w w0 : World} {O O0 : Om} {B : Wb} {f : Cf} {s : AW} {k X : Nat} {op th ac : Value} {c : Clm} {p : Spt} {an nu ep pt : Int}
theorem c_StMark (gf : Fn) (gb gc : Array Value) (wv : Value) (M : Me k (k + 30) w0 O0 w O B f s k X (stCs op th ac c p an nu ep pt)) (hp : p.ok) (hk : 10 ≤ k) :
 Calls Tryz.prog 162 #[.pointer (some ⟨X, 0, none⟩), wv, .func gf gb gc] w fun e w' => ∃ Mk, StQ k w0 O0 w O B f s X (.iface 246 (.pointer (some ⟨Mk, 0, none⟩))) (.func gf gb gc) .nilFunc (stTl c p an nu ep pt) (fun W G => MkAt W G (k + 6) Mk [p.ver]) e w' := by
 have q11 := M.t.c 11 _ rfl
 have q12 := M.t.c 12 _ rfl
 have xl := M.t.lt
 have b0 := (drew_below w).trans ((alloc_below w.drew (.cells #[.int .i64 p.b, .int .i64 p.q] 73)).mono (Nat.le_refl _))
 have HN := Lib.hid (c_NewMark1 (w := w.drew.alloc (.cells #[.int .i64 p.b, .int .i64 p.q] 73)) (O := O) p hp (b := w.heap.size) (o := 0) (c := 1) (k + 6) (by omega) ⟨Nat.le_refl _, by unfold maxLen; omega⟩ (by simp) (cell_newA _ #[.int .i64 p.b, .int .i64 p.q] _ _ rfl 0 _ rfl) (cell_newA _ #[.int .i64 p.b, .int .i64 p.q] _ _ rfl 1 _ rfl) (hi_below M.e.hi b0))
 have HM := Lib.hid (M.below b0)
 have HE := Lib.hid (Ext.of_below (S := SX k (k + 30)) M.e.hi b0)
 obtain ⟨pv, hpv⟩ : ∃ v, v = p.ver := ⟨_, rfl⟩
 rw [← hpv] at HN ⊢
 obtain ⟨pb, hpb⟩ : ∃ v, v = p.b := ⟨_, rfl⟩
 obtain ⟨pq, hpq⟩ : ∃ v, v = p.q := ⟨_, rfl⟩
 rw [← hpb, ← hpq] at HN HM HE
 rw [← hpb] at q11
 rw [← hpq] at q12
 obtain ⟨tl, htl⟩ : ∃ tl, tl = stTl c p an nu ep pt := ⟨_, rfl⟩
 have t8 : tl[8]? = some (.int .i64 pb) := by rw [htl, hpb]; rfl
 have t9 : tl[9]? = some (.int .i64 pq) := by rw [htl, hpq]; rfl
 unfold stCs at HM
 rw [← htl] at HM ⊢
 clear M hp hpv hpb hpq htl b0
 go_enter Tryz.func162, Tryz.ntmps162
 go_region_held3 (fun w' => w'.cell? ⟨X, 11, none⟩ = some (.int .i64 pb) ∧ w'.cell? ⟨X, 12, none⟩ = some (.int .i64 pq)) (go_keep)
  (first
    | (go_at_call 135
       refine HN.out.mono ?_
       rintro e w1 ⟨Mk, rfl, G1, e1, k1⟩
       have em := e1.mono (T := SX k (k + 30)) fun t _ ht => .inr (by omega)
       have M1 : Me k (k + 30) w0 O0 w1 G1 B f s k X (op :: th :: ac :: tl) := ⟨HM.out.e.trans em, HM.out.p.ext e1 (by omega) (by omega) (by omega) (by omega), HM.out.t.ext e1 (by omega)⟩
       have g11 : w1.cell? ⟨X, 11, none⟩ = some (.int .i64 pb) := M1.t.c 11 _ t8
       have g12 : w1.cell? ⟨X, 12, none⟩ = some (.int .i64 pq) := M1.t.c 12 _ t9
       have HM1 := Lib.hid (And.intro M1 (And.intro (HE.out.trans em) k1))
       obtain ⟨A, off, hmk⟩ := k1.cell
       have HS := Lib.hid (c_goSteps (w := w1) gf gb gc wv (m_MkOver ⟨Mk, 0, none⟩) (run_enter Tryz.func350 (by kernel_rfl) (by kernel_rfl)) ((c_MkOver hmk).mono fun e w' h => ⟨h.1, by rw [← h.2]; exact Below.refl _ _⟩) M1 hk (Nat.le_refl _) (by omega))
       clear em e1 k1 M1 hmk)
    | (go_at_call 99
       refine HS.out.mono ?_
       rintro e w2 ⟨rfl, m2, e2⟩
       have g11 : w2.cell? ⟨X, 11, none⟩ = some (.int .i64 pb) := m2.t.c 11 _ t8
       have g12 : w2.cell? ⟨X, 12, none⟩ = some (.int .i64 pq) := m2.t.c 12 _ t9
       have HQ := Lib.hid (And.intro m2 e2)
       clear m2 e2))
 all_goals
  go_wp2_with fail
  go_end0
  obtain ⟨m2, e2⟩ := HQ.out
  obtain ⟨-, h2, h3⟩ := HM1.out
  exact ⟨Mk, rfl, G1, m2, h2.trans (e2.mono fun t _ ht => .inr (by omega)), h3.ext e2 (by omega) (by omega)⟩
theorem c_StGives {tl : List Value} (wv : Value) (M : Me k (k + 30) w0 O0 w O B f s k X (op :: th :: ac :: tl)) (hk : 10 ≤ k) :
 Calls Tryz.prog 231 #[.pointer (some ⟨X, 0, none⟩), wv] w fun e w' => ∃ V, StQ k w0 O0 w O B f s X (.iface 219 (.pointer (some ⟨V, 0, none⟩))) (.func (.func 266) #[.pointer (some ⟨X, 0, none⟩)] #[]) .nilFunc tl (fun W G => Ob W G (k + 8) V [.int .i64 1]) e w' := by
 have HN := Lib.hid (c_NewGiveE w.drew O (k + 8) (by omega) (hi_below M.e.hi (drew_below w)))
 have HM := Lib.hid (M.below (drew_below w))
 have HE := Lib.hid (Ext.of_below (S := SX k (k + 30)) M.e.hi (drew_below w))
 clear M
 go_enter Tryz.func231, Tryz.ntmps231
 go_region_held3 (fun w' => True) (trivial)
  (first
    | (go_at_call 102
       refine HN.out.mono ?_
       rintro e w1 ⟨V, rfl, G1, e1, k1⟩
       have em := e1.mono (T := SX k (k + 30)) fun t _ ht => .inr (by omega)
       have M1 : Me k (k + 30) w0 O0 w1 G1 B f s k X (op :: th :: ac :: tl) := ⟨HM.out.e.trans em, HM.out.p.ext e1 (by omega) (by omega) (by omega) (by omega), HM.out.t.ext e1 (by omega)⟩
       have HM1 := Lib.hid (And.intro M1 (And.intro (HE.out.trans em) k1))
       have hg := k1.c 0 _ rfl
       have HS := Lib.hid (c_goSteps (w := w1) (.func 266) #[.pointer (some ⟨X, 0, none⟩)] #[] wv (m_GvOver ⟨V, 0, none⟩) (run_enter Tryz.func169 (by kernel_rfl) (by kernel_rfl)) ((c_GiveOver V 1 w1 hg).mono fun e w' h => ⟨h.1, by rw [← h.2]; exact Below.refl _ _⟩) M1 hk (Nat.le_refl _) (by omega))
       clear em e1 k1 M1 hg)
    | (go_at_call 99
       refine HS.out.mono ?_
       rintro e w2 ⟨rfl, m2, e2⟩
       have HQ := Lib.hid (And.intro m2 e2)
       clear m2 e2))
 all_goals
  go_wp2_with fail
  go_end0
  obtain ⟨m2, e2⟩ := HQ.out
  obtain ⟨-, h2, h3⟩ := HM1.out
  exact ⟨V, rfl, G1, m2, h2.trans (e2.mono fun t _ ht => .inr (by omega)), h3.ext e2 (by omega)⟩
theorem c_StCloses (wv : Value) (M : Me k (k + 30) w0 O0 w O B f s k X (stCs op th ac c p an nu ep pt)) (hp : p.ok) (hk : 10 ≤ k) :
 Calls Tryz.prog 230 #[.pointer (some ⟨X, 0, none⟩), wv] w fun e w' => ∃ Mk, StQ k w0 O0 w O B f s X (.iface 246 (.pointer (some ⟨Mk, 0, none⟩))) (.func (.func 231) #[.pointer (some ⟨X, 0, none⟩)] #[]) .nilFunc (stTl c p an nu ep pt) (fun W G => MkAt W G (k + 6) Mk [p.ver]) e w' := by
 have HN := Lib.hid (c_StMark (.func 231) #[.pointer (some ⟨X, 0, none⟩)] #[] wv M hp hk)
 clear M
 go_enter Tryz.func230, Tryz.ntmps230
 go_wp2_with fail
 refine HN.out.mono ?_
 rintro e w1 ⟨Mk, rfl, h⟩
 have HR := Lib.hid h
 clear h
 go_wp2_with fail
 go_end0
 exact ⟨Mk, rfl, HR.out⟩
theorem c_StTells (a : Int) (id : Int) (M : Me k (k + 30) w0 O0 w O B f s k X (stCs op th ac c p an nu ep pt)) (hk : 10 ≤ k) :
 Calls Tryz.prog 226 #[.pointer (some ⟨X, 0, none⟩), .int .u8 a, .int .u64 id] w fun e w' => e = .returned (.tuple #[]) ∧ Me k (k + 30) w0 O0 w' O B f s k X (stCs op th ac c p a id ep pt) ∧ Ext (fun t => t = k) O w O w' := by
 have q14 := M.t.c 14 _ rfl
 have f14 := M.t.f 14
 have q15 := M.t.c 15 _ rfl
 have f15 := M.t.f 15
 have q16 := M.t.c 16 _ rfl
 have f16 := M.t.f 16
 have q17 := M.t.c 17 _ rfl
 have f17 := M.t.f 17
 have q18 := M.t.c 18 _ rfl
 have f18 := M.t.f 18
 have q19 := M.t.c 19 _ rfl
 have f19 := M.t.f 19
 have q20 := M.t.c 20 _ rfl
 have f20 := M.t.f 20
 have q21 := M.t.c 21 _ rfl
 have f21 := M.t.f 21
 have e0 := Ext.refl (S := fun t => t = k) M.e.hi
 have e1 := e0.trans (Ext.of_set (j := 14) (v := .int .u8 a) (S := fun t => t = k) M.e.hi M.t.o (by omega) rfl)
 have m14 := M.set hk (Nat.le_refl _) (by omega) 14 (.int .u8 a) (by simp [stCs, stTl])
 have e2 := e1.trans (Ext.of_set (j := 15) (v := .int .u64 id) (S := fun t => t = k) m14.e.hi m14.t.o (by omega) rfl)
 have m15 := m14.set hk (Nat.le_refl _) (by omega) 15 (.int .u64 id) (by simp [stCs, stTl])
 have e3 := e2.trans (Ext.of_set (j := 16) (v := .string ⟨#[]⟩) (S := fun t => t = k) m15.e.hi m15.t.o (by omega) rfl)
 have m16 := m15.set hk (Nat.le_refl _) (by omega) 16 (.string ⟨#[]⟩) (by simp [stCs, stTl])
 have e4 := e3.trans (Ext.of_set (j := 17) (v := .string ⟨#[]⟩) (S := fun t => t = k) m16.e.hi m16.t.o (by omega) rfl)
 have m17 := m16.set hk (Nat.le_refl _) (by omega) 17 (.string ⟨#[]⟩) (by simp [stCs, stTl])
 have e5 := e4.trans (Ext.of_set (j := 18) (v := .int .u32 0) (S := fun t => t = k) m17.e.hi m17.t.o (by omega) rfl)
 have m18 := m17.set hk (Nat.le_refl _) (by omega) 18 (.int .u32 0) (by simp [stCs, stTl])
 have e6 := e5.trans (Ext.of_set (j := 19) (v := .int .u64 0) (S := fun t => t = k) m18.e.hi m18.t.o (by omega) rfl)
 have m19 := m18.set hk (Nat.le_refl _) (by omega) 19 (.int .u64 0) (by simp [stCs, stTl])
 have e7 := e6.trans (Ext.of_set (j := 20) (v := .int .i64 0) (S := fun t => t = k) m19.e.hi m19.t.o (by omega) rfl)
 have m20 := m19.set hk (Nat.le_refl _) (by omega) 20 (.int .i64 0) (by simp [stCs, stTl])
 have e8 := e7.trans (Ext.of_set (j := 21) (v := .int .i64 0) (S := fun t => t = k) m20.e.hi m20.t.o (by omega) rfl)
 have m21 := m20.set hk (Nat.le_refl _) (by omega) 21 (.int .i64 0) (by simp [stCs, stTl])
 have HR := Lib.hid (And.intro m21 e8)
 clear M m14 m15 m16 m17 m18 m19 m20 m21 e0 e1 e2 e3 e4 e5 e6 e7 e8
 go_enter Tryz.func226, Tryz.ntmps226
 go_wp2
 go_end0
 exact ⟨rfl, HR.out⟩
theorem c_StPoints (M : Me k (k + 30) w0 O0 w O B f s k X (stCs op th ac c p an nu ep pt)) (hk : 10 ≤ k) (n0 : 0 ≤ s.n) (n1 : s.n ≤ 4611686018427387904) :
 Calls Tryz.prog 225 #[.pointer (some ⟨X, 0, none⟩), .pointer (some ⟨B.p, 0, none⟩)] w fun e w' => e = .returned (.tuple #[]) ∧ ∃ G, Me k (k + 30) w0 O0 w' G B f (awLoad 8 s) k X (stCs op th ac c p an nu (s.M 8) (s.n + 1)) ∧ Ext (SX k (k + 30)) O w G w' := by
 have HL := Lib.hid (c_LoadP 8 M.p M.e.hi (by decide) (by decide) n0 n1)
 have p0 := M.p.wo.c0
 have HM := Lib.hid M
 clear M
 go_enter Tryz.func225, Tryz.ntmps225
 go_wp2_with fail
 refine HL.out.mono ?_
 rintro e w1 ⟨rfl, G1, e1, p1⟩
 have m1 := HM.out.world hk e1 p1
 have q22 := m1.t.c 22 _ rfl
 have f22 := m1.t.f 22
 have es := Ext.of_set (j := 22) (v := .int .u64 (s.M 8)) (S := fun t => t = k) m1.e.hi m1.t.o (by omega) rfl
 have m2 := m1.set hk (Nat.le_refl _) (by omega) 22 (.int .u64 (s.M 8)) (by simp [stCs, stTl])
 have HW := Lib.hid (c_WSteps _ _ _ _ _ m2.p)
 have q23 := m2.t.c 23 _ rfl
 have f23 := m2.t.f 23
 have es2 := Ext.of_set (j := 23) (v := .int .i64 (s.n + 1)) (S := fun t => t = k) m2.e.hi m2.t.o (by omega) rfl
 have m3 := m2.set hk (Nat.le_refl _) (by omega) 23 (.int .i64 (s.n + 1)) (by simp [stCs, stTl])
 have HR := Lib.hid (And.intro m3 (((e1.mono (T := SX k (k + 30)) fun t _ ht => .inl ht).trans (es.mono fun t _ ht => .inr (by omega))).trans (es2.mono fun t _ ht => .inr (by omega))))
 clear e1 p1 m1 es m2 es2 m3 HM
 go_wp2_with fail
 refine HW.out.mono ?_
 rintro e w' ⟨rfl, rfl⟩
 go_wp2_with fail
 go_end0
 exact ⟨rfl, G1, HR.out⟩
end
end
section
open Go.RowKit
structure An (w : World) (O : Om) (g size : Nat) (v : Value) (n : Nat) (xs : List Value) : Prop where
 ex : xs.length = n * size ∧ ∃ ao c, v = .slice ao n c ∧ n ≤ c ∧ c ≤ maxLen ∧ ∀ j u, xs[j]? = some u → ∃ b o, ao = some ⟨b, o, none⟩ ∧ b < w.heap.size ∧ O b = g ∧ w.cell? ⟨b, o + j, none⟩ = some u
section
variable {S : Nat → Prop} {O O' : Om} {w w' : World} {g size n cp b o : Nat} {v : Value} {xs : List Value}
theorem An.nil (w : World) (O : Om) (g size : Nat) (ao : Option Addr) : An w O g size (.slice ao 0 0) 0 [] := ⟨by simp, ao, 0, rfl, Nat.le_refl _, Nat.zero_le _, fun j u hu => by simp at hu⟩
theorem An.below (h : An w O g size v n xs) (hb : Below w.heap.size w w') : An w' O g size v n xs := by
 obtain ⟨hl, ao, c, he, hc, hm, hx⟩ := h.ex
 exact ⟨hl, ao, c, he, hc, hm, fun j u hu => by
  obtain ⟨b, o, q1, q2, q3, q4⟩ := hx j u hu
  exact ⟨b, o, q1, Nat.lt_of_lt_of_le q2 hb.size, q3, (hb.cell (p := ⟨b, o + j, none⟩) q2).trans q4⟩⟩
theorem An.ext (h : An w O g size v n xs) (e : Ext S O w O' w') (hg : g = 0 ∨ ¬ S g) : An w' O' g size v n xs := by
 obtain ⟨hl, ao, c, he, hc, hm, hx⟩ := h.ex
 exact ⟨hl, ao, c, he, hc, hm, fun j u hu => by
  obtain ⟨b, o, q1, q2, q3, q4⟩ := hx j u hu
  exact ⟨b, o, q1, Nat.lt_of_lt_of_le q2 e.size, (e.lo b q2).trans q3, (e.wr.cell (p := ⟨b, o + j, none⟩) q2 (fun k => hg.elim (fun e => k.2 (q3.trans e)) (fun e => e (by have := k.1; rwa [q3] at this)))).trans q4⟩⟩
theorem An.arr (h : An w O g size v n xs) : Arr w v n size xs := by
 obtain ⟨hl, ao, c, he, hc, hm, hx⟩ := h.ex
 exact ⟨hl, ao, c, he, hc, hm, fun j u hu => by
  obtain ⟨b, o, q1, q2, q3, q4⟩ := hx j u hu
  exact ⟨b, o, q1, q2, q4⟩⟩
theorem An.shape (h : An w O g size v n xs) : ∃ ao c, v = .slice ao n c ∧ n ≤ c ∧ c ≤ maxLen := h.arr.shape
theorem An.len (h : An w O g size v n xs) : xs.length = n * size := h.ex.1
theorem An.open (h : An w O g size v n xs) (hn : 0 < n) (hs : 0 < size) : ∃ b o c, v = .slice (some ⟨b, o, none⟩) n c ∧ n ≤ c ∧ c ≤ maxLen ∧ b < w.heap.size ∧ O b = g ∧ ∀ j u, xs[j]? = some u → w.cell? ⟨b, o + j, none⟩ = some u := by
 obtain ⟨hl, ao, c, he, hc, hm, hx⟩ := h.ex
 have h0 : 0 < xs.length := by rw [hl]; exact Nat.mul_pos hn hs
 obtain ⟨b, o, q1, q2, q3, q4⟩ := hx 0 _ (List.getElem?_eq_getElem h0)
 subst q1
 refine ⟨b, o, c, he, hc, hm, q2, q3, fun j u hu => ?_⟩
 obtain ⟨b', o', e1, -, -, e4⟩ := hx j u hu
 cases e1
 exact e4
theorem An.tail {o' : Nat} (h : An w O g size (.slice (some ⟨b, o, none⟩) (n + 1) cp) (n + 1) xs) (ho : o' = o + size ∨ (cp = 1 ∧ o' = o)) : An w O g size (.slice (some ⟨b, o', none⟩) n (cp - 1)) n (xs.drop size) := by
 obtain ⟨hl, ao, c, he, hc, hm, hx⟩ := h.ex
 cases he
 have hl2 : (n + 1) * size = n * size + size := by rw [Nat.add_mul, Nat.one_mul]
 refine ⟨by rw [List.length_drop, hl, hl2]; omega, _, cp - 1, rfl, by omega, by omega, fun j u hu => ?_⟩
 rw [List.getElem?_drop] at hu
 obtain ⟨b', o'', e1, e2, e3, e4⟩ := hx _ u hu
 cases e1
 rcases ho with rfl | ⟨rfl, rfl⟩
 · exact ⟨b, o + size, rfl, e2, e3, by rw [Nat.add_assoc]; exact e4⟩
 · obtain rfl : n = 0 := by omega
   have := (List.getElem?_eq_some_iff.1 hu).1
   omega
theorem An.of_sls (h : Sls w O g size v n xs) : An w O g size v n xs := by
 obtain ⟨ao, c, rfl, h2, h3, h4, h5⟩ := h.ex
 refine ⟨h4, ao, c, rfl, h2, h3, fun j u hu => ?_⟩
 rcases h5 with ⟨rfl, rfl, rfl⟩ | ⟨b, o, cs, rfl, q1, q2, q3⟩
 · have := (List.getElem?_eq_some_iff.1 hu).1; omega
 · exact ⟨b, o, rfl, q1.lt, q1.o, h.c j u hu⟩
theorem An.of_own {base : Nat} {e : TypeId} (h : w.ownsRow base e size v n xs) (hO : ∀ j, base ≤ j → O j = g) : An w O g size v n xs := by
 obtain ⟨hl, ao, c, he, hc, hm, hx⟩ := Arr.of_own h
 refine ⟨hl, ao, c, he, hc, hm, fun j u hu => ?_⟩
 obtain ⟨b, o, q1, q2, q3⟩ := hx j u hu
 refine ⟨b, o, q1, q2, ?_, q3⟩
 have : v.ownBlock = some b := by rw [he, q1]; rfl
 exact hO b (h.lt b this).1
theorem An.of_fresh {base : Nat} (h : Arr w v n size xs) (hf : Fresh w base v) (hO : ∀ j, base ≤ j → O j = g) : An w O g size v n xs := by
 obtain ⟨hl, ao, c, he, hc, hm, hx⟩ := h
 refine ⟨hl, ao, c, he, hc, hm, fun j u hu => ?_⟩
 obtain ⟨b, o, q1, q2, q3⟩ := hx j u hu
 refine ⟨b, o, q1, q2, ?_, q3⟩
 exact hO b (hf _ _ _ (by rw [he, q1])).1
end
section
variable {P : Program}
theorem step_append_run {ops : Array Oper} {o : Oper} {a : Act} {w w' : World} {K : Act → World → Prop} {Q : Exit → Act → World → Prop} {E : Prop} (hgd : o.guard = none) (s x : Operand) (ty : TypeId)
 (ho : o.op = .call { callee := .builtin .append, args := #[s, x], argTypes := #[ty, ty] }) {sv xv v' : Value} (hs : a.eval s = sv) (hx : a.eval x = xv)
 (hrun : (Builtin.append_ #[ty, ty] o.type #[sv, xv]).run P w = .ok v' w') (h : K (a.put o.dst v') w') : if Region.wanted o (yielded ops a.tmps) = true then Oper.wp P o a w K Q else E := by
 have hw : Region.wanted o (yielded ops a.tmps) = true := by simp [Region.wanted, hgd]
 rw [if_pos hw]
 unfold Oper.wp
 simp [execOp, ho, resolve, invoke, builtin, hs, hx, hrun, Result.andThen]
 exact h
theorem run_append_cut (w : World) (O : Om) (ty ty2 : TypeId) (e : TypeId) (i : TypeInfo) (z : Value) (size bytes : Nat) (ht : P.underlying ty = some (.slice e)) (hi : P.info? e = some i) (hz : i.zero = some z)
 (hsize : i.size = size) (hby : i.bytes = bytes) (hzs : z.cells.size = size) (hsz : 0 < size)
 (ao : Option Addr) (n : Nat) (xs : List Value) (hO : ∀ j, w.heap.size ≤ j → O j = 0) (h : An w O 0 size (.slice ao n n) n xs)
 (xv : Value) (m : Nat) (ys : List Value) {gy : Nat} (hy : An w O gy size xv m ys) (h1 : ∀ u ∈ ys, u.oneCell' = true)
 (hnm : n + m ≤ maxLen) (hbytes : (n + m) * bytes ≤ 140737488355328) :
 ∃ v' w', (Builtin.append_ #[ty, ty] ty2 #[.slice ao n n, xv]).run P w = .ok v' w' ∧ An w' O 0 size v' (n + m) (xs ++ ys) ∧ Below w.heap.size w w' := by
 by_cases h0 : m = 0
 · subst h0
   obtain rfl := List.eq_nil_of_length_eq_zero (show ys.length = 0 by rw [hy.len, Nat.zero_mul])
   obtain ⟨xo, c, rfl, hc, hm⟩ := hy.shape
   have hsrc : Src P i.size ty (.slice xo 0 c) 0 [] w := by
    cases xo with
    | none => exact Src.ofNil w ht c
    | some ad => exact Src.ofSlice w ht ad 0 c [] (by simp) (fun j u hu => by simp at hu) (fun u hu => by cases hu)
   have hrun := run_append_nothing (P := P) w ty ty ty2 e i ht hi ao _ n (Nat.le_refl _) _ hsrc
   exact ⟨_, _, hrun, by rw [List.append_nil]; exact h, Below.refl _ _⟩
 · obtain ⟨b, off, c', rfl, hnc, hcm, hlt, hz0, hx2⟩ := hy.open (by omega) hsz
   have hc : ∀ j u, ys[j]? = some u → w.cell? ((⟨b, off, none⟩ : Addr).add j) = some u := fun j u hu => by rw [Addr.add_lit]; exact hx2 j u hu
   cases ao with
   | none =>
     have hn : n = 0 := by
      by_cases hn : n = 0
      · exact hn
      · obtain ⟨b, o, c, he, -⟩ := h.open (by omega) hsz; cases he
     subst hn
     obtain rfl := List.eq_nil_of_length_eq_zero (show xs.length = 0 by rw [h.len, Nat.zero_mul])
     obtain ⟨v', w', hrun, r1, r2, _⟩ := run_append_own (P := P) w w.heap.size ty ty2 e i z size bytes ht hi hz hsize hby hzs hsz (.slice none 0 0) 0 [] (World.ownsRow_nil _ _ e size) ⟨b, off, none⟩ m c' ys hy.len hc h1 hnm hbytes (Nat.le_refl _)
     exact ⟨v', w', hrun, An.of_own r1 hO, below_grown (Below.refl _ _) (Nat.le_refl _) (World.ownsRow_nil w w.heap.size e size) r2⟩
   | some ad0 =>
     have hd : ∀ j u, xs[j]? = some u → w.cell? (ad0.add j) = some u := fun j u hu => by
      obtain ⟨hl, ao', cc, he, -, -, hx⟩ := h.ex
      cases he
      obtain ⟨b, o, e1, -, -, e4⟩ := hx j u hu
      cases e1
      rw [Addr.add_lit]
      exact e4
     obtain ⟨v', w', hrun, r1, r2⟩ := run_append_arg_grows (P := P) (w := w) ty ty2 e i z size bytes ht hi hz hsize hby hzs hsz ad0 n n xs h.len hd ⟨b, off, none⟩ m c' ys hy.len hc (by omega) hnm hbytes
     exact ⟨v', w', hrun, An.of_own r1 hO, below_grown (Below.refl _ _) (Nat.le_refl _) (World.ownsRow_nil w w.heap.size e size) r2⟩
end
end
section
open Go.RowKit
def ints (l : List Int) : List Value := l.map (Value.int .i64)
theorem ints_snoc (l : List Int) (a : Int) : ints (l ++ [a]) = ints l ++ [.int .i64 a] := by unfold ints; simp
def twHasN (w tag : Int) (k : Nat) : List Int := (([0, 1, 2, 3] : List Int).take k).filter fun s => decide (twTag w s = tag)
theorem twHasN_suc (w tag : Int) {k : Nat} (h : k < 4) : twHasN w tag (k + 1) = twHasN w tag k ++ if twTag w k = tag then [(k : Int)] else [] := by
 have h1 : (([0, 1, 2, 3] : List Int).take (k + 1)) = (([0, 1, 2, 3] : List Int).take k) ++ [(k : Int)] := by
  rcases (show k = 0 ∨ k = 1 ∨ k = 2 ∨ k = 3 by omega) with rfl | rfl | rfl | rfl <;> rfl
 unfold twHasN
 rw [h1, List.filter_append]
 by_cases e : twTag w k = tag
 · rw [if_pos e]; simp [e]
 · rw [if_neg e]; simp [e]
theorem twHasN_yes {w tag : Int} {k : Nat} (h : k < 4) (e : twTag w k = tag) : twHasN w tag (k + 1) = twHasN w tag k ++ [(k : Int)] := by rw [twHasN_suc w tag h, if_pos e]
theorem twHasN_no {w tag : Int} {k : Nat} (h : k < 4) (e : ¬ twTag w k = tag) : twHasN w tag (k + 1) = twHasN w tag k := by rw [twHasN_suc w tag h, if_neg e, List.append_nil]
theorem twHasN_len (w tag : Int) (k : Nat) : (twHasN w tag k).length ≤ 4 := by
 unfold twHasN
 refine Nat.le_trans (List.length_filter_le _ _) ?_
 rw [List.length_take]
 simp
 omega
theorem twHas_len (w tag : Int) : (twHas w tag).length ≤ 4 := twHasN_len w tag 4
theorem c_ClipI (ao : Option Addr) (n c : Nat) (w : World) (hn : n ≤ c) (hc : c ≤ maxLen) (ha : ao = none → c = 0) :
 Calls Tryz.prog 304 #[.slice ao n c] w fun e w' => e = .returned (.slice ao n n) ∧ w = w' := by
 unfold maxLen at hc
 cases ao with
 | none =>
   obtain rfl := ha rfl
   obtain rfl : n = 0 := by omega
   go_enter Tryz.func304, Tryz.ntmps304
   go_wp2
   go_ret
   exact ⟨rfl, rfl⟩
 | some a =>
   go_enter Tryz.func304, Tryz.ntmps304
   go_wp2
   go_ret
   exact ⟨rfl, rfl⟩
theorem Row.sls {w : World} {O : Om} {t size : Nat} {E : TypeId} {n : Nat} {v : Value} {xs : List Value} (h : Row w O t E size v n xs) : Sls w O t size v n xs := by
 obtain ⟨hl, ⟨rfl, rfl⟩ | ⟨g, cap, cur, rfl, -, hb, h1, h2, h3, h4⟩⟩ := h.own
 · exact ⟨none, 0, rfl, Nat.le_refl _, Nat.zero_le _, hl, .inl ⟨rfl, rfl, rfl⟩⟩
 · refine ⟨_, cap, rfl, h1, h2, hl, .inr ⟨g, 0, cur.toList, rfl, ⟨h.vo g rfl, (h.own.lt g rfl).2, fun j u hu => ?_, h.own.frozenAt⟩, by simp [h3], by rw [List.drop_zero]; exact h4⟩⟩
   unfold World.cell?
   rw [hb]
   simpa using hu
theorem Sls.clip {w : World} {O : Om} {t size : Nat} {n c : Nat} {ao : Option Addr} {xs : List Value} (h : Sls w O t size (.slice ao n c) n xs) : Sls w O t size (.slice ao n n) n xs := by
 obtain ⟨ao', c', he, h1, h2, h3, h4⟩ := h.ex
 cases he
 refine ⟨_, n, rfl, Nat.le_refl _, by omega, h3, ?_⟩
 rcases h4 with ⟨rfl, rfl, rfl⟩ | ⟨b, o, cs, rfl, q1, q2, q3⟩
 · exact .inl ⟨rfl, rfl, rfl⟩
 · exact .inr ⟨b, o, cs, rfl, q1, Nat.le_trans (Nat.add_le_add_left (Nat.mul_le_mul_right _ h1) _) q2, q3⟩
theorem Sls.none0 {w : World} {O : Om} {t size : Nat} {n c : Nat} {ao : Option Addr} {xs : List Value} (h : Sls w O t size (.slice ao n c) n xs) : n ≤ c ∧ c ≤ maxLen ∧ (ao = none → c = 0) := by
 obtain ⟨ao', c', he, h1, h2, h3, h4⟩ := h.ex
 cases he
 refine ⟨h1, h2, fun e => ?_⟩
 rcases h4 with ⟨-, -, rfl⟩ | ⟨b, o, cs, e2, -⟩
 · rfl
 · rw [e] at e2; cases e2
theorem c_Has (x tg : Int) (g : Nat) (hg : g ≠ 0) (w : World) (O : Om) (x0 : 0 ≤ x) (x1 : x < 18446744073709551616) (t0 : 1 ≤ tg) (t1 : tg ≤ 255) (hhi : ∀ j, O j ≠ 0 → j < w.heap.size) :
 Calls Tryz.prog 277 #[.int .u64 x, .int .i64 tg] w fun e w' => ∃ v, RP (fun j => j = g) w O v (fun W G => Sls W G g 1 v (twHas x tg).length (ints (twHas x tg))) e w' := by
 obtain ⟨i0, hi, hz0, hz1, hz2⟩ := info_parts infoInt
 have HI := Lib.hid (And.intro hi (And.intro hz0 (And.intro hz1 hz2)))
 clear hi hz0 hz1 hz2
 have HP := Lib.hid (fun W => c_TwParts x W x0 x1)
 have d0 : (tg == 0) = false := by simp; omega
 have HH := Lib.hid hhi
 clear hhi
 go_enter Tryz.func277, Tryz.ntmps277
 go_wp2_with fail
 refine (HP.out _).mono ?_
 rintro e w1 ⟨rfl, hb⟩
 have HB := Lib.hid hb
 clear hb
 go_wp2_with fail
 go_loopw [5, 12] (fun o i wr => ∃ (k : Nat) (G : Om), k ≤ 4 ∧ i = .int .i64 k ∧ Ext (fun j => j = g) O w G wr ∧ Row wr G g 3 1 o (twHasN x tg k).length (ints (twHasN x tg k))) (fun o i _ => 4 - (intOf i).toNat)
 case atStart => exact ⟨0, O, Nat.zero_le _, rfl, Ext.of_below HH.out HB.out, Row.nil _ _ _ _ _⟩
 case round =>
  obtain ⟨k, G, hk, rfl, e1, r1⟩ := hrel
  obtain ⟨ao, cc, rfl, hc1, hc2⟩ := r1.sls.shape
  have HE := Lib.hid e1
  have HR := Lib.hid r1
  have hn4 := twHasN_len x tg k
  clear e1 r1
  by_cases hlt : k < 4
  · have hix : ∀ W, (Instr.index 310 (.agg #[.int .i64 (twTag x 0), .int .i64 (twTag x 1), .int .i64 (twTag x 2), .int .i64 (twTag x 3)]) (.int .i64 (k : Int))).run Tryz.prog W = .ok (.int .i64 (twTag x k)) W := by
     rcases (show k = 0 ∨ k = 1 ∨ k = 2 ∨ k = 3 by omega) with rfl | rfl | rfl | rfl
     · exact fun W => by kernel_rfl
     · exact fun W => by kernel_rfl
     · exact fun W => by kernel_rfl
     · exact fun W => by kernel_rfl
    by_cases ht : twTag x k = tg
    · have dt : (twTag x k == tg) = true := by simp [ht]
      have HY := Lib.hid (twHasN_yes hlt ht)
      clear ht
      go_wp2_with (at_builtin; refine append_row wr rfl _ _ 106 rfl 3 i0 (.int .i64 0) 1 8 Tryz.underlying106 HI.out.1 HI.out.2.1 HI.out.2.2.1 HI.out.2.2.2 rfl (by decide) (by decide) G g hg HE.out.hi (.slice ao (twHasN x tg k).length cc) (twHasN x tg k).length (ints (twHasN x tg k)) rfl HR.out [.int .i64 k] _ rfl rfl (by simp [Value.oneCell']) (by omega) ?_; intro gg cap w2 G2 e2 r2; have HR2 := Lib.hid r2; have E2 := Lib.hid (HE.out.trans e2); clear e2 r2)
      go_roundw
      case rel => exact ⟨k + 1, G2, by omega, by go_num, E2.out, by rw [HY.out, List.length_append, ints_snoc]; exact HR2.out⟩
      case measure => simp [intOf]; omega
    · have dt : (twTag x k == tg) = false := by simp [ht]
      have HY := Lib.hid (twHasN_no hlt ht)
      clear ht
      go_wp2_with fail
      go_roundw
      case rel => exact ⟨k + 1, G, by omega, by go_num, HE.out, by rw [HY.out]; exact HR.out⟩
      case measure => simp [intOf]; omega
  · obtain rfl : k = 4 := by omega
    have HS := HR.out.sls
    have hz := HS.none0
    have HSC := Lib.hid HS.clip
    clear HS
    go_wp2_with fail
    refine (c_ClipI _ _ _ _ hz.1 hz.2.1 hz.2.2).mono ?_
    rintro e w' ⟨rfl, rfl⟩
    go_wp2_with fail
    go_ret
    exact ⟨_, rfl, G, HE.out, HSC.out⟩
end
end Go.Proofs.YtifkfhnbkjkakaaGreatDoor
