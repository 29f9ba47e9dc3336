/- Over any program. -/
import Derived.Test.YthbodknlhkapdaaGreatBaC
import Derived.Test.YthbodknlhkapdaaGreatBaD
import Derived.Test.YthbodknlhkapdaaGreatBaB
import Derived.Test.YthbodknlhkapdaaGreatBaA
import Derived.BigQuiet
import Derived.Laws.EntriesVeiled
import Derived.Shelf.Lay
import Derived.WalkKit
import Derived.WalkSpells
namespace Go.Proofs.YthbodknlhkapdaaGreat
set_option linter.unusedSimpArgs false
set_option linter.unusedVariables false
set_option maxHeartbeats 4000000
set_option maxRecDepth 100000
section
open Go.RowKit
section
variable {P : Program}
theorem Aej (w : World) (d : Nat) (t : TypeId) (ps rs : Array TypeId) (vr : Bool) (f : Fn) (a c : Array Value) (h : P.underlying t = some (.func ps rs vr)) :
 (Op.equalIn (d + 1) t (.func f a c) .nilFunc).run P w = .ok false w := by
 simp [Op.equalIn, run_underlying h]
theorem Aeu (w : World) (d : Nat) (t : TypeId) (ps rs : Array TypeId) (vr : Bool) (h : P.underlying t = some (.func ps rs vr)) :
 (Op.equalIn (d + 1) t .nilFunc .nilFunc).run P w = .ok true w := by
 simp [Op.equalIn, run_underlying h]
theorem Aeh (w : World) (t : TypeId) (ps rs : Array TypeId) (vr : Bool) (f : Fn) (a c : Array Value) (h : P.underlying t = some (.func ps rs vr)) :
 (binOp .eql t (.func f a c) .nilFunc).run P w = .ok (.bool false) w := by
 simp only [binOp]
 simp [Op.equal, Op.maxDepth, Aej w 9999 t ps rs vr f a c h]
theorem Ahd (w : World) (t : TypeId) (ps rs : Array TypeId) (vr : Bool) (f : Fn) (a c : Array Value) (h : P.underlying t = some (.func ps rs vr)) :
 (binOp .neq t (.func f a c) .nilFunc).run P w = .ok (.bool true) w := by
 simp only [binOp]
 simp [Op.equal, Op.maxDepth, Aej w 9999 t ps rs vr f a c h]
theorem Aep (w : World) (t : TypeId) (ps rs : Array TypeId) (vr : Bool) (h : P.underlying t = some (.func ps rs vr)) :
 (binOp .eql t .nilFunc .nilFunc).run P w = .ok (.bool true) w := by
 simp only [binOp]
 simp [Op.equal, Op.maxDepth, Aeu w 9999 t ps rs vr h]
theorem Ahz (w : World) (t : TypeId) (ps rs : Array TypeId) (vr : Bool) (h : P.underlying t = some (.func ps rs vr)) :
 (binOp .neq t .nilFunc .nilFunc).run P w = .ok (.bool false) w := by
 simp only [binOp]
 simp [Op.equal, Op.maxDepth, Aeu w 9999 t ps rs vr h]
end
end
section
open Go.RowKit
@[go_sem] theorem eql_fw (w : World) (f : Fn) (a c : Array Value) : (binOp .eql 185 (.func f a c) .nilFunc).run Tryz.prog w = .ok (.bool false) w := Aeh w _ _ _ _ f a c Tryz.underlying185
@[go_sem] theorem neq_fw (w : World) (f : Fn) (a c : Array Value) : (binOp .neq 185 (.func f a c) .nilFunc).run Tryz.prog w = .ok (.bool true) w := Ahd w _ _ _ _ f a c Tryz.underlying185
@[go_sem] theorem Bch (w : World) : (binOp .eql 185 .nilFunc .nilFunc).run Tryz.prog w = .ok (.bool true) w := Aep w _ _ _ _ Tryz.underlying185
@[go_sem] theorem Bb9 (w : World) : (binOp .neq 185 .nilFunc .nilFunc).run Tryz.prog w = .ok (.bool false) w := Ahz w _ _ _ _ Tryz.underlying185
theorem Me.rp {a b k T : Nat} {cs : List Value} {O O0 : Om} {w w0 : World} {B : Wb} {f : Cf} {s : AW} {v : Value} (h : Me a b w0 O0 w O B f s k T cs) : RP (SX a b) w0 O0 v (fun W G => PW W G B f s ∧ Ob W G k T cs) (.returned v) w := ⟨rfl, O, h.e, h.p, h.t⟩
end
section
open Go.RowKit
structure FB where
 X : Nat
 T : Nat
 G : Nat
 bx : Nat
 bd : Nat
 bt : Nat
 bg : Nat
 be : Nat
section
variable {a b k T : Nat} {cs : List Value} {O O0 : Om} {w w0 w1 : World} {B : Wb} {f : Cf} {s : AW}
theorem Aaf {c : Nat} {j : Nat} {v : Value} (hhi : Hh O w) (hT : Ob w O k c cs) (hk : 10 ≤ k) : Ext (fun t => t = k) O w O (w.setCell ⟨c, j, none⟩ v) := Ext.of_set hhi hT.o (by omega) rfl
end
end
section
open Go.RowKit
theorem Ob.alloc {O : Om} {w : World} {g b g2 : Nat} {cs : List Value} (h : Ob w O g b cs) (o : Obj) : Ob (w.alloc o) (Aei O w.heap.size (w.heap.size + 1) g2) g b cs :=
 ⟨by unfold Aei; rw [if_neg (by have := h.lt; omega)]; exact h.o, by have := h.lt; simp; omega, fun j u hu => ((bal w o).cell (p := ⟨b, j, none⟩) h.lt).trans (h.c j u hu), fun j => ((bal w o).frozen (p := ⟨b, j, none⟩) h.lt).trans (h.f j)⟩
theorem Aar {O : Om} {w : World} (hhi : Hh O w) (g : Nat) (cs : Array Value) (ty : TypeId) (n : Nat) (hn : n = w.heap.size) :
 ∃ O', Ext (fun j => j = g) O w O' (w.alloc (.cells cs ty)) ∧ Ob (w.alloc (.cells cs ty)) O' g n cs.toList ∧ ∀ g' b' ds, Ob w O g' b' ds → Ob (w.alloc (.cells cs ty)) O' g' b' ds := by
 subst hn
 exact ⟨_, Ext.alloc (S := fun j => j = g) (g := g) hhi rfl (.cells cs ty), Ob.new w O g cs ty, fun g' b' ds h => h.alloc _⟩
end
section
open Go.RowKit
def Awj (l : List Int) : List Value := l.map (Value.int .u64)
structure Ada (W : World) (G : Om) (k X : Nat) (l : List Int) : Prop where
 ex : ∃ (A off : Nat) (full : List Int), Ob W G k X [.slice (some ⟨A, off, none⟩) l.length l.length] ∧ Ob W G (k + 1) A (Awj full) ∧ (l = [] ∨ full.drop off = l)
theorem Ada.ext {S : Nat → Prop} {O O' : Om} {w w' : World} {k X : Nat} {l : List Int} (h : Ada w O k X l) (e : Ext S O w O' w') (h1 : ¬ S k := by omega) (h2 : ¬ S (k + 1) := by omega) : Ada w' O' k X l := by
 obtain ⟨A, off, full, a, b, c⟩ := h.ex
 exact ⟨A, off, full, a.ext e h1, b.ext e h2, c⟩
theorem Ada.below {O : Om} {w w' : World} {k X : Nat} {l : List Int} (h : Ada w O k X l) (hb : Below w.heap.size w w') : Ada w' O k X l := by
 obtain ⟨A, off, full, a, b, c⟩ := h.ex
 exact ⟨A, off, full, a.below hb, b.below hb, c⟩
theorem Ada.cell {O : Om} {w : World} {k X : Nat} {l : List Int} (h : Ada w O k X l) : ∃ A off, w.cell? ⟨X, 0, none⟩ = some (.slice (some ⟨A, off, none⟩) l.length l.length) := by
 obtain ⟨A, off, full, a, b, c⟩ := h.ex
 exact ⟨A, off, a.c 0 _ rfl⟩
theorem Aga {X : Nat} {ao : Option Addr} {n c : Nat} {w : World} (h : w.cell? ⟨X, 0, none⟩ = some (.slice ao n c)) : C1 248 X w fun e w' => e = .returned (.bool (n == 0)) ∧ w = w' := by
 go_enter Tryz.func248, Tryz.ntmps248
 go_wp2
 go_ret
 exact ⟨Adp (by rw [Bool.eq_iff_iff]; simp), rfl⟩
theorem Ac9 (a : Int) {w : World} {O : Om} {B : Wb} {f : Cf} {s : AW} (hP : PW w O B f s) (hhi : Hh O w) (a0 : 0 ≤ a) (a1 : a < 18446744073709551616) (n0 : 0 ≤ s.n) (n1 : s.n ≤ 4611686018427387904) :
 Calls Tryz.prog 37 #[.pointer (some ⟨B.c, 0, none⟩), .int .u64 a] w (RP SW w O (.int .u64 (s.M a)) fun W G => PW W G B f (Aan a s)) := by
 refine (Bbq a hP.ce a0 a1 n0 n1).mono fun e w' hp => ?_
 exact hP.rp_cells hhi hp
theorem Awy (a v : Int) {w : World} {O : Om} {B : Wb} {f : Cf} {s : AW} (hP : PW w O B f s) (hhi : Hh O w) (a0 : 0 ≤ a) (a1 : a < 18446744073709551616) (v0 : 0 ≤ v) (v1 : v < 18446744073709551616) (n0 : 0 ≤ s.n) (n1 : s.n ≤ 4611686018427387904) :
 Calls Tryz.prog 243 #[.pointer (some ⟨B.c, 0, none⟩), .int .u64 a, .int .u64 v] w (RP SW w O (.int .u64 (s.M a)) fun W G => PW W G B f (Ab0 a v s)) := by
 refine (Bde a v hP.ce a0 a1 v0 v1 n0 n1).mono fun e w' hp => ?_
 exact hP.rp_cells hhi hp
theorem Afa {X : Nat} (a : Int) (l : List Int) {w : World} {O : Om} {B : Wb} {f : Cf} {s : AW} (k : Nat) (hP : PW w O B f s) (hX : Ada w O k X (a :: l)) (hl : l.length ≤ 5) (hk : 10 ≤ k) (hhi : Hh O w) (a0 : 0 ≤ a) (a1 : a < 18446744073709551616) (n0 : 0 ≤ s.n) (n1 : s.n ≤ 4611686018427387904) :
 C2 249 X B.p w (RP (SX k k) w O (.bool (l.length == 0)) fun W G => PW W G B f (Ab0 a 1 s) ∧ Ada W G k X l) := by
 obtain ⟨A, off, full, hx, ha, hd⟩ := hX.ex
 have hd : full.drop off = a :: l := by rcases hd with hd | hd; exact absurd hd (by simp); exact hd
 have HM : Hid (Me k k w O w O B f s k X [.slice (some ⟨A, off, none⟩) (l.length + 1) (l.length + 1)]) := hQd (Me.start hhi hP hx)
 have xx := hx.c 0 _ rfl
 have p0 := hP.wo.c0
 have hfo : full[off]? = some a := by
  have := congrArg (fun z : List Int => z[0]?) hd
  simpa using this
 have hfu : (Awj full)[off]? = some (.int .u64 a) := by unfold Awj; rw [List.getElem?_map, hfo]; rfl
 have q0 : w.cell? ⟨A, off, none⟩ = some (.int .u64 a) := ha.c off _ hfu
 have HFU := hQd hfu
 have hd2 : full.drop (off + 1) = l := by
  have := congrArg List.tail hd
  simpa using this
 have HD := hQd (aN ha hd2)
 have HA := hQd (fun (W : World) (hW : Below w.heap.size w W) => Awy a 1 (w := W) (hP.below hhi hW) (fun j hj => Nat.lt_of_lt_of_le (hhi j hj) hW.size) a0 a1 (by decide) (by decide) n0 n1)
 obtain ⟨n, hn⟩ := exq l.length
 rw [← hn] at hl HM ⊢
 have x0 : w.cell? ⟨X, 0, none⟩ = some (.slice (some ⟨A, off, none⟩) (n + 1) (n + 1)) := by rw [hn]; exact xx
 have HN := hQd hn
 have e0 : (n + 1 == 0) = false := by simp
 clear hP hX hx ha hd hfo hd2 hhi hn xx hfu
 cases n with
 | zero =>
   go_enter Tryz.func249, Tryz.ntmps249
   go_wp2_with fail
   refine (Aga x0).mono ?_
   rintro e w' ⟨rfl, rfl⟩
   rw [e0]
   go_wp2_with fail
   go_region_held3 (fun w' => w'.cell? ⟨B.p, 0, none⟩ = some (.pointer (some ⟨B.c, 0, none⟩)) ∧ w'.cell? ⟨X, 0, none⟩ = some (.slice (some ⟨A, off, none⟩) 1 1) ∧ w'.cell? ⟨A, off, none⟩ = some (.int .u64 a)) (go_keep)
    ((go_at_call 243
      refine (HA.out _ (Aaa _)).mono ?_
      rintro e w1 ⟨rfl, G1, e1, P1⟩
      have M1 := hQd (HM.out.drew.world hk e1 P1)
      have hA1 := hQd ((HD.out.1.below (Aaa w)).ext e1 (by unfold SW; omega))
      have p01 := M1.out.p.wo.c0
      have a01 := hA1.out.c off _ HFU.out
      have z0 := M1.out.t.c 0 _ rfl
      have zf := M1.out.t.f 0
      have M2 := hQd (M1.out.set hk (Nat.le_refl _) (Nat.le_refl _) 0 (.slice (some ⟨A, off, none⟩) 0 0) (by simp))
      have HE := hQd (Aaf (j := 0) (v := .slice (some ⟨A, off, none⟩) 0 0) M1.out.e.hi M1.out.t hk)
      clear e1 P1))
   all_goals
    clear x0 q0 p0 p01 a01
    go_wp2_with fail
    go_region
    all_goals
     have M3 := hQd M2.out.drew
     have r0 := M3.out.t.c 0 _ rfl
     go_wp2_with fail
     refine (Aga r0).mono ?_
     rintro e w' ⟨rfl, rfl⟩
     go_wp2_with fail
     go_ret
     exact ⟨rfl, _, M3.out.e, M3.out.p, ⟨A, off, full, by rw [← HN.out]; exact M3.out.t, (hA1.out.ext HE.out).below (Aaa _), .inl (List.eq_nil_of_length_eq_zero HN.out.symm)⟩⟩
 | succ m =>
   have hi0 : (0 : Int) < (m : Int) + 1 + 1 := by omega
   have hi1 : (0 : Int) < ((m + 1 + 1 : Nat) : Int) := by omega
   have hi2 : (1 : Int) ≤ (m : Int) + 1 + 1 := by omega
   have hi3 : 0 < m + 1 + 1 := by omega
   go_enter Tryz.func249, Tryz.ntmps249
   go_wp2_with fail
   refine (Aga x0).mono ?_
   rintro e w' ⟨rfl, rfl⟩
   rw [e0]
   go_wp2_with fail
   go_region_held3 (fun w' => w'.cell? ⟨B.p, 0, none⟩ = some (.pointer (some ⟨B.c, 0, none⟩)) ∧ w'.cell? ⟨X, 0, none⟩ = some (.slice (some ⟨A, off, none⟩) (m + 1 + 1) (m + 1 + 1)) ∧ w'.cell? ⟨A, off, none⟩ = some (.int .u64 a)) (go_keep)
    ((go_at_call 243
      refine (HA.out _ (Aaa _)).mono ?_
      rintro e w1 ⟨rfl, G1, e1, P1⟩
      have M1 := hQd (HM.out.drew.world hk e1 P1)
      have hA1 := hQd ((HD.out.1.below (Aaa w)).ext e1 (by unfold SW; omega))
      have p01 := M1.out.p.wo.c0
      have a01 := hA1.out.c off _ HFU.out
      have z0 := M1.out.t.c 0 _ rfl
      have zf := M1.out.t.f 0
      have M2 := hQd (M1.out.set hk (Nat.le_refl _) (Nat.le_refl _) 0 (.slice (some ⟨A, off + 1, none⟩) (m + 1) (m + 1)) (by simp))
      have HE := hQd (Aaf (j := 0) (v := .slice (some ⟨A, off + 1, none⟩) (m + 1) (m + 1)) M1.out.e.hi M1.out.t hk)
      clear e1 P1))
   all_goals
    clear x0 q0 p0 p01 a01
    go_wp2_with fail
    go_region
    all_goals
     have M3 := hQd M2.out.drew
     have r0 := M3.out.t.c 0 _ rfl
     go_wp2_with fail
     refine (Aga r0).mono ?_
     rintro e w' ⟨rfl, rfl⟩
     go_wp2_with fail
     go_ret
     exact ⟨rfl, _, M3.out.e, M3.out.p, ⟨A, off + 1, full, by rw [← HN.out]; exact M3.out.t, (hA1.out.ext HE.out).below (Aaa _), .inr HD.out.2⟩⟩
theorem Aey (a : Int) (w : World) : Calls Tryz.prog 213 #[.slice none 0 0, .int .u64 a] w fun e w' => e = .returned (.bool false) ∧ w = w' := by
 have hI : Calls Tryz.prog 216 #[.slice none 0 0, .int .u64 a] w fun e w' => e = .returned (.int .i64 (-1)) ∧ w = w' := by
  go_enter Tryz.func216, Tryz.ntmps216
  go_wp2
  refine wp_loop_rounds 1 ?_
  rw [rounds_succ]
  go_wp2
  go_ret
  exact ⟨rfl, rfl⟩
 go_enter Tryz.func213, Tryz.ntmps213
 go_wp2_with (go_at_call 216; refine hI.mono ?_; rintro e w' ⟨rfl, rfl⟩)
 go_ret
 exact ⟨rfl, rfl⟩
theorem Ag5 (a b : Int) (A : Nat) (cp : Nat) (w : World) (h : w.cell? ⟨A, 0, none⟩ = some (.int .u64 b)) (hc : 1 ≤ cp ∧ cp ≤ maxLen) : Calls Tryz.prog 213 #[.slice (some ⟨A, 0, none⟩) 1 cp, .int .u64 a] w fun e w' => e = .returned (.bool (a == b)) ∧ w = w' := by
 have hI : Calls Tryz.prog 216 #[.slice (some ⟨A, 0, none⟩) 1 cp, .int .u64 a] w fun e w' => e = .returned (.int .i64 (if a = b then 0 else -1)) ∧ w = w' := by
  by_cases hab : a = b
  · subst hab
    have d : (a == a) = true := by simp
    rw [if_pos rfl]
    go_enter Tryz.func216, Tryz.ntmps216
    go_wp2
    refine wp_loop_rounds 1 ?_
    rw [rounds_succ]
    go_wp2
    go_ret
    exact ⟨rfl, rfl⟩
  have d : (a == b) = false := by simp [hab]
  have d2 : (b == a) = false := by simp; omega
  rw [if_neg hab]
  clear hab
  go_enter Tryz.func216, Tryz.ntmps216
  go_wp2
  refine wp_loop_rounds 2 ?_
  rw [rounds_succ]
  go_wp2
  rw [rounds_succ]
  go_wp2
  go_ret
  exact ⟨rfl, rfl⟩
 by_cases hab : a = b
 · rw [if_pos hab] at hI
   have d : (a == b) = true := by simp [hab]
   rw [d]
   clear hab
   go_enter Tryz.func213, Tryz.ntmps213
   go_wp2_with (go_at_call 216; refine hI.mono ?_; rintro e w' ⟨rfl, rfl⟩)
   go_ret
   exact ⟨rfl, rfl⟩
 rw [if_neg hab] at hI
 have d : (a == b) = false := by simp [hab]
 rw [d]
 clear hab
 go_enter Tryz.func213, Tryz.ntmps213
 go_wp2_with (go_at_call 216; refine hI.mono ?_; rintro e w' ⟨rfl, rfl⟩)
 go_ret
 exact ⟨rfl, rfl⟩
theorem Aob (a : Addr) (n c : Nat) (w : World) (hn : n ≤ c) (hc : c ≤ maxLen) :
 Calls Tryz.prog 214 #[.slice (some a) n c] w fun e w' => e = .returned (.slice (some a) n n) ∧ w = w' := by
 unfold maxLen at hc
 go_enter Tryz.func214, Tryz.ntmps214
 go_wp2
 go_ret
 exact ⟨rfl, rfl⟩
theorem Ao5 : (Tryz.prog.info? 38).map (fun i => (i.zero, i.size, i.bytes)) = some (some (.int .u64 0), 1, 8) := by kernel_rfl
theorem Row.ob {w : World} {O : Om} {t : Nat} {E : TypeId} {g n cap : Nat} {xs : List Value} (h : Row w O t E 1 (.slice (some ⟨g, 0, none⟩) n cap) n xs) (hn : 0 < n) : Ob w O t g xs := by
 obtain ⟨b, o, c, he, -, -, hlt, hx⟩ := (Arr.of_own h.own).open hn (by decide)
 cases he
 exact ⟨h.vo g rfl, hlt, fun j u hu => by have := hx j u hu; rwa [Nat.zero_add] at this, h.own.frozenAt⟩
theorem Bc4 (p : Spt) (hp : p.ok) {b o c : Nat} {w : World} {O : Om} (g : Nat) (hg : g ≠ 0) (hc : 1 ≤ c ∧ c ≤ maxLen) (hb : b < w.heap.size) (x0 : w.cell? ⟨b, o, none⟩ = some (.int .i64 p.b)) (x1 : w.cell? ⟨b, o + 1, none⟩ = some (.int .i64 p.q)) (hhi : Hh O w) :
 Calls Tryz.prog 210 #[.slice (some ⟨b, o, none⟩) 1 c] w fun e w' => ∃ A, e = .returned (.slice (some ⟨A, 0, none⟩) 1 1) ∧ ∃ G, Ext (fun j => j = g) O w G w' ∧ Ob w' G g A [.int .u64 p.ver] := by
 obtain ⟨i0, hi, hz0, hz1, hz2⟩ := info_parts Ao5
 have HI := hQd (aN hi (aN hz0 (aN hz1 hz2)))
 have hq := hp.q2
 have hv := hp.ver
 have HV := hQd (fun W => Ait p.b p.q W (by have := hp.b0; omega) (by have := hp.b1; omega) (by have := hp.q0; omega) (by omega))
 obtain ⟨ve, hve⟩ := exq p.ver
 have hve2 : Abm p.b p.q = ve := hve.symm
 rw [hve2] at HV
 rw [← hve] at hv ⊢
 obtain ⟨pb, hpb⟩ := exq p.b
 obtain ⟨pq, hpq⟩ := exq p.q
 rw [← hpb, ← hpq] at HV
 rw [← hpb] at x0
 rw [← hpq] at x1
 have dv : (ve != 0) = true := by simp; omega
 have HH := hQd hhi
 clear hp hq hv hve hve2 hpb hpq hhi hi hz0 hz1 hz2
 go_enter Tryz.func210, Tryz.ntmps210
 go_wp2_with fail
 refine wp_loop_rounds 2 ?_
 rw [rounds_succ]
 go_wp2_with fail
 refine (HV.out _).mono ?_
 rintro e w1 ⟨rfl, hb1⟩
 have HB1 : Hid (Below w.heap.size w w1) := hQd (by first | exact (bal _ _).trans (hb1.mono (by simp)) | exact hb1)
 have E1 := hQd (Ext.of_below (S := fun j => j = g) HH.out HB1.out)
 clear hb1
 go_wp2_with fail
 refine (Aey _ _).mono ?_
 rintro e w' ⟨rfl, rfl⟩
 go_wp2_with (at_builtin; refine Ace w1 rfl _ _ 170 rfl 38 i0 (.int .u64 0) 1 8 Tryz.underlying170 HI.out.1 HI.out.2.1 HI.out.2.2.1 HI.out.2.2.2 rfl (by decide) (by decide) O g hg E1.out.hi (.slice none 0 0) 0 [] rfl (Row.nil _ _ _ _ _) [.int .u64 ve] _ rfl rfl (by simp [Value.oneCell']) (by omega) ?_; intro gg cap w2 G2 e2 r2; have HR2 := hQd r2; have E2 := hQd (E1.out.trans e2); clear e2 r2)
 rw [rounds_succ]
 go_wp2_with fail
 refine (Aob _ _ _ _ (by obtain ⟨_, _, _, he, h1, h2, -⟩ := (Arr.of_own HR2.out.own).open (by decide) (by decide); cases he; exact h1) (by obtain ⟨_, _, _, he, h1, h2, -⟩ := (Arr.of_own HR2.out.own).open (by decide) (by decide); cases he; exact h2)).mono ?_
 rintro e w' ⟨rfl, rfl⟩
 go_wp2_with fail
 go_ret
 exact ⟨gg, rfl, G2, E2.out, HR2.out.ob (by decide)⟩
theorem Adc (p : Spt) (hp : p.ok) {b o c : Nat} {w : World} {O : Om} (k : Nat) (hk : 10 ≤ k) (hc : 1 ≤ c ∧ c ≤ maxLen) (hb : b < w.heap.size) (x0 : w.cell? ⟨b, o, none⟩ = some (.int .i64 p.b)) (x1 : w.cell? ⟨b, o + 1, none⟩ = some (.int .i64 p.q)) (hhi : Hh O w) :
 Calls Tryz.prog 207 #[.slice (some ⟨b, o, none⟩) 1 c] w fun e w' => ∃ X, RP (fun t => t = k ∨ t = k + 1) w O (.pointer (some ⟨X, 0, none⟩)) (fun W G => Ada W G k X [p.ver]) e w' := by
 have HO := hQd (Bc4 p hp (k + 1) (by omega) hc hb x0 x1 hhi)
 clear hp hb x0 x1 hhi
 go_enter Tryz.func207, Tryz.ntmps207
 go_wp2_with fail
 refine HO.out.mono ?_
 rintro e w1 ⟨A, rfl, G1, e1, a1⟩
 obtain ⟨G2, e2, x2, k2⟩ := Aar e1.hi k #[.slice (some ⟨A, 0, none⟩) 1 1] 326 w1.heap.size rfl
 have HE := hQd (aN ((e1.mono (T := fun t => t = k ∨ t = k + 1) fun t _ h => .inr h).trans (e2.mono fun t _ h => .inl h)) (aN x2 (k2 _ _ _ a1)))
 clear e1 a1 e2 x2 k2
 go_wp2_with fail
 go_ret
 exact ⟨_, rfl, G2, HE.out.1, ⟨A, 0, [p.ver], HE.out.2.1, HE.out.2.2, .inr rfl⟩⟩
end
section
open Go.RowKit
theorem Apw (x : Int) (x0 : 0 ≤ x) (x1 : x < 18446744073709551616) : bits BinOp.and IntKind.u64 x 255 = x % 256 := by
 obtain ⟨a, rfl⟩ := Int.eq_ofNat_of_zero_le x0
 have h := u64_and_nat a 255 (by omega) (by decide)
 rw [show ((255 : Nat) : Int) = 255 by rfl] at h
 rw [h, show (255 : Nat) = 2 ^ 8 - 1 by rfl, Nat.and_two_pow_sub_one_eq_mod]
 omega
theorem Adr (x s : Int) (w : World) (x0 : 0 ≤ x) (x1 : x < 18446744073709551616) (s0 : -9223372036854775808 ≤ s) (s1 : s ≤ 9223372036854775807) :
 Calls Tryz.prog 77 #[.int .u64 x, .int .i64 s] w fun e w' => e = .returned (.int .i64 (Aay x s)) ∧ w = w' := by
 by_cases h : 0 ≤ s ∧ s ≤ 3
 · have hs : s = 0 ∨ s = 1 ∨ s = 2 ∨ s = 3 := by omega
   have h2 : x / 256 / 256 = x / 65536 := by omega
   have h3 : x / 65536 / 256 = x / 16777216 := by omega
   have g0 : 0 ≤ x / 256 ∧ x / 256 < 18446744073709551616 := by omega
   have g1 : 0 ≤ x / 65536 ∧ x / 65536 < 18446744073709551616 := by omega
   have g2 : 0 ≤ x / 16777216 ∧ x / 16777216 < 18446744073709551616 := by omega
   clear h
   rcases hs with rfl | rfl | rfl | rfl
   · rw [Aoh]
     go_enter Tryz.func77, Tryz.ntmps77
     go_wp2
     refine wp_loop_rounds 1 ?_
     rw [rounds_succ]
     go_wp2
     go_ret
     exact ⟨rfl, rfl⟩
   · rw [Aog]
     go_enter Tryz.func77, Tryz.ntmps77
     go_wp2
     refine wp_loop_rounds 2 ?_
     rw [rounds_succ]
     go_wp2
     rw [rounds_succ]
     go_wp2
     go_ret
     exact ⟨rfl, rfl⟩
   · rw [Aof]
     go_enter Tryz.func77, Tryz.ntmps77
     go_wp2
     refine wp_loop_rounds 3 ?_
     rw [rounds_succ]
     go_wp2
     rw [rounds_succ]
     go_wp2
     rw [rounds_succ]
     go_wp2
     go_ret
     exact ⟨Aa6 (by rw [← h2]), rfl⟩
   rw [Aoe]
   go_enter Tryz.func77, Tryz.ntmps77
   go_wp2
   refine wp_loop_rounds 4 ?_
   rw [rounds_succ]
   go_wp2
   rw [rounds_succ]
   go_wp2
   rw [rounds_succ]
   go_wp2
   rw [rounds_succ]
   go_wp2
   go_ret
   exact ⟨Aa6 (by rw [← h3, ← h2]), rfl⟩
 have ht : Aay x s = 0 := by unfold Aay; rw [if_neg h]
 rw [ht]
 by_cases h0 : s < 0
 · have d : decide (s < 0) = true := by simp [h0]
   clear h
   go_enter Tryz.func77, Tryz.ntmps77
   go_wp2
   go_ret
   exact ⟨rfl, rfl⟩
 have d : decide (s < 0) = false := by simp; omega
 have d2 : decide (3 < s) = true := by simp; omega
 clear h h0
 go_enter Tryz.func77, Tryz.ntmps77
 go_wp2
 go_ret
 exact ⟨rfl, rfl⟩
theorem Auk (x s : Int) (h : 0 ≤ s ∧ s ≤ 3) (x0 : 0 ≤ x) : Aay x s * Abj s ≤ x ∧ 0 ≤ Aay x s * Abj s := by
 have hs : s = 0 ∨ s = 1 ∨ s = 2 ∨ s = 3 := by omega
 rcases hs with rfl | rfl | rfl | rfl
 · rw [Aoh, twU0]; omega
 · rw [Aog, twU1]; omega
 · rw [Aof, twU2]; omega
 rw [Aoe, twU3]; omega
theorem Arm (s : Int) : 0 ≤ Abj s ∧ Abj s ≤ 16777216 := by
 unfold Abj
 repeat' split
 all_goals omega
theorem Ana (x t : Int) (s u : Int) (hs : 0 ≤ s ∧ s ≤ 3) (hu : u = Abj s) (x0 : 0 ≤ x) (x1 : x < 18446744073709551616) (t0 : 0 ≤ t) (t1 : t ≤ 255) :
 ((x - Aay x s * u % 18446744073709551616) % 18446744073709551616 + t * u % 18446744073709551616) % 18446744073709551616 = Acp x s t := by
 have h1 := Auk x s hs x0
 have h2 := Afu (s := s) (t := t) x0 x1
 have hw : Acp x s t = x - Aay x s * Abj s + t * Abj s := by unfold Acp; rw [if_pos ⟨hs.1, hs.2, t0, t1⟩]
 rw [hw] at h2 ⊢
 subst hu
 have hu2 := Arm s
 have h3 : 0 ≤ t * Abj s ∧ t * Abj s ≤ 255 * 16777216 := ⟨Int.mul_nonneg t0 hu2.1, Int.le_trans (Int.mul_le_mul_of_nonneg_left hu2.2 t0) (by omega)⟩
 obtain ⟨a, ha⟩ := exq (Aay x s * Abj s)
 obtain ⟨b, hb⟩ := exq (t * Abj s)
 rw [← ha] at h1 h2 ⊢
 rw [← hb] at h2 h3 ⊢
 omega
theorem Amc (x s t : Int) (w : World) (x0 : 0 ≤ x) (x1 : x < 18446744073709551616) (s0 : 0 ≤ s) (s1 : s ≤ 3) (t0 : 0 ≤ t) (t1 : t ≤ 255) :
 Calls Tryz.prog 69 #[.int .u64 x, .int .i64 s, .int .i64 t] w fun e w' => e = .returned (.int .u64 (Acp x s t)) ∧ w = w' := by
 have hs : s = 0 ∨ s = 1 ∨ s = 2 ∨ s = 3 := by omega
 have hb := Ae1 x s
 have HW := hQd (Ana x t s (Abj s) ⟨s0, s1⟩ rfl x0 x1 t0 t1)
 have HT := hQd (fun W => Adr x s W x0 x1 (by omega) (by omega))
 obtain ⟨g, hg⟩ := exq (Aay x s)
 rw [← hg] at HT HW hb
 have HG := hQd hg
 clear hg
 have d0 : decide (t < 0) = false := by simp; omega
 have d1 : decide (255 < t) = false := by simp; omega
 rcases hs with rfl | rfl | rfl | rfl
 · go_enter Tryz.func69, Tryz.ntmps69
   go_wp2
   refine wp_loop_rounds 1 ?_
   rw [rounds_succ]
   go_wp2_with (go_at_call 77; refine (HT.out _).mono ?_; rintro e w' ⟨rfl, rfl⟩)
   go_ret
   exact ⟨Aa6 (by rw [← HW.out]; simp [IntKind.wrap_u64, Abj]), rfl⟩
 · go_enter Tryz.func69, Tryz.ntmps69
   go_wp2
   refine wp_loop_rounds 2 ?_
   rw [rounds_succ]
   go_wp2
   rw [rounds_succ]
   go_wp2_with (go_at_call 77; refine (HT.out _).mono ?_; rintro e w' ⟨rfl, rfl⟩)
   go_ret
   exact ⟨Aa6 (by rw [← HW.out]; simp [IntKind.wrap_u64, Abj]), rfl⟩
 · go_enter Tryz.func69, Tryz.ntmps69
   go_wp2
   refine wp_loop_rounds 3 ?_
   rw [rounds_succ]
   go_wp2
   rw [rounds_succ]
   go_wp2
   rw [rounds_succ]
   go_wp2_with (go_at_call 77; refine (HT.out _).mono ?_; rintro e w' ⟨rfl, rfl⟩)
   go_ret
   exact ⟨Aa6 (by rw [← HW.out]; simp [IntKind.wrap_u64, Abj]), rfl⟩
 go_enter Tryz.func69, Tryz.ntmps69
 go_wp2
 refine wp_loop_rounds 4 ?_
 rw [rounds_succ]
 go_wp2
 rw [rounds_succ]
 go_wp2
 rw [rounds_succ]
 go_wp2
 rw [rounds_succ]
 go_wp2_with (go_at_call 77; refine (HT.out _).mono ?_; rintro e w' ⟨rfl, rfl⟩)
 go_ret
 exact ⟨Aa6 (by rw [← HW.out]; simp [IntKind.wrap_u64, Abj]), rfl⟩
theorem Aml (x : Int) (w : World) (x0 : 0 ≤ x) (x1 : x < 18446744073709551616) : Calls Tryz.prog 153 #[.int .u64 x] w fun e w' => e = .returned (.agg #[.int .i64 (Aay x 0), .int .i64 (Aay x 1), .int .i64 (Aay x 2), .int .i64 (Aay x 3)]) ∧ Below w.heap.size w w' := by
 rw [Aoh, Aog, Aof, Aoe]
 have a0 := Apw x x0 x1
 have a1 := Apw (x / 256) (by omega) (by omega)
 have a2 := Apw (x / 65536) (by omega) (by omega)
 have a3 := Apw (x / 16777216) (by omega) (by omega)
 have b0 : wrap64 (x % 256) = x % 256 := by unfold wrap64; omega
 have b1 : wrap64 (x / 256 % 256) = x / 256 % 256 := by unfold wrap64; omega
 have b2 : wrap64 (x / 65536 % 256) = x / 65536 % 256 := by unfold wrap64; omega
 have b3 : wrap64 (x / 16777216 % 256) = x / 16777216 % 256 := by unfold wrap64; omega
 go_enter Tryz.func153, Tryz.ntmps153
 go_wp2_with fail
 refine wp_loop_rounds 5 ?_
 rw [rounds_succ]
 go_wp2_with fail
 rw [rounds_succ]
 go_wp2_with fail
 rw [rounds_succ]
 go_wp2_with fail
 rw [rounds_succ]
 go_wp2_with fail
 rw [rounds_succ]
 go_wp2_with fail
 exact bodyPost_ret (v := .agg #[.int .i64 (x % 256), .int .i64 (x / 256 % 256), .int .i64 (x / 65536 % 256), .int .i64 (x / 16777216 % 256)]) (by simp [results, Tryz.results153, go_sem, a0, a1, a2, a3, b0, b1, b2, b3]) rfl ⟨rfl, bal _ _⟩
theorem Al9 (k : Int) (w : World) (b : Bool) (hb : b = decide (0 ≤ k ∧ k < 4)) : Calls Tryz.prog 152 #[.int .i64 k] w fun e w' => e = .returned (.bool b) ∧ w = w' := by
 subst hb
 go_enter Tryz.func152, Tryz.ntmps152
 go_wp2
 all_goals
  go_ret
  exact ⟨Adp (by rw [Bool.eq_iff_iff]; simp; try omega), rfl⟩
theorem An3 (x k : Int) (w : World) (x0 : 0 ≤ x) (x1 : x < 18446744073709551616) (k0 : 0 ≤ k) (k1 : k ≤ 3) : Calls Tryz.prog 123 #[.int .u64 x, .int .i64 k] w fun e w' => e = .returned (.int .i64 (Aay x k)) ∧ Below w.heap.size w w' := by
 have hk : k = 0 ∨ k = 1 ∨ k = 2 ∨ k = 3 := by omega
 have HP := hQd (fun W => Aml x W x0 x1)
 obtain ⟨t0, e0⟩ := exq (Aay x 0)
 obtain ⟨t1, e1⟩ := exq (Aay x 1)
 obtain ⟨t2, e2⟩ := exq (Aay x 2)
 obtain ⟨t3, e3⟩ := exq (Aay x 3)
 rw [← e0, ← e1, ← e2, ← e3] at HP
 have h0 : ∀ W, (Instr.index 261 (.agg #[.int .i64 t0, .int .i64 t1, .int .i64 t2, .int .i64 t3]) (.int .i64 0)).run Tryz.prog W = .ok (.int .i64 t0) W := fun W => by kernel_rfl
 have h1 : ∀ W, (Instr.index 261 (.agg #[.int .i64 t0, .int .i64 t1, .int .i64 t2, .int .i64 t3]) (.int .i64 1)).run Tryz.prog W = .ok (.int .i64 t1) W := fun W => by kernel_rfl
 have h2 : ∀ W, (Instr.index 261 (.agg #[.int .i64 t0, .int .i64 t1, .int .i64 t2, .int .i64 t3]) (.int .i64 2)).run Tryz.prog W = .ok (.int .i64 t2) W := fun W => by kernel_rfl
 have h3 : ∀ W, (Instr.index 261 (.agg #[.int .i64 t0, .int .i64 t1, .int .i64 t2, .int .i64 t3]) (.int .i64 3)).run Tryz.prog W = .ok (.int .i64 t3) W := fun W => by kernel_rfl
 have HE := hQd (aN e0 (aN e1 (aN e2 e3)))
 clear e0 e1 e2 e3
 rcases hk with rfl | rfl | rfl | rfl
 all_goals
  go_enter Tryz.func123, Tryz.ntmps123
  go_wp2_with fail
  refine (Al9 _ _ true (by decide)).mono ?_
  rintro e w' ⟨rfl, rfl⟩
  go_wp2_with fail
  refine (HP.out _).mono ?_
  rintro e w' ⟨rfl, hb⟩
  go_wp2_with fail
  go_ret
  exact ⟨Aa6 (by first | exact HE.out.1 | exact HE.out.2.1 | exact HE.out.2.2.1 | exact HE.out.2.2.2), hb⟩
theorem Avy (x s t : Int) (w : World) (x0 : 0 ≤ x) (x1 : x < 18446744073709551616) (s0 : 0 ≤ s) (s1 : s ≤ 3) (t0 : 0 ≤ t) (t1 : t ≤ 255) :
 Calls Tryz.prog 259 #[.int .u64 x, .int .i64 s, .int .i64 t] w fun e w' => e = .returned (.int .u64 (Acp x s t)) ∧ Below w.heap.size w w' := by
 have hs : s = 0 ∨ s = 1 ∨ s = 2 ∨ s = 3 := by omega
 have d0 : decide (t < 0) = false := by simp; omega
 have d1 : decide (255 < t) = false := by simp; omega
 have hw : Acp x s t = x - Aay x s * Abj s + t * Abj s := by unfold Acp; rw [if_pos ⟨s0, s1, t0, t1⟩]
 have HW := hQd hw
 have wt : IntKind.u64.wrap t = t := by rw [IntKind.wrap_u64]; omega
 clear hw
 have b0 := Aft x t 0 (by decide) x0 x1 t0 t1
 have b1 := Aft x t 8 (by decide) x0 x1 t0 t1
 have b2 := Aft x t 16 (by decide) x0 x1 t0 t1
 have b3 := Aft x t 24 (by decide) x0 x1 t0 t1
 have HB := hQd (aN b0 (aN b1 (aN b2 b3)))
 clear b0 b1 b2 b3
 rcases hs with rfl | rfl | rfl | rfl
 all_goals
  go_enter Tryz.func259, Tryz.ntmps259
  go_wp2_with fail
  refine (Al9 _ _ true (by decide)).mono ?_
  rintro e w' ⟨rfl, rfl⟩
  go_wp2_with fail
  go_quiet (fail)
  go_wp2_with fail
  go_ret
  refine ⟨Aa6 ?_, ⟨rfl, rfl, rfl, Nat.le_refl _, fun _ _ => rfl⟩⟩
  rw [HW.out]
  have := HB.out
  simp [Aay, Abj, IntKind.wrap_u64] at this ⊢
  first | exact this.1 | exact this.2.1 | exact this.2.2.1 | exact this.2.2.2
end
section
open Go.RowKit Go.Shelf
theorem Aj0 {w : World} {a : Addr} {u : Value} (h : w.cell? a = some u) : a.block < w.heap.size := by
 unfold World.cell? at h
 split at h
 · rename_i he; exact (Array.getElem?_eq_some_iff.1 he).1
 cases h
theorem Abp {a w : World} {B : Nat} (h : Below B a w) {b : Nat} (hb : B ≤ b) (o : Nat) (u : Value) : Below B a (w.setCell ⟨b, o, none⟩ u) := h.setCell (p := ⟨b, o, none⟩) hb u
def Azv (p : Spt) (o : Otm) : List Value := [.int .u64 p.tags, .int .u64 p.item, .int .i64 p.s, .int .u64 o.w, .int .i64 o.ln]
def Ard : Value := .agg #[.func (.func 254) #[] #[], .func (.func 255) #[] #[], .func (.func 256) #[] #[]]
theorem Apg (w : World) : Calls Tryz.prog 253 #[] w fun e w' => e = .returned Ard ∧ Below w.heap.size w w' := by
 go_enter Tryz.func253, Tryz.ntmps253
 go_wp2
 exact bodyPost_ret (v := Ard) (by simp [results, Tryz.results253, go_sem, Ard]) rfl ⟨rfl, bal _ _⟩
theorem Ac5 {U : Nat} {w : World} (a : Int) (n : Nat) (h0 : w.cell? ⟨U, 0, none⟩ = some (.int .u64 a)) (h4 : w.cell? ⟨U, 4, none⟩ = some (.int .i64 n)) (ha : a ≠ 0) (hn : n ≤ 3) :
 C1 251 U w fun e w' => e = .returned (.bool (n == 3)) ∧ Below w.heap.size w w' := by
 have hU := Aj0 h0
 dsimp only at hU
 have d0 : (a == 0) = false := by simp [ha]
 have d3 : ((n : Int) == 3) = (n == 3) := by rw [Bool.eq_iff_iff]; simp; omega
 clear ha
 go_enter Tryz.func251, Tryz.ntmps251
 go_wp2_with fail
 refine Abh (by kernel_rfl) (by kernel_rfl) ?_
 repeat (go_big_quiet_step ((first
  | (go_at_call 253; exact Auj (Apg _)))))
 refine wpQuiet_nil ?_
 rintro _ ⟨e, rfl⟩
 go_wp2_with fail
 go_ret
 exact ⟨Adp (by first | exact d3 | rfl), Abv _ _⟩
theorem Af9 {U : Nat} {w : World} (a : Int) (n : Nat) (h0 : w.cell? ⟨U, 0, none⟩ = some (.int .u64 a)) (h4 : w.cell? ⟨U, 4, none⟩ = some (.int .i64 n)) (ha : a ≠ 0) :
 C1 250 U w fun e w' => e = .returned (.bool (decide (1 < n))) ∧ w = w' := by
 have d0 : (a != 0) = true := by simp [ha]
 have d3 : decide ((1 : Int) < (n : Int)) = decide (1 < n) := by rw [decide_eq_decide]; omega
 clear ha
 go_enter Tryz.func250, Tryz.ntmps250
 go_wp2
 go_ret
 exact ⟨Adp (by first | exact d3 | rfl), rfl⟩
section
variable {U : Nat} {w : World} {O : Om} {B : Wb} {f : Cf} {s : AW} {k : Nat}
theorem Apc (cs : List Value) (a : Int) (hP : PW w O B f s) (hU : Ob w O k U cs) (hc : cs[0]? = some (.int .u64 a)) (h3 : ∃ v, cs[3]? = some v) (hk : 10 ≤ k) (hhi : Hh O w) (a0 : 0 ≤ a) (a1 : a < 18446744073709551616) (n0 : 0 ≤ s.n) (n1 : s.n ≤ 4611686018427387904) :
 C2 257 U B.p w (RP (SX k k) w O (.tuple #[]) fun W G => PW W G B f (Aan a s) ∧ Ob W G k U (cs.set 3 (.int .u64 (s.M a)))) := by
 have HM : Hid (Me k k w O w O B f s k U cs) := hQd (Me.start hhi hP hU)
 have p0 := hP.wo.c0
 have x0 := hU.c 0 _ hc
 obtain ⟨v3, h3⟩ := h3
 have H3 := hQd h3
 have HC := hQd hc
 have hl3 : 3 < cs.length := (List.getElem?_eq_some_iff.1 h3).1
 clear hP hU hhi hc h3
 go_enter Tryz.func257, Tryz.ntmps257
 go_wp2_with fail
 go_region_held3 (fun w' => w'.cell? ⟨B.p, 0, none⟩ = some (.pointer (some ⟨B.c, 0, none⟩)) ∧ w'.cell? ⟨U, 0, none⟩ = some (.int .u64 a)) (go_keep)
  ((go_at_call 37
    refine (Ac9 a (w := w.drew) HM.out.drew.p HM.out.drew.e.hi a0 a1 n0 n1).mono ?_
    rintro e w1 ⟨rfl, G1, e1, P1⟩
    have M1 := hQd (HM.out.drew.world hk e1 P1)
    have p01 := M1.out.p.wo.c0
    have x01 := M1.out.t.c 0 _ HC.out
    have z3 := M1.out.t.c 3 _ H3.out
    have zf := M1.out.t.f 3
    have M2 := hQd (M1.out.set hk (Nat.le_refl _) (Nat.le_refl _) 3 (.int .u64 (s.M a)) hl3)
    have p02 := M2.out.p.wo.c0
    have x02 := M2.out.t.c 0 _ (by rw [List.getElem?_set_ne (by decide)]; exact HC.out)
    clear e1 P1))
 all_goals
  go_wp2_with fail
  go_end0
  exact M2.out.rp
theorem Ama (cs : List Value) (a wd sl t : Int) (hP : PW w O B f s) (hU : Ob w O k U cs) (hc : cs[0]? = some (.int .u64 a)) (h2 : cs[2]? = some (.int .i64 sl)) (h3 : cs[3]? = some (.int .u64 wd)) (hk : 10 ≤ k) (hhi : Hh O w) (a0 : 0 ≤ a) (a1 : a < 18446744073709551616) (d0 : 0 ≤ wd) (d1 : wd < 18446744073709551616) (s0 : 0 ≤ sl) (s1 : sl ≤ 3) (t0 : 0 ≤ t) (t1 : t ≤ 255) (n0 : 0 ≤ s.n) (n1 : s.n ≤ 4611686018427387904) :
 Calls Tryz.prog 258 #[.pointer (some ⟨U, 0, none⟩), .pointer (some ⟨B.p, 0, none⟩), .int .i64 t] w (RP (SX k k) w O (.tuple #[]) fun W G => PW W G B f (Aax a (Acp wd sl t) s) ∧ Ob W G k U cs) := by
 have HM : Hid (Me k k w O w O B f s k U cs) := hQd (Me.start hhi hP hU)
 have p0 := hP.wo.c0
 have x0 := hU.c 0 _ hc
 have x2 := hU.c 2 _ h2
 have x3 := hU.c 3 _ h3
 have hb := Afu (s := sl) (t := t) d0 d1
 have HW := hQd (fun W => Avy wd sl t W d0 d1 s0 s1 t0 t1)
 obtain ⟨z, hz⟩ := exq (Acp wd sl t)
 rw [← hz] at HW hb ⊢
 have H3 := hQd (aN hc (aN h2 h3))
 clear hP hU hhi hc h2 h3 hz
 go_enter Tryz.func258, Tryz.ntmps258
 go_wp2_with fail
 go_region_held3 (fun w' => w'.cell? ⟨B.p, 0, none⟩ = some (.pointer (some ⟨B.c, 0, none⟩)) ∧ w'.cell? ⟨U, 0, none⟩ = some (.int .u64 a) ∧ w'.cell? ⟨U, 2, none⟩ = some (.int .i64 sl) ∧ w'.cell? ⟨U, 3, none⟩ = some (.int .u64 wd)) (go_keep)
  ((first
    | (go_at_call 259
       refine (HW.out _).mono ?_
       rintro e w1 ⟨rfl, hb1⟩
       have M1 := hQd (HM.out.drew.below hb1)
       have p01 := M1.out.p.wo.c0
       have x01 := M1.out.t.c 0 _ H3.out.1
       have x21 := M1.out.t.c 2 _ H3.out.2.1
       have x31 := M1.out.t.c 3 _ H3.out.2.2
       clear hb1)
    | (go_at_call 17
       refine (Aed a z M1.out.p M1.out.e.hi a0 a1 hb.1 hb.2 n0 n1).mono ?_
       rintro e w2 ⟨rfl, G2, e2, P2⟩
       have M2 := hQd (M1.out.world hk e2 P2)
       have p02 := M2.out.p.wo.c0
       have x02 := M2.out.t.c 0 _ H3.out.1
       have x22 := M2.out.t.c 2 _ H3.out.2.1
       have x32 := M2.out.t.c 3 _ H3.out.2.2
       clear e2 P2)))
 all_goals
  go_wp2_with fail
  go_end0
  exact M2.out.rp
end
structure Abx (W : World) (G : Om) (k U : Nat) (p : Spt) (o : Otm) : Prop where
 ob : Ob W G k U (Azv p o)
theorem Abx.ext {S : Nat → Prop} {O O' : Om} {w w' : World} {k U : Nat} {p : Spt} {o : Otm} (h : Abx w O k U p o) (e : Ext S O w O' w') (h1 : ¬ S k := by omega) : Abx w' O' k U p o := ⟨h.ob.ext e h1⟩
theorem Abx.below {O : Om} {w w' : World} {k U : Nat} {p : Spt} {o : Otm} (h : Abx w O k U p o) (hb : Below w.heap.size w w') : Abx w' O k U p o := ⟨h.ob.below hb⟩
section
variable {U : Nat} {w : World} {O : Om} {B : Wb} {f : Cf} {s : AW} {k : Nat} {p : Spt}
theorem Bam : (∀ W, (Instr.index 356 Ard (.int .i64 0)).run Tryz.prog W = .ok (.func (.func 254) #[] #[]) W) ∧ (∀ W, (Instr.index 356 Ard (.int .i64 1)).run Tryz.prog W = .ok (.func (.func 255) #[] #[]) W) ∧ (∀ W, (Instr.index 356 Ard (.int .i64 2)).run Tryz.prog W = .ok (.func (.func 256) #[] #[]) W) := ⟨fun W => by kernel_rfl, fun W => by kernel_rfl, fun W => by kernel_rfl⟩
theorem Aq5 (o : Otm) (hP : PW w O B f s) (hU : Abx w O k U p o) (hp : p.ok) (hk : 10 ≤ k) (hhi : Hh O w) (n0 : 0 ≤ s.n) (n1 : s.n ≤ 4611686018427387904) :
 C2 254 U B.p w (RP (SX k k) w O (.tuple #[]) fun W G => PW W G B f (Aan p.tags s) ∧ Abx W G k U p ⟨o.ln, s.M p.tags⟩) := by
 have ht := hp.tags
 have HL := hQd (Apc _ p.tags hP hU.ob rfl ⟨_, rfl⟩ hk hhi (by omega) (by omega) n0 n1)
 clear hP hU hhi hp ht
 go_enter Tryz.func254, Tryz.ntmps254
 go_wp2_with fail
 refine HL.out.mono ?_
 rintro e w1 ⟨rfl, G1, e1, P1, U1⟩
 have HE := hQd (aN e1 (aN P1 (Abx.mk (p := p) (o := ⟨o.ln, s.M p.tags⟩) U1)))
 clear e1 P1 U1 HL
 go_wp2
 go_end0
 exact ⟨rfl, G1, HE.out⟩
theorem An7 (o : Otm) (hP : PW w O B f s) (hU : Abx w O k U p o) (hp : p.ok) (hk : 10 ≤ k) (hhi : Hh O w) (w0 : 0 ≤ o.w) (w1 : o.w < 18446744073709551616) (n0 : 0 ≤ s.n) (n1 : s.n ≤ 4611686018427387904) :
 C2 255 U B.p w (RP (SX k k) w O (.tuple #[]) fun W G => PW W G B f (Aax p.tags (Acp o.w p.s 0) s) ∧ Abx W G k U p o) := by
 have ht := hp.tags
 have HL := hQd (Ama _ p.tags o.w p.s 0 hP hU.ob rfl rfl rfl hk hhi (by omega) (by omega) w0 w1 hp.s0 hp.s1 (by decide) (by decide) n0 n1)
 clear hP hU hhi hp ht
 go_enter Tryz.func255, Tryz.ntmps255
 go_wp2_with fail
 refine HL.out.mono ?_
 rintro e w1 ⟨rfl, G1, e1, P1, U1⟩
 have HE := hQd (aN e1 (aN P1 (Abx.mk (p := p) (o := o) U1)))
 clear e1 P1 U1 HL
 go_wp2
 go_end0
 exact ⟨rfl, G1, HE.out⟩
theorem Aq4 (o : Otm) (hP : PW w O B f s) (hU : Abx w O k U p o) (hp : p.ok) (hk : 10 ≤ k) (hhi : Hh O w) (n0 : 0 ≤ s.n) (n1 : s.n ≤ 4611686018427387904) :
 C2 256 U B.p w (RP (SX k k) w O (.tuple #[]) fun W G => PW W G B f (Aax p.item 0 s) ∧ Abx W G k U p o) := by
 have ht := hp.item
 have HM : Hid (Me k k w O w O B f s k U (Azv p o)) := hQd (Me.start hhi hP hU.ob)
 have p0 := hP.wo.c0
 have x1 := hU.ob.c 1 _ rfl
 obtain ⟨it, hit⟩ := exq p.item
 rw [← hit] at ht x1 ⊢
 have HIT := hQd hit
 have hb : 0 ≤ it ∧ it < 18446744073709551616 := by omega
 clear hP hU hhi hp ht hit
 go_enter Tryz.func256, Tryz.ntmps256
 go_wp2_with fail
 go_region_held3 (fun w' => w'.cell? ⟨B.p, 0, none⟩ = some (.pointer (some ⟨B.c, 0, none⟩)) ∧ w'.cell? ⟨U, 1, none⟩ = some (.int .u64 it)) (go_keep)
  ((go_at_call 17
    refine (Aed it 0 (w := w.drew) HM.out.drew.p HM.out.drew.e.hi hb.1 hb.2 (by decide) (by decide) n0 n1).mono ?_
    rintro e w2 ⟨rfl, G2, e2, P2⟩
    have M2 := hQd (HM.out.drew.world hk e2 P2)
    have p02 := M2.out.p.wo.c0
    have x12 := M2.out.t.c 1 _ rfl
    rw [← HIT.out] at x12
    clear e2 P2))
 all_goals
  go_wp2_with fail
  go_end0
  obtain ⟨e0, G, e1, P1, t1⟩ := M2.out.rp (v := .tuple #[])
  exact ⟨rfl, G, e1, P1, ⟨t1⟩⟩
theorem Ab5 (p : Spt) (s : AW) (o : Otm) (h : o.ln < 3) : (Aaj p s o).2.ln = o.ln + 1 := by
 unfold Aaj
 split
 · rename_i e; rw [e]
 split
 · rename_i e; rw [e]
 split
 · rename_i e; rw [e]
 omega
theorem Aiy (o : Otm) (hP : PW w O B f s) (hU : Abx w O k U p o) (hp : p.ok) (ho : o.ln < 3) (w0 : 0 ≤ o.w) (w1 : o.w < 18446744073709551616) (hk : 10 ≤ k) (hhi : Hh O w) (n0 : 0 ≤ s.n) (n1 : s.n ≤ 4611686018427387904) :
 C2 252 U B.p w (RP (SX k k) w O (.bool (o.ln == 2)) fun W G => PW W G B f (Aaj p s o).1 ∧ Abx W G k U p (Aaj p s o).2) := by
 obtain ⟨ln, wd⟩ := o
 dsimp only at ho w0 w1
 obtain ⟨x0, -, -, -, x4⟩ := hU.ob.c5
 have ht := hp.tags
 have ht0 : p.tags ≠ 0 := by omega
 obtain ⟨ix0, ix1, ix2⟩ := Bam
 have hk0 : ∀ args W, (callFunc 254 args).run Tryz.prog W = .ok (.enter 254 args) W := enters_of Tryz.func254 (by kernel_rfl) rfl
 have hk1 : ∀ args W, (callFunc 255 args).run Tryz.prog W = .ok (.enter 255 args) W := enters_of Tryz.func255 (by kernel_rfl) rfl
 have hk2 : ∀ args W, (callFunc 256 args).run Tryz.prog W = .ok (.enter 256 args) W := enters_of Tryz.func256 (by kernel_rfl) rfl
 have HU := hQd hU
 have HP := hQd hP
 have HH := hQd hhi
 have HB := hQd hp
 have hln : ln = 0 ∨ ln = 1 ∨ ln = 2 := by omega
 obtain ⟨ta, hta⟩ := exq p.tags
 rw [← hta] at x0 ht0
 have HT := hQd hta
 clear hU hP hhi hp ht ho hta
 rcases hln with rfl | rfl | rfl
 · clear hk1 hk2 ix1 ix2
   go_enter Tryz.func252, Tryz.ntmps252
   go_wp2_with fail
   refine (Ac5 ta 0 x0 x4 ht0 (by decide)).mono ?_
   rintro e wa ⟨rfl, hba⟩
   have P1 := hQd (HP.out.below HH.out hba)
   have U1 := hQd (HU.out.below hba)
   have E1 := hQd (Ext.of_below (S := SX k k) HH.out hba)
   have y4 := U1.out.ob.c 4 _ rfl
   have yl := U1.out.ob.lt
   clear hba x0 x4
   go_wp2_with fail
   go_region_held3 (fun w' => w'.cell? ⟨U, 4, none⟩ = some (.int .i64 0)) (go_keep)
    ((first
      | (go_at_call 253
         refine (Apg _).mono ?_
         rintro e wb ⟨rfl, hbb⟩
         have P2 := hQd ((P1.out.below E1.out.hi (Aaa wa)).below E1.out.drew.hi hbb)
         have U2 := hQd ((U1.out.below (Aaa wa)).below hbb)
         have E2 := hQd (E1.out.drew.below hbb)
         have y42 := U2.out.ob.c 4 _ rfl
         clear hbb)
      | (go_at_call 254
         refine (Aq5 ⟨0, wd⟩ P2.out U2.out HB.out hk E2.out.hi n0 n1).mono ?_
         rintro e wc ⟨rfl, G3, e3, P3, U3⟩
         have M3 : Hid (Me k k w O wc G3 B f (Aan p.tags s) k U _) := hQd ⟨E2.out.trans e3, P3, U3.ob⟩
         have y43 := M3.out.t.c 4 _ rfl
         clear e3 P3 U3)))
   all_goals
    have z4 := M3.out.t.c 4 _ rfl
    have zf := M3.out.t.f 4
    have M4 := hQd (M3.out.set hk (Nat.le_refl _) (Nat.le_refl _) 4 (.int .i64 ((1 : Nat) : Int)) (by simp [Azv]))
    obtain ⟨q0, -, -, -, q4⟩ := M4.out.t.c5
    go_wp2_with fail
    refine (Ac5 p.tags 1 q0 q4 (by rw [← HT.out]; exact ht0) (by decide)).mono ?_
    rintro e wd ⟨rfl, hbd⟩
    have M5 := hQd (M4.out.below hbd)
    clear hbd q0 q4
    go_wp2_with fail
    go_ret
    exact ⟨rfl, _, M5.out.e, M5.out.p, ⟨M5.out.t⟩⟩
 · clear hk0 hk2 ix0 ix2
   go_enter Tryz.func252, Tryz.ntmps252
   go_wp2_with fail
   refine (Ac5 ta 1 x0 x4 ht0 (by decide)).mono ?_
   rintro e wa ⟨rfl, hba⟩
   have P1 := hQd (HP.out.below HH.out hba)
   have U1 := hQd (HU.out.below hba)
   have E1 := hQd (Ext.of_below (S := SX k k) HH.out hba)
   have y4 := U1.out.ob.c 4 _ rfl
   have yl := U1.out.ob.lt
   clear hba x0 x4
   go_wp2_with fail
   go_region_held3 (fun w' => w'.cell? ⟨U, 4, none⟩ = some (.int .i64 1)) (go_keep)
    ((first
      | (go_at_call 253
         refine (Apg _).mono ?_
         rintro e wb ⟨rfl, hbb⟩
         have P2 := hQd ((P1.out.below E1.out.hi (Aaa wa)).below E1.out.drew.hi hbb)
         have U2 := hQd ((U1.out.below (Aaa wa)).below hbb)
         have E2 := hQd (E1.out.drew.below hbb)
         have y42 := U2.out.ob.c 4 _ rfl
         clear hbb)
      | (go_at_call 255
         refine (An7 ⟨1, wd⟩ P2.out U2.out HB.out hk E2.out.hi w0 w1 n0 n1).mono ?_
         rintro e wc ⟨rfl, G3, e3, P3, U3⟩
         have M3 : Hid (Me k k w O wc G3 B f (Aax p.tags (Acp wd p.s 0) s) k U _) := hQd ⟨E2.out.trans e3, P3, U3.ob⟩
         have y43 := M3.out.t.c 4 _ rfl
         clear e3 P3 U3)))
   all_goals
    have z4 := M3.out.t.c 4 _ rfl
    have zf := M3.out.t.f 4
    have M4 := hQd (M3.out.set hk (Nat.le_refl _) (Nat.le_refl _) 4 (.int .i64 ((2 : Nat) : Int)) (by simp [Azv]))
    obtain ⟨q0, -, -, -, q4⟩ := M4.out.t.c5
    go_wp2_with fail
    refine (Ac5 p.tags 2 q0 q4 (by rw [← HT.out]; exact ht0) (by decide)).mono ?_
    rintro e wd ⟨rfl, hbd⟩
    have M5 := hQd (M4.out.below hbd)
    clear hbd q0 q4
    go_wp2_with fail
    go_ret
    exact ⟨rfl, _, M5.out.e, M5.out.p, ⟨M5.out.t⟩⟩
 clear hk0 hk1 ix0 ix1
 go_enter Tryz.func252, Tryz.ntmps252
 go_wp2_with fail
 refine (Ac5 ta 2 x0 x4 ht0 (by decide)).mono ?_
 rintro e wa ⟨rfl, hba⟩
 have P1 := hQd (HP.out.below HH.out hba)
 have U1 := hQd (HU.out.below hba)
 have E1 := hQd (Ext.of_below (S := SX k k) HH.out hba)
 have y4 := U1.out.ob.c 4 _ rfl
 have yl := U1.out.ob.lt
 clear hba x0 x4
 go_wp2_with fail
 go_region_held3 (fun w' => w'.cell? ⟨U, 4, none⟩ = some (.int .i64 2)) (go_keep)
  ((first
    | (go_at_call 253
       refine (Apg _).mono ?_
       rintro e wb ⟨rfl, hbb⟩
       have P2 := hQd ((P1.out.below E1.out.hi (Aaa wa)).below E1.out.drew.hi hbb)
       have U2 := hQd ((U1.out.below (Aaa wa)).below hbb)
       have E2 := hQd (E1.out.drew.below hbb)
       have y42 := U2.out.ob.c 4 _ rfl
       clear hbb)
    | (go_at_call 256
       refine (Aq4 ⟨2, wd⟩ P2.out U2.out HB.out hk E2.out.hi n0 n1).mono ?_
       rintro e wc ⟨rfl, G3, e3, P3, U3⟩
       have M3 : Hid (Me k k w O wc G3 B f (Aax p.item 0 s) k U _) := hQd ⟨E2.out.trans e3, P3, U3.ob⟩
       have y43 := M3.out.t.c 4 _ rfl
       clear e3 P3 U3)))
 all_goals
  have z4 := M3.out.t.c 4 _ rfl
  have zf := M3.out.t.f 4
  have M4 := hQd (M3.out.set hk (Nat.le_refl _) (Nat.le_refl _) 4 (.int .i64 ((3 : Nat) : Int)) (by simp [Azv]))
  obtain ⟨q0, -, -, -, q4⟩ := M4.out.t.c5
  go_wp2_with fail
  refine (Ac5 p.tags 3 q0 q4 (by rw [← HT.out]; exact ht0) (by decide)).mono ?_
  rintro e wd ⟨rfl, hbd⟩
  have M5 := hQd (M4.out.below hbd)
  clear hbd q0 q4
  go_wp2_with fail
  go_ret
  exact ⟨rfl, _, M5.out.e, M5.out.p, ⟨M5.out.t⟩⟩
theorem c_of (hp : p.ok) : Calls Tryz.prog 211 #[.agg #[.int .i64 p.b, .int .i64 p.q, .int .i64 p.s]] w fun e w' => e = .returned (.agg #[.int .u64 p.tags, .int .u64 p.item, .int .i64 p.s, .int .u64 0, .int .i64 0]) ∧ Below w.heap.size w w' := by
 have hit := hp.item
 have htg := hp.tags
 have hq2 := hp.q2
 have HI := hQd (fun W => At2 p.b p.q p.s W (by have := hp.b0; omega) (by have := hp.b1; omega) (by have := hp.q0; omega) (by omega) (by have := hp.s0; omega) (by have := hp.s1; omega))
 have HT := hQd (fun W => Aiu p.b p.q W (by have := hp.b0; omega) (by have := hp.b1; omega) (by have := hp.q0; omega) (by omega))
 obtain ⟨ia, hia⟩ := exq p.item
 obtain ⟨ta, hta⟩ := exq p.tags
 have hia2 : Aca p.b p.q p.s = ia := hia.symm
 have hta2 : Aai p.b p.q = ta := hta.symm
 rw [hia2] at HI
 rw [hta2] at HT
 rw [← hia] at hit
 have di : (ia == 0) = false := by rw [beq_eq_false_iff_ne]; omega
 rw [← hia, ← hta]
 obtain ⟨b, hb⟩ := exq p.b
 obtain ⟨q, hq⟩ := exq p.q
 obtain ⟨sl, hs⟩ := exq p.s
 rw [← hb, ← hq, ← hs] at HI
 rw [← hb, ← hq] at HT
 rw [← hb, ← hq, ← hs]
 clear hit htg hq2 hia hta hia2 hta2 hp hb hq hs
 go_enter Tryz.func211, Tryz.ntmps211
 go_wp2_with fail
 obtain ⟨W, hW⟩ := exq ((w.alloc (.cells #[.int .i64 b, .int .i64 q, .int .i64 sl] 95)).alloc (.cells #[.int .u64 0, .int .u64 0, .int .i64 0, .int .u64 0, .int .i64 0] 328))
 have hB : Below w.heap.size w W := by rw [hW]; exact (bal _ _).alloc (by simp) _
 have y0 : W.cell? ⟨w.heap.size, 0, none⟩ = some (.int .i64 b) := by rw [hW]; simp
 have y1 : W.cell? ⟨w.heap.size, 1, none⟩ = some (.int .i64 q) := by rw [hW]; simp
 have y2 : W.cell? ⟨w.heap.size, 2, none⟩ = some (.int .i64 sl) := by rw [hW]; simp
 have z0 : W.cell? ⟨w.heap.size + 1, 0, none⟩ = some (.int .u64 0) := by rw [hW]; simp
 have z1 : W.cell? ⟨w.heap.size + 1, 1, none⟩ = some (.int .u64 0) := by rw [hW]; simp
 have z2 : W.cell? ⟨w.heap.size + 1, 2, none⟩ = some (.int .i64 0) := by rw [hW]; simp
 have z3 : W.cell? ⟨w.heap.size + 1, 3, none⟩ = some (.int .u64 0) := by rw [hW]; simp
 have z4 : W.cell? ⟨w.heap.size + 1, 4, none⟩ = some (.int .i64 0) := by rw [hW]; simp
 have zf : ∀ j, W.frozen? ⟨w.heap.size + 1, j, none⟩ = false := fun j => by rw [hW]; exact Acy _ #[.int .u64 0, .int .u64 0, .int .i64 0, .int .u64 0, .int .i64 0] _ _ (by simp) j
 have hl : w.heap.size < W.heap.size := by rw [hW]; simp; omega
 have hl2 : w.heap.size + 1 < W.heap.size := by rw [hW]; simp
 have HB := hQd hB
 have HZ := hQd (aN z0 (aN z1 (aN z2 (aN z3 (aN z4 zf)))))
 rw [← hW]
 clear hW hB
 refine (HI.out _).mono ?_
 rintro e w1 ⟨rfl, hb1⟩
 have k0 := (hb1.cell (p := ⟨w.heap.size, 0, none⟩) hl).trans y0
 have k1 := (hb1.cell (p := ⟨w.heap.size, 1, none⟩) hl).trans y1
 have k2 := (hb1.cell (p := ⟨w.heap.size, 2, none⟩) hl).trans y2
 have HK := hQd (fun j => hb1.cell (p := ⟨w.heap.size + 1, j, none⟩) hl2)
 have HF := hQd (fun j => (hb1.frozen (p := ⟨w.heap.size + 1, j, none⟩) hl2).trans (HZ.out.2.2.2.2.2 j))
 have HB1 := hQd (HB.out.trans (hb1.mono HB.out.size))
 have m1 : w.heap.size < w1.heap.size := Nat.lt_of_lt_of_le hl hb1.size
 have m2 : w.heap.size + 1 < w1.heap.size := Nat.lt_of_lt_of_le hl2 hb1.size
 clear hb1 y0 y1 y2 z0 z1 z2 z3 z4 zf hl hl2
 go_wp2_with fail
 go_region_held3 (fun w' => w'.cell? ⟨w.heap.size, 0, none⟩ = some (.int .i64 b) ∧ w'.cell? ⟨w.heap.size, 1, none⟩ = some (.int .i64 q) ∧ w'.cell? ⟨w.heap.size, 2, none⟩ = some (.int .i64 sl)) (go_keep)
  ((first
    | (go_at_call 124
       refine (HT.out _).mono ?_
       rintro e w2 ⟨rfl, hb2⟩
       have i0 := (hb2.cell (p := ⟨w.heap.size, 0, none⟩) m1).trans k0
       have i1 := (hb2.cell (p := ⟨w.heap.size, 1, none⟩) m1).trans k1
       have i2 := (hb2.cell (p := ⟨w.heap.size, 2, none⟩) m1).trans k2
       have HB2 := hQd (HB1.out.drew.trans (hb2.mono HB1.out.size))
       have HK2 := hQd (fun j => (hb2.cell (p := ⟨w.heap.size + 1, j, none⟩) m2).trans (HK.out j))
       have HF2 := hQd (fun j => (hb2.frozen (p := ⟨w.heap.size + 1, j, none⟩) m2).trans (HF.out j))
       have m12 : w.heap.size < w2.heap.size := Nat.lt_of_lt_of_le m1 hb2.size
       have m22 : w.heap.size + 1 < w2.heap.size := Nat.lt_of_lt_of_le m2 hb2.size
       clear hb2)
    | (go_at_call 155
       refine (HI.out _).mono ?_
       rintro e w3 ⟨rfl, hb3⟩
       have j0 := (hb3.cell (p := ⟨w.heap.size, 0, none⟩) m12).trans i0
       have j1 := (hb3.cell (p := ⟨w.heap.size, 1, none⟩) m12).trans i1
       have j2 := (hb3.cell (p := ⟨w.heap.size, 2, none⟩) m12).trans i2
       have HB3 := hQd (HB2.out.trans (hb3.mono HB2.out.size))
       have m13 : w.heap.size < w3.heap.size := Nat.lt_of_lt_of_le m12 hb3.size
       have m23 : w.heap.size + 1 < w3.heap.size := Nat.lt_of_lt_of_le m22 hb3.size
       have e0 := ((hb3.cell (p := ⟨w.heap.size + 1, 0, none⟩) m22).trans (HK2.out 0)).trans HZ.out.1
       have e1 := ((hb3.cell (p := ⟨w.heap.size + 1, 1, none⟩) m22).trans (HK2.out 1)).trans HZ.out.2.1
       have e2 := ((hb3.cell (p := ⟨w.heap.size + 1, 2, none⟩) m22).trans (HK2.out 2)).trans HZ.out.2.2.1
       have e3 := ((hb3.cell (p := ⟨w.heap.size + 1, 3, none⟩) m22).trans (HK2.out 3)).trans HZ.out.2.2.2.1
       have e4 := ((hb3.cell (p := ⟨w.heap.size + 1, 4, none⟩) m22).trans (HK2.out 4)).trans HZ.out.2.2.2.2.1
       have g0 := (hb3.frozen (p := ⟨w.heap.size + 1, 0, none⟩) m22).trans (HF2.out 0)
       have g1 := (hb3.frozen (p := ⟨w.heap.size + 1, 1, none⟩) m22).trans (HF2.out 1)
       have g2 := (hb3.frozen (p := ⟨w.heap.size + 1, 2, none⟩) m22).trans (HF2.out 2)
       have g3 := (hb3.frozen (p := ⟨w.heap.size + 1, 3, none⟩) m22).trans (HF2.out 3)
       have g4 := (hb3.frozen (p := ⟨w.heap.size + 1, 4, none⟩) m22).trans (HF2.out 4)
       clear hb3)))
 all_goals
  go_wp2_with fail
  exact bodyPost_ret (v := .agg #[.int .u64 ta, .int .u64 ia, .int .i64 sl, .int .u64 0, .int .i64 0]) (by simp [results, Tryz.results211, go_sem, *]) rfl ⟨rfl, by (repeat (first | exact HB3.out | exact HB3.out.drew | (with_reducible refine Abp ?_ (by omega) _ _) | (with_reducible refine Below.drew ?_)))⟩
theorem Aee (hp : p.ok) (hhi : Hh O w) : Calls Tryz.prog 208 #[.agg #[.int .i64 p.b, .int .i64 p.q, .int .i64 p.s]] w fun e w' => ∃ U, RP (fun t => t = k) w O (.pointer (some ⟨U, 0, none⟩)) (fun W G => Abx W G k U p ⟨0, 0⟩) e w' := by
 have HO := hQd (fun (W : World) => c_of (w := W) hp)
 have HH := hQd hhi
 clear hp hhi
 go_enter Tryz.func208, Tryz.ntmps208
 go_wp2_with fail
 refine (HO.out _).mono ?_
 rintro e w1 ⟨rfl, hb⟩
 have HB : Hid (Below w.heap.size w w1) := hQd ((bal _ _).trans (hb.mono (by simp)))
 obtain ⟨G2, e2, x2, -⟩ := Aar (Ext.of_below (S := fun t => t = k) HH.out HB.out).hi k (Azv p ⟨0, 0⟩).toArray 331 w1.heap.size rfl
 have HE := hQd (aN ((Ext.of_below HH.out HB.out).trans e2) x2)
 clear hb e2 x2
 go_wp2_with fail
 go_ret
 exact ⟨_, rfl, G2, HE.out.1, ⟨HE.out.2⟩⟩
end
end
section
open Go.RowKit
def mk2 (p q : Spt) : List Int := if q.ver = p.ver then [p.ver] else [p.ver, q.ver]
theorem Asb (p q : Spt) : 1 ≤ (mk2 p q).length ∧ (mk2 p q).length ≤ 2 := by unfold mk2; split <;> simp
theorem Bc3 (p q : Spt) (hp : p.ok) (hq : q.ok) {b o c : Nat} {w : World} {O : Om} (g : Nat) (hg : g ≠ 0) (hob : O b ≠ g) (hc : 2 ≤ c ∧ c ≤ maxLen) (hb : b < w.heap.size) (x0 : w.cell? ⟨b, o, none⟩ = some (.int .i64 p.b)) (x1 : w.cell? ⟨b, o + 1, none⟩ = some (.int .i64 p.q)) (x2 : w.cell? ⟨b, o + 2, none⟩ = some (.int .i64 q.b)) (x3 : w.cell? ⟨b, o + 2 + 1, none⟩ = some (.int .i64 q.q)) (hhi : Hh O w) :
 Calls Tryz.prog 210 #[.slice (some ⟨b, o, none⟩) 2 c] w fun e w' => ∃ A, e = .returned (.slice (some ⟨A, 0, none⟩) (mk2 p q).length (mk2 p q).length) ∧ ∃ G, Ext (fun j => j = g) O w G w' ∧ Ob w' G g A (Awj (mk2 p q)) := by
 obtain ⟨i0, hi, hz0, hz1, hz2⟩ := info_parts Ao5
 have HI := hQd (aN hi (aN hz0 (aN hz1 hz2)))
 have hq2 := hp.q2
 have hq3 := hq.q2
 have hv := hp.ver
 have hw := hq.ver
 have HV := hQd (fun W => Ait p.b p.q W (by have := hp.b0; omega) (by have := hp.b1; omega) (by have := hp.q0; omega) (by omega))
 have HW := hQd (fun W => Ait q.b q.q W (by have := hq.b0; omega) (by have := hq.b1; omega) (by have := hq.q0; omega) (by omega))
 unfold mk2
 obtain ⟨ve, hve⟩ := exq p.ver
 have hve2 : Abm p.b p.q = ve := hve.symm
 rw [hve2] at HV
 rw [← hve] at hv ⊢
 obtain ⟨vf, hvf⟩ := exq q.ver
 have hvf2 : Abm q.b q.q = vf := hvf.symm
 rw [hvf2] at HW
 rw [← hvf] at hw ⊢
 obtain ⟨pb, hpb⟩ := exq p.b
 obtain ⟨pq, hpq⟩ := exq p.q
 rw [← hpb, ← hpq] at HV
 rw [← hpb] at x0
 rw [← hpq] at x1
 obtain ⟨qb, hqb⟩ := exq q.b
 obtain ⟨qq, hqq⟩ := exq q.q
 rw [← hqb, ← hqq] at HW
 rw [← hqb] at x2
 rw [← hqq] at x3
 have dv : (ve != 0) = true := by simp; omega
 have dw : (vf != 0) = true := by simp; omega
 have HH := hQd hhi
 clear hp hq hv hw hq2 hq3 hve hve2 hvf hvf2 hpb hpq hqb hqq hhi hi hz0 hz1 hz2
 have KC : ∀ (W : World) (gg cap : Nat) (G : Om) (n : Nat) (xs : List Value), Row W G g 38 1 (.slice (some ⟨gg, 0, none⟩) n cap) n xs → 0 < n → n ≤ cap ∧ cap ≤ maxLen := by
  intro W gg cap G n xs r hn
  obtain ⟨_, _, _, he, h1, h2, -⟩ := (Arr.of_own r.own).open hn (by decide)
  cases he
  exact ⟨h1, h2⟩
 have HKC := hQd KC
 clear KC
 by_cases hvv : vf = ve
 · rw [if_pos hvv]
   have hcv : (vf == ve) = true := by simp [hvv]
   have HCV := hQd hcv
   clear hvv hcv
   go_enter Tryz.func210, Tryz.ntmps210
   go_wp2_with fail
   refine wp_loop_rounds 3 ?_
   rw [rounds_succ]
   go_wp2_with fail
   refine (HV.out _).mono ?_
   rintro e w1 ⟨rfl, hb1⟩
   have HB1 : Hid (Below w.heap.size w w1) := hQd (by first | exact (bal _ _).trans (hb1.mono (by simp)) | exact hb1)
   have E1 := hQd (Ext.of_below (S := fun j => j = g) HH.out HB1.out)
   clear hb1
   go_wp2_with fail
   refine (Aey _ _).mono ?_
   rintro e w' ⟨rfl, rfl⟩
   go_wp2_with (at_builtin; refine Ace w1 rfl _ _ 170 rfl 38 i0 (.int .u64 0) 1 8 Tryz.underlying170 HI.out.1 HI.out.2.1 HI.out.2.2.1 HI.out.2.2.2 rfl (by decide) (by decide) O g hg E1.out.hi (.slice none 0 0) 0 [] rfl (Row.nil _ _ _ _ _) [.int .u64 ve] _ rfl rfl (by simp [Value.oneCell']) (by omega) ?_; intro gg cap w2 G2 e2 r2; have HR2 := hQd r2; have E2 := hQd (E1.out.trans e2); clear e2 r2)
   have y2 := (E2.out.cell (p := ⟨b, o + 2, none⟩) hb hob).trans x2
   have y3 := (E2.out.cell (p := ⟨b, o + 2 + 1, none⟩) hb hob).trans x3
   rw [rounds_succ]
   go_wp2_with fail
   refine (HW.out _).mono ?_
   rintro e w3 ⟨rfl, hb3⟩
   have HB3 : Hid (Below w2.heap.size w2 w3) := hQd (by first | exact (bal _ _).trans (hb3.mono (by simp)) | exact hb3)
   have HR3 := hQd (HR2.out.below HB3.out)
   have E3 := hQd (E2.out.below HB3.out)
   have gc := (HR3.out.ob (by decide)).c 0 _ rfl
   have kc := HKC.out _ _ _ _ _ _ HR3.out (by decide)
   clear hb3 HB3
   go_wp2_with fail
   refine (Ag5 vf ve gg cap _ gc kc).mono ?_
   rintro e w' ⟨rfl, rfl⟩
   rw [HCV.out]
   go_wp2_with fail
   rw [rounds_succ]
   go_wp2_with fail
   refine (Aob _ _ _ _ kc.1 kc.2).mono ?_
   rintro e w' ⟨rfl, rfl⟩
   go_wp2_with fail
   go_ret
   exact ⟨gg, rfl, G2, E3.out, HR3.out.ob (by decide)⟩
 rw [if_neg hvv]
 have hcv : (vf == ve) = false := by simp [hvv]
 have HCV := hQd hcv
 clear hvv hcv
 go_enter Tryz.func210, Tryz.ntmps210
 go_wp2_with fail
 refine wp_loop_rounds 3 ?_
 rw [rounds_succ]
 go_wp2_with fail
 refine (HV.out _).mono ?_
 rintro e w1 ⟨rfl, hb1⟩
 have HB1 : Hid (Below w.heap.size w w1) := hQd (by first | exact (bal _ _).trans (hb1.mono (by simp)) | exact hb1)
 have E1 := hQd (Ext.of_below (S := fun j => j = g) HH.out HB1.out)
 clear hb1
 go_wp2_with fail
 refine (Aey _ _).mono ?_
 rintro e w' ⟨rfl, rfl⟩
 go_wp2_with (at_builtin; refine Ace w1 rfl _ _ 170 rfl 38 i0 (.int .u64 0) 1 8 Tryz.underlying170 HI.out.1 HI.out.2.1 HI.out.2.2.1 HI.out.2.2.2 rfl (by decide) (by decide) O g hg E1.out.hi (.slice none 0 0) 0 [] rfl (Row.nil _ _ _ _ _) [.int .u64 ve] _ rfl rfl (by simp [Value.oneCell']) (by omega) ?_; intro gg cap w2 G2 e2 r2; have HR2 := hQd r2; have E2 := hQd (E1.out.trans e2); clear e2 r2)
 have y2 := (E2.out.cell (p := ⟨b, o + 2, none⟩) hb hob).trans x2
 have y3 := (E2.out.cell (p := ⟨b, o + 2 + 1, none⟩) hb hob).trans x3
 rw [rounds_succ]
 go_wp2_with fail
 refine (HW.out _).mono ?_
 rintro e w3 ⟨rfl, hb3⟩
 have HB3 : Hid (Below w2.heap.size w2 w3) := hQd (by first | exact (bal _ _).trans (hb3.mono (by simp)) | exact hb3)
 have HR3 := hQd (HR2.out.below HB3.out)
 have E3 := hQd (E2.out.below HB3.out)
 have gc := (HR3.out.ob (by decide)).c 0 _ rfl
 have kc := HKC.out _ _ _ _ _ _ HR3.out (by decide)
 clear hb3 HB3
 go_wp2_with fail
 refine (Ag5 vf ve gg cap _ gc kc).mono ?_
 rintro e w' ⟨rfl, rfl⟩
 rw [HCV.out]
 go_wp2_with (at_builtin; refine Ace w3 rfl _ _ 170 rfl 38 i0 (.int .u64 0) 1 8 Tryz.underlying170 HI.out.1 HI.out.2.1 HI.out.2.2.1 HI.out.2.2.2 rfl (by decide) (by decide) G2 g hg E3.out.hi (.slice (some ⟨gg, 0, none⟩) 1 cap) 1 [.int .u64 ve] rfl HR3.out [.int .u64 vf] _ rfl rfl (by simp [Value.oneCell']) (by omega) ?_; intro g4 cap4 w4 G4 e4 r4; have HR4 := hQd r4; have E4 := hQd (E3.out.trans e4); clear e4 r4)
 have kc4 := HKC.out _ _ _ _ _ _ HR4.out (by decide)
 rw [rounds_succ]
 go_wp2_with fail
 refine (Aob _ _ _ _ kc4.1 kc4.2).mono ?_
 rintro e w' ⟨rfl, rfl⟩
 go_wp2_with fail
 go_ret
 exact ⟨g4, rfl, G4, E4.out, HR4.out.ob (by decide)⟩
theorem Ae9 (p q : Spt) (hp : p.ok) (hq : q.ok) {b o c : Nat} {w : World} {O : Om} (k : Nat) (hk : 10 ≤ k) (hob : O b ≠ k + 1) (hc : 2 ≤ c ∧ c ≤ maxLen) (hb : b < w.heap.size) (x0 : w.cell? ⟨b, o, none⟩ = some (.int .i64 p.b)) (x1 : w.cell? ⟨b, o + 1, none⟩ = some (.int .i64 p.q)) (x2 : w.cell? ⟨b, o + 2, none⟩ = some (.int .i64 q.b)) (x3 : w.cell? ⟨b, o + 2 + 1, none⟩ = some (.int .i64 q.q)) (hhi : Hh O w) :
 Calls Tryz.prog 207 #[.slice (some ⟨b, o, none⟩) 2 c] w fun e w' => ∃ X, RP (fun t => t = k ∨ t = k + 1) w O (.pointer (some ⟨X, 0, none⟩)) (fun W G => Ada W G k X (mk2 p q)) e w' := by
 have HO := hQd (Bc3 p q hp hq (k + 1) (by omega) hob hc hb x0 x1 x2 x3 hhi)
 obtain ⟨l, hl⟩ := exq (mk2 p q)
 rw [← hl] at HO ⊢
 obtain ⟨n, hn⟩ := exq l.length
 rw [← hn] at HO
 have HN := hQd hn
 clear hp hq hb x0 x1 x2 x3 hhi hl hn
 go_enter Tryz.func207, Tryz.ntmps207
 go_wp2_with fail
 refine HO.out.mono ?_
 rintro e w1 ⟨A, rfl, G1, e1, a1⟩
 obtain ⟨G2, e2, x2, k2⟩ := Aar e1.hi k #[.slice (some ⟨A, 0, none⟩) n n] 326 w1.heap.size rfl
 have HE := hQd (aN ((e1.mono (T := fun t => t = k ∨ t = k + 1) fun t _ h => .inr h).trans (e2.mono fun t _ h => .inl h)) (aN x2 (k2 _ _ _ a1)))
 clear e1 a1 e2 x2 k2
 go_wp2_with fail
 go_ret
 exact ⟨_, rfl, G2, HE.out.1, ⟨A, 0, l, by rw [← HN.out]; exact HE.out.2.1, HE.out.2.2, .inr rfl⟩⟩
end
end Go.Proofs.YthbodknlhkapdaaGreat
