/- Layer 20: the program's Move: what follows a search that found no slot. Layer 20: a step of the program's Move: a search that found no slot; the whole step. Layer 20: the chapter's example. -/
import Derived.Test.YtfnmdafpdcgcmaaGreatZ8
import Derived.Test.YtfnmdafpdcgcmaaGreatZ3
import Derived.Test.YtfnmdafpdcgcmaaGreatZ1
import Derived.Test.YtfnmdafpdcgcmaaGreatZ7
import Derived.Test.YtfnmdafpdcgcmaaGreatZL
namespace Go.Proofs.YtfnmdafpdcgcmaaGreat
set_option linter.unusedSimpArgs false
section
set_option linter.unusedVariables false
set_option maxHeartbeats 20000000
set_option maxRecDepth 100000
open Go.RowKit Go.Shelf
def NoesPost (w : World) (O : Om) (k X : Nat) (now tag ref lost : Int) (p : Spt) (v0 : Value) (W : World) (G : Om) : Prop :=
 Ext (fun t => t = k ∨ t = k + 1 ∨ t = k + 2 ∨ (k + 19 ≤ t ∧ t ≤ k + 24)) O w G W ∧ ∃ lv' m1 u m2 d, Ob W G k X (mvCs now p lv' tag ref lost) ∧ Sls W G (k + 1) 1 lv' 5 [v0, IMark m1, IDrop u ref p, IMark m2, IAct d] ∧ MkAt W G (k + 19) m1 [p.ver] ∧ OutAt W G (k + 21) u p ⟨0, 0⟩ ∧ MkAt W G (k + 23) m2 [p.ver] ∧ Ob W G (k + 2) d [FAILM X, .bool false]
theorem noS {W : World} {G : Om} {k X : Nat} {now tag ref lost : Int} {p : Spt} {lv : Value} (hx : Ob W G k X (mvCs now p lv tag ref lost)) :
 W.cell? ⟨X, 4, none⟩ = some lv ∧ W.cell? ⟨X, 1, none⟩ = some (.int .i64 p.b) ∧ W.cell? ⟨X, 2, none⟩ = some (.int .i64 p.q) ∧ W.cell? ⟨X, 3, none⟩ = some (.int .i64 p.s) ∧ W.cell? ⟨X, 6, none⟩ = some (.int .i64 ref) :=
 ⟨hx.c 4 _ rfl, hx.c 1 _ rfl, hx.c 2 _ rfl, hx.c 3 _ rfl, hx.c 6 _ rfl⟩
structure NB (w0 : World) (O0 : Om) (k X : Nat) (now tag ref lost : Int) (p : Spt) (lv v0 : Value) (a c m u q d : Option Nat) (W : World) (G : Om) : Prop where
 e : Ext (fun t => t = k ∨ t = k + 1 ∨ t = k + 2 ∨ (k + 19 ≤ t ∧ t ≤ k + 24)) O0 w0 G W
 x : Ob W G k X (mvCs now p lv tag ref lost)
 l : Sls W G (k + 1) 1 lv 1 [v0]
 a : ∀ N, a = some N → Ob W G 0 N [.int .i64 p.b, .int .i64 p.q]
 c : ∀ N, c = some N → Ob W G 0 N [.int .i64 p.b, .int .i64 p.q]
 m : ∀ N, m = some N → MkAt W G (k + 19) N [p.ver]
 u : ∀ N, u = some N → OutAt W G (k + 21) N p ⟨0, 0⟩
 q : ∀ N, q = some N → MkAt W G (k + 23) N [p.ver]
 d : ∀ N, d = some N → Ob W G (k + 2) N [FAILM X, .bool false]
section
variable {w0 : World} {O0 : Om} {k X : Nat} {now tag ref lost : Int} {p : Spt} {lv v0 : Value} {a c m u q d : Option Nat} {W W' : World} {G G' : Om}
theorem NB.below (h : NB w0 O0 k X now tag ref lost p lv v0 a c m u q d W G) (hb : Below W.heap.size W W') : NB w0 O0 k X now tag ref lost p lv v0 a c m u q d W' G :=
 ⟨h.e.below hb, h.x.below hb, h.l.below hb, fun N g => (h.a N g).below hb, fun N g => (h.c N g).below hb, fun N g => (h.m N g).below hb, fun N g => (h.u N g).below hb, fun N g => (h.q N g).below hb, fun N g => (h.d N g).below hb⟩
theorem NB.setA (h : NB w0 O0 k X now tag ref lost p lv v0 none c m u q d W G) : NB w0 O0 k X now tag ref lost p lv v0 (some W.heap.size) c m u q d (W.alloc (.cells #[.int .i64 p.b, .int .i64 p.q] 51)) G := by
 have hb := (Below.refl W.heap.size W).alloc (Nat.le_refl _) (.cells #[.int .i64 p.b, .int .i64 p.q] 51)
 obtain ⟨-, t1⟩ := alloc_nbH (S := fun _ => False) h.e.hi #[.int .i64 p.b, .int .i64 p.q] 51 W.heap.size rfl
 have h' := h.below hb
 exact ⟨h'.e, h'.x, h'.l, (fun N g => by cases g; exact t1), h'.c, h'.m, h'.u, h'.q, h'.d⟩
theorem NB.setC (h : NB w0 O0 k X now tag ref lost p lv v0 a none m u q d W G) : NB w0 O0 k X now tag ref lost p lv v0 a (some W.heap.size) m u q d (W.alloc (.cells #[.int .i64 p.b, .int .i64 p.q] 51)) G := by
 have hb := (Below.refl W.heap.size W).alloc (Nat.le_refl _) (.cells #[.int .i64 p.b, .int .i64 p.q] 51)
 obtain ⟨-, t1⟩ := alloc_nbH (S := fun _ => False) h.e.hi #[.int .i64 p.b, .int .i64 p.q] 51 W.heap.size rfl
 have h' := h.below hb
 exact ⟨h'.e, h'.x, h'.l, h'.a, (fun N g => by cases g; exact t1), h'.m, h'.u, h'.q, h'.d⟩
theorem NB.setD (h : NB w0 O0 k X now tag ref lost p lv v0 a c m u q none W G) (hk : 10 ≤ k) : ∃ G', NB w0 O0 k X now tag ref lost p lv v0 a c m u q (some W.heap.size) (W.alloc (.cells #[.func (.func 161) #[.pointer (some ⟨X, 0, none⟩)] #[], .bool false] 115)) G' := by
 obtain ⟨G', e, t1, kk⟩ := alloc_ob h.e.hi (k + 2) #[.func (.func 161) #[.pointer (some ⟨X, 0, none⟩)] #[], .bool false] 115 W.heap.size rfl
 exact ⟨G', h.e.trans (e.mono fun t _ g => by omega), kk _ _ _ h.x, h.l.ext e (by omega), fun N g => kk _ _ _ (h.a N g), fun N g => kk _ _ _ (h.c N g), fun N g => (h.m N g).ext e (by omega) (by omega), fun N g => (h.u N g).ext e (by omega), fun N g => (h.q N g).ext e (by omega) (by omega), (fun N g => by cases g; exact t1)⟩
theorem NB.setM {N0 : Nat} (h : NB w0 O0 k X now tag ref lost p lv v0 a c none u q d W G) (e : Ext (fun t => t = k + 19 ∨ t = k + 19 + 1) G W G' W') (hm : MkAt W' G' (k + 19) N0 [p.ver]) : NB w0 O0 k X now tag ref lost p lv v0 a c (some N0) u q d W' G' :=
 ⟨h.e.trans (e.mono fun t _ g => by omega), h.x.ext e (by omega), h.l.ext e (by omega), fun N g => (h.a N g).ext e (by omega), fun N g => (h.c N g).ext e (by omega), (fun N g => by cases g; exact hm), fun N g => (h.u N g).ext e (by omega), fun N g => (h.q N g).ext e (by omega) (by omega), fun N g => (h.d N g).ext e (by omega)⟩
theorem NB.setU {N0 : Nat} (h : NB w0 O0 k X now tag ref lost p lv v0 a c m none q d W G) (e : Ext (fun t => t = k + 21) G W G' W') (hm : OutAt W' G' (k + 21) N0 p ⟨0, 0⟩) : NB w0 O0 k X now tag ref lost p lv v0 a c m (some N0) q d W' G' :=
 ⟨h.e.trans (e.mono fun t _ g => by omega), h.x.ext e (by omega), h.l.ext e (by omega), fun N g => (h.a N g).ext e (by omega), fun N g => (h.c N g).ext e (by omega), fun N g => (h.m N g).ext e (by omega) (by omega), (fun N g => by cases g; exact hm), fun N g => (h.q N g).ext e (by omega) (by omega), fun N g => (h.d N g).ext e (by omega)⟩
theorem NB.setQ {N0 : Nat} (h : NB w0 O0 k X now tag ref lost p lv v0 a c m u none d W G) (e : Ext (fun t => t = k + 23 ∨ t = k + 23 + 1) G W G' W') (hm : MkAt W' G' (k + 23) N0 [p.ver]) : NB w0 O0 k X now tag ref lost p lv v0 a c m u (some N0) d W' G' :=
 ⟨h.e.trans (e.mono fun t _ g => by omega), h.x.ext e (by omega), h.l.ext e (by omega), fun N g => (h.a N g).ext e (by omega), fun N g => (h.c N g).ext e (by omega), fun N g => (h.m N g).ext e (by omega) (by omega), fun N g => (h.u N g).ext e (by omega), (fun N g => by cases g; exact hm), fun N g => (h.d N g).ext e (by omega)⟩
structure NC (w0 : World) (O0 : Om) (k X : Nat) (now tag ref lost : Int) (p : Spt) (lv : Value) (m u q d : Nat) (W : World) (G : Om) : Prop where
 e : Ext (fun t => t = k ∨ t = k + 1 ∨ t = k + 2 ∨ (k + 19 ≤ t ∧ t ≤ k + 24)) O0 w0 G W
 x : Ob W G k X (mvCs now p lv tag ref lost)
 m : MkAt W G (k + 19) m [p.ver]
 u : OutAt W G (k + 21) u p ⟨0, 0⟩
 q : MkAt W G (k + 23) q [p.ver]
 d : Ob W G (k + 2) d [FAILM X, .bool false]
theorem NB.app {m u q d : Nat} (h : NB w0 O0 k X now tag ref lost p lv v0 a c (some m) (some u) (some q) (some d) W G) (e : Ext (fun t => t = k + 1) G W G' W') : NC w0 O0 k X now tag ref lost p lv m u q d W' G' :=
 ⟨h.e.trans (e.mono fun t _ g => by omega), h.x.ext e (by omega), (h.m m rfl).ext e (by omega) (by omega), (h.u u rfl).ext e (by omega), (h.q q rfl).ext e (by omega) (by omega), (h.d d rfl).ext e (by omega)⟩
theorem NC.fin {m u q d : Nat} (h : NC w0 O0 k X now tag ref lost p lv m u q d W G) (hk : 10 ≤ k) (v : Value) (hs : Sls W G (k + 1) 1 v (1 + 4) ([v0] ++ [IMark m, IDrop u ref p, IMark q, IAct d])) : NoesPost w0 O0 k X now tag ref lost p v0 (W.setCell ⟨X, 4, none⟩ v) G := by
 have e := ext_set (j := 4) (v := v) h.e.hi h.x hk
 exact ⟨h.e.trans (e.mono fun t _ g => .inl g), _, m, u, q, d, h.x.set 4 v (by simp [mvCs]), hs.ext e (by omega), h.m.ext e (by omega) (by omega), h.u.ext e (by omega), h.q.ext e (by omega) (by omega), h.d.ext e (by omega)⟩
end
section
variable {X : Nat} {w : World} {O : Om} {B : Wb} {f : Cf} {s : AW} {k : Nat}
theorem c_MvGoesNo {now tag ref lost : Int} {p : Spt} {lv v0 : Value} (hx : Ob w O k X (mvCs now p lv tag ref lost)) (hS : Sls w O (k + 1) 1 lv 1 [v0]) (hp : p.ok) (hk : 10 ≤ k) (hhi : ∀ j, O j ≠ 0 → j < w.heap.size) :
 Calls Tryz.prog 159 #[.pointer (some ⟨X, 0, none⟩), .agg #[.int .i64 0, .int .i64 0, .int .i64 0], .bool false] w fun e w' => e = .returned (.tuple #[]) ∧ ∃ G, NoesPost w O k X now tag ref lost p v0 w' G := by
 obtain ⟨A, o, cp, rfl, hc1, hc2⟩ := hS.open (by decide)
 have HP := Lib.hid hp
 have hb := (Below.refl w.heap.size w).alloc (Nat.le_refl _) (.cells #[.int .i64 0, .int .i64 0, .int .i64 0] 56)
 have HE := Lib.hid (Ext.of_below (S := fun t => t = k ∨ t = k + 1 ∨ t = k + 2 ∨ (k + 19 ≤ t ∧ t ≤ k + 24)) hhi hb)
 have HX := Lib.hid (hx.below hb)
 have HL := Lib.hid (hS.below hb)
 obtain ⟨i0, hi, hz0, hz1, hz2⟩ := info_parts infoPart
 have HI := Lib.hid (And.intro hi (And.intro hz0 (And.intro hz1 hz2)))
 clear hp hhi hb hi hz0 hz1 hz2 hx hS
 go_enter Tryz.func159, Tryz.ntmps159
 go_upto_region 3 with fail
 obtain ⟨w1, hw1⟩ : ∃ W, W = w.alloc (.cells #[.int .i64 0, .int .i64 0, .int .i64 0] 56) := ⟨_, rfl⟩
 rw [← hw1] at HE HX HL ⊢
 clear hw1
 refine' share6 (I := fun a c m u q d W G => NB w O k X now tag ref lost p (.slice (some ⟨A, o, none⟩) 1 cp) v0 (some a) (some c) (some m) (some u) (some q) (some d) W G) (fun sh10 => ?_) ?t10
 rotate_left
 refine' share5 (I := fun a c m u d W G => NB w O k X now tag ref lost p (.slice (some ⟨A, o, none⟩) 1 cp) v0 (some a) (some c) (some m) (some u) none (some d) W G) (fun sh9 => ?_) ?t9
 rotate_left
 refine' share4 (I := fun a c m d W G => NB w O k X now tag ref lost p (.slice (some ⟨A, o, none⟩) 1 cp) v0 (some a) (some c) (some m) none none (some d) W G) (fun sh8 => ?_) ?t8
 rotate_left
 refine' share4 (I := fun a m u d W G => NB w O k X now tag ref lost p (.slice (some ⟨A, o, none⟩) 1 cp) v0 (some a) none (some m) (some u) none (some d) W G) (fun sh7 => ?_) ?t7
 rotate_left
 refine' share4 (I := fun a c m u W G => NB w O k X now tag ref lost p (.slice (some ⟨A, o, none⟩) 1 cp) v0 (some a) (some c) (some m) (some u) none none W G) (fun sh6 => ?_) ?t6
 rotate_left
 refine' share3 (I := fun a c d W G => NB w O k X now tag ref lost p (.slice (some ⟨A, o, none⟩) 1 cp) v0 (some a) (some c) none none none (some d) W G) (fun sh5 => ?_) ?t5
 rotate_left
 refine' share3 (I := fun a m d W G => NB w O k X now tag ref lost p (.slice (some ⟨A, o, none⟩) 1 cp) v0 (some a) none (some m) none none (some d) W G) (fun sh4 => ?_) ?t4
 rotate_left
 refine' share3 (I := fun a c m W G => NB w O k X now tag ref lost p (.slice (some ⟨A, o, none⟩) 1 cp) v0 (some a) (some c) (some m) none none none W G) (fun sh3 => ?_) ?t3
 rotate_left
 refine' share2 (I := fun c d W G => NB w O k X now tag ref lost p (.slice (some ⟨A, o, none⟩) 1 cp) v0 none (some c) none none none (some d) W G) (fun sh2 => ?_) ?t2
 rotate_left
 refine' share2 (I := fun a d W G => NB w O k X now tag ref lost p (.slice (some ⟨A, o, none⟩) 1 cp) v0 (some a) none none none none (some d) W G) (fun sh1 => ?_) ?t1
 rotate_left
 refine' share2 (I := fun a c W G => NB w O k X now tag ref lost p (.slice (some ⟨A, o, none⟩) 1 cp) v0 (some a) (some c) none none none none W G) (fun sh0 => ?_) ?t0
 rotate_left
 refine wp_region_F 45 (S := fun w' => w'.cell? ⟨X, 4, none⟩ = some (.slice (some ⟨A, o, none⟩) 1 cp) ∧ w'.cell? ⟨X, 1, none⟩ = some (.int .i64 p.b) ∧ w'.cell? ⟨X, 2, none⟩ = some (.int .i64 p.q) ∧ w'.cell? ⟨X, 3, none⟩ = some (.int .i64 p.s) ∧ w'.cell? ⟨X, 6, none⟩ = some (.int .i64 ref)) (by kernel_rfl) ?sA (fun hH0 => ?rA)
 case sA => exact noS (HX.out.below (drew_below _))
 have B0 : Hid (NB w O k X now tag ref lost p (.slice (some ⟨A, o, none⟩) 1 cp) v0 none none none none none none w1.drew O) := Lib.hid ⟨HE.out.below (drew_below w1), HX.out.below (drew_below w1), HL.out.below (drew_below w1), (fun _ h => by cases h), (fun _ h => by cases h), (fun _ h => by cases h), (fun _ h => by cases h), (fun _ h => by cases h), (fun _ h => by cases h)⟩
 obtain ⟨wd, hwd⟩ : ∃ z, z = w1.drew := ⟨_, rfl⟩
 rw [← hwd] at hH0 B0 ⊢
 clear hwd
 try simp only [Act.put, List.setIfInBounds_toArray, List.set_cons_zero, List.set_cons_succ]
 refine' wpAnyF_take (i := 0) (List.getElem?_toArray.trans rfl) (by kernel_rfl) (by kernel_rfl) (by kernel_rfl) (by kernel_rfl) (fun _ _ _ h => h) (Or.inl ⟨by rfl, ?y1⟩) hH0 ?r1
 case y1 => (intro w hSw; (try dsimp only at hSw); go_simp; try with_reducible rfl)
 try simp only [Act.put, List.setIfInBounds_toArray, List.set_cons_zero, List.set_cons_succ]
 refine' wpAnyF_take (i := 1) (List.getElem?_toArray.trans rfl) (by kernel_rfl) (by kernel_rfl) (by kernel_rfl) (by kernel_rfl) (fun _ _ _ h => h) (Or.inl ⟨by rfl, ?y2⟩) hH0 ?r2
 case y2 => (intro w hSw; (try dsimp only at hSw); go_simp; try with_reducible rfl)
 try simp only [Act.put, List.setIfInBounds_toArray, List.set_cons_zero, List.set_cons_succ]
 refine' wpAnyF_take (i := 2) (List.getElem?_toArray.trans rfl) (by kernel_rfl) (by kernel_rfl) (by kernel_rfl) (by kernel_rfl) (fun _ _ _ h => h) (Or.inl ⟨by rfl, ?y3⟩) hH0 ?r3
 case y3 => (intro w hSw; (try dsimp only at hSw); go_simp; try with_reducible rfl)
 try simp only [Act.put, List.setIfInBounds_toArray, List.set_cons_zero, List.set_cons_succ]
 refine' wpAnyF_take (i := 3) (List.getElem?_toArray.trans rfl) (by kernel_rfl) (by kernel_rfl) (by kernel_rfl) (by kernel_rfl) (fun _ _ _ h => h) (Or.inl ⟨by rfl, ?y4⟩) hH0 ?r4
 case y4 => (intro w hSw; (try dsimp only at hSw); go_simp; try with_reducible rfl)
 try simp only [Act.put, List.setIfInBounds_toArray, List.set_cons_zero, List.set_cons_succ]
 refine' wpAnyF_take (i := 4) (List.getElem?_toArray.trans rfl) (by kernel_rfl) (by kernel_rfl) (by kernel_rfl) (by kernel_rfl) (fun _ _ _ h => h) (Or.inl ⟨by rfl, ?y5⟩) hH0 ?r5
 case y5 => (intro w hSw; (try dsimp only at hSw); go_simp; try with_reducible rfl)
 try simp only [Act.put, List.setIfInBounds_toArray, List.set_cons_zero, List.set_cons_succ]
 refine' wpAnyF_take (i := 5) (List.getElem?_toArray.trans rfl) (by kernel_rfl) (by kernel_rfl) (by kernel_rfl) (by kernel_rfl) (fun _ _ _ h => h) (Or.inl ⟨by rfl, ?y6⟩) hH0 ?r6
 case y6 => (intro w hSw; (try dsimp only at hSw); go_simp; try with_reducible rfl)
 try simp only [Act.put, List.setIfInBounds_toArray, List.set_cons_zero, List.set_cons_succ]
 refine' wpAnyF_take (i := 6) (List.getElem?_toArray.trans rfl) (by kernel_rfl) (by kernel_rfl) (by kernel_rfl) (by kernel_rfl) (fun _ _ _ h => h) (Or.inl ⟨by rfl, ?y7⟩) hH0 ?r7
 case y7 => (intro w hSw; (try dsimp only at hSw); go_simp; try with_reducible rfl)
 try simp only [Act.put, List.setIfInBounds_toArray, List.set_cons_zero, List.set_cons_succ]
 refine' wpAnyF_take (i := 7) (List.getElem?_toArray.trans rfl) (by kernel_rfl) (by kernel_rfl) (by kernel_rfl) (by kernel_rfl) (fun _ _ _ h => h) (Or.inl ⟨by rfl, ?y8⟩) hH0 ?r8
 case y8 => (intro w hSw; (try dsimp only at hSw); go_simp; try with_reducible rfl)
 try simp only [Act.put, List.setIfInBounds_toArray, List.set_cons_zero, List.set_cons_succ]
 refine' wpAnyF_take (i := 8) (List.getElem?_toArray.trans rfl) (by kernel_rfl) (by kernel_rfl) (by kernel_rfl) (by kernel_rfl) (fun _ _ _ h => h) (Or.inl ⟨by rfl, ?y9⟩) hH0 ?r9
 case y9 => (intro w hSw; (try dsimp only at hSw); go_simp; try with_reducible rfl)
 try simp only [Act.put, List.setIfInBounds_toArray, List.set_cons_zero, List.set_cons_succ]
 refine' wpAnyF_take (i := 9) (List.getElem?_toArray.trans rfl) (by kernel_rfl) (by kernel_rfl) (by kernel_rfl) (by kernel_rfl) (fun _ _ _ h => h) (Or.inl ⟨by rfl, ?y10⟩) hH0 ?r10
 case y10 => (intro w hSw; (try dsimp only at hSw); go_simp; try with_reducible rfl)
 try simp only [Act.put, List.setIfInBounds_toArray, List.set_cons_zero, List.set_cons_succ]
 refine' wpAnyF_take (i := 13) (List.getElem?_toArray.trans rfl) (by kernel_rfl) (by kernel_rfl) (by kernel_rfl) (by kernel_rfl) (fun _ _ _ h => h) (Or.inl ⟨by rfl, ?y11⟩) hH0 ?r11
 case y11 => (intro w hSw; (try dsimp only at hSw); go_simp; try with_reducible rfl)
 try simp only [Act.put, List.setIfInBounds_toArray, List.set_cons_zero, List.set_cons_succ]
 refine' wpAnyF_take (i := 14) (List.getElem?_toArray.trans rfl) (by kernel_rfl) (by kernel_rfl) (by kernel_rfl) (by kernel_rfl) (fun _ _ _ h => h) (Or.inl ⟨by rfl, ?y12⟩) hH0 ?r12
 case y12 => (intro w hSw; (try dsimp only at hSw); go_simp; try with_reducible rfl)
 try simp only [Act.put, List.setIfInBounds_toArray, List.set_cons_zero, List.set_cons_succ]
 refine' wpAnyF_take (i := 15) (List.getElem?_toArray.trans rfl) (by kernel_rfl) (by kernel_rfl) (by kernel_rfl) (by kernel_rfl) (fun _ _ _ h => h) (Or.inl ⟨by rfl, ?y13⟩) hH0 ?r13
 case y13 => (intro w hSw; (try dsimp only at hSw); go_simp; try with_reducible rfl)
 try simp only [Act.put, List.setIfInBounds_toArray, List.set_cons_zero, List.set_cons_succ]
 refine' wpAnyF_take (i := 16) (List.getElem?_toArray.trans rfl) (by kernel_rfl) (by kernel_rfl) (by kernel_rfl) (by kernel_rfl) (fun _ _ _ h => h) (Or.inl ⟨by rfl, ?y14⟩) hH0 ?r14
 case y14 => (intro w hSw; (try dsimp only at hSw); go_simp; try with_reducible rfl)
 try simp only [Act.put, List.setIfInBounds_toArray, List.set_cons_zero, List.set_cons_succ]
 refine' wpAnyF_take (i := 18) (List.getElem?_toArray.trans rfl) (by kernel_rfl) (by kernel_rfl) (by kernel_rfl) (by kernel_rfl) (fun _ _ _ h => h) (Or.inl ⟨by rfl, ?y15⟩) hH0 ?r15
 case y15 => (intro w hSw; (try dsimp only at hSw); go_simp; try with_reducible rfl)
 try simp only [Act.put, List.setIfInBounds_toArray, List.set_cons_zero, List.set_cons_succ]
 refine' wpAnyF_take (i := 19) (List.getElem?_toArray.trans rfl) (by kernel_rfl) (by kernel_rfl) (by kernel_rfl) (by kernel_rfl) (fun _ _ _ h => h) (Or.inl ⟨by rfl, ?y16⟩) hH0 ?r16
 case y16 => (intro w hSw; (try dsimp only at hSw); go_simp; try with_reducible rfl)
 try simp only [Act.put, List.setIfInBounds_toArray, List.set_cons_zero, List.set_cons_succ]
 refine' wpAnyF_take (i := 20) (List.getElem?_toArray.trans rfl) (by kernel_rfl) (by kernel_rfl) (by kernel_rfl) (by kernel_rfl) (fun _ _ _ h => h) (Or.inl ⟨by rfl, ?y17⟩) hH0 ?r17
 case y17 => (intro w hSw; (try dsimp only at hSw); go_simp; try with_reducible rfl)
 try simp only [Act.put, List.setIfInBounds_toArray, List.set_cons_zero, List.set_cons_succ]
 refine' wpAnyF_take (i := 21) (List.getElem?_toArray.trans rfl) (by kernel_rfl) (by kernel_rfl) (by kernel_rfl) (by kernel_rfl) (fun _ _ _ h => h) (Or.inl ⟨by rfl, ?y18⟩) hH0 ?r18
 case y18 => (intro w hSw; (try dsimp only at hSw); go_simp; try with_reducible rfl)
 try simp only [Act.put, List.setIfInBounds_toArray, List.set_cons_zero, List.set_cons_succ]
 refine' wpAnyF_take (i := 22) (List.getElem?_toArray.trans rfl) (by kernel_rfl) (by kernel_rfl) (by kernel_rfl) (by kernel_rfl) (fun _ _ _ h => h) (Or.inl ⟨by rfl, ?y19⟩) hH0 ?r19
 case y19 => (intro w hSw; (try dsimp only at hSw); go_simp; try with_reducible rfl)
 try simp only [Act.put, List.setIfInBounds_toArray, List.set_cons_zero, List.set_cons_succ]
 refine' wpAnyF_take (i := 23) (List.getElem?_toArray.trans rfl) (by kernel_rfl) (by kernel_rfl) (by kernel_rfl) (by kernel_rfl) (fun _ _ _ h => h) (Or.inl ⟨by rfl, ?y20⟩) hH0 ?r20
 case y20 => (intro w hSw; (try dsimp only at hSw); go_simp; try with_reducible rfl)
 try simp only [Act.put, List.setIfInBounds_toArray, List.set_cons_zero, List.set_cons_succ]
 refine' wpAnyF_take (i := 24) (List.getElem?_toArray.trans rfl) (by kernel_rfl) (by kernel_rfl) (by kernel_rfl) (by kernel_rfl) (fun _ _ _ h => h) (Or.inl ⟨by rfl, ?y21⟩) hH0 ?r21
 case y21 => (intro w hSw; (try dsimp only at hSw); go_simp; try with_reducible rfl)
 try simp only [Act.put, List.setIfInBounds_toArray, List.set_cons_zero, List.set_cons_succ]
 refine' wpAnyF_take (i := 25) (List.getElem?_toArray.trans rfl) (by kernel_rfl) (by kernel_rfl) (by kernel_rfl) (by kernel_rfl) (fun _ _ _ h => h) (Or.inl ⟨by rfl, ?y22⟩) hH0 ?r22
 case y22 => (intro w hSw; (try dsimp only at hSw); go_simp; try with_reducible rfl)
 try simp only [Act.put, List.setIfInBounds_toArray, List.set_cons_zero, List.set_cons_succ]
 refine' wpAnyF_take (i := 28) (List.getElem?_toArray.trans rfl) (by kernel_rfl) (by kernel_rfl) (by kernel_rfl) (by kernel_rfl) (fun _ _ _ h => h) (Or.inl ⟨by rfl, ?y23⟩) hH0 ?r23
 case y23 => (intro w hSw; (try dsimp only at hSw); go_simp; try with_reducible rfl)
 try simp only [Act.put, List.setIfInBounds_toArray, List.set_cons_zero, List.set_cons_succ]
 refine' wpAnyF_take (i := 29) (List.getElem?_toArray.trans rfl) (by kernel_rfl) (by kernel_rfl) (by kernel_rfl) (by kernel_rfl) (fun _ _ _ h => h) (Or.inl ⟨by rfl, ?y24⟩) hH0 ?r24
 case y24 => (intro w hSw; (try dsimp only at hSw); go_simp; try with_reducible rfl)
 try simp only [Act.put, List.setIfInBounds_toArray, List.set_cons_zero, List.set_cons_succ]
 refine' wpAnyF_take (i := 30) (List.getElem?_toArray.trans rfl) (by kernel_rfl) (by kernel_rfl) (by kernel_rfl) (by kernel_rfl) (fun _ _ _ h => h) (Or.inl ⟨by rfl, ?y25⟩) hH0 ?r25
 case y25 => (intro w hSw; (try dsimp only at hSw); go_simp; try with_reducible rfl)
 try simp only [Act.put, List.setIfInBounds_toArray, List.set_cons_zero, List.set_cons_succ]
 refine' wpAnyF_take (i := 31) (List.getElem?_toArray.trans rfl) (by kernel_rfl) (by kernel_rfl) (by kernel_rfl) (by kernel_rfl) (fun _ _ _ h => h) (Or.inl ⟨by rfl, ?y26⟩) hH0 ?r26
 case y26 => (intro w hSw; (try dsimp only at hSw); go_simp; try with_reducible rfl)
 try simp only [Act.put, List.setIfInBounds_toArray, List.set_cons_zero, List.set_cons_succ]
 refine' wpAnyF_take (i := 32) (List.getElem?_toArray.trans rfl) (by kernel_rfl) (by kernel_rfl) (by kernel_rfl) (by kernel_rfl) (fun _ _ _ h => h) (Or.inl ⟨by rfl, ?y27⟩) hH0 ?r27
 case y27 => (intro w hSw; (try dsimp only at hSw); go_simp; try with_reducible rfl)
 try simp only [Act.put, List.setIfInBounds_toArray, List.set_cons_zero, List.set_cons_succ]
 refine' wpAnyF_take (i := 36) (List.getElem?_toArray.trans rfl) (by kernel_rfl) (by kernel_rfl) (by kernel_rfl) (by kernel_rfl) (fun _ _ _ h => h) (Or.inl ⟨by rfl, ?y28⟩) hH0 ?r28
 case y28 => (intro w hSw; (try dsimp only at hSw); go_simp; try with_reducible rfl)
 try simp only [Act.put, List.setIfInBounds_toArray, List.set_cons_zero, List.set_cons_succ]
 refine' wpAnyF_take (i := 37) (List.getElem?_toArray.trans rfl) (by kernel_rfl) (by kernel_rfl) (by kernel_rfl) (by kernel_rfl) (fun _ _ _ h => h) (Or.inl ⟨by rfl, ?y29⟩) hH0 ?r29
 case y29 => (intro w hSw; (try dsimp only at hSw); go_simp; try with_reducible rfl)
 try simp only [Act.put, List.setIfInBounds_toArray, List.set_cons_zero, List.set_cons_succ]
 refine' wpAnyF_take (i := 38) (List.getElem?_toArray.trans rfl) (by kernel_rfl) (by kernel_rfl) (by kernel_rfl) (by kernel_rfl) (fun _ _ _ h => h) (Or.inl ⟨by rfl, ?y30⟩) hH0 ?r30
 case y30 => (intro w hSw; (try dsimp only at hSw); go_simp; try with_reducible rfl)
 try simp only [Act.put, List.setIfInBounds_toArray, List.set_cons_zero, List.set_cons_succ]
 refine wpAnyF_ready (rs := [10, 33, 39]) (by kernel_rfl) (by simp) ?_
 refine' AllReadyF.cons (List.getElem?_toArray.trans rfl) (fun K hK => ?st31) ?more31
 case st31 =>
  go_simp
  refine hK.out _ _ ?s32 (fun hH32 => ?r32)
  case s32 => ((try dsimp only); exact noS (B0.out.x.below ((Below.refl _ _).alloc (Nat.le_refl _) _)))
  have b32 := B0.out.setA
  obtain ⟨v32, hv32⟩ : ∃ v, v = wd.alloc (.cells #[.int .i64 p.b, .int .i64 p.q] 51) := ⟨_, rfl⟩
  obtain ⟨N32, hn32⟩ : ∃ x, x = wd.heap.size := ⟨_, rfl⟩
  rw [← hv32] at hH32 b32 ⊢
  rw [← hn32] at b32 ⊢
  have B32 := Lib.hid b32
  clear hv32 hn32 b32 B0
  clear hK K hH0
  try simp only [Act.put, List.setIfInBounds_toArray, List.set_cons_zero, List.set_cons_succ]
  refine wpAnyF_ready (rs := [11, 33, 39]) (by kernel_rfl) (by simp) ?_
  refine' AllReadyF.cons (List.getElem?_toArray.trans rfl) (fun K hK => ?st33) ?more33
  case st33 =>
   go_simp
   refine' Calls.mono (c_NewMark1 p HP.out (k + 19) (by omega) ⟨Nat.le_refl _, by unfold maxLen; decide⟩ (B32.out.a _ rfl).lt ((B32.out.a _ rfl).c 0 _ rfl) ((B32.out.a _ rfl).c 1 _ rfl) B32.out.e.hi) ?c34
   rintro e w34 ⟨m34, rfl, G34, e34, a34⟩
   have B34 := Lib.hid (B32.out.setM e34 a34)
   clear a34 e34 B32
   try go_wp2_with fail
   refine hK.out _ _ ?s34 (fun hH34 => ?r34)
   case s34 => ((try dsimp only); exact noS B34.out.x)
   clear hK K hH32
   try simp only [Act.put, List.setIfInBounds_toArray, List.set_cons_zero, List.set_cons_succ]
   refine' wpAnyF_take (i := 12) (List.getElem?_toArray.trans rfl) (by kernel_rfl) (by kernel_rfl) (by kernel_rfl) (by kernel_rfl) (fun _ _ _ h => h) (Or.inl ⟨by rfl, ?y35⟩) hH34 ?r35
   case y35 => (intro w hSw; (try dsimp only at hSw); go_simp; try with_reducible rfl)
   try simp only [Act.put, List.setIfInBounds_toArray, List.set_cons_zero, List.set_cons_succ]
   refine wpAnyF_ready (rs := [17, 33, 39]) (by kernel_rfl) (by simp) ?_
   refine' AllReadyF.cons (List.getElem?_toArray.trans rfl) (fun K hK => ?st36) ?more36
   case st36 =>
    go_simp
    refine' Calls.mono (c_NewOut (k := k + 21) HP.out B34.out.e.hi) ?c37
    rintro e w37 ⟨m37, rfl, G37, e37, a37⟩
    have B37 := Lib.hid (B34.out.setU e37 a37)
    clear a37 e37 B34
    try go_wp2_with fail
    refine hK.out _ _ ?s37 (fun hH37 => ?r37)
    case s37 => ((try dsimp only); exact noS B37.out.x)
    clear hK K hH34
    try simp only [Act.put, List.setIfInBounds_toArray, List.set_cons_zero, List.set_cons_succ]
    refine' wpAnyF_take (i := 26) (List.getElem?_toArray.trans rfl) (by kernel_rfl) (by kernel_rfl) (by kernel_rfl) (by kernel_rfl) (fun _ _ _ h => h) (Or.inl ⟨by rfl, ?y38⟩) hH37 ?r38
    case y38 => (intro w hSw; (try dsimp only at hSw); go_simp; try with_reducible rfl)
    try simp only [Act.put, List.setIfInBounds_toArray, List.set_cons_zero, List.set_cons_succ]
    refine' wpAnyF_take (i := 27) (List.getElem?_toArray.trans rfl) (by kernel_rfl) (by kernel_rfl) (by kernel_rfl) (by kernel_rfl) (fun _ _ _ h => h) (Or.inl ⟨by rfl, ?y39⟩) hH37 ?r39
    case y39 => (intro w hSw; (try dsimp only at hSw); go_simp; try with_reducible rfl)
    try simp only [Act.put, List.setIfInBounds_toArray, List.set_cons_zero, List.set_cons_succ]
    refine wpAnyF_ready (rs := [33, 39]) (by kernel_rfl) (by simp) ?_
    refine' AllReadyF.cons (List.getElem?_toArray.trans rfl) (fun K hK => ?st40) ?more40
    case st40 =>
     go_simp
     refine hK.out _ _ ?s41 (fun hH41 => ?r41)
     case s41 => ((try dsimp only); exact noS (B37.out.x.below ((Below.refl _ _).alloc (Nat.le_refl _) _)))
     have b41 := B37.out.setC
     obtain ⟨v41, hv41⟩ : ∃ v, v = w37.alloc (.cells #[.int .i64 p.b, .int .i64 p.q] 51) := ⟨_, rfl⟩
     obtain ⟨N41, hn41⟩ : ∃ x, x = w37.heap.size := ⟨_, rfl⟩
     rw [← hv41] at hH41 b41 ⊢
     rw [← hn41] at b41 ⊢
     have B41 := Lib.hid b41
     clear hv41 hn41 b41 B37
     clear hK K hH37
     try simp only [Act.put, List.setIfInBounds_toArray, List.set_cons_zero, List.set_cons_succ]
     exact sh6 N32 N41 m34 m37 v41 G37 B41.out
    refine' AllReadyF.cons (List.getElem?_toArray.trans rfl) (fun K hK => ?st42) ?more42
    case st42 =>
     go_simp
     refine hK.out _ _ ?s43 (fun hH43 => ?r43)
     case s43 => ((try dsimp only); exact noS (B37.out.x.below ((Below.refl _ _).alloc (Nat.le_refl _) _)))
     obtain ⟨H43, b43⟩ := B37.out.setD hk
     obtain ⟨v43, hv43⟩ : ∃ v, v = w37.alloc (.cells #[.func (.func 161) #[.pointer (some ⟨X, 0, none⟩)] #[], .bool false] 115) := ⟨_, rfl⟩
     obtain ⟨N43, hn43⟩ : ∃ x, x = w37.heap.size := ⟨_, rfl⟩
     rw [← hv43] at hH43 b43 ⊢
     rw [← hn43] at b43 ⊢
     have B43 := Lib.hid b43
     clear hv43 hn43 b43 B37
     clear hK K hH37
     try simp only [Act.put, List.setIfInBounds_toArray, List.set_cons_zero, List.set_cons_succ]
     refine' wpAnyF_take (i := 40) (List.getElem?_toArray.trans rfl) (by kernel_rfl) (by kernel_rfl) (by kernel_rfl) (by kernel_rfl) (fun _ _ _ h => h) (Or.inl ⟨by rfl, ?y44⟩) hH43 ?r44
     case y44 => (intro w hSw; (try dsimp only at hSw); go_simp; try with_reducible rfl)
     try simp only [Act.put, List.setIfInBounds_toArray, List.set_cons_zero, List.set_cons_succ]
     exact sh7 N32 m34 m37 N43 v43 H43 B43.out
    exact AllReadyF.nil
   refine' AllReadyF.cons (List.getElem?_toArray.trans rfl) (fun K hK => ?st45) ?more45
   case st45 =>
    go_simp
    refine hK.out _ _ ?s46 (fun hH46 => ?r46)
    case s46 => ((try dsimp only); exact noS (B34.out.x.below ((Below.refl _ _).alloc (Nat.le_refl _) _)))
    have b46 := B34.out.setC
    obtain ⟨v46, hv46⟩ : ∃ v, v = w34.alloc (.cells #[.int .i64 p.b, .int .i64 p.q] 51) := ⟨_, rfl⟩
    obtain ⟨N46, hn46⟩ : ∃ x, x = w34.heap.size := ⟨_, rfl⟩
    rw [← hv46] at hH46 b46 ⊢
    rw [← hn46] at b46 ⊢
    have B46 := Lib.hid b46
    clear hv46 hn46 b46 B34
    clear hK K hH34
    try simp only [Act.put, List.setIfInBounds_toArray, List.set_cons_zero, List.set_cons_succ]
    exact sh3 N32 N46 m34 v46 G34 B46.out
   refine' AllReadyF.cons (List.getElem?_toArray.trans rfl) (fun K hK => ?st47) ?more47
   case st47 =>
    go_simp
    refine hK.out _ _ ?s48 (fun hH48 => ?r48)
    case s48 => ((try dsimp only); exact noS (B34.out.x.below ((Below.refl _ _).alloc (Nat.le_refl _) _)))
    obtain ⟨H48, b48⟩ := B34.out.setD hk
    obtain ⟨v48, hv48⟩ : ∃ v, v = w34.alloc (.cells #[.func (.func 161) #[.pointer (some ⟨X, 0, none⟩)] #[], .bool false] 115) := ⟨_, rfl⟩
    obtain ⟨N48, hn48⟩ : ∃ x, x = w34.heap.size := ⟨_, rfl⟩
    rw [← hv48] at hH48 b48 ⊢
    rw [← hn48] at b48 ⊢
    have B48 := Lib.hid b48
    clear hv48 hn48 b48 B34
    clear hK K hH34
    try simp only [Act.put, List.setIfInBounds_toArray, List.set_cons_zero, List.set_cons_succ]
    refine' wpAnyF_take (i := 40) (List.getElem?_toArray.trans rfl) (by kernel_rfl) (by kernel_rfl) (by kernel_rfl) (by kernel_rfl) (fun _ _ _ h => h) (Or.inl ⟨by rfl, ?y49⟩) hH48 ?r49
    case y49 => (intro w hSw; (try dsimp only at hSw); go_simp; try with_reducible rfl)
    try simp only [Act.put, List.setIfInBounds_toArray, List.set_cons_zero, List.set_cons_succ]
    exact sh4 N32 m34 N48 v48 H48 B48.out
   exact AllReadyF.nil
  refine' AllReadyF.cons (List.getElem?_toArray.trans rfl) (fun K hK => ?st50) ?more50
  case st50 =>
   go_simp
   refine hK.out _ _ ?s51 (fun hH51 => ?r51)
   case s51 => ((try dsimp only); exact noS (B32.out.x.below ((Below.refl _ _).alloc (Nat.le_refl _) _)))
   have b51 := B32.out.setC
   obtain ⟨v51, hv51⟩ : ∃ v, v = v32.alloc (.cells #[.int .i64 p.b, .int .i64 p.q] 51) := ⟨_, rfl⟩
   obtain ⟨N51, hn51⟩ : ∃ x, x = v32.heap.size := ⟨_, rfl⟩
   rw [← hv51] at hH51 b51 ⊢
   rw [← hn51] at b51 ⊢
   have B51 := Lib.hid b51
   clear hv51 hn51 b51 B32
   clear hK K hH32
   try simp only [Act.put, List.setIfInBounds_toArray, List.set_cons_zero, List.set_cons_succ]
   exact sh0 N32 N51 v51 O B51.out
  refine' AllReadyF.cons (List.getElem?_toArray.trans rfl) (fun K hK => ?st52) ?more52
  case st52 =>
   go_simp
   refine hK.out _ _ ?s53 (fun hH53 => ?r53)
   case s53 => ((try dsimp only); exact noS (B32.out.x.below ((Below.refl _ _).alloc (Nat.le_refl _) _)))
   obtain ⟨H53, b53⟩ := B32.out.setD hk
   obtain ⟨v53, hv53⟩ : ∃ v, v = v32.alloc (.cells #[.func (.func 161) #[.pointer (some ⟨X, 0, none⟩)] #[], .bool false] 115) := ⟨_, rfl⟩
   obtain ⟨N53, hn53⟩ : ∃ x, x = v32.heap.size := ⟨_, rfl⟩
   rw [← hv53] at hH53 b53 ⊢
   rw [← hn53] at b53 ⊢
   have B53 := Lib.hid b53
   clear hv53 hn53 b53 B32
   clear hK K hH32
   try simp only [Act.put, List.setIfInBounds_toArray, List.set_cons_zero, List.set_cons_succ]
   refine' wpAnyF_take (i := 40) (List.getElem?_toArray.trans rfl) (by kernel_rfl) (by kernel_rfl) (by kernel_rfl) (by kernel_rfl) (fun _ _ _ h => h) (Or.inl ⟨by rfl, ?y54⟩) hH53 ?r54
   case y54 => (intro w hSw; (try dsimp only at hSw); go_simp; try with_reducible rfl)
   try simp only [Act.put, List.setIfInBounds_toArray, List.set_cons_zero, List.set_cons_succ]
   exact sh1 N32 N53 v53 H53 B53.out
  exact AllReadyF.nil
 refine' AllReadyF.cons (List.getElem?_toArray.trans rfl) (fun K hK => ?st55) ?more55
 case st55 =>
  go_simp
  refine hK.out _ _ ?s56 (fun hH56 => ?r56)
  case s56 => ((try dsimp only); exact noS (B0.out.x.below ((Below.refl _ _).alloc (Nat.le_refl _) _)))
  have b56 := B0.out.setC
  obtain ⟨v56, hv56⟩ : ∃ v, v = wd.alloc (.cells #[.int .i64 p.b, .int .i64 p.q] 51) := ⟨_, rfl⟩
  obtain ⟨N56, hn56⟩ : ∃ x, x = wd.heap.size := ⟨_, rfl⟩
  rw [← hv56] at hH56 b56 ⊢
  rw [← hn56] at b56 ⊢
  have B56 := Lib.hid b56
  clear hv56 hn56 b56 B0
  clear hK K hH0
  try simp only [Act.put, List.setIfInBounds_toArray, List.set_cons_zero, List.set_cons_succ]
  refine wpAnyF_ready (rs := [10, 39]) (by kernel_rfl) (by simp) ?_
  refine' AllReadyF.cons (List.getElem?_toArray.trans rfl) (fun K hK => ?st57) ?more57
  case st57 =>
   go_simp
   refine hK.out _ _ ?s58 (fun hH58 => ?r58)
   case s58 => ((try dsimp only); exact noS (B56.out.x.below ((Below.refl _ _).alloc (Nat.le_refl _) _)))
   have b58 := B56.out.setA
   obtain ⟨v58, hv58⟩ : ∃ v, v = v56.alloc (.cells #[.int .i64 p.b, .int .i64 p.q] 51) := ⟨_, rfl⟩
   obtain ⟨N58, hn58⟩ : ∃ x, x = v56.heap.size := ⟨_, rfl⟩
   rw [← hv58] at hH58 b58 ⊢
   rw [← hn58] at b58 ⊢
   have B58 := Lib.hid b58
   clear hv58 hn58 b58 B56
   clear hK K hH56
   try simp only [Act.put, List.setIfInBounds_toArray, List.set_cons_zero, List.set_cons_succ]
   exact sh0 N58 N56 v58 O B58.out
  refine' AllReadyF.cons (List.getElem?_toArray.trans rfl) (fun K hK => ?st59) ?more59
  case st59 =>
   go_simp
   refine hK.out _ _ ?s60 (fun hH60 => ?r60)
   case s60 => ((try dsimp only); exact noS (B56.out.x.below ((Below.refl _ _).alloc (Nat.le_refl _) _)))
   obtain ⟨H60, b60⟩ := B56.out.setD hk
   obtain ⟨v60, hv60⟩ : ∃ v, v = v56.alloc (.cells #[.func (.func 161) #[.pointer (some ⟨X, 0, none⟩)] #[], .bool false] 115) := ⟨_, rfl⟩
   obtain ⟨N60, hn60⟩ : ∃ x, x = v56.heap.size := ⟨_, rfl⟩
   rw [← hv60] at hH60 b60 ⊢
   rw [← hn60] at b60 ⊢
   have B60 := Lib.hid b60
   clear hv60 hn60 b60 B56
   clear hK K hH56
   try simp only [Act.put, List.setIfInBounds_toArray, List.set_cons_zero, List.set_cons_succ]
   refine' wpAnyF_take (i := 40) (List.getElem?_toArray.trans rfl) (by kernel_rfl) (by kernel_rfl) (by kernel_rfl) (by kernel_rfl) (fun _ _ _ h => h) (Or.inl ⟨by rfl, ?y61⟩) hH60 ?r61
   case y61 => (intro w hSw; (try dsimp only at hSw); go_simp; try with_reducible rfl)
   try simp only [Act.put, List.setIfInBounds_toArray, List.set_cons_zero, List.set_cons_succ]
   exact sh2 N56 N60 v60 H60 B60.out
  exact AllReadyF.nil
 refine' AllReadyF.cons (List.getElem?_toArray.trans rfl) (fun K hK => ?st62) ?more62
 case st62 =>
  go_simp
  refine hK.out _ _ ?s63 (fun hH63 => ?r63)
  case s63 => ((try dsimp only); exact noS (B0.out.x.below ((Below.refl _ _).alloc (Nat.le_refl _) _)))
  obtain ⟨H63, b63⟩ := B0.out.setD hk
  obtain ⟨v63, hv63⟩ : ∃ v, v = wd.alloc (.cells #[.func (.func 161) #[.pointer (some ⟨X, 0, none⟩)] #[], .bool false] 115) := ⟨_, rfl⟩
  obtain ⟨N63, hn63⟩ : ∃ x, x = wd.heap.size := ⟨_, rfl⟩
  rw [← hv63] at hH63 b63 ⊢
  rw [← hn63] at b63 ⊢
  have B63 := Lib.hid b63
  clear hv63 hn63 b63 B0
  clear hK K hH0
  try simp only [Act.put, List.setIfInBounds_toArray, List.set_cons_zero, List.set_cons_succ]
  refine' wpAnyF_take (i := 40) (List.getElem?_toArray.trans rfl) (by kernel_rfl) (by kernel_rfl) (by kernel_rfl) (by kernel_rfl) (fun _ _ _ h => h) (Or.inl ⟨by rfl, ?y64⟩) hH63 ?r64
  case y64 => (intro w hSw; (try dsimp only at hSw); go_simp; try with_reducible rfl)
  try simp only [Act.put, List.setIfInBounds_toArray, List.set_cons_zero, List.set_cons_succ]
  refine wpAnyF_ready (rs := [10, 33]) (by kernel_rfl) (by simp) ?_
  refine' AllReadyF.cons (List.getElem?_toArray.trans rfl) (fun K hK => ?st65) ?more65
  case st65 =>
   go_simp
   refine hK.out _ _ ?s66 (fun hH66 => ?r66)
   case s66 => ((try dsimp only); exact noS (B63.out.x.below ((Below.refl _ _).alloc (Nat.le_refl _) _)))
   have b66 := B63.out.setA
   obtain ⟨v66, hv66⟩ : ∃ v, v = v63.alloc (.cells #[.int .i64 p.b, .int .i64 p.q] 51) := ⟨_, rfl⟩
   obtain ⟨N66, hn66⟩ : ∃ x, x = v63.heap.size := ⟨_, rfl⟩
   rw [← hv66] at hH66 b66 ⊢
   rw [← hn66] at b66 ⊢
   have B66 := Lib.hid b66
   clear hv66 hn66 b66 B63
   clear hK K hH63
   try simp only [Act.put, List.setIfInBounds_toArray, List.set_cons_zero, List.set_cons_succ]
   exact sh1 N66 N63 v66 H63 B66.out
  refine' AllReadyF.cons (List.getElem?_toArray.trans rfl) (fun K hK => ?st67) ?more67
  case st67 =>
   go_simp
   refine hK.out _ _ ?s68 (fun hH68 => ?r68)
   case s68 => ((try dsimp only); exact noS (B63.out.x.below ((Below.refl _ _).alloc (Nat.le_refl _) _)))
   have b68 := B63.out.setC
   obtain ⟨v68, hv68⟩ : ∃ v, v = v63.alloc (.cells #[.int .i64 p.b, .int .i64 p.q] 51) := ⟨_, rfl⟩
   obtain ⟨N68, hn68⟩ : ∃ x, x = v63.heap.size := ⟨_, rfl⟩
   rw [← hv68] at hH68 b68 ⊢
   rw [← hn68] at b68 ⊢
   have B68 := Lib.hid b68
   clear hv68 hn68 b68 B63
   clear hK K hH63
   try simp only [Act.put, List.setIfInBounds_toArray, List.set_cons_zero, List.set_cons_succ]
   exact sh2 N68 N63 v68 H63 B68.out
  exact AllReadyF.nil
 exact AllReadyF.nil
 case t0 =>
  intro a_0 c_0 W_0 G_0 hB_0
  have B_0 := Lib.hid hB_0
  have hH_0 := noS hB_0.x
  clear hB_0
  refine wpAnyF_ready (rs := [11, 39]) (by kernel_rfl) (by simp) ?_
  refine' AllReadyF.cons (List.getElem?_toArray.trans rfl) (fun K hK => ?st69) ?more69
  case st69 =>
   go_simp
   refine' Calls.mono (c_NewMark1 p HP.out (k + 19) (by omega) ⟨Nat.le_refl _, by unfold maxLen; decide⟩ (B_0.out.a _ rfl).lt ((B_0.out.a _ rfl).c 0 _ rfl) ((B_0.out.a _ rfl).c 1 _ rfl) B_0.out.e.hi) ?c70
   rintro e w70 ⟨m70, rfl, G70, e70, a70⟩
   have B70 := Lib.hid (B_0.out.setM e70 a70)
   clear a70 e70 B_0
   try go_wp2_with fail
   refine hK.out _ _ ?s70 (fun hH70 => ?r70)
   case s70 => ((try dsimp only); exact noS B70.out.x)
   clear hK K hH_0
   try simp only [Act.put, List.setIfInBounds_toArray, List.set_cons_zero, List.set_cons_succ]
   refine' wpAnyF_take (i := 12) (List.getElem?_toArray.trans rfl) (by kernel_rfl) (by kernel_rfl) (by kernel_rfl) (by kernel_rfl) (fun _ _ _ h => h) (Or.inl ⟨by rfl, ?y71⟩) hH70 ?r71
   case y71 => (intro w hSw; (try dsimp only at hSw); go_simp; try with_reducible rfl)
   try simp only [Act.put, List.setIfInBounds_toArray, List.set_cons_zero, List.set_cons_succ]
   exact sh3 a_0 c_0 m70 w70 G70 B70.out
  refine' AllReadyF.cons (List.getElem?_toArray.trans rfl) (fun K hK => ?st72) ?more72
  case st72 =>
   go_simp
   refine hK.out _ _ ?s73 (fun hH73 => ?r73)
   case s73 => ((try dsimp only); exact noS (B_0.out.x.below ((Below.refl _ _).alloc (Nat.le_refl _) _)))
   obtain ⟨H73, b73⟩ := B_0.out.setD hk
   obtain ⟨v73, hv73⟩ : ∃ v, v = W_0.alloc (.cells #[.func (.func 161) #[.pointer (some ⟨X, 0, none⟩)] #[], .bool false] 115) := ⟨_, rfl⟩
   obtain ⟨N73, hn73⟩ : ∃ x, x = W_0.heap.size := ⟨_, rfl⟩
   rw [← hv73] at hH73 b73 ⊢
   rw [← hn73] at b73 ⊢
   have B73 := Lib.hid b73
   clear hv73 hn73 b73 B_0
   clear hK K hH_0
   try simp only [Act.put, List.setIfInBounds_toArray, List.set_cons_zero, List.set_cons_succ]
   refine' wpAnyF_take (i := 40) (List.getElem?_toArray.trans rfl) (by kernel_rfl) (by kernel_rfl) (by kernel_rfl) (by kernel_rfl) (fun _ _ _ h => h) (Or.inl ⟨by rfl, ?y74⟩) hH73 ?r74
   case y74 => (intro w hSw; (try dsimp only at hSw); go_simp; try with_reducible rfl)
   try simp only [Act.put, List.setIfInBounds_toArray, List.set_cons_zero, List.set_cons_succ]
   exact sh5 a_0 c_0 N73 v73 H73 B73.out
  exact AllReadyF.nil
 case t1 =>
  intro a_1 d_1 W_1 G_1 hB_1
  have B_1 := Lib.hid hB_1
  have hH_1 := noS hB_1.x
  clear hB_1
  refine wpAnyF_ready (rs := [11, 33]) (by kernel_rfl) (by simp) ?_
  refine' AllReadyF.cons (List.getElem?_toArray.trans rfl) (fun K hK => ?st75) ?more75
  case st75 =>
   go_simp
   refine' Calls.mono (c_NewMark1 p HP.out (k + 19) (by omega) ⟨Nat.le_refl _, by unfold maxLen; decide⟩ (B_1.out.a _ rfl).lt ((B_1.out.a _ rfl).c 0 _ rfl) ((B_1.out.a _ rfl).c 1 _ rfl) B_1.out.e.hi) ?c76
   rintro e w76 ⟨m76, rfl, G76, e76, a76⟩
   have B76 := Lib.hid (B_1.out.setM e76 a76)
   clear a76 e76 B_1
   try go_wp2_with fail
   refine hK.out _ _ ?s76 (fun hH76 => ?r76)
   case s76 => ((try dsimp only); exact noS B76.out.x)
   clear hK K hH_1
   try simp only [Act.put, List.setIfInBounds_toArray, List.set_cons_zero, List.set_cons_succ]
   refine' wpAnyF_take (i := 12) (List.getElem?_toArray.trans rfl) (by kernel_rfl) (by kernel_rfl) (by kernel_rfl) (by kernel_rfl) (fun _ _ _ h => h) (Or.inl ⟨by rfl, ?y77⟩) hH76 ?r77
   case y77 => (intro w hSw; (try dsimp only at hSw); go_simp; try with_reducible rfl)
   try simp only [Act.put, List.setIfInBounds_toArray, List.set_cons_zero, List.set_cons_succ]
   exact sh4 a_1 m76 d_1 w76 G76 B76.out
  refine' AllReadyF.cons (List.getElem?_toArray.trans rfl) (fun K hK => ?st78) ?more78
  case st78 =>
   go_simp
   refine hK.out _ _ ?s79 (fun hH79 => ?r79)
   case s79 => ((try dsimp only); exact noS (B_1.out.x.below ((Below.refl _ _).alloc (Nat.le_refl _) _)))
   have b79 := B_1.out.setC
   obtain ⟨v79, hv79⟩ : ∃ v, v = W_1.alloc (.cells #[.int .i64 p.b, .int .i64 p.q] 51) := ⟨_, rfl⟩
   obtain ⟨N79, hn79⟩ : ∃ x, x = W_1.heap.size := ⟨_, rfl⟩
   rw [← hv79] at hH79 b79 ⊢
   rw [← hn79] at b79 ⊢
   have B79 := Lib.hid b79
   clear hv79 hn79 b79 B_1
   clear hK K hH_1
   try simp only [Act.put, List.setIfInBounds_toArray, List.set_cons_zero, List.set_cons_succ]
   exact sh5 a_1 N79 d_1 v79 G_1 B79.out
  exact AllReadyF.nil
 case t2 =>
  intro c_2 d_2 W_2 G_2 hB_2
  have B_2 := Lib.hid hB_2
  have hH_2 := noS hB_2.x
  clear hB_2
  refine wpAnyF_ready (rs := [10]) (by kernel_rfl) (by simp) ?_
  refine' AllReadyF.cons (List.getElem?_toArray.trans rfl) (fun K hK => ?st80) ?more80
  case st80 =>
   go_simp
   refine hK.out _ _ ?s81 (fun hH81 => ?r81)
   case s81 => ((try dsimp only); exact noS (B_2.out.x.below ((Below.refl _ _).alloc (Nat.le_refl _) _)))
   have b81 := B_2.out.setA
   obtain ⟨v81, hv81⟩ : ∃ v, v = W_2.alloc (.cells #[.int .i64 p.b, .int .i64 p.q] 51) := ⟨_, rfl⟩
   obtain ⟨N81, hn81⟩ : ∃ x, x = W_2.heap.size := ⟨_, rfl⟩
   rw [← hv81] at hH81 b81 ⊢
   rw [← hn81] at b81 ⊢
   have B81 := Lib.hid b81
   clear hv81 hn81 b81 B_2
   clear hK K hH_2
   try simp only [Act.put, List.setIfInBounds_toArray, List.set_cons_zero, List.set_cons_succ]
   exact sh5 N81 c_2 d_2 v81 G_2 B81.out
  exact AllReadyF.nil
 case t3 =>
  intro a_3 c_3 m_3 W_3 G_3 hB_3
  have B_3 := Lib.hid hB_3
  have hH_3 := noS hB_3.x
  clear hB_3
  refine wpAnyF_ready (rs := [17, 39]) (by kernel_rfl) (by simp) ?_
  refine' AllReadyF.cons (List.getElem?_toArray.trans rfl) (fun K hK => ?st82) ?more82
  case st82 =>
   go_simp
   refine' Calls.mono (c_NewOut (k := k + 21) HP.out B_3.out.e.hi) ?c83
   rintro e w83 ⟨m83, rfl, G83, e83, a83⟩
   have B83 := Lib.hid (B_3.out.setU e83 a83)
   clear a83 e83 B_3
   try go_wp2_with fail
   refine hK.out _ _ ?s83 (fun hH83 => ?r83)
   case s83 => ((try dsimp only); exact noS B83.out.x)
   clear hK K hH_3
   try simp only [Act.put, List.setIfInBounds_toArray, List.set_cons_zero, List.set_cons_succ]
   refine' wpAnyF_take (i := 26) (List.getElem?_toArray.trans rfl) (by kernel_rfl) (by kernel_rfl) (by kernel_rfl) (by kernel_rfl) (fun _ _ _ h => h) (Or.inl ⟨by rfl, ?y84⟩) hH83 ?r84
   case y84 => (intro w hSw; (try dsimp only at hSw); go_simp; try with_reducible rfl)
   try simp only [Act.put, List.setIfInBounds_toArray, List.set_cons_zero, List.set_cons_succ]
   refine' wpAnyF_take (i := 27) (List.getElem?_toArray.trans rfl) (by kernel_rfl) (by kernel_rfl) (by kernel_rfl) (by kernel_rfl) (fun _ _ _ h => h) (Or.inl ⟨by rfl, ?y85⟩) hH83 ?r85
   case y85 => (intro w hSw; (try dsimp only at hSw); go_simp; try with_reducible rfl)
   try simp only [Act.put, List.setIfInBounds_toArray, List.set_cons_zero, List.set_cons_succ]
   exact sh6 a_3 c_3 m_3 m83 w83 G83 B83.out
  refine' AllReadyF.cons (List.getElem?_toArray.trans rfl) (fun K hK => ?st86) ?more86
  case st86 =>
   go_simp
   refine hK.out _ _ ?s87 (fun hH87 => ?r87)
   case s87 => ((try dsimp only); exact noS (B_3.out.x.below ((Below.refl _ _).alloc (Nat.le_refl _) _)))
   obtain ⟨H87, b87⟩ := B_3.out.setD hk
   obtain ⟨v87, hv87⟩ : ∃ v, v = W_3.alloc (.cells #[.func (.func 161) #[.pointer (some ⟨X, 0, none⟩)] #[], .bool false] 115) := ⟨_, rfl⟩
   obtain ⟨N87, hn87⟩ : ∃ x, x = W_3.heap.size := ⟨_, rfl⟩
   rw [← hv87] at hH87 b87 ⊢
   rw [← hn87] at b87 ⊢
   have B87 := Lib.hid b87
   clear hv87 hn87 b87 B_3
   clear hK K hH_3
   try simp only [Act.put, List.setIfInBounds_toArray, List.set_cons_zero, List.set_cons_succ]
   refine' wpAnyF_take (i := 40) (List.getElem?_toArray.trans rfl) (by kernel_rfl) (by kernel_rfl) (by kernel_rfl) (by kernel_rfl) (fun _ _ _ h => h) (Or.inl ⟨by rfl, ?y88⟩) hH87 ?r88
   case y88 => (intro w hSw; (try dsimp only at hSw); go_simp; try with_reducible rfl)
   try simp only [Act.put, List.setIfInBounds_toArray, List.set_cons_zero, List.set_cons_succ]
   exact sh8 a_3 c_3 m_3 N87 v87 H87 B87.out
  exact AllReadyF.nil
 case t4 =>
  intro a_4 m_4 d_4 W_4 G_4 hB_4
  have B_4 := Lib.hid hB_4
  have hH_4 := noS hB_4.x
  clear hB_4
  refine wpAnyF_ready (rs := [17, 33]) (by kernel_rfl) (by simp) ?_
  refine' AllReadyF.cons (List.getElem?_toArray.trans rfl) (fun K hK => ?st89) ?more89
  case st89 =>
   go_simp
   refine' Calls.mono (c_NewOut (k := k + 21) HP.out B_4.out.e.hi) ?c90
   rintro e w90 ⟨m90, rfl, G90, e90, a90⟩
   have B90 := Lib.hid (B_4.out.setU e90 a90)
   clear a90 e90 B_4
   try go_wp2_with fail
   refine hK.out _ _ ?s90 (fun hH90 => ?r90)
   case s90 => ((try dsimp only); exact noS B90.out.x)
   clear hK K hH_4
   try simp only [Act.put, List.setIfInBounds_toArray, List.set_cons_zero, List.set_cons_succ]
   refine' wpAnyF_take (i := 26) (List.getElem?_toArray.trans rfl) (by kernel_rfl) (by kernel_rfl) (by kernel_rfl) (by kernel_rfl) (fun _ _ _ h => h) (Or.inl ⟨by rfl, ?y91⟩) hH90 ?r91
   case y91 => (intro w hSw; (try dsimp only at hSw); go_simp; try with_reducible rfl)
   try simp only [Act.put, List.setIfInBounds_toArray, List.set_cons_zero, List.set_cons_succ]
   refine' wpAnyF_take (i := 27) (List.getElem?_toArray.trans rfl) (by kernel_rfl) (by kernel_rfl) (by kernel_rfl) (by kernel_rfl) (fun _ _ _ h => h) (Or.inl ⟨by rfl, ?y92⟩) hH90 ?r92
   case y92 => (intro w hSw; (try dsimp only at hSw); go_simp; try with_reducible rfl)
   try simp only [Act.put, List.setIfInBounds_toArray, List.set_cons_zero, List.set_cons_succ]
   exact sh7 a_4 m_4 m90 d_4 w90 G90 B90.out
  refine' AllReadyF.cons (List.getElem?_toArray.trans rfl) (fun K hK => ?st93) ?more93
  case st93 =>
   go_simp
   refine hK.out _ _ ?s94 (fun hH94 => ?r94)
   case s94 => ((try dsimp only); exact noS (B_4.out.x.below ((Below.refl _ _).alloc (Nat.le_refl _) _)))
   have b94 := B_4.out.setC
   obtain ⟨v94, hv94⟩ : ∃ v, v = W_4.alloc (.cells #[.int .i64 p.b, .int .i64 p.q] 51) := ⟨_, rfl⟩
   obtain ⟨N94, hn94⟩ : ∃ x, x = W_4.heap.size := ⟨_, rfl⟩
   rw [← hv94] at hH94 b94 ⊢
   rw [← hn94] at b94 ⊢
   have B94 := Lib.hid b94
   clear hv94 hn94 b94 B_4
   clear hK K hH_4
   try simp only [Act.put, List.setIfInBounds_toArray, List.set_cons_zero, List.set_cons_succ]
   exact sh8 a_4 N94 m_4 d_4 v94 G_4 B94.out
  exact AllReadyF.nil
 case t5 =>
  intro a_5 c_5 d_5 W_5 G_5 hB_5
  have B_5 := Lib.hid hB_5
  have hH_5 := noS hB_5.x
  clear hB_5
  refine wpAnyF_ready (rs := [11]) (by kernel_rfl) (by simp) ?_
  refine' AllReadyF.cons (List.getElem?_toArray.trans rfl) (fun K hK => ?st95) ?more95
  case st95 =>
   go_simp
   refine' Calls.mono (c_NewMark1 p HP.out (k + 19) (by omega) ⟨Nat.le_refl _, by unfold maxLen; decide⟩ (B_5.out.a _ rfl).lt ((B_5.out.a _ rfl).c 0 _ rfl) ((B_5.out.a _ rfl).c 1 _ rfl) B_5.out.e.hi) ?c96
   rintro e w96 ⟨m96, rfl, G96, e96, a96⟩
   have B96 := Lib.hid (B_5.out.setM e96 a96)
   clear a96 e96 B_5
   try go_wp2_with fail
   refine hK.out _ _ ?s96 (fun hH96 => ?r96)
   case s96 => ((try dsimp only); exact noS B96.out.x)
   clear hK K hH_5
   try simp only [Act.put, List.setIfInBounds_toArray, List.set_cons_zero, List.set_cons_succ]
   refine' wpAnyF_take (i := 12) (List.getElem?_toArray.trans rfl) (by kernel_rfl) (by kernel_rfl) (by kernel_rfl) (by kernel_rfl) (fun _ _ _ h => h) (Or.inl ⟨by rfl, ?y97⟩) hH96 ?r97
   case y97 => (intro w hSw; (try dsimp only at hSw); go_simp; try with_reducible rfl)
   try simp only [Act.put, List.setIfInBounds_toArray, List.set_cons_zero, List.set_cons_succ]
   exact sh8 a_5 c_5 m96 d_5 w96 G96 B96.out
  exact AllReadyF.nil
 case t6 =>
  intro a_6 c_6 m_6 u_6 W_6 G_6 hB_6
  have B_6 := Lib.hid hB_6
  have hH_6 := noS hB_6.x
  clear hB_6
  refine wpAnyF_ready (rs := [34, 39]) (by kernel_rfl) (by simp) ?_
  refine' AllReadyF.cons (List.getElem?_toArray.trans rfl) (fun K hK => ?st98) ?more98
  case st98 =>
   go_simp
   refine' Calls.mono (c_NewMark1 p HP.out (k + 23) (by omega) ⟨Nat.le_refl _, by unfold maxLen; decide⟩ (B_6.out.c _ rfl).lt ((B_6.out.c _ rfl).c 0 _ rfl) ((B_6.out.c _ rfl).c 1 _ rfl) B_6.out.e.hi) ?c99
   rintro e w99 ⟨m99, rfl, G99, e99, a99⟩
   have B99 := Lib.hid (B_6.out.setQ e99 a99)
   clear a99 e99 B_6
   try go_wp2_with fail
   refine hK.out _ _ ?s99 (fun hH99 => ?r99)
   case s99 => ((try dsimp only); exact noS B99.out.x)
   clear hK K hH_6
   try simp only [Act.put, List.setIfInBounds_toArray, List.set_cons_zero, List.set_cons_succ]
   refine' wpAnyF_take (i := 35) (List.getElem?_toArray.trans rfl) (by kernel_rfl) (by kernel_rfl) (by kernel_rfl) (by kernel_rfl) (fun _ _ _ h => h) (Or.inl ⟨by rfl, ?y100⟩) hH99 ?r100
   case y100 => (intro w hSw; (try dsimp only at hSw); go_simp; try with_reducible rfl)
   try simp only [Act.put, List.setIfInBounds_toArray, List.set_cons_zero, List.set_cons_succ]
   refine wpAnyF_ready (rs := [39]) (by kernel_rfl) (by simp) ?_
   refine' AllReadyF.cons (List.getElem?_toArray.trans rfl) (fun K hK => ?st101) ?more101
   case st101 =>
    go_simp
    refine hK.out _ _ ?s102 (fun hH102 => ?r102)
    case s102 => ((try dsimp only); exact noS (B99.out.x.below ((Below.refl _ _).alloc (Nat.le_refl _) _)))
    obtain ⟨H102, b102⟩ := B99.out.setD hk
    obtain ⟨v102, hv102⟩ : ∃ v, v = w99.alloc (.cells #[.func (.func 161) #[.pointer (some ⟨X, 0, none⟩)] #[], .bool false] 115) := ⟨_, rfl⟩
    obtain ⟨N102, hn102⟩ : ∃ x, x = w99.heap.size := ⟨_, rfl⟩
    rw [← hv102] at hH102 b102 ⊢
    rw [← hn102] at b102 ⊢
    have B102 := Lib.hid b102
    clear hv102 hn102 b102 B99
    clear hK K hH99
    try simp only [Act.put, List.setIfInBounds_toArray, List.set_cons_zero, List.set_cons_succ]
    refine' wpAnyF_take (i := 40) (List.getElem?_toArray.trans rfl) (by kernel_rfl) (by kernel_rfl) (by kernel_rfl) (by kernel_rfl) (fun _ _ _ h => h) (Or.inl ⟨by rfl, ?y103⟩) hH102 ?r103
    case y103 => (intro w hSw; (try dsimp only at hSw); go_simp; try with_reducible rfl)
    try simp only [Act.put, List.setIfInBounds_toArray, List.set_cons_zero, List.set_cons_succ]
    exact sh10 a_6 c_6 m_6 u_6 m99 N102 v102 H102 B102.out
   exact AllReadyF.nil
  refine' AllReadyF.cons (List.getElem?_toArray.trans rfl) (fun K hK => ?st104) ?more104
  case st104 =>
   go_simp
   refine hK.out _ _ ?s105 (fun hH105 => ?r105)
   case s105 => ((try dsimp only); exact noS (B_6.out.x.below ((Below.refl _ _).alloc (Nat.le_refl _) _)))
   obtain ⟨H105, b105⟩ := B_6.out.setD hk
   obtain ⟨v105, hv105⟩ : ∃ v, v = W_6.alloc (.cells #[.func (.func 161) #[.pointer (some ⟨X, 0, none⟩)] #[], .bool false] 115) := ⟨_, rfl⟩
   obtain ⟨N105, hn105⟩ : ∃ x, x = W_6.heap.size := ⟨_, rfl⟩
   rw [← hv105] at hH105 b105 ⊢
   rw [← hn105] at b105 ⊢
   have B105 := Lib.hid b105
   clear hv105 hn105 b105 B_6
   clear hK K hH_6
   try simp only [Act.put, List.setIfInBounds_toArray, List.set_cons_zero, List.set_cons_succ]
   refine' wpAnyF_take (i := 40) (List.getElem?_toArray.trans rfl) (by kernel_rfl) (by kernel_rfl) (by kernel_rfl) (by kernel_rfl) (fun _ _ _ h => h) (Or.inl ⟨by rfl, ?y106⟩) hH105 ?r106
   case y106 => (intro w hSw; (try dsimp only at hSw); go_simp; try with_reducible rfl)
   try simp only [Act.put, List.setIfInBounds_toArray, List.set_cons_zero, List.set_cons_succ]
   exact sh9 a_6 c_6 m_6 u_6 N105 v105 H105 B105.out
  exact AllReadyF.nil
 case t7 =>
  intro a_7 m_7 u_7 d_7 W_7 G_7 hB_7
  have B_7 := Lib.hid hB_7
  have hH_7 := noS hB_7.x
  clear hB_7
  refine wpAnyF_ready (rs := [33]) (by kernel_rfl) (by simp) ?_
  refine' AllReadyF.cons (List.getElem?_toArray.trans rfl) (fun K hK => ?st107) ?more107
  case st107 =>
   go_simp
   refine hK.out _ _ ?s108 (fun hH108 => ?r108)
   case s108 => ((try dsimp only); exact noS (B_7.out.x.below ((Below.refl _ _).alloc (Nat.le_refl _) _)))
   have b108 := B_7.out.setC
   obtain ⟨v108, hv108⟩ : ∃ v, v = W_7.alloc (.cells #[.int .i64 p.b, .int .i64 p.q] 51) := ⟨_, rfl⟩
   obtain ⟨N108, hn108⟩ : ∃ x, x = W_7.heap.size := ⟨_, rfl⟩
   rw [← hv108] at hH108 b108 ⊢
   rw [← hn108] at b108 ⊢
   have B108 := Lib.hid b108
   clear hv108 hn108 b108 B_7
   clear hK K hH_7
   try simp only [Act.put, List.setIfInBounds_toArray, List.set_cons_zero, List.set_cons_succ]
   exact sh9 a_7 N108 m_7 u_7 d_7 v108 G_7 B108.out
  exact AllReadyF.nil
 case t8 =>
  intro a_8 c_8 m_8 d_8 W_8 G_8 hB_8
  have B_8 := Lib.hid hB_8
  have hH_8 := noS hB_8.x
  clear hB_8
  refine wpAnyF_ready (rs := [17]) (by kernel_rfl) (by simp) ?_
  refine' AllReadyF.cons (List.getElem?_toArray.trans rfl) (fun K hK => ?st109) ?more109
  case st109 =>
   go_simp
   refine' Calls.mono (c_NewOut (k := k + 21) HP.out B_8.out.e.hi) ?c110
   rintro e w110 ⟨m110, rfl, G110, e110, a110⟩
   have B110 := Lib.hid (B_8.out.setU e110 a110)
   clear a110 e110 B_8
   try go_wp2_with fail
   refine hK.out _ _ ?s110 (fun hH110 => ?r110)
   case s110 => ((try dsimp only); exact noS B110.out.x)
   clear hK K hH_8
   try simp only [Act.put, List.setIfInBounds_toArray, List.set_cons_zero, List.set_cons_succ]
   refine' wpAnyF_take (i := 26) (List.getElem?_toArray.trans rfl) (by kernel_rfl) (by kernel_rfl) (by kernel_rfl) (by kernel_rfl) (fun _ _ _ h => h) (Or.inl ⟨by rfl, ?y111⟩) hH110 ?r111
   case y111 => (intro w hSw; (try dsimp only at hSw); go_simp; try with_reducible rfl)
   try simp only [Act.put, List.setIfInBounds_toArray, List.set_cons_zero, List.set_cons_succ]
   refine' wpAnyF_take (i := 27) (List.getElem?_toArray.trans rfl) (by kernel_rfl) (by kernel_rfl) (by kernel_rfl) (by kernel_rfl) (fun _ _ _ h => h) (Or.inl ⟨by rfl, ?y112⟩) hH110 ?r112
   case y112 => (intro w hSw; (try dsimp only at hSw); go_simp; try with_reducible rfl)
   try simp only [Act.put, List.setIfInBounds_toArray, List.set_cons_zero, List.set_cons_succ]
   exact sh9 a_8 c_8 m_8 m110 d_8 w110 G110 B110.out
  exact AllReadyF.nil
 case t9 =>
  intro a_9 c_9 m_9 u_9 d_9 W_9 G_9 hB_9
  have B_9 := Lib.hid hB_9
  have hH_9 := noS hB_9.x
  clear hB_9
  refine wpAnyF_ready (rs := [34]) (by kernel_rfl) (by simp) ?_
  refine' AllReadyF.cons (List.getElem?_toArray.trans rfl) (fun K hK => ?st113) ?more113
  case st113 =>
   go_simp
   refine' Calls.mono (c_NewMark1 p HP.out (k + 23) (by omega) ⟨Nat.le_refl _, by unfold maxLen; decide⟩ (B_9.out.c _ rfl).lt ((B_9.out.c _ rfl).c 0 _ rfl) ((B_9.out.c _ rfl).c 1 _ rfl) B_9.out.e.hi) ?c114
   rintro e w114 ⟨m114, rfl, G114, e114, a114⟩
   have B114 := Lib.hid (B_9.out.setQ e114 a114)
   clear a114 e114 B_9
   try go_wp2_with fail
   refine hK.out _ _ ?s114 (fun hH114 => ?r114)
   case s114 => ((try dsimp only); exact noS B114.out.x)
   clear hK K hH_9
   try simp only [Act.put, List.setIfInBounds_toArray, List.set_cons_zero, List.set_cons_succ]
   refine' wpAnyF_take (i := 35) (List.getElem?_toArray.trans rfl) (by kernel_rfl) (by kernel_rfl) (by kernel_rfl) (by kernel_rfl) (fun _ _ _ h => h) (Or.inl ⟨by rfl, ?y115⟩) hH114 ?r115
   case y115 => (intro w hSw; (try dsimp only at hSw); go_simp; try with_reducible rfl)
   try simp only [Act.put, List.setIfInBounds_toArray, List.set_cons_zero, List.set_cons_succ]
   exact sh10 a_9 c_9 m_9 u_9 m114 d_9 w114 G114 B114.out
  exact AllReadyF.nil
 case t10 =>
  intro a_10 c_10 m_10 u_10 q_10 d_10 W_10 G_10 hB_10
  have B_10 := Lib.hid hB_10
  have hH_10 := noS hB_10.x
  clear hB_10
  refine wpAnyF_ready (rs := [41]) (by kernel_rfl) (by simp) ?_
  refine' AllReadyF.cons (List.getElem?_toArray.trans rfl) (fun K hK => ?st116) ?more116
  case st116 =>
   go_simp
   refine hK.out _ _ ?s117 (fun hH117 => ?r117)
   case s117 => ((try dsimp only); exact noS (B_10.out.x.below ((Below.refl _ _).alloc (Nat.le_refl _) _)))
   clear hK K hH_10
   try simp only [Act.put, List.setIfInBounds_toArray, List.set_cons_zero, List.set_cons_succ]
   refine wpAnyF_ready (rs := [42]) (by kernel_rfl) (by simp) ?_
   refine' AllReadyF.cons (List.getElem?_toArray.trans rfl) (fun K hK => ?st118) ?more118
   case st118 =>
    refine step_append_sls W_10 (by rfl) _ _ 109 (by rfl) 245 i0 .nilIface 1 16 Tryz.underlying109 HI.out.1 HI.out.2.1 HI.out.2.2.1 HI.out.2.2.2 rfl (by decide) G_10 (k + 1) (by omega) B_10.out.e.hi (.slice (some ⟨A, o, none⟩) 1 cp) 1 [v0] (by rfl) B_10.out.l 4 (by decide) [IMark m_10, IDrop u_10 ref p, IMark q_10, IAct d_10] _ (by rfl) rfl (by simp [IMark, IDrop, IAct, Value.oneCell']) (by unfold maxLen; decide) (by decide) ?_
    intro b119 o119 c119 w119 G119 e119 s119
    have B119 := Lib.hid (And.intro (B_10.out.app e119) s119)
    clear s119 e119 B_10
    refine hK.out _ _ ?s119 (fun hH119 => ?r119)
    case s119 => ((try dsimp only); exact noS B119.out.1.x)
    have z4 := B119.out.1.x.c 4 _ rfl
    have zf := B119.out.1.x.f 4
    clear hK K hH117
    try simp only [Act.put, List.setIfInBounds_toArray, List.set_cons_zero, List.set_cons_succ]
    refine wpAnyF_ready (rs := [43]) (by kernel_rfl) (by simp) ?_
    refine' AllReadyF.cons (List.getElem?_toArray.trans rfl) (fun K hK => ?st120) ?more120
    case st120 =>
     go_simp
     refine hK.out _ _ ?s121 (fun hH121 => ?r121)
     case s121 => ((try dsimp only); exact noS B119.out.1.x)
     clear hK K hH119
     try simp only [Act.put, List.setIfInBounds_toArray, List.set_cons_zero, List.set_cons_succ]
     refine' wpAnyF_take (i := 44) (List.getElem?_toArray.trans rfl) (by kernel_rfl) (by kernel_rfl) (by kernel_rfl) (by kernel_rfl) (fun _ _ _ h => h) (Or.inl ⟨by rfl, ?y122⟩) hH121 ?r122
     case y122 => (intro w hSw; (try dsimp only at hSw); go_simp; try with_reducible rfl)
     try simp only [Act.put, List.setIfInBounds_toArray, List.set_cons_zero, List.set_cons_succ]
     refine wpAnyF_ready (rs := [45]) (by kernel_rfl) (by simp) ?_
     refine' AllReadyF.last (List.getElem?_toArray.trans rfl) (fun K hK => ?st123) ?more123
     case st123 =>
      go_simp
      refine hK.out _ _ ?_
      clear hK K
      try simp only [Act.put, List.setIfInBounds_toArray, List.set_cons_zero, List.set_cons_succ]
      refine wpAnyF_done (by kernel_rfl) ?_ _
      go_wp2_with fail
      go_end0
      exact ⟨rfl, G119, B119.out.1.fin hk (.slice (some ⟨b119, o119, none⟩) (1 + 4) c119) B119.out.2⟩
     exact AllReadyF.nil
    exact AllReadyF.nil
   exact AllReadyF.nil
  exact AllReadyF.nil
end
end
section
set_option linter.unusedVariables false
set_option maxHeartbeats 2000000
set_option maxRecDepth 100000
open Go.RowKit Go.Shelf
section
variable {X : Nat} {w : World} {O : Om} {B : Wb} {f : Cf} {s : AW} {k : Nat}
theorem c_SeStepNone {now tag ref lost : Int} {p : Spt} {lv : Value} {d R : Nat} {z1 : Rmm} {s1 : AW} (hx : Ob w O k X (mvCs now p lv tag ref lost)) (hS : Sls w O (k + 1) 1 lv 1 [ISearch d]) (hd : Ob w O (k + 3) d [.pointer (some ⟨X, 0, none⟩), .pointer (some ⟨R, 0, none⟩)])
 (HR : Calls Tryz.prog 156 #[.pointer (some ⟨R, 0, none⟩), .pointer (some ⟨B.p, 0, none⟩)] w (RP (SX (k + 4) (k + 18)) w O (.bool true) fun W G => PW W G B f s1 ∧ RoomAt W G (k + 4) R z1)) (hi : z1.is = false) (hp : p.ok) (hk : 10 ≤ k) (hhi : ∀ j, O j ≠ 0 → j < w.heap.size) :
 Calls Tryz.prog 158 #[.pointer (some ⟨d, 0, none⟩), .pointer (some ⟨B.p, 0, none⟩)] w fun e w' => e = .returned (.bool true) ∧ ∃ G0 W0 G, Ext (SX (k + 4) (k + 18)) O w G0 W0 ∧ NoesPost W0 G0 k X now tag ref lost p (ISearch d) w' G ∧ PW w' G B f s1 ∧ RoomAt w' G (k + 4) R z1 ∧ Ob w' G (k + 3) d [.pointer (some ⟨X, 0, none⟩), .pointer (some ⟨R, 0, none⟩)] := by
 have HX := Lib.hid (And.intro hx (And.intro hS hd))
 have HRR := Lib.hid HR
 have HPP := Lib.hid hp
 have d0 := hd.c 0 _ rfl
 have d1 := hd.c 1 _ rfl
 have HI := Lib.hid hi
 clear hx hS hd HR hp hhi hi
 go_enter Tryz.func158, Tryz.ntmps158
 go_wp2_with fail
 refine HRR.out.mono ?_
 rintro e w1 ⟨rfl, G1, e1, P1, r1'⟩
 have E1 := Lib.hid e1
 have H1 := Lib.hid (And.intro P1 (And.intro r1' (And.intro (HX.out.1.ext e1 (SX.not (by omega) (by omega))) (And.intro (HX.out.2.1.ext e1 (SX.not (by omega) (by omega))) (HX.out.2.2.ext e1 (SX.not (by omega) (by omega)))))))
 have d01 := H1.out.2.2.2.2.c 0 _ rfl
 have d11 := H1.out.2.2.2.2.c 1 _ rfl
 have HG := c_RmGot (w := w1.drew) (H1.out.2.1.below (drew_below w1))
 rw [HI.out] at HG
 simp only [Bool.false_eq_true, if_false] at HG
 have HG := Lib.hid HG
 have HGO := Lib.hid (fun (W : World) (hb : Below w1.heap.size w1 W) => c_MvGoesNo (H1.out.2.2.1.below hb) (H1.out.2.2.2.1.below hb) HPP.out hk (fun j hj => Nat.lt_of_lt_of_le (E1.out.hi j hj) hb.size))
 clear e1 P1 r1' d0 d1 HX HRR
 go_wp2_with fail
 go_region_held3 (fun w' => w'.cell? ⟨d, 0, none⟩ = some (.pointer (some ⟨X, 0, none⟩)) ∧ w'.cell? ⟨d, 1, none⟩ = some (.pointer (some ⟨R, 0, none⟩))) (go_keep)
  ((first
    | (go_at_call 160
       refine HG.out.mono ?_
       rintro e w2 ⟨rfl, hb2⟩
       have HB2 := Lib.hid ((drew_below w1).trans hb2)
       have D2 := Lib.hid (H1.out.2.2.2.2.below HB2.out)
       have d02 := D2.out.c 0 _ rfl
       have d12 := D2.out.c 1 _ rfl
       clear hb2)
    | (go_at_call 159
       refine (HGO.out _ HB2.out).mono ?_
       rintro e w3 ⟨rfl, G3, g3⟩
       have HG3 := Lib.hid g3
       have e3 := g3.1
       have F3 := Lib.hid (And.intro ((H1.out.1.below E1.out.hi HB2.out).ext e3 (by omega) (by omega) (by omega) (by omega)) (And.intro ((H1.out.2.1.below HB2.out).ext e3 (fun t q1 q2 => by omega)) (D2.out.ext e3 (by omega))))
       have d03 := F3.out.2.2.c 0 _ rfl
       have d13 := F3.out.2.2.c 1 _ rfl
       clear e3 g3)))
 all_goals
  clear d01 d11 d02 d12 d03 d13
  go_wp2_with fail
  go_ret
  exact ⟨rfl, G1, _, G3, E1.out.below HB2.out, HG3.out, F3.out⟩
theorem c_Mv3n {z : Mvm} {s1 : AW} {rm1 : Rmm} (mo : Int) (hM : MvAt w O k X z) (hl : z.ln = 3) (hs : rmStep mo (s, z.rm) = (s1, rm1)) (h0 : rm1.ln = 0) (hi : rm1.is = false)
 (HR : ∀ R, RoomAt w O (k + 4) R z.rm → Calls Tryz.prog 156 #[.pointer (some ⟨R, 0, none⟩), .pointer (some ⟨B.p, 0, none⟩)] w (RP (SX (k + 4) (k + 18)) w O (.bool true) fun W G => PW W G B f s1 ∧ RoomAt W G (k + 4) R rm1))
 (hp : z.p.ok) (hk : 10 ≤ k) (hhi : ∀ j, O j ≠ 0 → j < w.heap.size) :
 Calls Tryz.prog 137 #[.pointer (some ⟨X, 0, none⟩), .pointer (some ⟨B.p, 0, none⟩)] w (RP (SX k (k + 24)) w O (.bool (mvOver (mvStep mo (s, z)).2)) fun W G => PW W G B f (mvStep mo (s, z)).1 ∧ MvAt W G k X (mvStep mo (s, z)).2) := by
 rw [mvStep_3 mo s z hl, hs]
 dsimp only
 rw [if_pos h0, if_neg (by rw [hi]; decide)]
 obtain ⟨p, lv, hx, hpp, hparts⟩ := hM.ex
 obtain rfl := hpp (by omega)
 obtain ⟨d, R, hS, hd, hr⟩ := hparts.2.2.2.1 hl
 obtain ⟨A, o, c, rfl, hc1, hc2⟩ := hS.open (by decide)
 have a0 := hS.c 0 _ rfl
 rw [Nat.add_zero] at a0
 have HA := c_SeStepNone hx hS hd (HR R hr) hi hp hk hhi
 have HA2 := HA.mono (fun e w' h => (⟨.bool true, h.1, h.2⟩ : ∃ v, e = .returned v ∧ _))
 refine (c_MvStepG (n := 0) (Q2 := MvPost w O B f k X (s1, ⟨8, z.lost, z.now, z.p, z.tag, z.ref, rm1, sp20, [z.p.ver], ⟨0, 0⟩, z.u⟩)) (hx.c 4 _ rfl) a0 (m_SeStep _) (run_enter Tryz.func158 (by kernel_rfl) (by kernel_rfl)) HA2 ?_ (fun w2 h2 => h2.left (by dsimp only; omega) (by dsimp only; omega))).mono fun e w' h => MvPost.step h
 rintro w1 ⟨G0, W0, G1, e0, ⟨e1, lv1, m1, u, m2, dd, x1, l1, b1, b2, b3, b4⟩, P1, r1', d1⟩
 have ho := POver.search (k := k) d1 r1' (by omega) (by omega)
 have h0b : (rm1.ln == 0) = true := by simp [h0]
 rw [h0b] at ho
 have hm := POver.mark (k := k) b1 ⟨by omega, by omega⟩
 have E1 : Ext (SX k (k + 24)) O w G1 w1 := (e0.mono fun t _ h => SX.mono (by omega) (by omega) h).trans (e1.mono fun t _ h => .inr (by omega))
 refine (c_on1 (l := [IDrop u z.ref z.p, IMark m2, IAct dd]) x1 l1 ho hm hk E1.hi).mono ?_
 rintro e w2 ⟨rfl, G2, e2, rfl, lv2, x2, s2⟩
 exact ⟨rfl, mk8b (m1 := m1) (u := u) (m2 := m2) (d := dd) (by dsimp only; omega) (E1.trans (e2.mono fun t _ h => .inr (by omega))) (P1.ext e2 (by omega) (by omega) (by omega) (by omega)) x2 s2 (fun _ => b1.ext e2 (by omega) (by omega)) (fun _ => b2.ext e2 (by omega)) (fun _ => b3.ext e2 (by omega) (by omega)) (b4.ext e2 (by omega))⟩
theorem c_MvStep {z : Mvm} (hz : MvOk z) (hP : PW w O B f s) (hM : MvAt w O k X z) (hl : z.ln ≠ 0) (hlo0 : 0 ≤ z.lost) (hlo1 : z.lost ≤ 1000000) (hil : s.it.length ≤ 1000000) (hks : ∀ r, (itOf s.it r).key.size ≤ maxLen) (hk : 10 ≤ k) (hhi : ∀ j, O j ≠ 0 → j < w.heap.size) (n0 : 0 ≤ s.n) (n1 : s.n ≤ 4611686018427387904) :
 Calls Tryz.prog 137 #[.pointer (some ⟨X, 0, none⟩), .pointer (some ⟨B.p, 0, none⟩)] w (RP (SX k (k + 24)) w O (.bool (mvOver (mvStep f.y (s, z)).2)) fun W G => PW W G B f (mvStep f.y (s, z)).1 ∧ MvAt W G k X (mvStep f.y (s, z)).2) := by
 have h0 := hz.l0
 have h11 := hz.l11
 have hp := hz.p hl
 have hnow := hz.now hl
 have ht := hz.t0
 have hr := hz.rf
 have hc : z.ln = 1 ∨ z.ln = 2 ∨ z.ln = 3 ∨ z.ln = 4 ∨ z.ln = 5 ∨ z.ln = 6 ∨ z.ln = 7 ∨ z.ln = 8 ∨ z.ln = 9 ∨ z.ln = 10 ∨ z.ln = 11 := by omega
 rcases hc with g | g | g | g | g | g | g | g | g | g | g
 · exact c_Mv1 f.y hP hM g hp hk hhi n0 n1
 · exact c_Mv2 f.y hP hM g hp ⟨by omega, hnow.2⟩ hnow.1 hil (hks _) hk hhi n0 n1
 · obtain ⟨hrm, hrl⟩ := hz.r g
   have hok := hrm.step (s := s) f.y hP.bd
   have HR : ∀ R, RoomAt w O (k + 4) R z.rm → Calls Tryz.prog 156 #[.pointer (some ⟨R, 0, none⟩), .pointer (some ⟨B.p, 0, none⟩)] w (RP (SX (k + 4) (k + 18)) w O (.bool ((rmStep f.y (s, z.rm)).2.ln == 0)) fun W G => PW W G B f (rmStep f.y (s, z.rm)).1 ∧ RoomAt W G (k + 4) R (rmStep f.y (s, z.rm)).2) := fun R hR => c_RmStep hrm hP hR hrl (by omega) hhi n0 n1
   obtain ⟨y, hy⟩ : ∃ y, y = rmStep f.y (s, z.rm) := ⟨_, rfl⟩
   rw [← hy] at HR hok
   obtain ⟨s1, rm1⟩ := y
   dsimp only at HR hok
   by_cases h0 : rm1.ln = 0
   · have hb : (rm1.ln == 0) = true := by simp [h0]
     rw [hb] at HR
     cases hi : rm1.is with
     | true => exact c_Mv3y f.y hM g hy.symm h0 hi HR hp (hok.p (.inr hi)) ht.1 ht.2 hr.2 hk hhi
     | false => exact c_Mv3n f.y hM g hy.symm h0 hi HR hp hk hhi
   · have hb : (rm1.ln == 0) = false := by simp [h0]
     rw [hb] at HR
     exact c_Mv3o f.y hM g hy.symm h0 HR hk hhi
 · obtain ⟨a, b, c⟩ := hz.m (.inl g)
   exact c_Mv4 f.y hP hM g hp a b c (by rw [hz.o0 (.inl g)]; decide) hk hhi n0 n1
 · obtain ⟨a, b, c⟩ := hz.o (.inl g)
   exact c_Mv5 f.y hP hM g hp (hz.d (by omega) (by omega)) a b c (hz.u0 (.inr g)) hk hhi n0 n1
 · obtain ⟨a, b, c, d, e⟩ := hz.u g
   exact c_Mv6 f.y hP hM g hp (hz.d (by omega) (by omega)) a b c ⟨d, ht.2, e⟩ hr.2 hk hhi n0 n1
 · obtain ⟨a, b, c⟩ := hz.m (.inr g)
   exact c_Mv7 f.y hP hM g hp a b c hk hhi n0 n1
 · exact c_Mv8 f.y hz hP hM g hk hhi n0 n1
 · exact c_Mv9 f.y hz hP hM g hk hhi n0 n1
 · exact c_Mv10 f.y hz hP hM g hk hhi n0 n1
 · exact c_Mv11 f.y hz ⟨hlo0, hlo1⟩ hP hM g hk hhi n0 n1
end
end
section
set_option linter.unusedVariables false
set_option maxHeartbeats 8000000
set_option maxRecDepth 100000
open Go.RowKit Go.Shelf
def lmI : It := ⟨⟨#[97]⟩, ⟨#[]⟩, 0, 0, 0, 0⟩
def lmH : Int := fnvHash (⟨#[97]⟩ : ByteArray).data.toList
def lm0 : AW := awStore 2 513 (aw0 1)
def lmA (i : Nat) : AW := ⟨lm0.M, lm0.n, lm0.la, lm0.tk, lm0.ho, List.replicate i lmI, lm0.nt⟩
def lmF : Spt := ⟨1, 1, 2⟩
def lmT : Spt := ⟨2, 0, 0⟩
def lmP : Nat × (AW × Otm) := runN ptOver (fun z => putStep lmF 175 5 z.1 z.2) 9 (lmA 5, ⟨0, 0⟩)
def lmY : AW × Mvm := (lmP.2.1, mvNew 513 1)
def lmR : Nat × (AW × Mvm) := runN mvOver (mvStep 16) 99 lmY
theorem lmF_ok : lmF.ok := by constructor <;> decide
theorem lmT_ok : lmT.ok := by constructor <;> decide
theorem lm_h : 0 ≤ lmH ∧ lmH < 18446744073709551616 ∧ fnvTag lmH = 175 ∧ fnvBucket lmH 2 = 0 := by decide +kernel
theorem lm_pre : ∀ i : Nat, i < 16 → MvPre (mvIt 16 i lmY) := by decide +kernel
theorem lm_ov : mvOver (mvIt 16 16 lmY).2 = true ∧ ∀ i : Nat, i < 17 → 0 ≤ (mvIt 16 i lmY).2.ln ∧ (mvIt 16 i lmY).2.ln ≤ 11 := by decide +kernel
theorem lm_f : lmR.1 = 16 ∧ lmR.2.2.lost = 0 ∧ twTag (lmR.2.1.M lmT.tags) 0 = 175 ∧ lmR.2.1.M lmT.item = 5 ∧ twTag (lmR.2.1.M lmF.tags) 2 = 0 ∧ lmR.2.1.M lmF.item = 0 := by decide +kernel
theorem lm_n : (0 ≤ lmP.2.1.n ∧ lmP.2.1.n ≤ 1000) ∧ (0 ≤ lm0.n ∧ lm0.n ≤ 1000) ∧ plWord 1 2 = 513 := by decide +kernel
theorem PW.addIt {w w' : World} {O O' : Om} {B : Wb} {f : Cf} {s : AW} {x : It} (h : PW w O B f s) (e : Ext (fun t => t = 3) O w O' w') (ha : Ar w' O' 3 B.ip (s.it ++ [x])) : PW w' O' B f ⟨s.M, s.n, s.la, s.tk, s.ho, s.it ++ [x], s.nt⟩ :=
 ⟨(e.lo _ h.wo.lt).trans h.o, h.wo.wrote e.wr (fun k => absurd (show (1 : Nat) = 3 from by have := k.1; rwa [h.o] at this) (by decide)), h.ce.ext e (by decide) (by decide), ha, h.no.ext e (by decide)⟩
theorem c_lives20 (w : World) : Calls Tryz.prog 7 #[] w fun e w' => e = .returned (.bool true) ∧ Below w.heap.size w w' := by
 have FF := Lib.hid lm_f
 have NN := Lib.hid lm_n
 have LH := Lib.hid lm_h
 have HH := Lib.hid (fun W => c_Hash ⟨#[97]⟩ W (by unfold maxLen; decide))
 have hlm : fnvHash (⟨#[97]⟩ : ByteArray).data.toList = lmH := rfl
 rw [hlm] at HH
 clear hlm
 obtain ⟨h, hh⟩ : ∃ h, h = lmH := ⟨_, rfl⟩
 rw [← hh] at LH HH
 clear hh
 go_enter Tryz.func7, Tryz.ntmps7
 go_wp2_with fail
 refine (c_WorldP 1 w (by decide) (by decide)).mono ?_
 rintro e w1 ⟨B, O1, rfl, hP, hE⟩
 have P1 := Lib.hid hP
 have E1 := Lib.hid hE
 have p0 := hP.wo.c0
 have HW := Lib.hid (fun W => c_Word 1 2 W)
 rw [NN.out.2.2] at HW
 have HSt := Lib.hid (c_StoreP 2 513 (w := w1.drew) (P1.out.below E1.out.hi (drew_below w1)) (fun j hj => E1.out.hi j hj) (by decide) (by decide) (by decide) (by decide) (by decide) (by decide))
 have HD : Hid (Ext SW O1 w1 O1 w1.drew) := Lib.hid (Ext.of_below E1.out.hi (drew_below w1))
 clear hP hE
 go_wp2_with fail
 go_region_held3 (fun w' => w'.cell? ⟨B.p, 0, none⟩ = some (.pointer (some ⟨B.c, 0, none⟩))) (go_keep)
  ((first
    | (go_at_call 11
       refine (HW.out _).mono ?_
       rintro e w' ⟨rfl, rfl⟩)
    | (go_at_call 12
       refine HSt.out.mono ?_
       rintro e w2 ⟨rfl, O2, e2, P2⟩
       have E2 := Lib.hid (E1.out.ext (HD.out.trans e2))
       have p02 := P2.wo.c0
       have P2 : Hid (PW w2 O2 B ⟨1, 8, 3, 1, 16⟩ (lmA 0)) := Lib.hid P2
       clear e2)))
 all_goals
  clear p0 p02
  go_upto_region 5 with fail
  go_wp2_with fail
  go_loopw [2] (fun iv wr => ∃ (i : Nat) (G : Om), iv = .int .i64 i ∧ i ≤ 5 ∧ PW wr G B ⟨1, 8, 3, 1, 16⟩ (lmA i) ∧ Env w G wr) (fun iv _ => 5 - (intOf iv).toNat)
  case atStart => exact ⟨0, O2, rfl, by omega, P2.out, E2.out⟩
  case round =>
   clear P2 E2 HSt HD P1 E1
   obtain ⟨i, G, rfl, hi, hP, hE⟩ := hrel
   have P5 := Lib.hid hP
   have E5 := Lib.hid hE
   clear hP hE
   by_cases hi5 : i < 5
   · have p1 := P5.out.wo.c1
     have HA := Lib.hid (c_IAdd lmI P5.out.ar (by decide) (by show (List.replicate i lmI).length ≤ 1000000; rw [List.length_replicate]; omega) E5.out.hi)
     have hrs : (lmA i).it ++ [lmI] = List.replicate (i + 1) lmI := by show List.replicate i lmI ++ [lmI] = _; rw [List.replicate_succ']
     have HRS := Lib.hid hrs
     clear hrs
     go_wp2_with fail
     refine HA.out.mono ?_
     rintro e w6 ⟨rfl, O6, e6, a6⟩
     have P6 := P5.out.addIt e6 a6
     rw [HRS.out] at P6
     have P6 : Hid (PW w6 O6 B ⟨1, 8, 3, 1, 16⟩ (lmA (i + 1))) := Lib.hid P6
     have E6 := Lib.hid (E5.out.ext e6)
     clear e6 a6 p1 HA
     go_wp2_with fail
     go_roundw
     case rel => exact ⟨i + 1, O6, by go_num, by omega, P6.out, E6.out⟩
     case measure => simp [intOf]; omega
   · have h5 : i = 5 := by omega
     subst h5
     have NA := Lib.hid (show 0 ≤ (lmA 5).n ∧ (lmA 5).n + 9 ≤ 4611686018427387904 from ⟨NN.out.2.1.1, by have := NN.out.2.1.2; show lm0.n + 9 ≤ _; omega⟩)
     go_wp2_with fail
     refine (HH.out _).mono ?_
     rintro e w7 ⟨rfl, hw7⟩
     have hb7 : Below wr.heap.size wr w7 := by rw [← hw7]; exact (Below.refl _ _).alloc (Nat.le_refl _) _
     have P7 := Lib.hid (P5.out.below E5.out.hi hb7)
     have E7 := Lib.hid (E5.out.ext (Ext.of_below (S := SW) E5.out.hi hb7))
     obtain ⟨e8, t8⟩ := alloc_nbH (S := SW) E7.out.hi #[.int .i64 1, .int .i64 1, .int .i64 2] 56 w7.heap.size rfl
     have P8 := Lib.hid (P7.out.below E7.out.hi ((Below.refl _ _).alloc (Nat.le_refl _) (.cells #[.int .i64 1, .int .i64 1, .int .i64 2] 56)))
     have E8 := Lib.hid (E7.out.ext e8)
     have T8 := Lib.hid t8
     clear hw7 hb7 e8 t8 P5 E5
     go_upto_region 11 with fail
     obtain ⟨W8, hW8⟩ : ∃ W, W = w7.alloc (.cells #[.int .i64 1, .int .i64 1, .int .i64 2] 56) := ⟨_, rfl⟩
     rw [← hW8] at P8 E8 T8 ⊢
     obtain ⟨N, hN⟩ : ∃ N, N = w7.heap.size := ⟨_, rfl⟩
     rw [← hN] at T8 ⊢
     clear hW8 hN P7 E7
     have HTG := Lib.hid (fun W => c_fTag h W LH.out.1 LH.out.2.1)
     rw [LH.out.2.2.1] at HTG
     have t0 := T8.out.c 0 _ rfl
     have t1 := T8.out.c 1 _ rfl
     have t2 := T8.out.c 2 _ rfl
     have hbw : Below W8.heap.size W8 W8.drew := drew_below W8
     have P9 := Lib.hid (P8.out.below E8.out.hi hbw)
     have E9 := Lib.hid (E8.out.ext (Ext.of_below (S := SW) E8.out.hi hbw))
     have T9 := Lib.hid (T8.out.below hbw)
     have HNP := Lib.hid (c_NewPut (k := 10) (p := lmF) (tg := 175) (rf := 5) (w := W8.drew) (O := G) lmF_ok E9.out.hi (by decide) (by decide) (by decide) (by decide))
     clear hbw
     go_region_held3 (fun w' => w'.cell? ⟨N, 0, none⟩ = some (.int .i64 1) ∧ w'.cell? ⟨N, 1, none⟩ = some (.int .i64 1) ∧ w'.cell? ⟨N, 2, none⟩ = some (.int .i64 2)) (go_keep)
      ((first
        | (go_at_call 37
           refine (HTG.out _).mono ?_
           rintro e w' ⟨rfl, rfl⟩)
        | (go_at_call 36
           refine HNP.out.mono ?_
           rintro e wa ⟨U, rfl, Oa, ea, ua⟩
           have PA := P9.out.ext ea (by decide) (by decide) (by decide) (by decide)
           have EA := Lib.hid (E9.out.ext ea)
           have TA := Lib.hid (T9.out.ext ea (by decide))
           have ta0 := TA.out.c 0 _ rfl
           have ta1 := TA.out.c 1 _ rfl
           have ta2 := TA.out.c 2 _ rfl
           have HR := Lib.hid (c_PuRun (k := 10) U lmF 175 5 9 PA ua lmF_ok (by decide) EA.out.hi NA.out.1 NA.out.2 (by decide) (by decide) (by decide) (by decide))
           clear ea ua PA)
        | (go_at_call 19
           refine HR.out.mono ?_
           rintro e wb ⟨rfl, Ob', eb, PB⟩
           have EB := Lib.hid (EA.out.ext eb)
           have TB := Lib.hid (TA.out.ext eb (sx0 (by decide)))
           have PB : Hid (PW wb Ob' B ⟨1, 8, 3, 1, 16⟩ lmP.2.1) := Lib.hid PB
           have tb0 := TB.out.c 0 _ rfl
           have tb1 := TB.out.c 1 _ rfl
           have tb2 := TB.out.c 2 _ rfl
           clear eb)))
     all_goals
      clear t0 t1 t2 ta0 ta1 ta2 tb0 tb1 tb2 P9 E9 T9 HNP HR EA TA P8 E8 T8
      go_wp2_with fail
      refine (HW.out _).mono ?_
      rintro e w' ⟨rfl, rfl⟩
      go_wp2_with fail
      refine (c_NewMove (k := 10) 513 1 (by decide) (by decide) (by decide) (by decide) (by decide) EB.out.hi).mono ?_
      rintro e wc ⟨X, rfl, Oc, ec, xc⟩
      have PC := PB.out.ext ec (by decide) (by decide) (by decide) (by decide)
      have EC := Lib.hid (EB.out.ext ec)
      have TC := Lib.hid (TB.out.ext ec (by decide))
      have HMR := Lib.hid (c_MvRun (k := 10) X (mvNew 513 1) 99 16 16 lm_pre lm_ov.1 (fun i hi => lm_ov.2 i (by omega)) PC xc (by decide) EC.out.hi NN.out.1.1 (by have := NN.out.1.2; omega))
      clear ec xc PC
      go_wp2_with fail
      refine HMR.out.mono ?_
      rintro e wd ⟨rfl, Od, ed, PD, xd⟩
      have h16 : (runN mvOver (mvStep 16) 99 (lmP.2.1, mvNew 513 1)).1 = 16 := FF.out.1
      rw [h16]
      have ED := Lib.hid (EC.out.ext ed)
      have TD := Lib.hid (TC.out.ext ed (sx0 (by decide)))
      have PD : Hid (PW wd Od B ⟨1, 8, 3, 1, 16⟩ lmR.2.1) := Lib.hid PD
      have XD : Hid (MvAt wd Od 10 X lmR.2.2) := Lib.hid xd
      have HBK := Lib.hid (fun W => c_fBucket h 2 W LH.out.1 LH.out.2.1 (by decide) (by decide))
      rw [LH.out.2.2.2] at HBK
      clear ed xd h16 HMR EB TB PB EC TC
      go_wp2_with fail
      refine (HBK.out _).mono ?_
      rintro e w' ⟨rfl, rfl⟩
      obtain ⟨ee, te⟩ := alloc_nbH (S := SW) ED.out.hi #[.int .i64 2, .int .i64 0, .int .i64 0] 56 wd.heap.size rfl
      have hbe := (Below.refl wd.heap.size wd).alloc (Nat.le_refl _) (.cells #[.int .i64 2, .int .i64 0, .int .i64 0] 56)
      have PE := Lib.hid (PD.out.below ED.out.hi hbe)
      have EE := Lib.hid (ED.out.ext ee)
      have TE := Lib.hid te
      have TF := Lib.hid (TD.out.below hbe)
      have XE := Lib.hid (XD.out.below ED.out.hi hbe)
      clear ee te hbe
      go_upto_region 15 with fail
      obtain ⟨we, hwe⟩ : ∃ W, W = wd.alloc (.cells #[.int .i64 2, .int .i64 0, .int .i64 0] 56) := ⟨_, rfl⟩
      rw [← hwe] at PE EE TE TF XE ⊢
      obtain ⟨M, hM⟩ : ∃ N, N = wd.heap.size := ⟨_, rfl⟩
      rw [← hM] at TE ⊢
      clear hwe hM PD ED TD XD
      have te0 := TE.out.c 0 _ rfl
      have te1 := TE.out.c 1 _ rfl
      have te2 := TE.out.c 2 _ rfl
      have HS1 := c_Slot (p := lmT) PE.out lmT_ok EE.out.hi
      have hs0 : lmT.s = 0 := rfl
      rw [hs0, FF.out.2.2.1, FF.out.2.2.2.1] at HS1
      have HS1 := Lib.hid HS1
      clear hs0
      go_wp2_with fail
      refine HS1.out.mono ?_
      rintro e wf ⟨rfl, hbf⟩
      have PF := Lib.hid (PE.out.below EE.out.hi hbf)
      have EF := Lib.hid (EE.out.ext (Ext.of_below (S := SW) EE.out.hi hbf))
      have TG := Lib.hid (TF.out.below hbf)
      have XF := Lib.hid (XE.out.below EE.out.hi hbf)
      have tf0 := TG.out.c 0 _ rfl
      have tf1 := TG.out.c 1 _ rfl
      have tf2 := TG.out.c 2 _ rfl
      have HS2 := c_Slot (p := lmF) PF.out lmF_ok EF.out.hi
      have hs2 : lmF.s = 2 := rfl
      rw [hs2, FF.out.2.2.2.2.1, FF.out.2.2.2.2.2] at HS2
      have HS2 := Lib.hid HS2
      clear hs2 hbf te0 te1 te2 HS1 PE EE TE TF XE
      go_wp2_with fail
      refine HS2.out.mono ?_
      rintro e wg ⟨rfl, hbg⟩
      have EG := Lib.hid (EF.out.ext (Ext.of_below (S := SW) EF.out.hi hbg))
      have HL := c_MvLost (XF.out.below EF.out.hi hbg)
      rw [FF.out.2.1] at HL
      have HL := Lib.hid HL
      clear hbg tf0 tf1 tf2 HS2 PF EF TG XF
      go_wp2_with fail
      refine HL.out.mono ?_
      rintro e w' ⟨rfl, rfl⟩
      go_wp2_with fail
      refine (HTG.out _).mono ?_
      rintro e w' ⟨rfl, rfl⟩
      go_wp2_with fail
      go_ret
      exact ⟨rfl, EG.out.bel⟩
end
end Go.Proofs.YtfnmdafpdcgcmaaGreat
