/- Layer 20. -/
import Derived.Test.YthbodknlhkapdaaGreatMt
import Derived.Test.YthbodknlhkapdaaGreatG1
namespace Go.Proofs.YthbodknlhkapdaaGreat
set_option linter.unusedSimpArgs false
set_option linter.unusedVariables false
set_option maxHeartbeats 20000000
set_option maxRecDepth 100000
open Go.RowKit Go.Shelf
def Ala (w : World) (O : Om) (k X : Nat) (now tag ref lost : Int) (p dd : Spt) (v0 : Value) (W : World) (G : Om) : Prop :=
 Ext (fun t => t = k ∨ t = k + 1 ∨ (k + 19 ≤ t ∧ t ≤ k + 24)) O w G W ∧ ∃ lv' m1 u q m2, Ob W G k X (Ac6 now p lv' tag ref lost) ∧ Sls W G (k + 1) 1 lv' 5 [v0, Abb m1, Ak9 u, Aht q, Abb m2] ∧ Ada W G (k + 19) m1 (mk2 p dd) ∧ Abx W G (k + 21) u p ⟨0, 0⟩ ∧ Ai6 W G (k + 22) q dd tag ref (Abe tag ref) ∧ Ada W G (k + 23) m2 (mk2 p dd)
section
variable {X : Nat} {w : World} {O : Om} {B : Wb} {f : Cf} {s : AW} {k : Nat}
theorem Ai0 (p : Spt) (tg rf : Int) (hp : p.ok) (hhi : Hh O w) (t0 : 0 ≤ tg) (t1 : tg ≤ 255) (r1 : rf ≤ 9223372036854775807) : Calls Tryz.prog 209 #[.agg #[.int .i64 p.b, .int .i64 p.q, .int .i64 p.s], .int .i64 tg, .int .i64 rf] w fun e w' => ∃ U, RP (fun t => t = k) w O (.pointer (some ⟨U, 0, none⟩)) (fun W G => Ai6 W G k U p tg rf (Abe tg rf)) e w' := by
 by_cases c : 1 ≤ tg ∧ tg ≤ 255 ∧ 1 ≤ rf
 · have e : Abe tg rf = ⟨0, 0⟩ := by unfold Abe; rw [if_pos c]
   rw [e]
   refine (Av5 (k := k) hp hhi c.1 c.2.1 c.2.2 r1).mono ?_
   rintro e w' ⟨U, rfl, G, e1, u1⟩
   exact ⟨U, rfl, G, e1, fun _ => u1, fun h => absurd c h⟩
 have e : Abe tg rf = ⟨3, 0⟩ := by unfold Abe; rw [if_neg c]
 rw [e]
 obtain ⟨pb, pq, ps⟩ := p
 have B1 : Below w.heap.size w (w.alloc (.cells #[.int .i64 pb, .int .i64 pq, .int .i64 ps] 95)) := bal _ _
 obtain ⟨G2, e2, x2, -⟩ := Aar (Ext.of_below (S := fun t => t = k) hhi B1).hi k #[.int .u64 0, .int .u64 0, .int .i64 0, .int .u64 0, .int .i64 0, .int .i64 0, .int .i64 0] 333 (w.heap.size + 1) (by simp)
 have HE := hQd (aN ((Ext.of_below hhi B1).trans e2) x2)
 have fin : ∃ U, RP (fun t => t = k) w O (.pointer (some ⟨U, 0, none⟩)) (fun W G => Ai6 W G k U ⟨pb, pq, ps⟩ tg rf ⟨3, 0⟩) (.returned (.pointer (some ⟨w.heap.size + 1, 0, none⟩))) ((w.alloc (.cells #[.int .i64 pb, .int .i64 pq, .int .i64 ps] 95)).alloc (.cells #[.int .u64 0, .int .u64 0, .int .i64 0, .int .u64 0, .int .i64 0, .int .i64 0, .int .i64 0] 333)) := ⟨_, rfl, G2, HE.out.1, fun h => absurd h c, fun _ => HE.out.2⟩
 have FIN := hQd fin
 clear e2 x2 B1 hp hhi fin e
 by_cases c1 : tg < 1
 · have d1 : decide (tg < 1) = true := by simp [c1]
   clear c c1
   go_enter Tryz.func209, Tryz.ntmps209
   go_wp2_with fail
   go_ret
   exact FIN.out
 have d1 : decide (tg < 1) = false := by simp; omega
 have d2 : decide ((255 : Int) < tg) = false := by simp; omega
 have d3 : decide (rf < 1) = true := by simp; omega
 clear c c1
 go_enter Tryz.func209, Tryz.ntmps209
 go_wp2_with fail
 go_ret
 exact FIN.out
theorem goS {W : World} {G : Om} {k X N : Nat} {now tag ref lost : Int} {p dd : Spt} {lv : Value} (hx : Ob W G k X (Ac6 now p lv tag ref lost)) (ht : Ob W G 0 N (spl dd)) :
 W.cell? ⟨X, 4, none⟩ = some lv ∧ W.cell? ⟨X, 1, none⟩ = some (.int .i64 p.b) ∧ W.cell? ⟨X, 2, none⟩ = some (.int .i64 p.q) ∧ W.cell? ⟨X, 3, none⟩ = some (.int .i64 p.s) ∧ W.cell? ⟨X, 5, none⟩ = some (.int .i64 tag) ∧ W.cell? ⟨X, 6, none⟩ = some (.int .i64 ref) ∧ W.cell? ⟨N, 0, none⟩ = some (.int .i64 dd.b) ∧ W.cell? ⟨N, 1, none⟩ = some (.int .i64 dd.q) ∧ W.cell? ⟨N, 2, none⟩ = some (.int .i64 dd.s) :=
 ⟨hx.c 4 _ rfl, hx.c 1 _ rfl, hx.c 2 _ rfl, hx.c 3 _ rfl, hx.c 5 _ rfl, hx.c 6 _ rfl, ht.c 0 _ rfl, ht.c 1 _ rfl, ht.c 2 _ rfl⟩
end
theorem Aom {I : Nat → Nat → World → Om → Prop} {T : Nat → Nat → World → Prop} {Q : Prop} (main : (∀ a b W G, I a b W G → T a b W) → Q) (tail : ∀ a b W G, I a b W G → T a b W) : Q := main tail
theorem Aol {I : Nat → Nat → Nat → World → Om → Prop} {T : Nat → Nat → Nat → World → Prop} {Q : Prop} (main : (∀ a b c W G, I a b c W G → T a b c W) → Q) (tail : ∀ a b c W G, I a b c W G → T a b c W) : Q := main tail
theorem Aok {I : Nat → Nat → Nat → Nat → World → Om → Prop} {T : Nat → Nat → Nat → Nat → World → Prop} {Q : Prop} (main : (∀ a b c d W G, I a b c d W G → T a b c d W) → Q) (tail : ∀ a b c d W G, I a b c d W G → T a b c d W) : Q := main tail
theorem Awk {I : Nat → Nat → Nat → Nat → Nat → World → Om → Prop} {T : Nat → Nat → Nat → Nat → Nat → World → Prop} {Q : Prop} (main : (∀ a b c d e W G, I a b c d e W G → T a b c d e W) → Q) (tail : ∀ a b c d e W G, I a b c d e W G → T a b c d e W) : Q := main tail
theorem Az9 {I : Nat → Nat → Nat → Nat → Nat → Nat → World → Om → Prop} {T : Nat → Nat → Nat → Nat → Nat → Nat → World → Prop} {Q : Prop} (main : (∀ a b c d e f W G, I a b c d e f W G → T a b c d e f W) → Q) (tail : ∀ a b c d e f W G, I a b c d e f W G → T a b c d e f W) : Q := main tail
structure YB (w0 : World) (O0 : Om) (k X N : Nat) (now tag ref lost : Int) (p dd : Spt) (lv v0 : Value) (a c m u r q : Option Nat) (W : World) (G : Om) : Prop where
 e : Ext (fun t => t = k ∨ t = k + 1 ∨ (k + 19 ≤ t ∧ t ≤ k + 24)) O0 w0 G W
 x : Ob W G k X (Ac6 now p lv tag ref lost)
 l : Sls W G (k + 1) 1 lv 1 [v0]
 t : Ob W G 0 N (spl dd)
 a : ∀ N, a = some N → Ob W G 0 N [.int .i64 p.b, .int .i64 p.q, .int .i64 dd.b, .int .i64 dd.q]
 c : ∀ N, c = some N → Ob W G 0 N [.int .i64 p.b, .int .i64 p.q, .int .i64 dd.b, .int .i64 dd.q]
 m : ∀ N, m = some N → Ada W G (k + 19) N (mk2 p dd)
 u : ∀ N, u = some N → Abx W G (k + 21) N p ⟨0, 0⟩
 r : ∀ N, r = some N → Ai6 W G (k + 22) N dd tag ref (Abe tag ref)
 q : ∀ N, q = some N → Ada W G (k + 23) N (mk2 p dd)
section
variable {w0 : World} {O0 : Om} {k X N : Nat} {now tag ref lost : Int} {p dd : Spt} {lv v0 : Value} {a c m u r q : Option Nat} {W W' : World} {G G' : Om}
theorem YB.below (h : YB w0 O0 k X N now tag ref lost p dd lv v0 a c m u r q W G) (hb : Below W.heap.size W W') : YB w0 O0 k X N now tag ref lost p dd lv v0 a c m u r q W' G :=
 ⟨h.e.below hb, h.x.below hb, h.l.below hb, h.t.below hb, fun N g => (h.a N g).below hb, fun N g => (h.c N g).below hb, fun N g => (h.m N g).below hb, fun N g => (h.u N g).below hb, fun N g => (h.r N g).below hb, fun N g => (h.q N g).below hb⟩
theorem YB.setA (h : YB w0 O0 k X N now tag ref lost p dd lv v0 none c m u r q W G) : YB w0 O0 k X N now tag ref lost p dd lv v0 (some W.heap.size) c m u r q (W.alloc (.cells #[.int .i64 p.b, .int .i64 p.q, .int .i64 dd.b, .int .i64 dd.q] 93)) G := by
 have h' := h.below (bal W (.cells #[.int .i64 p.b, .int .i64 p.q, .int .i64 dd.b, .int .i64 dd.q] 93))
 exact ⟨h'.e, h'.x, h'.l, h'.t, (fun N g => by cases g; exact (Aau (S := fun _ => False) h.e.hi #[.int .i64 p.b, .int .i64 p.q, .int .i64 dd.b, .int .i64 dd.q] 93 W.heap.size rfl).2), h'.c, h'.m, h'.u, h'.r, h'.q⟩
theorem YB.setC (h : YB w0 O0 k X N now tag ref lost p dd lv v0 a none m u r q W G) : YB w0 O0 k X N now tag ref lost p dd lv v0 a (some W.heap.size) m u r q (W.alloc (.cells #[.int .i64 p.b, .int .i64 p.q, .int .i64 dd.b, .int .i64 dd.q] 93)) G := by
 have h' := h.below (bal W (.cells #[.int .i64 p.b, .int .i64 p.q, .int .i64 dd.b, .int .i64 dd.q] 93))
 exact ⟨h'.e, h'.x, h'.l, h'.t, h'.a, (fun N g => by cases g; exact (Aau (S := fun _ => False) h.e.hi #[.int .i64 p.b, .int .i64 p.q, .int .i64 dd.b, .int .i64 dd.q] 93 W.heap.size rfl).2), h'.m, h'.u, h'.r, h'.q⟩
theorem YB.setM {N0 : Nat} (h : YB w0 O0 k X N now tag ref lost p dd lv v0 a c none u r q W G) (e : Ext (fun t => t = k + 19 ∨ t = k + 19 + 1) G W G' W') (hm : Ada W' G' (k + 19) N0 (mk2 p dd)) : YB w0 O0 k X N now tag ref lost p dd lv v0 a c (some N0) u r q W' G' :=
 ⟨h.e.trans (e.mono fun t _ g => by omega), h.x.ext e, h.l.ext e, h.t.ext e, fun N g => (h.a N g).ext e, fun N g => (h.c N g).ext e, (fun N g => by cases g; exact hm), fun N g => (h.u N g).ext e, fun N g => (h.r N g).ext e, fun N g => (h.q N g).ext e⟩
theorem YB.setU {N0 : Nat} (h : YB w0 O0 k X N now tag ref lost p dd lv v0 a c m none r q W G) (e : Ext (fun t => t = k + 21) G W G' W') (hm : Abx W' G' (k + 21) N0 p ⟨0, 0⟩) : YB w0 O0 k X N now tag ref lost p dd lv v0 a c m (some N0) r q W' G' :=
 ⟨h.e.trans (e.mono fun t _ g => by omega), h.x.ext e, h.l.ext e, h.t.ext e, fun N g => (h.a N g).ext e, fun N g => (h.c N g).ext e, fun N g => (h.m N g).ext e, (fun N g => by cases g; exact hm), fun N g => (h.r N g).ext e, fun N g => (h.q N g).ext e⟩
theorem YB.setR {N0 : Nat} (h : YB w0 O0 k X N now tag ref lost p dd lv v0 a c m u none q W G) (e : Ext (fun t => t = k + 22) G W G' W') (hm : Ai6 W' G' (k + 22) N0 dd tag ref (Abe tag ref)) : YB w0 O0 k X N now tag ref lost p dd lv v0 a c m u (some N0) q W' G' :=
 ⟨h.e.trans (e.mono fun t _ g => by omega), h.x.ext e, h.l.ext e, h.t.ext e, fun N g => (h.a N g).ext e, fun N g => (h.c N g).ext e, fun N g => (h.m N g).ext e, fun N g => (h.u N g).ext e, (fun N g => by cases g; exact hm), fun N g => (h.q N g).ext e⟩
theorem YB.setQ {N0 : Nat} (h : YB w0 O0 k X N now tag ref lost p dd lv v0 a c m u r none W G) (e : Ext (fun t => t = k + 23 ∨ t = k + 23 + 1) G W G' W') (hm : Ada W' G' (k + 23) N0 (mk2 p dd)) : YB w0 O0 k X N now tag ref lost p dd lv v0 a c m u r (some N0) W' G' :=
 ⟨h.e.trans (e.mono fun t _ g => by omega), h.x.ext e, h.l.ext e, h.t.ext e, fun N g => (h.a N g).ext e, fun N g => (h.c N g).ext e, fun N g => (h.m N g).ext e, fun N g => (h.u N g).ext e, fun N g => (h.r N g).ext e, (fun N g => by cases g; exact hm)⟩
structure YC (w0 : World) (O0 : Om) (k X N : Nat) (now tag ref lost : Int) (p dd : Spt) (lv : Value) (m u r q : Nat) (W : World) (G : Om) : Prop where
 e : Ext (fun t => t = k ∨ t = k + 1 ∨ (k + 19 ≤ t ∧ t ≤ k + 24)) O0 w0 G W
 x : Ob W G k X (Ac6 now p lv tag ref lost)
 t : Ob W G 0 N (spl dd)
 m : Ada W G (k + 19) m (mk2 p dd)
 u : Abx W G (k + 21) u p ⟨0, 0⟩
 r : Ai6 W G (k + 22) r dd tag ref (Abe tag ref)
 q : Ada W G (k + 23) q (mk2 p dd)
theorem YB.app {m u r q : Nat} (h : YB w0 O0 k X N now tag ref lost p dd lv v0 a c (some m) (some u) (some r) (some q) W G) (e : Ext (fun t => t = k + 1) G W G' W') : YC w0 O0 k X N now tag ref lost p dd lv m u r q W' G' :=
 ⟨h.e.trans (e.mono fun t _ g => by omega), h.x.ext e, h.t.ext e, (h.m m rfl).ext e, (h.u u rfl).ext e, (h.r r rfl).ext e, (h.q q rfl).ext e⟩
theorem YC.fin {m u r q : Nat} (h : YC w0 O0 k X N now tag ref lost p dd lv m u r q W G) (hk : 10 ≤ k) (v : Value) (hs : Sls W G (k + 1) 1 v (1 + 4) ([v0] ++ [Abb m, Ak9 u, Aht r, Abb q])) : Ala w0 O0 k X now tag ref lost p dd v0 (W.setCell ⟨X, 4, none⟩ v) G := by
 have e := Aaf (j := 4) (v := v) h.e.hi h.x hk
 exact ⟨h.e.trans (e.mono fun t _ g => .inl g), _, m, u, r, q, h.x.set 4 v (by simp [Ac6]), hs.ext e, h.m.ext e, h.u.ext e, h.r.ext e, h.q.ext e⟩
end
section
variable {X : Nat} {w : World} {O : Om} {B : Wb} {f : Cf} {s : AW} {k : Nat}
theorem Awb {now tag ref lost : Int} {p dd : Spt} {lv v0 : Value} (hx : Ob w O k X (Ac6 now p lv tag ref lost)) (hS : Sls w O (k + 1) 1 lv 1 [v0]) (hp : p.ok) (hdd : dd.ok) (t0 : 0 ≤ tag) (t1 : tag ≤ 255) (r1 : ref ≤ 9223372036854775807) (hk : 10 ≤ k) (hhi : Hh O w) :
 Calls Tryz.prog 240 #[.pointer (some ⟨X, 0, none⟩), .agg #[.int .i64 dd.b, .int .i64 dd.q, .int .i64 dd.s], .bool true] w fun e w' => e = .returned (.tuple #[]) ∧ ∃ G, Ala w O k X now tag ref lost p dd v0 w' G := by
 obtain ⟨A, o, cp, rfl, hc1, hc2⟩ := hS.open (by decide)
 have HP := hQd (aN hp hdd)
 obtain ⟨e1, t1'⟩ := Aau (S := fun t => t = k ∨ t = k + 1 ∨ (k + 19 ≤ t ∧ t ≤ k + 24)) hhi #[.int .i64 dd.b, .int .i64 dd.q, .int .i64 dd.s] 95 w.heap.size rfl
 have hb := bal w (.cells #[.int .i64 dd.b, .int .i64 dd.q, .int .i64 dd.s] 95)
 have HE := hQd e1
 have HX := hQd (hx.below hb)
 have HL := hQd (hS.below hb)
 have HT := hQd t1'
 obtain ⟨i0, hi, hz0, hz1, hz2⟩ := info_parts Ahm
 have HI := hQd (aN hi (aN hz0 (aN hz1 hz2)))
 clear hp hdd hhi e1 t1' hb hi hz0 hz1 hz2 hx hS
 go_enter Tryz.func240, Tryz.ntmps240
 go_upto_region 2 with fail
 obtain ⟨w1, hw1⟩ := exq (w.alloc (.cells #[.int .i64 dd.b, .int .i64 dd.q, .int .i64 dd.s] 95))
 rw [← hw1] at HE HX HL HT ⊢
 obtain ⟨N, hN⟩ := exq w.heap.size
 rw [← hN] at HT ⊢
 clear hw1 hN
 refine' Awk (I := fun a c m u r W G => YB w O k X N now tag ref lost p dd (.slice (some ⟨A, o, none⟩) 1 cp) v0 (some a) (some c) (some m) (some u) (some r) none W G) (fun sh3 => ?_) ?t3
 rotate_left
 refine' Aok (I := fun a c m u W G => YB w O k X N now tag ref lost p dd (.slice (some ⟨A, o, none⟩) 1 cp) v0 (some a) (some c) (some m) (some u) none none W G) (fun sh2 => ?_) ?t2
 rotate_left
 refine' Aol (I := fun a c m W G => YB w O k X N now tag ref lost p dd (.slice (some ⟨A, o, none⟩) 1 cp) v0 (some a) (some c) (some m) none none none W G) (fun sh1 => ?_) ?t1
 rotate_left
 refine' Aom (I := fun a c W G => YB w O k X N now tag ref lost p dd (.slice (some ⟨A, o, none⟩) 1 cp) v0 (some a) (some c) none none none none W G) (fun sh0 => ?_) ?t0
 rotate_left
 refine Ad7 46 (S := fun w' => w'.cell? ⟨X, 4, none⟩ = some (.slice (some ⟨A, o, none⟩) 1 cp) ∧ w'.cell? ⟨X, 1, none⟩ = some (.int .i64 p.b) ∧ w'.cell? ⟨X, 2, none⟩ = some (.int .i64 p.q) ∧ w'.cell? ⟨X, 3, none⟩ = some (.int .i64 p.s) ∧ w'.cell? ⟨X, 5, none⟩ = some (.int .i64 tag) ∧ w'.cell? ⟨X, 6, none⟩ = some (.int .i64 ref) ∧ w'.cell? ⟨N, 0, none⟩ = some (.int .i64 dd.b) ∧ w'.cell? ⟨N, 1, none⟩ = some (.int .i64 dd.q) ∧ w'.cell? ⟨N, 2, none⟩ = some (.int .i64 dd.s)) (by kernel_rfl) ?sA (fun hH0 => ?rA)
 case sA => exact goS (HX.out.below (Aaa _)) (HT.out.below (Aaa _))
 have B0 : Hid (YB w O k X N now tag ref lost p dd (.slice (some ⟨A, o, none⟩) 1 cp) v0 none none none none none none w1.drew O) := hQd ⟨HE.out.below (Aaa w1), HX.out.below (Aaa w1), HL.out.below (Aaa w1), HT.out.below (Aaa w1), (fun _ h => by cases h), (fun _ h => by cases h), (fun _ h => by cases h), (fun _ h => by cases h), (fun _ h => by cases h), (fun _ h => by cases h)⟩
 generalize w1.drew = wd at hH0 B0 ⊢
 refine' Aem [0,1,2,3,4,5,6,7,8,9,10,11,15,16,17,18,21,22,23,24,25,26,27,28,29,32,33,34,35,36,37,38] (by kernel_rfl) (fun _ _ _ _ h => h) hH0 ?_
 iterate 32 ((try simp only [zz]); refine' tky (List.getElem?_toArray.trans rfl) (Or.inl ⟨by rfl, ?_⟩) ?_; rotate_left; · intro w hSw; (try dsimp only at hSw); go_simp; try with_reducible rfl)
 refine tk0 ?_
 try simp only [zz, Adk]
 refine Aad (rs := [12, 39]) (by kernel_rfl) (by simp) ?_
 refine' Aab.cons (List.getElem?_toArray.trans rfl) (fun K hK => ?st33) ?more33
 case st33 =>
  go_simp
  refine hK.out _ _ ?s34 (fun hH34 => ?r34)
  case s34 => ((try dsimp only); exact goS (B0.out.x.below (bal _ _)) (B0.out.t.below (bal _ _)))
  have b34 := B0.out.setA
  obtain ⟨v34, hv34⟩ := exq (wd.alloc (.cells #[.int .i64 p.b, .int .i64 p.q, .int .i64 dd.b, .int .i64 dd.q] 93))
  obtain ⟨N34, hn34⟩ := exq wd.heap.size
  rw [← hv34] at hH34 b34 ⊢
  rw [← hn34] at b34 ⊢
  have B34 := hQd b34
  clear hv34 hn34 b34 B0
  clear hK K hH0
  try simp only [zz]
  refine Aad (rs := [13, 39]) (by kernel_rfl) (by simp) ?_
  refine' Aab.cons (List.getElem?_toArray.trans rfl) (fun K hK => ?st35) ?more35
  case st35 =>
   go_simp
   refine' Calls.mono (Ae9 p dd HP.out.1 HP.out.2 (k + 19) (by omega) (by rw [(B34.out.a _ rfl).o]; omega) ⟨Nat.le_refl _, by unfold maxLen; decide⟩ (B34.out.a _ rfl).lt ((B34.out.a _ rfl).c 0 _ rfl) ((B34.out.a _ rfl).c 1 _ rfl) ((B34.out.a _ rfl).c 2 _ rfl) ((B34.out.a _ rfl).c 3 _ rfl) B34.out.e.hi) ?c36
   rintro e w36 ⟨m36, rfl, G36, e36, a36⟩
   have B36 := hQd (B34.out.setM e36 a36)
   clear a36 e36 B34
   try go_wp2_with fail
   refine hK.out _ _ ?s36 (fun hH36 => ?r36)
   case s36 => ((try dsimp only); exact goS B36.out.x B36.out.t)
   clear hK K hH34
   refine' Aem [14] (by kernel_rfl) (fun _ _ _ _ h => h) hH36 ?_
   iterate 1 ((try simp only [zz]); refine' tky (List.getElem?_toArray.trans rfl) (Or.inl ⟨by rfl, ?_⟩) ?_; rotate_left; · intro w hSw; (try dsimp only at hSw); go_simp; try with_reducible rfl)
   refine tk0 ?_
   try simp only [zz, Adk]
   refine Aad (rs := [19, 39]) (by kernel_rfl) (by simp) ?_
   refine' Aab.cons (List.getElem?_toArray.trans rfl) (fun K hK => ?st38) ?more38
   case st38 =>
    go_simp
    refine' Calls.mono (Aee (k := k + 21) HP.out.1 B36.out.e.hi) ?c39
    rintro e w39 ⟨m39, rfl, G39, e39, a39⟩
    have B39 := hQd (B36.out.setU e39 a39)
    clear a39 e39 B36
    try go_wp2_with fail
    refine hK.out _ _ ?s39 (fun hH39 => ?r39)
    case s39 => ((try dsimp only); exact goS B39.out.x B39.out.t)
    clear hK K hH36
    refine' Aem [20] (by kernel_rfl) (fun _ _ _ _ h => h) hH39 ?_
    iterate 1 ((try simp only [zz]); refine' tky (List.getElem?_toArray.trans rfl) (Or.inl ⟨by rfl, ?_⟩) ?_; rotate_left; · intro w hSw; (try dsimp only at hSw); go_simp; try with_reducible rfl)
    refine tk0 ?_
    try simp only [zz, Adk]
    refine Aad (rs := [30, 39]) (by kernel_rfl) (by simp) ?_
    refine' Aab.cons (List.getElem?_toArray.trans rfl) (fun K hK => ?st41) ?more41
    case st41 =>
     go_simp
     refine' Calls.mono (Ai0 (k := k + 22) dd tag ref HP.out.2 B39.out.e.hi t0 t1 r1) ?c42
     rintro e w42 ⟨m42, rfl, G42, e42, a42⟩
     have B42 := hQd (B39.out.setR e42 a42)
     clear a42 e42 B39
     try go_wp2_with fail
     refine hK.out _ _ ?s42 (fun hH42 => ?r42)
     case s42 => ((try dsimp only); exact goS B42.out.x B42.out.t)
     clear hK K hH39
     refine' Aem [31] (by kernel_rfl) (fun _ _ _ _ h => h) hH42 ?_
     iterate 1 ((try simp only [zz]); refine' tky (List.getElem?_toArray.trans rfl) (Or.inl ⟨by rfl, ?_⟩) ?_; rotate_left; · intro w hSw; (try dsimp only at hSw); go_simp; try with_reducible rfl)
     refine tk0 ?_
     try simp only [zz, Adk]
     refine Aad (rs := [39]) (by kernel_rfl) (by simp) ?_
     refine' Aab.cons (List.getElem?_toArray.trans rfl) (fun K hK => ?st44) ?more44
     case st44 =>
      go_simp
      refine hK.out _ _ ?s45 (fun hH45 => ?r45)
      case s45 => ((try dsimp only); exact goS (B42.out.x.below (bal _ _)) (B42.out.t.below (bal _ _)))
      have b45 := B42.out.setC
      obtain ⟨v45, hv45⟩ := exq (w42.alloc (.cells #[.int .i64 p.b, .int .i64 p.q, .int .i64 dd.b, .int .i64 dd.q] 93))
      obtain ⟨N45, hn45⟩ := exq w42.heap.size
      rw [← hv45] at hH45 b45 ⊢
      rw [← hn45] at b45 ⊢
      have B45 := hQd b45
      clear hv45 hn45 b45 B42
      clear hK K hH42
      try simp only [zz]
      exact sh3 N34 N45 m36 m39 m42 v45 G42 B45.out
     exact Aab.nil
    refine' Aab.cons (List.getElem?_toArray.trans rfl) (fun K hK => ?st46) ?more46
    case st46 =>
     go_simp
     refine hK.out _ _ ?s47 (fun hH47 => ?r47)
     case s47 => ((try dsimp only); exact goS (B39.out.x.below (bal _ _)) (B39.out.t.below (bal _ _)))
     have b47 := B39.out.setC
     obtain ⟨v47, hv47⟩ := exq (w39.alloc (.cells #[.int .i64 p.b, .int .i64 p.q, .int .i64 dd.b, .int .i64 dd.q] 93))
     obtain ⟨N47, hn47⟩ := exq w39.heap.size
     rw [← hv47] at hH47 b47 ⊢
     rw [← hn47] at b47 ⊢
     have B47 := hQd b47
     clear hv47 hn47 b47 B39
     clear hK K hH39
     try simp only [zz]
     exact sh2 N34 N47 m36 m39 v47 G39 B47.out
    exact Aab.nil
   refine' Aab.cons (List.getElem?_toArray.trans rfl) (fun K hK => ?st48) ?more48
   case st48 =>
    go_simp
    refine hK.out _ _ ?s49 (fun hH49 => ?r49)
    case s49 => ((try dsimp only); exact goS (B36.out.x.below (bal _ _)) (B36.out.t.below (bal _ _)))
    have b49 := B36.out.setC
    obtain ⟨v49, hv49⟩ := exq (w36.alloc (.cells #[.int .i64 p.b, .int .i64 p.q, .int .i64 dd.b, .int .i64 dd.q] 93))
    obtain ⟨N49, hn49⟩ := exq w36.heap.size
    rw [← hv49] at hH49 b49 ⊢
    rw [← hn49] at b49 ⊢
    have B49 := hQd b49
    clear hv49 hn49 b49 B36
    clear hK K hH36
    try simp only [zz]
    exact sh1 N34 N49 m36 v49 G36 B49.out
   exact Aab.nil
  refine' Aab.cons (List.getElem?_toArray.trans rfl) (fun K hK => ?st50) ?more50
  case st50 =>
   go_simp
   refine hK.out _ _ ?s51 (fun hH51 => ?r51)
   case s51 => ((try dsimp only); exact goS (B34.out.x.below (bal _ _)) (B34.out.t.below (bal _ _)))
   have b51 := B34.out.setC
   obtain ⟨v51, hv51⟩ := exq (v34.alloc (.cells #[.int .i64 p.b, .int .i64 p.q, .int .i64 dd.b, .int .i64 dd.q] 93))
   obtain ⟨N51, hn51⟩ := exq v34.heap.size
   rw [← hv51] at hH51 b51 ⊢
   rw [← hn51] at b51 ⊢
   have B51 := hQd b51
   clear hv51 hn51 b51 B34
   clear hK K hH34
   try simp only [zz]
   exact sh0 N34 N51 v51 O B51.out
  exact Aab.nil
 refine' Aab.cons (List.getElem?_toArray.trans rfl) (fun K hK => ?st52) ?more52
 case st52 =>
  go_simp
  refine hK.out _ _ ?s53 (fun hH53 => ?r53)
  case s53 => ((try dsimp only); exact goS (B0.out.x.below (bal _ _)) (B0.out.t.below (bal _ _)))
  have b53 := B0.out.setC
  obtain ⟨v53, hv53⟩ := exq (wd.alloc (.cells #[.int .i64 p.b, .int .i64 p.q, .int .i64 dd.b, .int .i64 dd.q] 93))
  obtain ⟨N53, hn53⟩ := exq wd.heap.size
  rw [← hv53] at hH53 b53 ⊢
  rw [← hn53] at b53 ⊢
  have B53 := hQd b53
  clear hv53 hn53 b53 B0
  clear hK K hH0
  try simp only [zz]
  refine Aad (rs := [12]) (by kernel_rfl) (by simp) ?_
  refine' Aab.cons (List.getElem?_toArray.trans rfl) (fun K hK => ?st54) ?more54
  case st54 =>
   go_simp
   refine hK.out _ _ ?s55 (fun hH55 => ?r55)
   case s55 => ((try dsimp only); exact goS (B53.out.x.below (bal _ _)) (B53.out.t.below (bal _ _)))
   have b55 := B53.out.setA
   obtain ⟨v55, hv55⟩ := exq (v53.alloc (.cells #[.int .i64 p.b, .int .i64 p.q, .int .i64 dd.b, .int .i64 dd.q] 93))
   obtain ⟨N55, hn55⟩ := exq v53.heap.size
   rw [← hv55] at hH55 b55 ⊢
   rw [← hn55] at b55 ⊢
   have B55 := hQd b55
   clear hv55 hn55 b55 B53
   clear hK K hH53
   try simp only [zz]
   exact sh0 N55 N53 v55 O B55.out
  exact Aab.nil
 exact Aab.nil
 case t0 =>
  intro a_0 c_0 W_0 G_0 hB_0
  have B_0 := hQd hB_0
  have hH_0 := goS hB_0.x hB_0.t
  clear hB_0
  refine Aad (rs := [13]) (by kernel_rfl) (by simp) ?_
  refine' Aab.cons (List.getElem?_toArray.trans rfl) (fun K hK => ?st56) ?more56
  case st56 =>
   go_simp
   refine' Calls.mono (Ae9 p dd HP.out.1 HP.out.2 (k + 19) (by omega) (by rw [(B_0.out.a _ rfl).o]; omega) ⟨Nat.le_refl _, by unfold maxLen; decide⟩ (B_0.out.a _ rfl).lt ((B_0.out.a _ rfl).c 0 _ rfl) ((B_0.out.a _ rfl).c 1 _ rfl) ((B_0.out.a _ rfl).c 2 _ rfl) ((B_0.out.a _ rfl).c 3 _ rfl) B_0.out.e.hi) ?c57
   rintro e w57 ⟨m57, rfl, G57, e57, a57⟩
   have B57 := hQd (B_0.out.setM e57 a57)
   clear a57 e57 B_0
   try go_wp2_with fail
   refine hK.out _ _ ?s57 (fun hH57 => ?r57)
   case s57 => ((try dsimp only); exact goS B57.out.x B57.out.t)
   clear hK K hH_0
   refine' Aem [14] (by kernel_rfl) (fun _ _ _ _ h => h) hH57 ?_
   iterate 1 ((try simp only [zz]); refine' tky (List.getElem?_toArray.trans rfl) (Or.inl ⟨by rfl, ?_⟩) ?_; rotate_left; · intro w hSw; (try dsimp only at hSw); go_simp; try with_reducible rfl)
   refine tk0 ?_
   try simp only [zz, Adk]
   exact sh1 a_0 c_0 m57 w57 G57 B57.out
  exact Aab.nil
 case t1 =>
  intro a_1 c_1 m_1 W_1 G_1 hB_1
  have B_1 := hQd hB_1
  have hH_1 := goS hB_1.x hB_1.t
  clear hB_1
  refine Aad (rs := [19]) (by kernel_rfl) (by simp) ?_
  refine' Aab.cons (List.getElem?_toArray.trans rfl) (fun K hK => ?st59) ?more59
  case st59 =>
   go_simp
   refine' Calls.mono (Aee (k := k + 21) HP.out.1 B_1.out.e.hi) ?c60
   rintro e w60 ⟨m60, rfl, G60, e60, a60⟩
   have B60 := hQd (B_1.out.setU e60 a60)
   clear a60 e60 B_1
   try go_wp2_with fail
   refine hK.out _ _ ?s60 (fun hH60 => ?r60)
   case s60 => ((try dsimp only); exact goS B60.out.x B60.out.t)
   clear hK K hH_1
   refine' Aem [20] (by kernel_rfl) (fun _ _ _ _ h => h) hH60 ?_
   iterate 1 ((try simp only [zz]); refine' tky (List.getElem?_toArray.trans rfl) (Or.inl ⟨by rfl, ?_⟩) ?_; rotate_left; · intro w hSw; (try dsimp only at hSw); go_simp; try with_reducible rfl)
   refine tk0 ?_
   try simp only [zz, Adk]
   exact sh2 a_1 c_1 m_1 m60 w60 G60 B60.out
  exact Aab.nil
 case t2 =>
  intro a_2 c_2 m_2 u_2 W_2 G_2 hB_2
  have B_2 := hQd hB_2
  have hH_2 := goS hB_2.x hB_2.t
  clear hB_2
  refine Aad (rs := [30]) (by kernel_rfl) (by simp) ?_
  refine' Aab.cons (List.getElem?_toArray.trans rfl) (fun K hK => ?st62) ?more62
  case st62 =>
   go_simp
   refine' Calls.mono (Ai0 (k := k + 22) dd tag ref HP.out.2 B_2.out.e.hi t0 t1 r1) ?c63
   rintro e w63 ⟨m63, rfl, G63, e63, a63⟩
   have B63 := hQd (B_2.out.setR e63 a63)
   clear a63 e63 B_2
   try go_wp2_with fail
   refine hK.out _ _ ?s63 (fun hH63 => ?r63)
   case s63 => ((try dsimp only); exact goS B63.out.x B63.out.t)
   clear hK K hH_2
   refine' Aem [31] (by kernel_rfl) (fun _ _ _ _ h => h) hH63 ?_
   iterate 1 ((try simp only [zz]); refine' tky (List.getElem?_toArray.trans rfl) (Or.inl ⟨by rfl, ?_⟩) ?_; rotate_left; · intro w hSw; (try dsimp only at hSw); go_simp; try with_reducible rfl)
   refine tk0 ?_
   try simp only [zz, Adk]
   exact sh3 a_2 c_2 m_2 u_2 m63 w63 G63 B63.out
  exact Aab.nil
 case t3 =>
  intro a_3 c_3 m_3 u_3 r_3 W_3 G_3 hB_3
  have B_3 := hQd hB_3
  have hH_3 := goS hB_3.x hB_3.t
  clear hB_3
  refine Aad (rs := [40]) (by kernel_rfl) (by simp) ?_
  refine' Aab.cons (List.getElem?_toArray.trans rfl) (fun K hK => ?st65) ?more65
  case st65 =>
   go_simp
   refine' Calls.mono (Ae9 p dd HP.out.1 HP.out.2 (k + 23) (by omega) (by rw [(B_3.out.c _ rfl).o]; omega) ⟨Nat.le_refl _, by unfold maxLen; decide⟩ (B_3.out.c _ rfl).lt ((B_3.out.c _ rfl).c 0 _ rfl) ((B_3.out.c _ rfl).c 1 _ rfl) ((B_3.out.c _ rfl).c 2 _ rfl) ((B_3.out.c _ rfl).c 3 _ rfl) B_3.out.e.hi) ?c66
   rintro e w66 ⟨m66, rfl, G66, e66, a66⟩
   have B66 := hQd (B_3.out.setQ e66 a66)
   clear a66 e66 B_3
   try go_wp2_with fail
   refine hK.out _ _ ?s66 (fun hH66 => ?r66)
   case s66 => ((try dsimp only); exact goS B66.out.x B66.out.t)
   clear hK K hH_3
   refine' Aem [41] (by kernel_rfl) (fun _ _ _ _ h => h) hH66 ?_
   iterate 1 ((try simp only [zz]); refine' tky (List.getElem?_toArray.trans rfl) (Or.inl ⟨by rfl, ?_⟩) ?_; rotate_left; · intro w hSw; (try dsimp only at hSw); go_simp; try with_reducible rfl)
   refine tk0 ?_
   try simp only [zz, Adk]
   refine Aad (rs := [42]) (by kernel_rfl) (by simp) ?_
   refine' Aab.cons (List.getElem?_toArray.trans rfl) (fun K hK => ?st68) ?more68
   case st68 =>
    go_simp
    refine hK.out _ _ ?s69 (fun hH69 => ?r69)
    case s69 => ((try dsimp only); exact goS (B66.out.x.below (bal _ _)) (B66.out.t.below (bal _ _)))
    clear hK K hH66
    try simp only [zz]
    refine Aad (rs := [43]) (by kernel_rfl) (by simp) ?_
    refine' Aab.cons (List.getElem?_toArray.trans rfl) (fun K hK => ?st70) ?more70
    case st70 =>
     refine Acu w66 (by rfl) _ _ 181 (by rfl) 188 i0 .nilIface 1 16 Tryz.underlying181 HI.out.1 HI.out.2.1 HI.out.2.2.1 HI.out.2.2.2 rfl (by decide) G66 (k + 1) (by omega) B66.out.e.hi (.slice (some ⟨A, o, none⟩) 1 cp) 1 [v0] (by rfl) B66.out.l 4 (by decide) [Abb m_3, Ak9 u_3, Aht r_3, Abb m66] _ (by rfl) rfl (by simp [Abb, Ak9, Aht, Value.oneCell']) (by unfold maxLen; decide) (by decide) ?_
     intro b71 o71 c71 w71 G71 e71 s71
     have B71 := hQd (aN (B66.out.app e71) s71)
     clear s71 e71 B66
     refine hK.out _ _ ?s71 (fun hH71 => ?r71)
     case s71 => ((try dsimp only); exact goS B71.out.1.x B71.out.1.t)
     have z4 := B71.out.1.x.c 4 _ rfl
     have zf := B71.out.1.x.f 4
     clear hK K hH69
     try simp only [zz]
     refine Aad (rs := [44]) (by kernel_rfl) (by simp) ?_
     refine' Aab.cons (List.getElem?_toArray.trans rfl) (fun K hK => ?st72) ?more72
     case st72 =>
      go_simp
      refine hK.out _ _ ?s73 (fun hH73 => ?r73)
      case s73 => ((try dsimp only); exact goS B71.out.1.x B71.out.1.t)
      clear hK K hH71
      refine' Aem [45] (by kernel_rfl) (fun _ _ _ _ h => h) hH73 ?_
      iterate 1 ((try simp only [zz]); refine' tky (List.getElem?_toArray.trans rfl) (Or.inl ⟨by rfl, ?_⟩) ?_; rotate_left; · intro w hSw; (try dsimp only at hSw); go_simp; try with_reducible rfl)
      refine tk0 ?_
      try simp only [zz, Adk]
      refine Aad (rs := [46]) (by kernel_rfl) (by simp) ?_
      refine' Aab.last (List.getElem?_toArray.trans rfl) (fun K hK => ?st75) ?more75
      case st75 =>
       go_simp
       refine hK.out _ _ ?_
       clear hK K
       try simp only [zz]
       refine Ad8 (by kernel_rfl) ?_ _
       go_wp2_with fail
       refine bodyPost_ret (v := .tuple #[]) (results_none (by rfl) _ _ _) rfl ?_
       exact ⟨rfl, G71, B71.out.1.fin hk (.slice (some ⟨b71, o71, none⟩) (1 + 4) c71) B71.out.2⟩
      exact Aab.nil
     exact Aab.nil
    exact Aab.nil
   exact Aab.nil
  exact Aab.nil
end
end Go.Proofs.YthbodknlhkapdaaGreat
