/- Parts of the walk. -/
import Derived.Test.YthbodknlhkapdaaGreatG2
import Derived.Carry
import Derived.Deep.RegionLaw
import Derived.WalkMore
namespace Go.Proofs.YthbodknlhkapdaaGreat
set_option linter.unusedVariables false
set_option linter.unusedSimpArgs false
set_option maxHeartbeats 8000000
set_option maxRecDepth 100000
section
open Go.RowKit Go.Shelf
def Akg (L : List (Int × Int × Int)) (x : Int × Int × Int) : List (Int × Int × Int) := if L.any (fun y => y.1 == x.1) then L else L ++ [x]
def Ap3 (b mo : Int) (bv : Value) (m : Nat) (i : Int) (wv : Value) (ov md : Bool) : List Value := [.int .i64 b, .int .i64 mo, bv, .map (some m), .int .i64 i, wv, .bool ov, .bool md]
def Ahe (L : List (Int × Int × Int)) : List Value := L.map fun x => .int .i64 x.1
def Aw6 (k X m : Nat) (b mo i : Int) (wv : Value) (ov md : Bool) (L : List (Int × Int × Int)) (w : World) (O : Om) (e : Ending) (w' : World) : Prop :=
 RP (fun t => t = k ∨ t = k + 1 ∨ t = k + 2) w O (.tuple #[]) (fun W G => ∃ bv, Ob W G k X (Ap3 b mo bv m i wv ov md) ∧ Sls W G (k + 1) 1 bv L.length (Ahe L) ∧ G m = k + 2 ∧ Agc W m L) e w'
section
variable {X m k : Nat} {w : World} {O : Om} {b mo i fr sl q : Int} {bv wv : Value} {ov md : Bool} {L : List (Int × Int × Int)}
theorem Asw (hx : Ob w O k X (Ap3 b mo bv m i wv ov md)) (hS : Sls w O (k + 1) 1 bv L.length (Ahe L)) (hm : O m = k + 2) (hM : Agc w m L) (q0 : -9223372036854775808 ≤ q) (q1 : q ≤ 9223372036854775807) (hl : L.length ≤ 4096) (hk : 10 ≤ k) (hhi : Hh O w) :
 Calls Tryz.prog 191 #[.pointer (some ⟨X, 0, none⟩), .int .i64 q, .agg #[.int .i64 fr, .int .i64 sl]] w (Aw6 k X m b mo i wv ov md (Akg L (q, fr, sl)) w O) := by
 have hb1 := bal w (.cells #[.int .i64 fr, .int .i64 sl] 306)
 obtain ⟨W1, hW1⟩ := exq (w.alloc (.cells #[.int .i64 fr, .int .i64 sl] 306))
 have n10 : W1.cell? ⟨w.heap.size, 0, none⟩ = some (.int .i64 fr) := by rw [hW1]; simp
 have n11 : W1.cell? ⟨w.heap.size, 1, none⟩ = some (.int .i64 sl) := by rw [hW1]; simp
 have s1 : w.heap.size < W1.heap.size := by rw [hW1]; simp
 rw [← hW1] at hb1
 have E1 : Ext (fun t => t = k ∨ t = k + 1 ∨ t = k + 2) O w O W1 := Ext.of_below hhi hb1
 have x1 := hx.below hb1
 have S1 := hS.below hb1
 have M1 := hM.block (hb1.block m hM.lt)
 obtain ⟨va, vb, hlk⟩ := M1.look_ok q0 q1
 have hb2 := bal W1 (.cells #[.int .i64 va, .int .i64 vb] 306)
 obtain ⟨W2, hW2⟩ := exq (W1.alloc (.cells #[.int .i64 va, .int .i64 vb] 306))
 rw [← hW2] at hb2
 have E2 := E1.trans (Ext.of_below (S := fun t => t = k ∨ t = k + 1 ∨ t = k + 2) E1.hi hb2)
 have x2 := x1.below hb2
 have S2 := S1.below hb2
 have M2 := M1.block (hb2.block m M1.lt)
 have n20 := (hb2.cell (p := ⟨w.heap.size, 0, none⟩) s1).trans n10
 have n21 := (hb2.cell (p := ⟨w.heap.size, 1, none⟩) s1).trans n11
 have hbd := Aaa W2
 have ED := E2.trans (Ext.of_below (S := fun t => t = k ∨ t = k + 1 ∨ t = k + 2) E2.hi hbd)
 obtain ⟨W3, hst, M3, e3⟩ := (M2.block (hbd.block m M2.lt)).store (g := k + 2) (by omega) q0 q1 fr sl (by omega) hm ED.hi
 have x3 := (x2.below hbd).ext e3
 have S3 := (S2.below hbd).ext e3
 have E3 := ED.trans (e3.mono (T := fun t => t = k ∨ t = k + 1 ∨ t = k + 2) fun t _ h => .inr (.inr h))
 obtain ⟨i0, hi, hz0, hz1, hz2⟩ := info_parts Ase
 have HI := hQd (aN hi (aN hz0 (aN hz1 hz2)))
 have p3 := x1.c 3 _ rfl
 have r3 := x2.c 3 _ rfl
 have t2 := x3.c 2 _ rfl
 have t2f := x3.f 2
 obtain ⟨N, hN⟩ := exq w.heap.size
 rw [← hN] at n20 n21
 have hXN : ¬ N = X := by have := hx.lt; omega
 have HX2 := hQd (aN E2 (aN x2 (aN S2 M2)))
 have HX3 := hQd (aN E3 (aN x3 (aN S3 M3)))
 have HM := hQd hm
 have HN := hQd hN
 have HL := hQd hl
 clear hx hS hm hM hhi hb1 hb2 E1 x1 S1 M1 E2 x2 S2 M2 E3 x3 S3 M3 e3 hbd ED n10 n11 s1 hi hz0 hz1 hz2 hl
 by_cases c : (L.any fun x => x.1 == q) = true
 · have HC := hQd c
   rw [c] at hlk
   clear c hst
   unfold Akg
   rw [if_pos HC.out]
   go_enter Tryz.func191, Tryz.ntmps191
   go_upto_region 1 with fail
   rw [← hN, ← hW1]
   clear hN hW1
   go_wp2_with fail
   rw [← hW2]
   go_end0
   exact ⟨rfl, O, HX2.out.1, bv, HX2.out.2.1, HX2.out.2.2.1, HM.out, HX2.out.2.2.2⟩
 have HC := hQd c
 rw [Bool.eq_false_iff.2 c] at hlk
 clear c
 unfold Akg
 rw [if_neg HC.out]
 go_enter Tryz.func191, Tryz.ntmps191
 go_upto_region 1 with fail
 rw [← hN, ← hW1]
 clear hN hW1
 go_upto_region 3 with fail
 rw [← hW2]
 clear hW2 hlk p3
 go_region
 clear hst n20 n21 r3
 go_wp2_with (at_builtin; refine Ad3 W3 rfl _ _ 217 rfl 3 i0 (.int .i64 0) 1 8 Tryz.underlying217 HI.out.1 HI.out.2.1 HI.out.2.2.1 HI.out.2.2.2 rfl (by decide) O (k + 1) (by omega) HX3.out.1.hi bv L.length (Ahe L) rfl HX3.out.2.2.1 1 (by decide) [.int .i64 q] _ rfl rfl (by simp [Value.oneCell']) (by have := HL.out; unfold maxLen; omega) (by have := HL.out; omega) ?_; intro b3 o3 c3 w3 G3 e3 s3; have HE3 := hQd (aN e3 s3); have x13 := (HX3.out.2.1.ext e3).c 2 _ rfl; have f13 := (HX3.out.2.1.ext e3).f 2; clear e3 s3)
 go_end0
 have y3 := HX3.out.2.1.ext HE3.out.1
 have e4 := Aaf (j := 2) (v := .slice (some ⟨b3, o3, none⟩) (L.length + 1) c3) HE3.out.1.hi y3 (by omega)
 refine ⟨rfl, G3, (HX3.out.1.trans (HE3.out.1.mono fun t _ h => .inr (.inl h))).trans (e4.mono fun t _ h => .inl h), _, y3.set 2 (.slice (some ⟨b3, o3, none⟩) (L.length + 1) c3) (by simp [Ap3]), ?_, ?_, ?_⟩
 · have := HE3.out.2.ext e4
   unfold Ahe
   rw [List.length_append, List.map_append]
   exact this
 · exact (HE3.out.1.lo m HX3.out.2.2.2.lt).trans HM.out
 have M4 : Agc _ m (L ++ [(q, fr, sl)]) := HX3.out.2.2.2.block (HE3.out.1.wr.block m HX3.out.2.2.2.lt fun hh => by have := hh.1; rw [HM.out] at this; omega)
 have hm3 : G3 m = k + 2 := (HE3.out.1.lo m HX3.out.2.2.2.lt).trans HM.out
 exact M4.block (e4.wr.block m M4.lt fun hh => by have := hh.1; rw [hm3] at this; omega)
end
end
section
open Go.RowKit Go.Shelf
theorem Alx (l : List Wnd) (n : Wnd) : Akg (l.map Ac7) (Ac7 n) = (Ab7 l n).map Ac7 := by
 have h : (l.map Ac7).any (fun y => y.1 == (Ac7 n).1) = Aha l n.q := by
  unfold Aha; rw [List.any_map]; rfl
 unfold Akg Ab7
 rw [h]
 split
 · rfl
 rw [List.map_append]; rfl
theorem Aid (l : List Wnd) : Ahe (l.map Ac7) = l.map fun n => .int .i64 n.q := by
 unfold Ahe; rw [List.map_map]; rfl
section
variable {X m k : Nat} {w : World} {O : Om}
theorem Apr (b a c mo : Int) (b0 : 1 ≤ b) (b1 : b ≤ 12) (a0 : 0 ≤ a) (a1 : a < Aac b) (c0 : 0 ≤ c) (c1 : c < Aac b) (hk : 10 ≤ k) (hhi : Hh O w) :
 Calls Tryz.prog 184 #[.int .i64 b, .int .i64 a, .int .i64 c, .int .i64 mo] w fun e w' => ∃ R, RP (fun t => k ≤ t ∧ t < k + 4) w O (.pointer (some ⟨R, 0, none⟩)) (fun W G => Am3 W G k R (Ag9 b a c mo)) e w' := by
 have hz : Ag9 b a c mo = ⟨1, Ab7 [⟨a, -1, 0⟩] ⟨c, -1, 0⟩, 0, b, mo, []⟩ := by unfold Ag9; rw [if_pos ⟨a0, a1, c0, c1⟩]
 rw [hz]
 clear hz
 have HS := hQd (fun W => Acc b W (by omega) (by omega))
 have hsz := Aah b
 generalize Aac b = sz at HS a1 c1 hsz
 have hmm := @run_makeMap Tryz.prog
 obtain ⟨G1, e1, x1, -⟩ := Aar hhi k #[.int .i64 b, .int .i64 mo, .slice none 0 0, .map none, .int .i64 0, .slice none 0 0, .bool false, .bool false] 304 w.heap.size rfl
 obtain ⟨W1, hW1⟩ := exq (w.alloc (.cells #[.int .i64 b, .int .i64 mo, .slice none 0 0, .map none, .int .i64 0, .slice none 0 0, .bool false, .bool false] 304))
 rw [← hW1] at e1 x1
 have d1 : decide (a < 0) = false := by simp; omega
 have d2 : decide (sz ≤ a) = false := by simp; omega
 have d3 : decide (c < 0) = false := by simp; omega
 have d4 : decide (sz ≤ c) = false := by simp; omega
 have g0 : ∀ W, (Instr.index 275 (.agg #[.int .i64 a, .int .i64 c]) (.int .i64 0)).run Tryz.prog W = .ok (.int .i64 a) W := fun W => by kernel_rfl
 have g1 : ∀ W, (Instr.index 275 (.agg #[.int .i64 a, .int .i64 c]) (.int .i64 1)).run Tryz.prog W = .ok (.int .i64 c) W := fun W => by kernel_rfl
 obtain ⟨N, hN⟩ := exq w.heap.size
 rw [← hN] at x1
 have HX := hQd (aN e1 x1)
 have HQ := hQd (aN a0 (aN a1 (aN c0 (aN c1 hsz))))
 clear e1 x1 hhi a0 a1 c0 c1 hsz
 go_enter Tryz.func184, Tryz.ntmps184
 go_upto_region 2 with fail
 rw [← hN, ← hW1]
 clear hN hW1
 go_wp2_with fail
 refine wp_loop_rounds 3 ?_
 rw [rounds_succ]
 go_wp2_with fail
 refine (HS.out _).mono ?_
 rintro e w' ⟨rfl, rfl⟩
 go_wp2_with fail
 rw [rounds_succ]
 go_wp2_with fail
 refine (HS.out _).mono ?_
 rintro e w' ⟨rfl, rfl⟩
 go_wp2_with fail
 rw [rounds_succ]
 clear g0 g1 d1 d2 d3 d4
 obtain ⟨-, -, -, y3, -, -, -, y7⟩ := HX.out.2.c8
 have f3 := HX.out.2.f 3
 have f7 := HX.out.2.f 7
 have hlt := HX.out.2.lt
 have hne : ¬ N = W1.heap.size := by omega
 have hne2 : ¬ W1.heap.size = N := by omega
 go_wp2_with fail
 have x7 := HX.out.2.set 7 (.bool true) (by simp)
 have e7 := Aaf (j := 7) (v := .bool true) HX.out.1.hi HX.out.2 hk
 have x3 := x7.set 3 (.map (some W1.heap.size)) (by simp)
 have e3 := Aaf (j := 3) (v := .map (some W1.heap.size)) e7.hi x7 hk
 obtain ⟨W2, hW2⟩ := exq ((W1.setCell ⟨N, 7, none⟩ (.bool true)).setCell ⟨N, 3, none⟩ (.map (some W1.heap.size)))
 have hs2 : W2.heap.size = W1.heap.size := by rw [hW2]; simp
 rw [← hW2] at x3 e3 ⊢
 have e8 := Ext.alloc (S := fun t => t = k + 2) (g := k + 2) e3.hi rfl (.map #[] 0)
 have x8 := x3.alloc (g2 := k + 2) (.map #[] 0)
 have M8 := Agc.made W2
 have o8 : Aei G1 W2.heap.size (W2.heap.size + 1) (k + 2) W2.heap.size = k + 2 := by unfold Aei; rw [if_pos (by omega)]
 obtain ⟨G2, hG2⟩ := exq (Aei G1 W2.heap.size (W2.heap.size + 1) (k + 2))
 rw [← hG2] at e8 x8 o8
 rw [hs2] at M8 o8
 have E8 : Ext (fun t => k ≤ t ∧ t < k + 4) O w G2 (W2.alloc (.map #[] 0)) := (HX.out.1.mono fun t _ h => by omega).trans ((e7.mono fun t _ h => by omega).trans ((e3.mono fun t _ h => by omega).trans (e8.mono fun t _ h => by omega)))
 obtain ⟨m, hm⟩ := exq W1.heap.size
 rw [← hm] at x8 M8 o8 ⊢
 obtain ⟨W3, hW3⟩ := exq (W2.alloc (.map #[] 0))
 rw [← hW3] at E8 x8 M8 ⊢
 have x8 : Ob W3 G2 k N (Ap3 b mo (.slice none 0 0) m 0 (.slice none 0 0) false true) := x8
 have H8 := hQd (aN E8 (aN x8 (aN M8 o8)))
 clear x7 e7 x3 e3 hW2 hs2 e8 x8 M8 o8 hG2 E8 hm hW3 y3 y7 f3 f7 hlt hne hne2 HX hmm
 refine (Asw (L := []) H8.out.2.1 (Sls.nil _ _ _ _) H8.out.2.2.2 H8.out.2.2.1 (by have := HQ.out; omega) (by have := HQ.out; omega) (by simp) hk H8.out.1.hi).mono ?_
 rintro e W4 ⟨rfl, G4, e4, bv4, x4, S4, m4, M4⟩
 have H4 := hQd (aN (H8.out.1.trans (e4.mono (T := fun t => k ≤ t ∧ t < k + 4) fun t _ h => by omega)) (aN x4 (aN S4 (aN m4 M4))))
 clear e4 x4 S4 m4 M4 H8
 go_wp2_with fail
 refine (Asw H4.out.2.1 H4.out.2.2.1 H4.out.2.2.2.1 H4.out.2.2.2.2 (by have := HQ.out; omega) (by have := HQ.out; omega) (by unfold Akg; split <;> simp) hk H4.out.1.hi).mono ?_
 rintro e W5 ⟨rfl, G5, e5, bv5, x5, S5, m5, M5⟩
 have H5 := hQd (aN (H4.out.1.trans (e5.mono (T := fun t => k ≤ t ∧ t < k + 4) fun t _ h => by omega)) (aN x5 (aN S5 (aN m5 M5))))
 clear e5 x5 S5 m5 M5 H4
 go_wp2_with fail
 go_ret
 have hL : Akg (Akg [] (a, -1, -1)) (c, -1, -1) = (Ab7 [⟨a, -1, 0⟩] ⟨c, -1, 0⟩).map Ac7 := Alx [⟨a, -1, 0⟩] ⟨c, -1, 0⟩
 rw [hL] at H5
 refine ⟨N, rfl, G5, H5.out.1, bv5, .map (some m), .slice none 0 0, false, true, H5.out.2.1, fun _ => ⟨rfl, rfl⟩, fun h => absurd h (by show ¬ (1 : Int) = 0; decide), fun _ => ?_, fun _ => ⟨m, rfl, H5.out.2.2.2.1, H5.out.2.2.2.2⟩, Sls.nil _ _ _ _⟩
 have := H5.out.2.2.1
 rw [Aid, List.length_map] at this
 exact this
end
end
section
open Go.RowKit Go.Shelf
theorem Ash (l : List Spt) : (l.flatMap spl).length = l.length * 3 := by
 induction l with
 | nil => rfl
 | cons p l ih => rw [List.flatMap_cons, List.length_append, ih, List.length_cons]; simp [spl]; omega
theorem Abu (l : List Spt) : ∀ (i : Nat) (p : Spt), l[i]? = some p → (l.flatMap spl)[i * 3]? = some (.int .i64 p.b) ∧ (l.flatMap spl)[i * 3 + 1]? = some (.int .i64 p.q) ∧ (l.flatMap spl)[i * 3 + 2]? = some (.int .i64 p.s) := by
 induction l with
 | nil => intro i p h; simp at h
 | cons x l ih =>
   intro i p h
   rw [List.flatMap_cons]
   cases i with
   | zero => simp at h; subst h; exact ⟨rfl, rfl, rfl⟩
   | succ i =>
     obtain ⟨h1, h2, h3⟩ := ih i p (by simpa using h)
     have e : ∀ j, (spl x ++ l.flatMap spl)[(i + 1) * 3 + j]? = (l.flatMap spl)[i * 3 + j]? := fun j => by
      rw [List.getElem?_append_right (by simp [spl]; omega)]
      congr 1
      simp [spl]; omega
     exact ⟨(e 0).trans h1, (e 1).trans h2, (e 2).trans h3⟩
theorem Al0 (l : List Spt) : ∀ (i : Nat) (p : Spt), i < l.length → (((l.flatMap spl).set (i * 3) (.int .i64 p.b)).set (i * 3 + 1) (.int .i64 p.q)).set (i * 3 + 2) (.int .i64 p.s) = (l.set i p).flatMap spl := by
 induction l with
 | nil => intro i p h; simp at h
 | cons x l ih =>
   intro i p h
   cases i with
   | zero => simp [spl]
   | succ i =>
     have := ih i p (by simpa using h)
     rw [List.set_cons_succ, List.flatMap_cons, List.flatMap_cons, ← this]
     have e : ∀ (xs : List Value) (j : Nat) (u : Value), (spl x ++ xs).set ((i + 1) * 3 + j) u = spl x ++ xs.set (i * 3 + j) u := fun xs j u => by
      rw [List.set_append_right _ _ (by simp [spl]; omega)]
      congr 2
      simp [spl]; omega
     show (((spl x ++ l.flatMap spl).set ((i + 1) * 3 + 0) _).set ((i + 1) * 3 + 1) _).set ((i + 1) * 3 + 2) _ = _
     rw [e, e, e]
     rfl
theorem Sls.setc {w : World} {O : Om} {g size n c b o j : Nat} {xs : List Value} {u : Value} (h : Sls w O g size (.slice (some ⟨b, o, none⟩) n c) n xs) (hj : j < n * size) : Sls (w.setCell ⟨b, o + j, none⟩ u) O g size (.slice (some ⟨b, o, none⟩) n c) n (xs.set j u) := by
 obtain ⟨ao, c', h1, h2, h3, h4, h5⟩ := h.ex
 cases h1
 rcases h5 with ⟨h, _⟩ | ⟨b', o', cs, e, q, q2, q3⟩
 · cases h
 cases e
 have hc : n * size ≤ c * size := Nat.mul_le_mul_right _ h2
 refine ⟨_, c, rfl, h2, h3, by rw [List.length_set]; exact h4, .inr ⟨b, o, cs.set (o + j) u, rfl, q.set _ _ (by omega), by rw [List.length_set]; exact q2, ?_⟩⟩
 rw [← q3]
 apply List.ext_getElem?
 intro i
 by_cases hi : i < n * size
 · rw [List.getElem?_take_of_lt hi, List.getElem?_drop, List.getElem?_set, List.getElem?_set]
   by_cases e : j = i
   · subst e
     rw [if_pos rfl, if_pos rfl, if_pos (by omega), if_pos (by rw [List.length_take, List.length_drop]; omega)]
   rw [if_neg (by omega), if_neg e, List.getElem?_take_of_lt hi, List.getElem?_drop]
 rw [List.getElem?_eq_none (by rw [List.length_take]; omega), List.getElem?_eq_none (by rw [List.length_set, List.length_take]; omega)]
def Ak7 (ps cur : List Spt) (i : Nat) : Prop := cur.length = ps.length ∧ ∀ r, r < ps.length → cur[r]? = if r < i ∨ ps.length ≤ r + i then ps[ps.length - 1 - r]? else ps[r]?
theorem Ak7.zero (ps : List Spt) : Ak7 ps ps 0 := ⟨rfl, fun r hr => by rw [if_neg (by omega)]⟩
theorem Ak7.done {ps cur : List Spt} {i : Nat} (h : Ak7 ps cur i) (hi : ps.length ≤ 2 * i + 1) : cur = ps.reverse := by
 apply List.ext_getElem?
 intro r
 by_cases hr : r < ps.length
 · rw [h.2 r hr, List.getElem?_reverse hr]
   split
   · rfl
   have : ps.length - 1 - r = r := by omega
   rw [this]
 rw [List.getElem?_eq_none (by rw [h.1]; omega), List.getElem?_eq_none (by rw [List.length_reverse]; omega)]
theorem Ak7.step {ps cur : List Spt} {i : Nat} (h : Ak7 ps cur i) (hi : 2 * i + 1 < ps.length) : ∃ p q, cur[i]? = some p ∧ cur[ps.length - 1 - i]? = some q ∧ Ak7 ps ((cur.set i q).set (ps.length - 1 - i) p) (i + 1) := by
 have hl := h.1
 have hp : cur[i]? = some cur[i] := List.getElem?_eq_getElem (by omega)
 have hq : cur[ps.length - 1 - i]? = some cur[ps.length - 1 - i] := List.getElem?_eq_getElem (by omega)
 refine ⟨_, _, hp, hq, by rw [List.length_set, List.length_set]; exact hl, fun r hr => ?_⟩
 rw [List.getElem?_set, List.getElem?_set]
 by_cases c1 : ps.length - 1 - i = r
 · rw [if_pos c1, if_pos (by rw [List.length_set]; omega), if_pos (by omega), ← hp, h.2 i (by omega), if_neg (by omega)]
   congr 1; omega
 rw [if_neg c1]
 by_cases c2 : i = r
 · rw [if_pos c2, if_pos (by omega), if_pos (by omega), ← hq, h.2 _ (by omega), if_neg (by omega), ← c2]
 rw [if_neg c2, h.2 r hr]
 by_cases c3 : r < i ∨ ps.length ≤ r + i
 · rw [if_pos c3, if_pos (by omega)]
 rw [if_neg c3, if_neg (by omega)]
section
variable {w : World} {O : Om} {g : Nat}
theorem Aq0 {v : Value} (ps : List Spt) (hS : Sls w O g 3 v ps.length (ps.flatMap spl)) (hl : ps.length ≤ 8192) (hg : g ≠ 0) (hhi : Hh O w) :
 Calls Tryz.prog 203 #[v] w fun e w' => e = .returned (.tuple #[]) ∧ Ext (fun t => t = g) O w O w' ∧ Sls w' O g 3 v ps.length (ps.reverse.flatMap spl) := by
 obtain ⟨n, hn⟩ := exq ps.length
 rw [← hn] at hS hl ⊢
 obtain ⟨ao, c, rfl, hnc, hcm⟩ := hS.shape
 have HS := hQd hS
 have HE := hQd (Ext.refl (S := fun t => t = g) hhi)
 have HN := hQd hn
 clear hS hn hhi
 go_enter Tryz.func203, Tryz.ntmps203
 go_wp2_with fail
 go_loopw [2, 3] (fun x y wr => ∃ (i : Nat) (cur : List Spt), i ≤ n ∧ x = .int .i64 i ∧ y = .int .i64 ((n : Int) - 1 - i) ∧ Ak7 ps cur i ∧ Ext (fun t => t = g) O w O wr ∧ Sls wr O g 3 (.slice ao n c) n (cur.flatMap spl))
  (fun x _ _ => n - (intOf x).toNat)
 case atStart => exact ⟨0, ps, Nat.zero_le _, rfl, by simp, Ak7.zero ps, HE.out, HS.out⟩
 obtain ⟨i, cur, hi, rfl, rfl, hr, he, hs⟩ := hrel
 by_cases h2 : 2 * i + 1 < n
 · have hlt : (i : Int) < (n : Int) - 1 - i := by omega
   obtain ⟨p, q, hp, hq, hr2⟩ := hr.step (by have := HN.out; omega)
   rw [← HN.out] at hq hr2
   obtain ⟨b, o, c', hv, -⟩ := hs.open (by omega)
   cases hv
   obtain ⟨a1, a2, a3⟩ := Abu cur i p hp
   obtain ⟨b1, b2, b3⟩ := Abu cur (n - 1 - i) q hq
   have u1 := hs.c _ _ a1
   have u2 := hs.c _ _ a2
   have u3 := hs.c _ _ a3
   have v1 := hs.c _ _ b1
   have v2 := hs.c _ _ b2
   have v3 := hs.c _ _ b3
   have ff := fun j => hs.f j
   have HX := hQd (aN he (aN hs hr2))
   obtain ⟨j, hj⟩ := exq (n - 1 - i)
   have ej : (n : Int) - 1 - i = j := by omega
   rw [← hj] at v1 v2 v3 HX
   rw [ej] at hlt ⊢
   have hjn : (j : Int) < n := by omega
   have hin : (i : Int) < n := by omega
   rw [← Nat.add_assoc] at u2 u3 v2 v3
   have hij : ¬ i = j := by omega
   have f1 := ff (o + i * 3)
   have f2 := ff (o + i * 3 + 1)
   have f3 := ff (o + i * 3 + 2)
   have k1 := ff (o + j * 3)
   have k2 := ff (o + j * 3 + 1)
   have k3 := ff (o + j * 3 + 2)
   have HJ := hQd hj
   clear ff hj ej
   clear he hs hr hr2 hp hq a1 a2 a3 b1 b2 b3 HS HE
   go_wp2_with fail
   go_region
   all_goals
    clear u1 u2 u3 v1 v2 v3 f1 f2 f3 k1 k2 k3
    have hb := HX.out.2.1.lt.2
    have hl1 : i * 3 + 2 < n * 3 := by omega
    have hl2 : j * 3 + 2 < n * 3 := by have := HJ.out; omega
    have r1 := HX.out.2.1.setc (j := i * 3) (u := .int .i64 q.b) (by omega)
    have r2 := r1.setc (j := i * 3 + 1) (u := .int .i64 q.q) (by omega)
    have r3 := r2.setc (j := i * 3 + 2) (u := .int .i64 q.s) (by omega)
    rw [Al0 cur i q (by have := HX.out.2.2.1; simp at this; have := HN.out; omega)] at r3
    have r4 := r3.setc (j := j * 3) (u := .int .i64 p.b) (by omega)
    have r5 := r4.setc (j := j * 3 + 1) (u := .int .i64 p.q) (by omega)
    have r6 := r5.setc (j := j * 3 + 2) (u := .int .i64 p.s) (by omega)
    rw [Al0 (cur.set i q) j p (by rw [List.length_set]; have := HX.out.2.2.1; simp at this; have := HN.out; have := HJ.out; omega)] at r6
    simp only [← Nat.add_assoc] at r6
    have q1 := Ext.of_set (S := fun t => t = g) (j := o + i * 3) (v := .int .i64 q.b) HX.out.1.hi hb hg rfl
    have q2 := Ext.of_set (S := fun t => t = g) (j := o + i * 3 + 1) (v := .int .i64 q.q) q1.hi hb hg rfl
    have q3 := Ext.of_set (S := fun t => t = g) (j := o + i * 3 + 2) (v := .int .i64 q.s) q2.hi hb hg rfl
    have q4 := Ext.of_set (S := fun t => t = g) (j := o + j * 3) (v := .int .i64 p.b) q3.hi hb hg rfl
    have q5 := Ext.of_set (S := fun t => t = g) (j := o + j * 3 + 1) (v := .int .i64 p.q) q4.hi hb hg rfl
    have q6 := Ext.of_set (S := fun t => t = g) (j := o + j * 3 + 2) (v := .int .i64 p.s) q5.hi hb hg rfl
    have HR := hQd (aN (HX.out.1.trans (q1.trans (q2.trans (q3.trans (q4.trans (q5.trans (q6.trans (Ext.of_below q6.hi (Aaa _))))))))) (r6.below (Aaa _)))
    clear r1 r2 r3 r4 r5 r6 q1 q2 q3 q4 q5 q6 hb
    go_wp2_with fail
    go_roundw
    case rel => exact ⟨i + 1, _, by omega, by go_num, by have := HJ.out; go_num, HX.out.2.2, HR.out⟩
    case measure => simp [intOf]; omega
 have hlt : ¬ (i : Int) < (n : Int) - 1 - i := by omega
 have e := hr.done (by have := HN.out; omega)
 rw [e] at hs
 have HX := hQd (aN he hs)
 clear he hs hr e HS HE
 go_wp2_with fail
 go_end0
 exact ⟨rfl, HX.out⟩
end
end
section
open Go.RowKit Go.Shelf
theorem Ext.set_new {S : Nat → Prop} {O G : Om} {w w' : World} {T j : Nat} {v : Value} (e : Ext S O w G w') (hT : w.heap.size ≤ T) : Ext S O w G (w'.setCell ⟨T, j, none⟩ v) :=
 ⟨e.lo, fun i hi => by simpa using e.hi i hi, e.nw, Aag.setCell e.wr (p := ⟨T, j, none⟩) (fun h => absurd h (by show ¬ T < _; omega)) _⟩
theorem Agc.setCell {w : World} {m T j : Nat} {v : Value} {L : List (Int × Int × Int)} (h : Agc w m L) (hT : T ≠ m) : Agc (w.setCell ⟨T, j, none⟩ v) m L := World.ownsMap.setCell h (a := ⟨T, j, none⟩) (Ne.symm hT) v
theorem Am7 (b : Int) (l : List Wnd) (f j : Nat) (s : Int) (acc : List Spt) (n : Wnd) (h : l[j]? = some n) : Ab9 b l (f + 1) j s acc = Ab9 b l f n.fr (if n.fr < 0 then -1 else n.sl) (⟨b, n.q, s⟩ :: acc) := by
 conv => lhs; unfold Ab9
 rw [if_neg (by omega)]
 simp only [Int.toNat_natCast, h]
 by_cases c : n.fr < 0
 · cases f with
   | zero => rfl
   | succ f => unfold Ab9; rw [if_pos c, if_pos c]
 rw [if_neg c]
theorem Aje (b : Int) (l : List Wnd) (f : Nat) (x s : Int) (acc : List Spt) (h : x < 0) : Ab9 b l f x s acc = acc := by
 cases f with
 | zero => rfl
 | succ f => unfold Ab9; rw [if_pos h]
theorem Af5 : (Tryz.prog.info? 95).map (fun i => (i.zero, i.size, i.bytes)) = some (some (.agg #[.int .i64 0, .int .i64 0, .int .i64 0]), 3, 24) := by kernel_rfl
theorem Asj {b : Int} {l : List Wnd} (h : WyL b l) : ((l.map Ac7).map (·.1)).Nodup := by
 rw [List.map_map]; exact h.nd
structure BkAt (b mo i : Int) (bv : Value) (m : Nat) (l : List Wnd) (P : List Spt) (k X : Nat) (w : World) (O : Om) (T : Nat) (x s : Int) (wr : World) : Prop where
 ex : ∃ G wv acc f, Ext (fun t => t = k ∨ t = k + 3) O w G wr ∧ Ob wr G k X (Ap3 b mo bv m i wv false true) ∧ Sls wr G (k + 1) 1 bv l.length (Ahe (l.map Ac7)) ∧ G m = k + 2 ∧ Agc wr m (l.map Ac7) ∧ Sls wr G (k + 3) 3 wv (acc : List Spt).length (acc.flatMap spl) ∧ Ob wr G 0 T [.int .i64 x, .int .i64 s] ∧ w.heap.size ≤ T ∧ Ab9 b l f x s acc.reverse = P ∧ x < (f : Int) ∧ acc.length + f ≤ 4097
def wyMe (t : Value) (w : World) : Nat := match t with
 | .pointer (some a) => match w.cell? a with
   | some v => (intOf v + 1).toNat
   | none => 0
 | _ => 0
section
variable {X m k : Nat} {w : World} {O : Om} {b mo i : Int} {bv wv : Value}
theorem Ayo (l : List Wnd) (i0 : Nat) (s0 : Int) (hl : WyL b l) (hb0 : 1 ≤ b) (hb1 : b ≤ 12) (hi0 : i0 < l.length) (hs0 : 0 ≤ s0) (hs1 : s0 ≤ 3) (hx : Ob w O k X (Ap3 b mo bv m i wv false true)) (hS : Sls w O (k + 1) 1 bv l.length (Ahe (l.map Ac7))) (hm : O m = k + 2) (hM : Agc w m (l.map Ac7)) (hW : Sls w O (k + 3) 3 wv 0 []) (hk : 10 ≤ k) (hhi : Hh O w) :
 Calls Tryz.prog 199 #[.pointer (some ⟨X, 0, none⟩), .int .i64 i0, .int .i64 s0] w fun e w' => e = .returned (.tuple #[]) ∧ ∃ G wv', Ext (fun t => t = k ∨ t = k + 3) O w G w' ∧ Ob w' G k X (Ap3 b mo bv m i wv' true true) ∧ Sls w' G (k + 3) 3 wv' (Ab9 b l (i0 + 1) i0 s0 []).length ((Ab9 b l (i0 + 1) i0 s0 []).flatMap spl) := by
 obtain ⟨P, hP⟩ := exq (Ab9 b l (i0 + 1) i0 s0 [])
 rw [← hP]
 have hlen := hl.len
 obtain ⟨e1, t1⟩ := Aau (S := fun t => t = k ∨ t = k + 3) hhi #[.int .i64 i0, .int .i64 s0] 306 w.heap.size rfl
 have hb1' := bal w (.cells #[.int .i64 i0, .int .i64 s0] 306)
 have HB : Hid (BkAt b mo i bv m l P k X w O w.heap.size i0 s0 (w.alloc (.cells #[.int .i64 i0, .int .i64 s0] 306))) := hQd ⟨O, wv, [], i0 + 1, e1, hx.below hb1', hS.below hb1', hm, hM.block (hb1'.block m hM.lt), hW.below hb1', t1, Nat.le_refl _, hP.symm, by omega, by simp; omega⟩
 obtain ⟨A, o, c, hbv, -⟩ := hS.open (by omega)
 subst hbv
 have HL := hQd hl
 have HK := hQd hk
 have hir : (i0 : Int) ≤ 9223372036854775807 := by omega
 have HI0 := hQd hi0
 obtain ⟨it, hi, hz0, hz1, hz2⟩ := info_parts Af5
 have HI := hQd (aN hi (aN hz0 (aN hz1 hz2)))
 have HEN := hQd (Asj hl)
 clear hP e1 t1 hb1' hx hS hm hM hW hhi hi0 hl hi hz0 hz1 hz2 hs0 hs1
 go_enter Tryz.func199, Tryz.ntmps199
 go_wp2_with fail
 go_loopw [6] (fun t wr => ∃ (T : Nat) (x s : Int), t = .pointer (some ⟨T, 0, none⟩) ∧ BkAt b mo i (.slice (some ⟨A, o, none⟩) l.length c) m l P k X w O T x s wr ∧ -1 ≤ x ∧ x < l.length)
  (fun t wr => wyMe t wr)
 case atStart => exact ⟨_, _, _, rfl, HB.out, by omega, by have := HI0.out; omega⟩
 obtain ⟨T, x, s, rfl, hbk, hx0, hx1⟩ := hrel
 obtain ⟨G, wv, acc, f, E, hx, hS, hm, hM, hW, hT, hTn, hP, hxf, haf⟩ := hbk.ex
 by_cases hx2 : 0 ≤ x
 · obtain ⟨j, rfl⟩ : ∃ j : Nat, x = j := ⟨x.toNat, by omega⟩
   have hj : j < l.length := by omega
   have hn : l[j]? = some l[j] := List.getElem?_eq_getElem hj
   generalize l[j] = n at hn
   have hnq := HL.out.q n (List.mem_iff_getElem?.2 ⟨j, hn⟩)
   have hnf := HL.out.fr j n hn
   have hsz := Aah b
   obtain ⟨f, rfl⟩ : ∃ g, f = g + 1 := ⟨f - 1, by omega⟩
   rw [Am7 b l f j s _ n hn] at hP
   have hme : Ac7 n ∈ l.map Ac7 := List.mem_map_of_mem (List.mem_iff_getElem?.2 ⟨j, hn⟩)
   obtain ⟨c0, -, c2, c3, -, c5⟩ := hx.c6
   have f5 := hx.f 5
   obtain ⟨t0, t1⟩ := hT.c2
   have tf0 := hT.f 0
   have tf1 := hT.f 1
   have a0 : wr.cell? ⟨A, o + j, none⟩ = some (.int .i64 n.q) := hS.c j _ (by unfold Ahe; rw [List.map_map, List.getElem?_map, hn]; rfl)
   have hjl : (j : Int) < l.length := by omega
   obtain ⟨q, hq⟩ := exq n.q
   rw [← hq] at a0 hP hnq
   have hXT : ¬ T = X := fun e => by have h1 := hT.o; have h2 := hx.o; rw [e, h2] at h1; omega
   have hTm : T ≠ m := fun e => by have h1 := hT.o; have h2 := hm; rw [← e, h1] at h2; omega
   have dj : ((j : Int) != -1) = true := by first | (simp; done) | (simp; omega)
   obtain ⟨wao, wc, rfl, -⟩ := hW.shape
   have HX := hQd (aN E (aN hx (aN hS (aN hm (aN hM (aN hW hT))))))
   have HP2 := hQd (aN hP (aN hxf haf))
   have HT2 := hQd hTn
   have HNF := hQd (aN hnq (aN hnf hsz))
   have HME := hQd hme
   have HQ := hQd hq
   clear E hx hS hm hM hW hT hTn hP hxf haf hme hn hbk hnf hnq hsz hq HB
   go_upto_region 3 with fail
   have HTZ := hQd t0
   go_region
   go_upto_region 3 with fail
   obtain ⟨W, hW⟩ := exq wr.drew
   have hbw : Below wr.heap.size wr W := by rw [hW]; exact Aaa wr
   rw [← hW]
   have HX := hQd (aN (HX.out.1.trans (Ext.of_below (S := fun t => t = k ∨ t = k + 3) HX.out.1.hi hbw)) (aN (HX.out.2.1.below hbw) (aN HX.out.2.2.2.1 (aN (HX.out.2.2.2.2.1.block (hbw.block m HX.out.2.2.2.2.1.lt)) (aN (HX.out.2.2.2.2.2.1.below hbw) (aN (HX.out.2.2.2.2.2.2.below hbw) (HX.out.2.2.1.below hbw)))))))
   clear hW hbw c0 c2 c3 c5 f5 t0 t1 tf0 tf1 a0
   obtain ⟨c0, -, -, c3, -, c5⟩ := HX.out.2.1.c6
   have f5 := HX.out.2.1.f 5
   obtain ⟨t0, t1⟩ := HX.out.2.2.2.2.2.1.c2
   have hXW : ¬ X = W.heap.size := by have := HX.out.2.1.lt; omega
   have hXW2 : ¬ W.heap.size = X := by omega
   have hTW : ¬ T = W.heap.size := by have := HX.out.2.2.2.2.2.1.lt; omega
   have hTW2 : ¬ W.heap.size = T := by omega
   have hlX : X < W.heap.size := HX.out.2.1.lt
   have hlT : T < W.heap.size := HX.out.2.2.2.2.2.1.lt
   have hba := bal W (.cells #[.int .i64 b, .int .i64 q, .int .i64 s] 95)
   have ca0 := (hba.cell (p := ⟨X, 0, none⟩) hlX).trans c0
   have ca5 := (hba.cell (p := ⟨X, 5, none⟩) hlX).trans c5
   have ta1 := (hba.cell (p := ⟨T, 1, none⟩) hlT).trans t1
   clear hba
   have HXd := hQd (aN (HX.out.1.trans (Ext.of_below (S := fun t => t = k ∨ t = k + 3) HX.out.1.hi (Aaa W))) (aN (HX.out.2.1.below (Aaa W)) (aN (HX.out.2.2.2.2.1.below (Aaa W)) (aN (HX.out.2.2.2.1.block ((Aaa W).block m HX.out.2.2.2.1.lt)) (aN (HX.out.2.2.2.2.2.1.below (Aaa W)) (HX.out.2.2.2.2.2.2.below (Aaa W)))))))
   go_region_law ((refine Acu W.drew (by rfl) _ _ 227 (by rfl) 95 it (.agg #[.int .i64 0, .int .i64 0, .int .i64 0]) 3 24 Tryz.underlying227 HI.out.1 HI.out.2.1 HI.out.2.2.1 HI.out.2.2.2 rfl (by decide) G (k + 3) (by omega) HXd.out.1.hi (.slice wao acc.length wc) acc.length (acc.flatMap spl) (by rfl) HXd.out.2.2.1 1 (by decide) [.int .i64 b, .int .i64 q, .int .i64 s] _ (by rfl) rfl (by simp [Value.oneCell']) (by have := HP2.out.2.2; unfold maxLen; omega) (by have := HP2.out.2.2; omega) ?_; intro b1 o1 c1 w1 G1 e1 s1; have y5 := (HXd.out.2.1.ext e1).c 5 _ rfl; have g5 := (HXd.out.2.1.ext e1).f 5; have H1 := hQd (aN e1 s1); clear e1 s1))
   all_goals
    clear c0 c3 c5 f5 t0 t1 hXW hXW2 hTW hTW2 hlX hlT ca0 ca5 ta1 y5 g5
    have x1 := HXd.out.2.1.ext H1.out.1
    have e4 := Aaf (j := 5) (v := .slice (some ⟨b1, o1, none⟩) (acc.length + 1) c1) H1.out.1.hi x1 hk
    have x3 := x1.set 5 (.slice (some ⟨b1, o1, none⟩) (acc.length + 1) c1) (by simp [Ap3])
    have E3 := HXd.out.1.trans ((H1.out.1.mono (T := fun t => t = k ∨ t = k + 3) fun t _ h => .inr h).trans (e4.mono (T := fun t => t = k ∨ t = k + 3) fun t _ h => .inl h))
    have m1 : G1 m = k + 2 := (H1.out.1.lo m HXd.out.2.2.2.1.lt).trans HX.out.2.2.1
    have M1 : Agc w1 m (l.map Ac7) := HXd.out.2.2.2.1.block (H1.out.1.wr.block m HXd.out.2.2.2.1.lt fun hh => by have := hh.1; rw [HX.out.2.2.1] at this; omega)
    have M3 := M1.block (e4.wr.block m M1.lt fun hh => by have := hh.1; rw [m1] at this; omega)
    have W3 := H1.out.2.ext e4
    have T3 := (HXd.out.2.2.2.2.1.ext H1.out.1).ext e4
    have S3 := (HXd.out.2.2.2.2.2.ext H1.out.1).ext e4
    obtain ⟨w3, hw3⟩ := exq (w1.setCell ⟨X, 5, none⟩ (.slice (some ⟨b1, o1, none⟩) (acc.length + 1) c1))
    rw [← hw3] at x3 E3 M3 W3 T3 S3 ⊢
    have hlk := M3.look HEN.out (Ac7 n) HME.out (by show -9223372036854775808 ≤ n.q; rw [← HQ.out]; have := HNF.out; omega) (by show n.q ≤ 9223372036854775807; rw [← HQ.out]; have := HNF.out; omega)
    have hlk : (Instr.lookup 302 (.map (some m)) (.int .i64 n.q) false).run Tryz.prog w3 = .ok (.agg #[.int .i64 n.fr, .int .i64 (if n.fr < 0 then -1 else n.sl)]) w3 := hlk
    rw [← HQ.out] at hlk
    have HF := hQd (aN HNF.out.2.1 HP2.out)
    obtain ⟨fr, hfr⟩ := exq n.fr
    obtain ⟨s', hs'⟩ := exq (if n.fr < 0 then -1 else n.sl)
    rw [← hs', ← hfr] at hlk
    rw [← hs', ← hfr] at HF
    have c3 := x3.c 3 _ rfl
    obtain ⟨t0, t1⟩ := T3.c2
    have tf0 := T3.f 0
    have tf1 := T3.f 1
    have T4 := (T3.set 0 (.int .i64 fr) (by simp)).set 1 (.int .i64 s') (by simp)
    have H3 := hQd (aN ((E3.set_new (j := 0) (v := .int .i64 fr) HT2.out).set_new (j := 1) (v := .int .i64 s') HT2.out) (aN ((x3.other (j := 0) (v := .int .i64 fr) hXT).other (j := 1) (v := .int .i64 s') hXT) (aN ((M3.setCell (j := 0) (v := .int .i64 fr) hTm).setCell (j := 1) (v := .int .i64 s') hTm) (aN m1 (aN ((W3.other (j := 0) (u := .int .i64 fr) T3.o (by omega)).other (j := 1) (u := .int .i64 s') T3.o (by omega)) (aN ((S3.other (j := 0) (u := .int .i64 fr) T3.o (by omega)).other (j := 1) (u := .int .i64 s') T3.o (by omega)) T4))))))
    clear x1 e4 x3 E3 m1 M1 M3 W3 T3 S3 hw3 T4 hfr hs' HX HXd H1
    go_wp2_with fail
    obtain ⟨w4, hw4⟩ := exq ((w3.setCell ⟨T, 0, none⟩ (.int .i64 fr)).setCell ⟨T, 1, none⟩ (.int .i64 s'))
    have hs4 : w4.heap.size = w3.heap.size := by rw [hw4]; simp
    rw [← hw4] at H3 ⊢
    obtain ⟨e5, t5⟩ := Aau (S := fun t => t = k ∨ t = k + 3) H3.out.1.hi #[.int .i64 fr, .int .i64 s'] 306 w3.heap.size hs4.symm
    have hb5 := bal w4 (.cells #[.int .i64 fr, .int .i64 s'] 306)
    have hTn : w.heap.size ≤ w3.heap.size := by rw [← hs4]; exact H3.out.1.size
    refine ⟨⟨_, fr, s', rfl, ⟨G1, _, acc ++ [⟨b, q, s⟩], f, H3.out.1.trans e5, H3.out.2.1.below hb5, H3.out.2.2.2.2.2.1.below hb5, H3.out.2.2.2.1, H3.out.2.2.1.block (hb5.block m H3.out.2.2.1.lt), ?_, t5, hTn, ?_, ?_, ?_⟩, ?_, ?_⟩, ?_⟩
    · have := H3.out.2.2.2.2.1.below hb5
      rw [List.flatMap_append, List.length_append]
      exact this
    · rw [List.reverse_append]; exact HF.out.2.1
    · have := HF.out; omega
    · rw [List.length_append, List.length_singleton]; have := HF.out; omega
    · have := HF.out; omega
    · have := HF.out; omega
    have t50 := t5.c 0 _ rfl
    unfold wyMe
    dsimp only
    rw [t50, HTZ.out]
    have := HF.out
    simp [intOf]; omega
 obtain rfl : x = -1 := by omega
 rw [Aje b l f (-1) s _ (by omega)] at hP
 have c5 := hx.c 5 _ rfl
 have t0 := hT.c 0 _ rfl
 obtain ⟨wao, wc, rfl, -⟩ := hW.shape
 have HR := hQd (Aq0 acc hW (by omega) (by omega) E.hi)
 have HX := hQd (aN E hx)
 have HP2 := hQd hP
 clear E hx hS hm hM hW hT hP hbk HB hxf haf
 go_wp2_with fail
 refine HR.out.mono ?_
 rintro e w2 ⟨rfl, e2, s2⟩
 have x2 := HX.out.2.ext e2
 have E2 := HX.out.1.trans (e2.mono (T := fun t => t = k ∨ t = k + 3) fun t _ h => .inr h)
 rw [HP2.out] at s2
 have hl2 : acc.length = P.length := by rw [← HP2.out, List.length_reverse]
 rw [hl2] at s2 x2
 have y6 := x2.c 6 _ rfl
 have g6 := x2.f 6
 have H2 := hQd (aN E2 (aN x2 s2))
 clear x2 E2 s2 e2 HX HR hl2
 go_wp2_with fail
 go_end0
 have e7 := Aaf (j := 6) (v := .bool true) H2.out.1.hi H2.out.2.1 hk
 exact ⟨rfl, G, _, H2.out.1.trans (e7.mono fun t _ h => .inl h), H2.out.2.1.set 6 (.bool true) (by simp [Ap3]), H2.out.2.2.ext e7⟩
end
end
section
open Go.RowKit Go.Shelf
structure Wz (k X m : Nat) (b mo i : Int) (L : List Wnd) (w0 : World) (O0 : Om) (B : Wb) (f : Cf) (s : AW) (w : World) (G : Om) (bv wv : Value) : Prop where
 e : Ext (SX k (k + 3)) O0 w0 G w
 p : PW w G B f s
 x : Ob w G k X (Ap3 b mo bv m i wv false true)
 b : Sls w G (k + 1) 1 bv L.length (Ahe (L.map Ac7))
 o : G m = k + 2
 m : Agc w m (L.map Ac7)
 w : Sls w G (k + 3) 3 wv 0 []
section
variable {X m k : Nat} {w0 w w' : World} {O0 G G' : Om} {B : Wb} {f : Cf} {s s' : AW} {b mo i : Int} {L : List Wnd} {bv wv : Value}
theorem Wz.below (h : Wz k X m b mo i L w0 O0 B f s w G bv wv) (hb : Below w.heap.size w w') : Wz k X m b mo i L w0 O0 B f s w' G bv wv :=
 ⟨h.e.trans (Ext.of_below h.e.hi hb), h.p.below h.e.hi hb, h.x.below hb, h.b.below hb, h.o, h.m.block (hb.block m h.m.lt), h.w.below hb⟩
theorem Wz.world (h : Wz k X m b mo i L w0 O0 B f s w G bv wv) (hk : 10 ≤ k) (e : Ext SW G w G' w') (hp : PW w' G' B f s') : Wz k X m b mo i L w0 O0 B f s' w' G' bv wv :=
 ⟨h.e.trans (e.mono fun t _ ht => SX.of_sw ht), hp, h.x.ext e fun h => by have := h.2; omega, h.b.ext e fun h => by have := h.2; omega, (e.lo m h.m.lt).trans h.o, h.m.block (e.wr.block m h.m.lt fun hh => by have := hh.1.2; rw [h.o] at this; omega), h.w.ext e fun h => by have := h.2; omega⟩
theorem Wz.node (h : Wz k X m b mo i L w0 O0 B f s w G bv wv) (hk : 10 ≤ k) {n : Wnd} {e : Ending} (hp : Aw6 k X m b mo i wv false true (Akg (L.map Ac7) (Ac7 n)) w G e w') : e = .returned (.tuple #[]) ∧ ∃ G' bv', Wz k X m b mo i (Ab7 L n) w0 O0 B f s w' G' bv' wv := by
 obtain ⟨rfl, G', e1, bv', x1, b1, m1, M1⟩ := hp
 rw [Alx] at b1 M1
 rw [List.length_map] at b1
 exact ⟨rfl, G', bv', h.e.trans (e1.mono fun t _ ht => .inr (by omega)), h.p.ext e1, x1, b1, m1, M1, h.w.ext e1⟩
end
theorem Am3.open {W : World} {G : Om} {k X : Nat} {z : Wym} (h : Am3 W G k X z) (hl : z.ln = 1) (hw : z.way = []) : ∃ m bv wv, Ob W G k X (Ap3 z.b z.mo bv m z.i wv false true) ∧ Sls W G (k + 1) 1 bv z.l.length (Ahe (z.l.map Ac7)) ∧ G m = k + 2 ∧ Agc W m (z.l.map Ac7) ∧ Sls W G (k + 3) 3 wv 0 [] := by
 obtain ⟨bv, mv, wv, ov, md, h1, h2, h3, h4, h5, h6⟩ := h.ex
 obtain ⟨rfl, rfl⟩ := h2 hl
 obtain ⟨m, rfl, q2, q3⟩ := h5 hl
 rw [hw] at h6
 have := h4 hl
 rw [← Aid] at this
 exact ⟨m, bv, wv, h1, this, q2, q3, h6⟩
section
variable {X k : Nat} {w : World} {O : Om}
theorem Apk (ov md : Bool) (h6 : w.cell? ⟨X, 6, none⟩ = some (.bool ov)) (h7 : w.cell? ⟨X, 7, none⟩ = some (.bool md)) : C1 198 X w fun e w' => e = .returned (.bool (!md || ov)) ∧ w = w' := by
 cases md
 · go_enter Tryz.func198, Tryz.ntmps198
   go_wp2
   go_ret
   exact ⟨rfl, rfl⟩
 go_enter Tryz.func198, Tryz.ntmps198
 go_wp2
 go_ret
 exact ⟨rfl, rfl⟩
end
theorem Ayn {X m k : Nat} {w0 w : World} {O0 G : Om} {B : Wb} {f : Cf} {s : AW} {b mo q : Int} {L : List Wnd} {bv wv : Value} {i j : Nat} (hk : 10 ≤ k) (hl : L.length ≤ 4096) (q0 : -9223372036854775808 ≤ q) (q1 : q ≤ 9223372036854775807) (h : Wz k X m b mo i L w0 O0 B f s w G bv wv) :
 Calls Tryz.prog 191 #[.pointer (some ⟨X, 0, none⟩), .int .i64 q, .agg #[.int .i64 i, .int .i64 j]] w fun e w' => e = .returned (.tuple #[]) ∧ ∃ G' bv', Wz k X m b mo i (Ab7 L ⟨q, i, j⟩) w0 O0 B f s w' G' bv' wv := by
 have h1 := Asw (fr := i) (sl := j) h.x (by rw [List.length_map]; exact h.b) h.o h.m q0 q1 (by rw [List.length_map]; exact hl) hk h.e.hi
 have e1 : Ac7 ⟨q, i, j⟩ = (q, (i : Int), (j : Int)) := by unfold Ac7; dsimp only; rw [if_neg (by omega)]
 rw [← e1] at h1
 exact h1.mono fun e w' hp => h.node hk hp
section
variable {X m k : Nat} {w : World} {O : Om} {B : Wb} {f : Cf} {s : AW} {b mo : Int} {L : List Wnd} {bv wv : Value}
theorem Ato (i : Nat) (n : Wnd) (h : Wz k X m b mo i L w O B f s w O bv wv) (hL : WyL b L) (hn : L[i]? = some n) (hb0 : 1 ≤ b) (hb1 : b ≤ 12) (hk : 10 ≤ k) (n0 : 0 ≤ s.n) (n1 : s.n ≤ 4611686018427387904) :
 C2 192 X B.p w (RP (SX k (k + 3)) w O (.bool ((Aaw (s, ⟨1, L, i, b, mo, []⟩)).2.ln == 0)) fun W G => PW W G B f (Aaw (s, ⟨1, L, i, b, mo, []⟩)).1 ∧ Am3 W G k X (Aaw (s, ⟨1, L, i, b, mo, []⟩)).2) := by
 have hlen := hL.len
 have hi : i < L.length := (List.getElem?_eq_some_iff.1 hn).1
 have hnq := hL.q n (List.mem_iff_getElem?.2 ⟨i, hn⟩)
 have hsz := Aah b
 have hQ : wyQ ⟨1, L, i, b, mo, []⟩ = n.q := by unfold wyQ; dsimp only; rw [hn]
 have hT : Auh s ⟨1, L, i, b, mo, []⟩ = s.M (Aai b n.q) := by unfold Auh; rw [hQ]
 have ht := Ab2 (b := b) (k := n.q) hnq
 have HTa := hQd (fun W => Aiu b n.q W (by omega) (by omega) (by omega) (by omega))
 have hbd := h.p.bd (Aai b n.q)
 have HF := hQd (fun W => Ak4 (s.M (Aai b n.q)) W hbd.1 hbd.2)
 have HO0 := hQd (Apk false true (h.x.c 6 _ rfl) (h.x.c 7 _ rfl))
 obtain ⟨A, o, c, rfl, -⟩ := h.b.open (by omega)
 have H := hQd h
 have HNQ := hQd (aN hnq hsz)
 have HL := hQd (aN hL hn)
 have HPL := hQd (aN hQ hT)
 obtain ⟨x0, -, x2, -, x4⟩ := h.x.c5
 have pp := h.p.wo.c0
 have a0 : w.cell? ⟨A, o + i, none⟩ = some (.int .i64 n.q) := h.b.c i _ (by unfold Ahe; rw [List.map_map, List.getElem?_map, hn]; rfl)
 have hil : (i : Int) < L.length := by omega
 have hta : 0 ≤ Aai b n.q ∧ Aai b n.q < 18446744073709551616 := by omega
 have HTA := hQd hta
 have HBD := hQd hbd
 obtain ⟨q, hq⟩ := exq n.q
 rw [← hq] at HTa HF HNQ HPL a0 HTA HBD
 obtain ⟨ta, hta2⟩ := exq (Aai b q)
 rw [← hta2] at HTa HF HPL HTA HBD
 obtain ⟨tg, htg⟩ := exq (s.M ta)
 rw [← htg] at HF HPL HBD
 obtain ⟨fr, hfr⟩ := exq (Aa5 tg)
 rw [← hfr] at HF
 have HFR := hQd hfr
 have HTG := hQd htg
 have HQ := hQd hq
 have HTT := hQd hta2
 clear h hL hn hnq hsz hQ hT ht hbd hta hq hta2 htg hfr
 go_enter Tryz.func192, Tryz.ntmps192
 go_wp2_with fail
 refine HO0.out.mono ?_
 rintro e w' ⟨rfl, rfl⟩
 go_wp2_with fail
 go_region
 obtain ⟨W, hW⟩ := exq w.drew
 rw [← hW]
 have H1 : Hid (Wz k X m b mo i L w O B f s W O (.slice (some ⟨A, o, none⟩) L.length c) wv) := hQd (by rw [hW]; exact H.out.below (Aaa w))
 clear hW x0 x2 x4 pp a0
 go_upto_region 3 with fail
 have x0 := H1.out.x.c 0 _ rfl
 have pp := H1.out.p.wo.c0
 go_region_held3 (fun w' => w'.cell? ⟨B.p, 0, none⟩ = some (.pointer (some ⟨B.c, 0, none⟩)) ∧ w'.cell? ⟨X, 0, none⟩ = some (.int .i64 b)) (go_keep)
  ((first
    | (go_at_call 124
       refine (HTa.out _).mono ?_
       rintro e w3 ⟨rfl, hb3⟩
       have M3 := hQd ((H1.out.below (Aaa _)).below hb3)
       have p03 := M3.out.p.wo.c0
       have t03 := M3.out.x.c 0 _ rfl
       clear hb3)
    | (go_at_call 37
       refine (Ac9 ta M3.out.p M3.out.e.hi HTA.out.1 HTA.out.2 n0 n1).mono ?_
       rintro e w4 ⟨rfl, G4, e4, P4⟩
       have M4 := hQd (M3.out.world hk e4 P4)
       have p04 := M4.out.p.wo.c0
       have t04 := M4.out.x.c 0 _ rfl
       clear e4 P4)))
 all_goals
  rw [← HTG.out]
  clear x0 pp p03 t03 p04 t04
  go_wp2_with fail
  refine (HF.out _).mono ?_
  rintro e w5 ⟨rfl, hb5⟩
  have M5 := hQd (M4.out.below hb5)
  clear hb5 H1 M3 M4
  have x4 := M5.out.x.c 4 _ rfl
  by_cases hf : 0 ≤ fr
  · have d1 : (fr != -1) = true := by simp; omega
    have hfr3 : fr ≤ 3 := by rw [HFR.out]; unfold Aa5; repeat' split <;> omega
    have HFO := hQd (Ayo L i fr HL.out.1 hb0 hb1 hi hf hfr3 M5.out.x M5.out.b M5.out.o M5.out.m M5.out.w hk M5.out.e.hi)
    have HFF := hQd hf
    clear hf hfr3
    go_wp2_with fail
    refine HFO.out.mono ?_
    rintro e w6 ⟨rfl, G6, wv6, e6, x6, s6⟩
    have HX := hQd (aN (M5.out.e.trans (e6.mono fun t _ h => .inr (by omega))) (aN (M5.out.p.ext e6) (aN x6 s6)))
    clear e6 x6 s6 HFO
    go_wp2_with fail
    go_ret
    have hst : Aaw (s, ⟨1, L, i, b, mo, []⟩) = (Aan ta s, ⟨0, L, i, b, mo, Ab9 b L (i + 1) i fr []⟩) := by
     unfold Aaw
     dsimp only
     rw [if_neg (by omega), HPL.out.2, HPL.out.1, ← HTT.out, ← HFR.out, if_pos HFF.out]
    rw [hst]
    exact ⟨rfl, G6, HX.out.1, HX.out.2.1, _, _, _, true, true, HX.out.2.2.1, fun h => absurd h (by show ¬ (0 : Int) = 1; decide), fun _ => .inl rfl, fun h => absurd h (by show ¬ (0 : Int) = 1; decide), fun h => absurd h (by show ¬ (0 : Int) = 1; decide), HX.out.2.2.2⟩
  have d1 : (fr != -1) = false := by have : fr = -1 := by rw [HFR.out] at hf ⊢; have := Adw tg; omega
                                     rw [this]; rfl
  have HFF := hQd hf
  have HB0 := hQd HBD.out
  clear hf x4
  go_wp2_with fail
  go_loopw [49] (fun t wr => ∃ (j : Nat) (G : Om) (bv : Value), j ≤ 4 ∧ t = .int .i64 j ∧ Wz k X m b mo i (Aco b mo i q tg j L) w O B f (Aan ta s) wr G bv wv)
   (fun t _ => 4 - (intOf t).toNat)
  case atStart => exact ⟨0, _, _, by omega, rfl, M5.out⟩
  obtain ⟨j, G7, bv7, hj, rfl, h7⟩ := hrel
  have hgl := Ae0 b mo i q tg j L
  have hgr := HL.out.1.grow mo i q tg hi HNQ.out.1 (by have := HFF.out; rw [HFR.out] at this; omega) j hj
  obtain ⟨L7, hL7⟩ := exq (Aco b mo i q tg j L)
  rw [← hL7] at h7 hgl hgr
  have hl7 := hgr.len
  obtain ⟨ao7, c7, rfl, -⟩ := h7.b.shape
  have H7 := hQd h7
  have HG7 := hQd (aN hL7 (aN hgl hgr))
  obtain ⟨-, y1, y2⟩ := h7.x.c3
  clear h7 hL7 hgl hgr M5 HO0 HTa HF H
  by_cases hj4 : j < 4
  · have hj4' : (j : Int) < 4 := by omega
    by_cases hmo : (L7.length : Int) < mo
    · go_upto_region 11 with fail
      go_region
      go_upto_region 12 with fail
      obtain ⟨W8, hW8⟩ := exq wr.drew
      rw [← hW8]
      have H8 : Hid (Wz k X m b mo i L7 w O B f (Aan ta s) W8 G7 (.slice ao7 L7.length c7) wv) := hQd (by rw [hW8]; exact H7.out.below (Aaa wr))
      clear hW8 H7 y1 y2
      obtain ⟨x0, -, -, -, x4⟩ := H8.out.x.c5
      have htg4 := Ae1 tg j
      have HTW := hQd (fun W => An3 tg j W HB0.out.1 HB0.out.2 (by omega) (by omega))
      have HOT := hQd (fun W => Aph q (Aay tg j) b W (by have := HNQ.out; omega) (by have := HNQ.out; omega) (by omega) (by omega) (by omega) (by omega))
      have ht1 : 1 ≤ Aay tg j := by
       have := HFF.out
       rw [HFR.out] at this
       have h0 : Aay tg j ≠ 0 := by
        intro e
        unfold Aa5 at this
        rcases (show j = 0 ∨ j = 1 ∨ j = 2 ∨ j = 3 by omega) with rfl | rfl | rfl | rfl
        · rw [if_pos (show Aay tg 0 = 0 from e)] at this; omega
        · repeat' split at this
          all_goals first | omega | contradiction
        · repeat' split at this
          all_goals first | omega | contradiction
        repeat' split at this
        all_goals first | omega | contradiction
       omega
      have hob := Aeb ⟨HNQ.out.1.1, HNQ.out.1.2, ht1, htg4.2⟩
      have hszz := HNQ.out.2
      have HGR := hQd (show Aco b mo i q tg (j + 1) L = Ab7 L7 ⟨Aa8 q (Aay tg j) b, i, j⟩ by
       rw [Aco, ← HG7.out.1, Ai8, if_pos hmo])
      obtain ⟨tt, htt⟩ := exq (Aay tg j)
      rw [← htt] at HTW HOT hob HGR
      obtain ⟨q8, hq8⟩ := exq (Aa8 q tt b)
      rw [← hq8] at HOT hob HGR
      have HOB := hQd (aN hob hszz)
      clear htg4 ht1 hob hszz htt hq8
      have HND := hQd (fun W G bv (s : AW) (h : Wz k X m b mo i L7 w O B f s W G bv wv) => Ayn hk hl7 (q := q8) (j := j) (by have := HOB.out; omega) (by have := HOB.out; omega) h)
      go_region_held3 (fun w' => w'.cell? ⟨X, 0, none⟩ = some (.int .i64 b) ∧ w'.cell? ⟨X, 4, none⟩ = some (.int .i64 i)) (go_keep)
       ((first
         | (go_at_call 123
            refine (HTW.out _).mono ?_
            rintro e w9 ⟨rfl, hb9⟩
            have M9 := hQd ((H8.out.below (Aaa _)).below hb9)
            obtain ⟨p09, -, -, -, p49⟩ := M9.out.x.c5
            clear hb9)
         | (go_at_call 166
            refine (HOT.out _).mono ?_
            rintro e w10 ⟨rfl, rfl⟩)
         | (go_at_call 191
            refine (HND.out _ _ _ _ M9.out).mono ?_
            rintro e w11 ⟨rfl, G11, bv11, M11⟩
            have H11 := hQd M11
            obtain ⟨p011, -, -, -, p411⟩ := M11.x.c5
            clear M11)))
      all_goals
       clear x0 x4 p09 p49 p011 p411 M9 H8 HND HTW HOT HOB
       go_wp2_with fail
       go_roundw
       case rel => exact ⟨j + 1, G11, bv11, by omega, by go_num, by rw [HGR.out]; exact H11.out⟩
       case measure => simp [intOf]; omega
    have HG8 := hQd (show Aco b mo i q tg (j + 1) L = L7 by rw [Aco, ← HG7.out.1, Ai8, if_neg hmo])
    go_upto_region 11 with fail
    go_region
    have H8 := hQd (H7.out.below (Aaa wr))
    clear y1 y2
    go_wp2_with fail
    go_roundw
    case rel => exact ⟨j + 1, G7, _, by omega, by go_num, by rw [HG8.out]; exact H8.out⟩
    case measure => simp [intOf]; omega
  obtain rfl : j = 4 := by omega
  obtain ⟨-, -, -, -, x4, -, x6⟩ := H7.out.x.c7
  have f4 := H7.out.x.f 4
  have f6 := H7.out.x.f 6
  go_upto_region 15 with fail
  go_region
  have e1 := Aaf (j := 4) (v := .int .i64 ((i : Int) + 1)) H7.out.e.hi H7.out.x hk
  have y1 := H7.out.x.set 4 (.int .i64 ((i : Int) + 1)) (by simp [Ap3])
  obtain ⟨ov, hov⟩ : ∃ x : Bool, x = ((i : Int) + 1 == (L7.length : Int)) := ⟨_, rfl⟩
  rw [← hov]
  have e2 := Aaf (j := 6) (v := .bool ov) e1.hi y1 hk
  have y2 := y1.set 6 (.bool ov) (by simp [Ap3])
  obtain ⟨W9, hW9⟩ := exq (((wr.setCell ⟨X, 4, none⟩ (.int .i64 ((i : Int) + 1))).setCell ⟨X, 6, none⟩ (.bool ov)).drew)
  have hbd := Aaa ((wr.setCell ⟨X, 4, none⟩ (.int .i64 ((i : Int) + 1))).setCell ⟨X, 6, none⟩ (.bool ov))
  rw [← hW9] at hbd ⊢
  have e12 := (e1.trans e2).trans (Ext.of_below (S := fun t => t = k) e2.hi hbd)
  have y3 := y2.below hbd
  have hov2 : ov = decide (i + 1 = L7.length) := by
   rw [hov, Bool.eq_iff_iff]; simp; omega
  have hst : Aaw (s, ⟨1, L, i, b, mo, []⟩) = (Aan ta s, ⟨if i + 1 = L7.length then 0 else 1, L7, i + 1, b, mo, []⟩) := by
   unfold Aaw
   dsimp only
   rw [if_neg (by omega), HPL.out.2, HPL.out.1, ← HTT.out, ← HFR.out, if_neg (by have := HFF.out; omega), ← HG7.out.1]
  have FIN : Hid (PW W9 G7 B f (Aan ta s) ∧ Am3 W9 G7 k X ⟨if i + 1 = L7.length then 0 else 1, L7, i + 1, b, mo, []⟩ ∧ Ext (SX k (k + 3)) O w G7 W9 ∧ ov = ((if i + 1 = L7.length then (0 : Int) else 1) == 0)) := hQd (by
   have hb := H7.out.b.ext e12
   rw [Aid] at hb
   have hm := H7.out.m.block (e12.wr.block m H7.out.m.lt fun hh => by have := hh.1; rw [H7.out.o] at this; omega)
   have hw := H7.out.w.ext e12
   refine ⟨H7.out.p.ext e12, ⟨_, _, _, ov, true, ?_, ?_, ?_, fun _ => hb, fun _ => ⟨m, rfl, H7.out.o, hm⟩, hw⟩, H7.out.e.trans (e12.mono fun t _ h => .inr (by omega)), ?_⟩
   · rw [show (((i + 1 : Nat) : Int)) = (i : Int) + 1 from by omega]
     exact y3
   · intro h
     refine ⟨?_, rfl⟩
     rw [hov2]
     by_cases g : i + 1 = L7.length
     · rw [if_pos g] at h; exact absurd h (by show ¬ (0 : Int) = 1; decide)
     simp [g]
   · intro h
     left
     rw [hov2]
     by_cases g : i + 1 = L7.length
     · simp [g]
     rw [if_neg g] at h; exact absurd h (by show ¬ (1 : Int) = 0; decide)
   rw [hov2]
   by_cases g : i + 1 = L7.length
   · simp [g]
   simp [g])
  have HO9 := hQd (Apk ov true (y3.c 6 _ rfl) (y3.c 7 _ rfl))
  have HST := hQd hst
  clear e1 y1 e2 y2 hW9 hbd e12 y3 hov hov2 hst x4 x6 f4 f6 H7
  go_wp2_with fail
  refine HO9.out.mono ?_
  rintro e w' ⟨rfl, rfl⟩
  go_wp2_with fail
  go_ret
  rw [HST.out]
  dsimp only
  rw [← FIN.out.2.2.2]
  exact ⟨rfl, G7, FIN.out.2.2.1, FIN.out.1, FIN.out.2.1⟩
end
end
section
open Go.RowKit Go.Shelf
theorem Sls.of_row {O : Om} {w w' : World} {t size n : Nat} {e : TypeId} {v : Value} {xs : List Value} (ht : t ≠ 0) (hhi : Hh O w) (hown : w'.ownsRow w.heap.size e size v n xs) (hb : Below w.heap.size w w') : ∃ O', Ext (fun j => j = t) O w O' w' ∧ Sls w' O' t size v n xs := by
 have hown0 := hown
 have hw : Aag (fun _ => False) w w' := Aag.of_below hb
 have hs' := hb.size
 obtain ⟨hol, hov⟩ := hown
 rcases hov with ⟨rfl, rfl⟩ | ⟨g, cap, cur, rfl, hbg, hcell, hnc, hcm, hcs, htk⟩
 · refine ⟨O, Ext.of_below hhi hb, none, 0, rfl, Nat.le_refl _, Nat.zero_le _, hol, .inl ⟨rfl, rfl, rfl⟩⟩
 have hgl : g < w'.heap.size := (Array.getElem?_eq_some_iff.1 hcell).1
 have hfz := hown0.frozenAt
 refine ⟨fun j => if j = g then t else O j, ⟨fun j hj => by rw [if_neg (by omega)], fun j hj => ?_, fun j hj hn => ?_, hw.mono fun _ _ h => h.elim⟩, ⟨_, cap, rfl, hnc, hcm, hol, .inr ⟨g, 0, cur.toList, rfl, ⟨by rw [if_pos rfl], hgl, fun j u hu => ?_, fun j => ?_⟩, ?_, ?_⟩⟩⟩
 · by_cases e : j = g
   · omega
   rw [if_neg e] at hj; have := hhi j hj; omega
 · by_cases e : j = g
   · rw [if_pos e]
   rw [if_neg e] at hn; have := hhi j hn; omega
 · unfold World.cell?
   simp only [hcell]
   simpa using hu
 · exact hfz j
 · rw [Nat.zero_add, Array.length_toList, hcs]; exact Nat.le_refl _
 rw [List.drop_zero]; exact htk
theorem Aes (l : List Spt) : ∀ u ∈ l.flatMap spl, u.oneCell' = true := by
 intro u hu
 obtain ⟨p, _, h⟩ := List.mem_flatMap.1 hu
 unfold spl at h
 simp at h
 rcases h with rfl | rfl | rfl <;> rfl
section
variable {w : World} {O : Om} {g t : Nat}
theorem Aq9 (ps : List Spt) (a : Addr) (c : Nat) (hv : ∀ j u, (ps.flatMap spl)[j]? = some u → w.cell? (a.add j) = some u) (hl : ps.length ≤ 8192) (hlt : ∀ j u, (ps.flatMap spl)[j]? = some u → (a.add j).block < w.heap.size) :
 Calls Tryz.prog 201 #[.slice (some a) ps.length c] w fun e w' => (∃ v', e = .returned v' ∧ w'.ownsRow w.heap.size 95 3 v' ps.length (ps.flatMap spl)) ∧ Below w.heap.size w w' := by
 obtain ⟨i0, hi, hz0, hz1, hz2⟩ := info_parts Af5
 have hnews : ∀ j u, (ps.flatMap spl)[j]? = some u → (w.alloc (.cells #[] 95)).cell? (a.add j) = some u := fun j u hu =>
  ((bal w (.cells #[] 95)).cell (p := a.add j) (hlt j u hu)).trans (hv j u hu)
 have hown := World.ownsRow_lit (base := w.heap.size) (e := 95) (size := 3) w #[] 0 (Nat.le_refl _) (by unfold maxLen; omega) (by simp)
 have HL := hQd hl
 have HN := hQd hnews
 clear hv hl hnews hlt
 have hnil := fun (W : World) => Lib.run_eql_slice_nil (P := Tryz.prog) W 227 95 (some a) ps.length c 0 0 Tryz.underlying227
 go_enter Tryz.func201, Tryz.ntmps201
 go_wp2_with (at_builtin; refine wpList_append_own _ rfl _ _ 227 rfl w.heap.size 95 i0 _ 3 24 Tryz.underlying227 hi hz0 hz1 hz2 rfl (by decide) _ _ _ rfl hown a ps.length c (ps.flatMap spl) rfl (Ash ps) HN.out (Aes ps) (by have := HL.out; unfold maxLen; omega) (by have := HL.out; omega) (by simp) ?_; intro v1 w1 hown1 hgr1 _)
 have hb := Abq (bal w _) (by simp) hown hgr1
 go_ret
 exact ⟨⟨_, rfl, by simpa using hown1⟩, hb⟩
theorem Aq8 (n c : Nat) (w : World) : Calls Tryz.prog 201 #[.slice none 0 0] w fun e w' => e = .returned (.slice none 0 0) ∧ w = w' := by
 have hnil := fun (W : World) => Lib.run_eql_slice_nil (P := Tryz.prog) W 227 95 none 0 0 0 0 Tryz.underlying227
 go_enter Tryz.func201, Tryz.ntmps201
 go_wp2
 go_ret
 exact ⟨rfl, rfl⟩
theorem Amt (ps : List Spt) {v : Value} (h : Sls w O g 3 v ps.length (ps.flatMap spl)) (hl : ps.length ≤ 8192) (ht : t ≠ 0) (hhi : Hh O w) :
 Calls Tryz.prog 201 #[v] w fun e w' => ∃ v' O', e = .returned v' ∧ Ext (fun j => j = t) O w O' w' ∧ Sls w' O' t 3 v' ps.length (ps.flatMap spl) ∧ Below w.heap.size w w' := by
 obtain ⟨ao, c, rfl, h2, h3⟩ := h.shape
 have h0 := h.ex
 obtain ⟨ao', c', e1, -, -, -, h5⟩ := h0
 cases e1
 rcases h5 with ⟨rfl, h6, rfl⟩ | ⟨b, o, cs, rfl, q, q2, q3⟩
 · have hp : ps = [] := List.eq_nil_of_length_eq_zero h6
   subst hp
   refine (Aq8 0 0 w).mono ?_
   rintro e w' ⟨rfl, rfl⟩
   exact ⟨_, O, rfl, Ext.refl hhi, Sls.nil _ _ _ _, Below.refl _ _⟩
 have hadd : ∀ j, (⟨b, o, none⟩ : Addr).add j = ⟨b, o + j, none⟩ := fun j => Addr.add_lit _ _ _
 refine (Aq9 ps ⟨b, o, none⟩ c (fun j u hu => by rw [hadd]; exact h.c j u hu) hl (fun j u _ => by rw [hadd]; exact q.lt)).mono ?_
 rintro e w' ⟨⟨v', rfl, hown⟩, hb⟩
 obtain ⟨O', e2, s2⟩ := Sls.of_row ht hhi hown hb
 exact ⟨v', O', rfl, e2, s2, hb⟩
theorem Awf (ao : Option Addr) (n c : Nat) (w : World) (hn : n ≤ c) (hc : c ≤ maxLen) (h0 : ao = none → c = 0) :
 Calls Tryz.prog 200 #[.slice ao n c] w fun e w' => e = .returned (.slice ao n n) ∧ w = w' := by
 cases ao with
 | none =>
   obtain rfl := h0 rfl
   obtain rfl : n = 0 := by omega
   go_enter Tryz.func200, Tryz.ntmps200
   go_wp2
   go_ret
   exact ⟨rfl, rfl⟩
 | some a =>
   clear h0
   have hn' : (n : Int) ≤ c := by omega
   go_enter Tryz.func200, Tryz.ntmps200
   go_wp2
   go_ret
   exact ⟨rfl, rfl⟩
end
end
section
open Go.RowKit Go.Shelf
theorem Sls.clip {w : World} {O : Om} {g size n c : Nat} {ao : Option Addr} {xs : List Value} (h : Sls w O g size (.slice ao n c) n xs) : Sls w O g size (.slice ao n n) n xs := by
 obtain ⟨ao', c', e1, h2, h3, h4, h5⟩ := h.ex
 cases e1
 refine ⟨ao, n, rfl, Nat.le_refl _, by omega, h4, ?_⟩
 rcases h5 with ⟨h6, h7, h8⟩ | ⟨b, o, cs, h6, q, q2, q3⟩
 · exact .inl ⟨h6, h7, h7⟩
 have hc : n * size ≤ c * size := Nat.mul_le_mul_right _ h2
 exact .inr ⟨b, o, cs, h6, q, by omega, q3⟩
theorem Sls.none0 {w : World} {O : Om} {g size n c : Nat} {ao : Option Addr} {xs : List Value} (h : Sls w O g size (.slice ao n c) n xs) (h0 : ao = none) : c = 0 := by
 obtain ⟨ao', c', e1, h2, h3, h4, h5⟩ := h.ex
 cases e1
 rcases h5 with ⟨h6, h7, h8⟩ | ⟨b, o, cs, h6, q, q2, q3⟩
 · exact h8
 rw [h0] at h6; cases h6
section
variable {X k t : Nat} {w : World} {O : Om}
theorem Ay2 {z : Wym} (h : Am3 w O k X z) (hl : z.way.length ≤ 8192) (ht : t ≠ 0) (hhi : Hh O w) :
 C1 193 X w fun e w' => ∃ ao O', e = .returned (.slice ao z.way.length z.way.length) ∧ Ext (fun j => j = t) O w O' w' ∧ Sls w' O' t 3 (.slice ao z.way.length z.way.length) z.way.length (z.way.flatMap spl) ∧ Below w.heap.size w w' := by
 obtain ⟨bv, mv, wv, ov, md, h1, -, -, -, -, h6⟩ := h.ex
 obtain ⟨ps, hps⟩ := exq z.way
 rw [← hps] at h6 hl ⊢
 have x5 := h1.c 5 _ rfl
 have HC := hQd (Amt (t := t) ps h6 hl ht hhi)
 obtain ⟨ao, c, rfl, -⟩ := h6.shape
 clear h h1 h6 hps hhi
 go_enter Tryz.func193, Tryz.ntmps193
 go_wp2_with fail
 refine HC.out.mono ?_
 rintro e w1 ⟨v1, O1, rfl, e1, s1, hb1⟩
 obtain ⟨ao1, c1, rfl, hn1, hm1⟩ := s1.shape
 have HX := hQd (aN e1 (aN s1.clip hb1))
 have HCl := hQd (Awf ao1 ps.length c1 w1 hn1 hm1 s1.none0)
 clear e1 s1 hb1 hn1 hm1 HC
 go_wp2_with fail
 refine HCl.out.mono ?_
 rintro e w' ⟨rfl, rfl⟩
 go_wp2_with fail
 go_ret
 exact ⟨ao1, O1, rfl, HX.out⟩
theorem At0 {g : Nat} (ps : List Spt) {v : Value} (h : Sls w O g 3 v ps.length (ps.flatMap spl)) (hl : ps.length ≤ 8192) (hk : 10 ≤ k) (hhi : Hh O w) :
 Calls Tryz.prog 195 #[v] w fun e w' => ∃ Y, RP (fun t => t = k ∨ t = k + 1) w O (.pointer (some ⟨Y, 0, none⟩)) (fun W G => Amx W G k Y (Acx ps)) e w' := by
 have HC := hQd (Amt (t := k + 1) ps h hl (by omega) hhi)
 obtain ⟨ao, c, rfl, -⟩ := h.shape
 obtain ⟨n, hn⟩ := exq ps.length
 have HN := hQd hn
 rw [← hn] at HC hl ⊢
 have fin : ∀ (u : Int) (v1 : Value) (w1 : World) (O1 : Om), u = max ((n : Int) - 1) 0 → Ext (fun j => j = k + 1) O w O1 w1 → Sls w1 O1 (k + 1) 3 v1 n (ps.flatMap spl) → ∃ Y, RP (fun t => t = k ∨ t = k + 1) w O (.pointer (some ⟨Y, 0, none⟩)) (fun W G => Amx W G k Y (Acx ps)) (.returned (.pointer (some ⟨w1.heap.size, 0, none⟩))) (w1.alloc (.cells #[v1, .int .i64 u, .int .i64 0, .bool false, .slice none 0 0] 315)) := by
  intro u v1 w1 O1 hu e1 s1
  obtain ⟨G2, e2, x2, -⟩ := Aar e1.hi k #[v1, .int .i64 u, .int .i64 0, .bool false, .slice none 0 0] 315 w1.heap.size rfl
  have hk1 : (Acx ps).k = (n : Int) - 2 := by unfold Acx; rw [hn]
  have hu2 : u = max ((Acx ps).k + 1) 0 := by rw [hk1, hu]; congr 1; omega
  have hln : (Acx ps).ln = 0 ∨ (Acx ps).ln = 1 := by
   unfold Acx; dsimp only; split
   · exact .inr rfl
   exact .inl rfl
  refine ⟨_, rfl, G2, (e1.mono fun t _ h => .inr h).trans (e2.mono fun t _ h => .inl h), v1, .slice none 0 0, false, ?_, fun _ => ?_, fun _ => rfl, fun h => by omega, fun _ => ⟨0, Sls.nil _ _ _ _, rfl⟩, fun h => by omega⟩
  · rw [← hu2]; exact x2
  have := s1.ext e2
  rw [show (Acx ps).way = ps from rfl, ← hn]
  exact this
 have FIN := hQd fin
 clear h hn hhi fin
 by_cases h0 : (n : Int) - 1 < 0
 · have hu : (0 : Int) = max ((n : Int) - 1) 0 := by omega
   have HU := hQd hu
   clear hu
   go_enter Tryz.func195, Tryz.ntmps195
   go_wp2_with fail
   refine HC.out.mono ?_
   rintro e w1 ⟨v1, O1, rfl, e1, s1, hb1⟩
   obtain ⟨ao1, c1, rfl, -⟩ := s1.shape
   have HX := hQd (aN e1 s1)
   clear e1 s1 hb1 HC
   go_wp2_with fail
   go_ret
   exact FIN.out 0 _ _ _ HU.out HX.out.1 HX.out.2
 have hu : (n : Int) - 1 = max ((n : Int) - 1) 0 := by omega
 have HU := hQd hu
 clear hu
 go_enter Tryz.func195, Tryz.ntmps195
 go_wp2_with fail
 refine HC.out.mono ?_
 rintro e w1 ⟨v1, O1, rfl, e1, s1, hb1⟩
 obtain ⟨ao1, c1, rfl, -⟩ := s1.shape
 have HX := hQd (aN e1 s1)
 clear e1 s1 hb1 HC
 go_wp2_with fail
 go_ret
 exact FIN.out _ _ _ _ HU.out HX.out.1 HX.out.2
theorem Afb {Y : Nat} {n : Int} (h1 : w.cell? ⟨Y, 1, none⟩ = some (.int .i64 n)) : C1 196 Y w fun e w' => e = .returned (.bool (n == 0)) ∧ w = w' := by
 go_enter Tryz.func196, Tryz.ntmps196
 go_wp2
 go_ret
 exact ⟨rfl, rfl⟩
end
end
section
open Go.RowKit Go.Shelf
structure Aw4 (b : Int) (z : Wym) : Prop where
 ln : z.ln = 1
 way : z.way = []
 eb : z.b = b
 b0 : 1 ≤ b
 b1 : b ≤ 12
 l : WyL b z.l
 i : z.i < z.l.length
section
variable {X k : Nat} {w : World} {O : Om} {B : Wb} {f : Cf} {s : AW}
theorem Avw {z : Wym} {b : Int} (hz : Am3 w O k X z) (hg : Aw4 b z) (hP : PW w O B f s) (hk : 10 ≤ k) (hhi : Hh O w) (n0 : 0 ≤ s.n) (n1 : s.n ≤ 4611686018427387904) :
 C2 192 X B.p w (RP (SX k (k + 3)) w O (.bool ((Aaw (s, z)).2.ln == 0)) fun W G => PW W G B f (Aaw (s, z)).1 ∧ Am3 W G k X (Aaw (s, z)).2) := by
 obtain ⟨m, bv, wv, h1, h2, h3, h4, h5⟩ := hz.open hg.ln hg.way
 obtain ⟨ln, l, i, b', mo, way⟩ := z
 obtain rfl : ln = 1 := hg.ln
 obtain rfl : way = [] := hg.way
 obtain rfl : b' = b := hg.eb
 exact Ato i (l[i]'hg.i) ⟨Ext.refl hhi, hP, h1, h2, h3, h4, h5⟩ hg.l (List.getElem?_eq_getElem hg.i) hg.b0 hg.b1 hk n0 n1
end
section
variable {X k : Nat} {w : World} {O : Om} {B : Wb} {f : Cf} {s : AW}
def Apy (mo : Int) (k X : Nat) (B : Wb) (f : Cf) (s : AW) (z : Rmm) (w : World) (O : Om) (e : Ending) (w' : World) : Prop :=
 RP (SX k (k + 14)) w O (.tuple #[]) (fun W G => PW W G B f (Aaq mo (s, z)).1 ∧ Aa1 W G k X (Aaq mo (s, z)).2) e w'
theorem Aqy {z : Rmm} (mo : Int) (hR : Aa1 w O k X z) (hl : z.ln = 3) (hg : Aw4 z.b z.wy) (hP : PW w O B f s) (hk : 10 ≤ k) (hhi : Hh O w) (n0 : 0 ≤ s.n) (n1 : s.n ≤ 4611686018427387904) (hwl : (Aaw (s, z.wy)).2.way.length ≤ 8192) :
 C2 185 X B.p w (Apy mo k X B f s z w O) := by
 obtain ⟨bv, wv, hv, h1, -, h3, -⟩ := hR.ex
 obtain ⟨Y, rfl, hY⟩ := h3 hl
 have HST := hQd (Avw hY hg hP (by omega) hhi n0 n1)
 have HMS : Hid (Aaq mo (s, z) = if (Aaw (s, z.wy)).2.ln = 0 then (if (Aaw (s, z.wy)).2.way = [] then Abr 3 0 0 0 0 0 (Aaw (s, z.wy)).1 else (Aaw (s, z.wy)).1, Acv ⟨3, z.b, z.a, z.c, (Aaw (s, z.wy)).2, z.ho, z.p, z.is⟩) else ((Aaw (s, z.wy)).1, ⟨3, z.b, z.a, z.c, (Aaw (s, z.wy)).2, z.ho, z.p, z.is⟩)) := hQd (by
  unfold Aaq; dsimp only; rw [if_neg (by omega), if_neg (by omega), if_pos hl])
 unfold Apy
 obtain ⟨s1, zw, hsz⟩ : ∃ s1 zw, Aaw (s, z.wy) = (s1, zw) := ⟨_, _, rfl⟩
 rw [hsz] at HST HMS hwl
 dsimp only at HST HMS hwl
 have hdo : Ani z.ln = Aef := by rw [hl]; rfl
 rw [hdo] at h1
 have x5 := h1.c 5 _ rfl
 have HX := hQd h1
 clear hR hg hP hhi hsz h3 hY h1 hdo
 go_enter Tryz.func185, Tryz.ntmps185
 go_wp2_with fail
 refine HST.out.mono ?_
 rintro e w1 ⟨rfl, G1, e1, P1, Y1⟩
 have x1 := HX.out.ext e1 (fun h => by rcases h with h | h <;> omega)
 have H1 := hQd (aN (e1.mono (T := SX k (k + 14)) fun t _ h => h.imp id fun h => by omega) (aN P1 (aN Y1 x1)))
 have y5 := x1.c 5 _ rfl
 clear e1 P1 Y1 x1 HST HX x5
 by_cases hz0 : zw.ln = 0
 · have HMS2 := hQd (HMS.out.trans (if_pos hz0))
   clear HMS
   rw [hz0]
   go_wp2_with fail
   refine (Ay2 (t := k + 5) H1.out.2.2.1 hwl (by omega) H1.out.1.hi).mono ?_
   rintro e w2 ⟨ao, G2, rfl, e2, s2, hb2⟩
   have x2 := H1.out.2.2.2.ext e2
   have P2 := H1.out.2.1.ext e2
   have H2 := hQd (aN (H1.out.1.trans (e2.mono (T := SX k (k + 14)) fun t _ h => .inr (by omega))) (aN P2 (aN s2 x2)))
   clear e2 P2 s2 x2 hb2 y5 H1
   cases hway : zw.way with
   | nil =>
     rw [hway] at H2 HMS2
     have hf : Acv ⟨3, z.b, z.a, z.c, zw, z.ho, z.p, z.is⟩ = ⟨0, z.b, z.a, z.c, zw, z.ho, z.p, z.is⟩ := by unfold Acv; dsimp only; rw [hway]
     have HMS3 := hQd (HMS2.out.trans (by rw [if_pos rfl, hf]))
     clear hf HMS2 hway
     have x4 := H2.out.2.2.2.c 4 _ rfl
     have f4 := H2.out.2.2.2.f 4
     have y4 := H2.out.2.2.2.set 4 .nilFunc (by simp [Afd])
     have e4 := Aaf (j := 4) (v := .nilFunc) H2.out.1.hi H2.out.2.2.2 hk
     have P4 := H2.out.2.1.ext e4
     have HNT := hQd (Ak3 3 0 0 0 0 0 P4 e4.hi (by decide) (by decide))
     have H4 := hQd (aN (H2.out.1.trans (e4.mono (T := SX k (k + 14)) fun t _ h => .inr (by omega))) y4)
     clear y4 e4 P4
     go_wp2_with fail
     refine HNT.out.mono ?_
     rintro e w5 ⟨rfl, G5, e5, P5⟩
     have x5 := H4.out.2.ext e5 (fun h => by have := h.2; omega)
     have H5 := hQd (aN (H4.out.1.trans (e5.mono fun t _ h => SX.of_sw h)) (aN P5 x5))
     clear e5 P5 x5 H4 HNT H2 x4 f4
     go_wp2_with fail
     refine bodyPost_ret (v := .tuple #[]) (results_none (by rfl) _ _ _) rfl ?_
     rw [HMS3.out]
     exact ⟨rfl, G5, H5.out.1, H5.out.2.1, bv, _, hv, H5.out.2.2, fun h => absurd h (by show ¬ ((0 : Int) = 1 ∨ (0 : Int) = 2); decide), fun h => absurd h (by show ¬ (0 : Int) = 3; decide), fun h => absurd h (by show ¬ (0 : Int) = 4; decide)⟩
   | cons p l =>
     rw [hway] at H2 HMS2
     obtain ⟨A, o, c, hao, -⟩ := H2.out.2.2.1.open (by simp)
     injection hao with e1 e2 e3
     subst e1
     have hll : ((p :: l).length : Int) = (l.length : Int) + 1 := by simp
     obtain ⟨a1, a2, a3⟩ := Abu (p :: l) 0 p rfl
     have u1 := H2.out.2.2.1.c _ _ a1
     have u2 := H2.out.2.2.1.c _ _ a2
     have u3 := H2.out.2.2.1.c _ _ a3
     simp only [Nat.zero_mul, Nat.zero_add, Nat.add_zero] at u1 u2 u3
     obtain ⟨-, -, -, -, x4, -, -, x7, x8, x9⟩ := H2.out.2.2.2.c10
     have f4 := H2.out.2.2.2.f 4
     have f7 := H2.out.2.2.2.f 7
     have f8 := H2.out.2.2.2.f 8
     have f9 := H2.out.2.2.2.f 9
     clear a1 a2 a3 e2 e3
     go_upto_region 6 with fail
     have y7 := H2.out.2.2.2.set 7 (.int .i64 p.b) (by simp [Afd])
     have e7 := Aaf (j := 7) (v := .int .i64 p.b) H2.out.1.hi H2.out.2.2.2 hk
     have y8 := y7.set 8 (.int .i64 p.q) (by simp [Afd])
     have e8 := Aaf (j := 8) (v := .int .i64 p.q) e7.hi y7 hk
     have y9 := y8.set 9 (.int .i64 p.s) (by simp [Afd])
     have e9 := Aaf (j := 9) (v := .int .i64 p.s) e8.hi y8 hk
     have y4 : Ob _ G2 k X (Afd z.b bv z.a z.c Aw7 (.pointer (some ⟨Y, 0, none⟩)) hv p z.is) := y9.set 4 Aw7 (by simp [Afd])
     have e4 := Aaf (j := 4) (v := Aw7) e9.hi y9 hk
     have e12 := ((e7.trans e8).trans e9).trans e4
     obtain ⟨w3, hw3⟩ := exq ((((w2.setCell ⟨X, 7, none⟩ (.int .i64 p.b)).setCell ⟨X, 8, none⟩ (.int .i64 p.q)).setCell ⟨X, 9, none⟩ (.int .i64 p.s)).setCell ⟨X, 4, none⟩ Aw7)
     rw [← hw3] at y4 e12
     have hh : Aw7 = .func (.func 194) #[] #[] := rfl
     rw [hh] at hw3
     rw [← hw3]
     have H3 := hQd (aN (H2.out.1.trans (e12.mono (T := SX k (k + 14)) fun t _ h => .inr (by omega))) (aN (H2.out.2.1.ext e12) (aN (H2.out.2.2.1.ext e12) y4)))
     have HNH := hQd (At0 (k := k + 6) (p :: l) H3.out.2.2.1 (by rw [← hway]; exact hwl) (by omega) H3.out.1.hi)
     have hf : Acv ⟨3, z.b, z.a, z.c, zw, z.ho, z.p, z.is⟩ = ⟨if 2 ≤ (p :: l).length then 4 else 0, z.b, z.a, z.c, zw, Acx (p :: l), p, if 2 ≤ (p :: l).length then z.is else true⟩ := by unfold Acv; dsimp only; rw [hway]
     have HMS3 := hQd (HMS2.out.trans (by rw [if_neg (by simp), hf]))
     clear y7 e7 y8 e8 y9 e9 y4 e4 e12 hw3 hh hf HMS2 x4 x7 x8 x9 f4 f7 f8 f9 u1 u2 u3 H2
     go_wp2_with fail
     refine HNH.out.mono ?_
     rintro e w4 ⟨H, rfl, G4, e4, h4⟩
     have x4 := H3.out.2.2.2.ext e4
     have H4 := hQd (aN (H3.out.1.trans (e4.mono (T := SX k (k + 14)) fun t _ h => .inr (by omega))) (aN (H3.out.2.1.ext e4) (aN h4 x4)))
     have x6 := x4.c 6 _ rfl
     have f6 := x4.f 6
     clear e4 h4 x4 HNH H3
     go_upto_region 7 with fail
     have e6 := Aaf (j := 6) (v := .pointer (some ⟨H, 0, none⟩)) H4.out.1.hi H4.out.2.2.2 hk
     have y6 : Ob _ G4 k X (Afd z.b bv z.a z.c Aw7 (.pointer (some ⟨Y, 0, none⟩)) (.pointer (some ⟨H, 0, none⟩)) p z.is) := H4.out.2.2.2.set 6 (.pointer (some ⟨H, 0, none⟩)) (by simp [Afd])
     have h6 := H4.out.2.2.1.ext e6 (fun t q1 q2 => by omega)
     obtain ⟨w5, hw5⟩ := exq (w4.setCell ⟨X, 6, none⟩ (.pointer (some ⟨H, 0, none⟩)))
     rw [← hw5] at e6 y6 h6 ⊢
     have H5 := hQd (aN (H4.out.1.trans (e6.mono (T := SX k (k + 14)) fun t _ h => .inr (by omega))) (aN (H4.out.2.1.ext e6) (aN h6 y6)))
     obtain ⟨hwv, hdv, hld, q1, -⟩ := h6.ex
     have hm : max ((Acx (p :: l)).k + 1) 0 = (l.length : Int) := by
      show max (((p :: l).length : Int) - 2 + 1) 0 = _
      rw [hll]; omega
     rw [hm] at q1
     have HOv := hQd (Afb (q1.c 1 _ rfl))
     obtain ⟨-, -, -, -, -, -, x6, x7, x8, x9⟩ := H5.out.2.2.2.c10
     clear e6 y6 h6 hw5 q1 hm H4 f6 hll
     cases l with
     | nil =>
       have HEN := hQd (Ahs _ _ _ _ z.b z.a z.c p p z.is H5.out.2.2.2 hk H5.out.1.hi)
       go_wp2_with fail
       refine HOv.out.mono ?_
       rintro e w' ⟨rfl, rfl⟩
       go_wp2_with fail
       refine HEN.out.mono ?_
       rintro e w6 ⟨rfl, G6, e6, r6⟩
       have H6 := hQd (aN (H5.out.1.trans (e6.mono (T := SX k (k + 14)) fun t _ h => .inr (by omega))) (aN (H5.out.2.1.ext e6) r6))
       clear e6 r6 HEN H5 HOv
       go_wp2_with fail
       go_end0
       rw [HMS3.out]
       exact ⟨rfl, G6, H6.out.1, H6.out.2.1, bv, _, _, H6.out.2.2, fun h => absurd h (by show ¬ ((0 : Int) = 1 ∨ (0 : Int) = 2); decide), fun h => absurd h (by show ¬ (0 : Int) = 3; decide), fun h => absurd h (by show ¬ (0 : Int) = 4; decide)⟩
     | cons p2 l =>
       have dl : (((p2 :: l).length : Int) == 0) = false := by simp; omega
       go_wp2_with fail
       refine HOv.out.mono ?_
       rintro e w' ⟨rfl, rfl⟩
       go_wp2_with fail
       go_end0
       have c2 : 2 ≤ (p :: p2 :: l).length := by simp
       rw [HMS3.out, if_pos c2, if_pos c2]
       exact ⟨rfl, G4, H5.out.1, H5.out.2.1, bv, .pointer (some ⟨Y, 0, none⟩), .pointer (some ⟨H, 0, none⟩), H5.out.2.2.2, fun h => absurd h (by show ¬ ((4 : Int) = 1 ∨ (4 : Int) = 2); decide), fun h => absurd h (by show ¬ (4 : Int) = 3; decide), fun _ => ⟨H, rfl, H5.out.2.2.1⟩⟩
 have HMS2 := hQd (HMS.out.trans (if_neg hz0))
 have dz : (zw.ln == 0) = false := by simp [hz0]
 go_wp2_with fail
 refine bodyPost_ret (v := .tuple #[]) (results_none (by rfl) _ _ _) rfl ?_
 rw [HMS2.out]
 exact ⟨rfl, G1, H1.out.1, H1.out.2.1, bv, _, hv, H1.out.2.2.2, fun h => absurd h (by show ¬ ((3 : Int) = 1 ∨ (3 : Int) = 2); decide), fun _ => ⟨Y, rfl, H1.out.2.2.1⟩, fun h => absurd h (by show ¬ (3 : Int) = 4; decide)⟩
end
end
section
open Go.RowKit Go.Shelf
section
variable {X : Nat} {w : World} {O : Om} {B : Wb} {f : Cf} {s : AW} {k : Nat}
theorem Aqz (b q a c : Int) (l : List Int) (bv wv hv : Value) (p : Spt) (is : Bool) (hP : PW w O B f s) (hx : Ob w O k X (Afd b bv a c Ahg wv hv p is)) (hS : Sls w O (k + 1) 1 bv (l.length + 1) ((q :: l).map (Value.int .i64)))
 (hb : 1 ≤ b ∧ b ≤ 12) (hq : 0 ≤ q ∧ q < Aac b) (hac : 0 ≤ a ∧ a < Aac b ∧ 0 ≤ c ∧ c < Aac b) (hf : ¬ 0 ≤ Aa5 (s.M (Aai b q))) (hk : 10 ≤ k) (hhi : Hh O w) (n0 : 0 ≤ s.n) (n1 : s.n ≤ 4611686018427387904) :
 C2 168 X B.p w (RP (SX k (k + 14)) w O (.tuple #[]) fun W G => PW W G B f (Aan (Aai b q) s) ∧ ∃ V, (l = [] → ∃ Y, Ob W G k X (Afd b V a c Aef (.pointer (some ⟨Y, 0, none⟩)) hv p is) ∧ Am3 W G (k + 2) Y (Ag9 b a c f.y)) ∧ (l ≠ [] → Ob W G k X (Afd b V a c Ahg wv hv p is) ∧ Sls W G (k + 1) 1 V l.length (l.map (Value.int .i64)))) := by
 obtain ⟨A, o, cp, rfl, hc1, hc2⟩ := hS.open (by omega)
 have a0 := hS.c 0 _ rfl
 rw [Nat.add_zero] at a0
 have hT := hS.tail (o' := if cp = 1 then o else o + 1) (by by_cases h : cp = 1; rw [if_pos h]; exact .inr ⟨h, rfl⟩; rw [if_neg h]; exact .inl rfl)
 have hT : Sls w O (k + 1) 1 (.slice (some ⟨A, if cp = 1 then o else o + 1, none⟩) l.length (cp - 1)) l.length (l.map (Value.int .i64)) := hT
 have hsz := Aah b
 have ht := Ab2 hq
 have HT := hQd (fun W => Aiu b q W (by omega) (by omega) (by omega) (by omega))
 have hbd := hP.bd (Aai b q)
 have HF := hQd (fun W => Ak4 (s.M (Aai b q)) W hbd.1 hbd.2)
 have hta : 0 ≤ Aai b q ∧ Aai b q < 18446744073709551616 := by omega
 have HM : Hid (Me k (k + 1) w O w O B f s k X (Afd b (.slice (some ⟨A, o, none⟩) (l.length + 1) cp) a c Ahg wv hv p is)) := hQd (Me.start hhi hP hx)
 obtain ⟨ta, hta2⟩ := exq (Aai b q)
 rw [← hta2] at HT HF hta hf ⊢
 obtain ⟨fr, hfr⟩ := exq (Aa5 (s.M ta))
 rw [← hfr] at HF hf
 have HTA := hQd hta
 have HB := hQd hb
 have HAC := hQd hac
 obtain ⟨x0, x1⟩ := hx.c2
 have f1 := hx.f 1
 have pp := hP.wo.c0
 have hXA : ¬ A = X := fun e => by have h1 := hx.o; have h2 := hS.lt.2; rw [← e, h2] at h1; omega
 have hXB : ¬ B.p = X := hP.ne_obj hx hk
 have dfr : decide (0 ≤ fr) = false := by simp; omega
 have hXl := hx.lt
 have hAl := hS.lt.1
 have hBl := hP.wo.lt
 have hl0 : (0 : Int) < (l.length : Int) + 1 := by omega
 obtain ⟨e1, t1⟩ := Aau (S := SX k (k + 1)) hhi #[.int .i64 b, .int .i64 q] 93 w.heap.size rfl
 have hbw : Below w.heap.size w ((w.alloc (.cells #[.int .i64 b, .int .i64 q] 93)).drew) := ((Below.refl _ w).alloc (Nat.le_refl _) _).drew
 have T1 := hQd (t1.below (Aaa _))
 have M1 := hQd (HM.out.below hbw)
 have L1 := hQd (hT.below hbw)
 have hXN : ¬ X = w.heap.size := by omega
 have hl1 : (1 : Int) ≤ (l.length : Int) + 1 := by omega
 clear hP hx hS hT hhi hta hta2 hfr hf hbd ht hsz e1 t1 hbw HM hb hac hq
 by_cases hcp : cp = 1
 · rw [if_pos hcp] at L1
   subst hcp
   have hl : l = [] := List.eq_nil_of_length_eq_zero (by omega)
   subst hl
   have L1 : Hid (Sls ((w.alloc (.cells #[.int .i64 b, .int .i64 q] 93)).drew) O (k + 1) 1 (.slice (some ⟨A, o, none⟩) 0 0) 0 []) := L1
   go_enter Tryz.func168, Tryz.ntmps168
   go_wp2_with fail
   go_region
   all_goals
    obtain ⟨W1, hW1⟩ := exq ((w.alloc (.cells #[.int .i64 b, .int .i64 q] 93)).drew)
    rw [← hW1] at M1 T1 L1 ⊢
    obtain ⟨N, hN⟩ := exq w.heap.size
    rw [← hN] at T1 hXN ⊢
    clear hW1 hN x0 x1 f1 a0 pp
    have x1 := M1.out.t.c 1 _ rfl
    have f1 := M1.out.t.f 1
    go_upto_region 2 with fail
    obtain ⟨V, hV⟩ : ∃ V : Value, V = .slice (some ⟨A, o, none⟩) 0 0 := ⟨_, rfl⟩
    rw [← hV] at L1 ⊢
    have M2 := hQd (M1.out.set hk (Nat.le_refl _) (by omega) 1 V (by simp [Afd]))
    have T2 := hQd (T1.out.other (b2 := X) (j := 1) (v := V) hXN)
    have L2 := hQd (L1.out.other (b2 := X) (j := 1) (u := V) M1.out.t.o (by omega))
    obtain ⟨W2, hW2⟩ := exq (W1.setCell ⟨X, 1, none⟩ V)
    rw [← hW2] at M2 T2 L2 ⊢
    clear hW2 x1 f1 hV M1 T1 L1
    have p0 := M2.out.p.wo.c0
    obtain ⟨t0, t1⟩ := T2.out.c2
    go_region_held3 (fun w' => w'.cell? ⟨B.p, 0, none⟩ = some (.pointer (some ⟨B.c, 0, none⟩)) ∧ w'.cell? ⟨N, 0, none⟩ = some (.int .i64 b) ∧ w'.cell? ⟨N, 1, none⟩ = some (.int .i64 q)) (go_keep)
     ((first
       | (go_at_call 124
          refine (HT.out _).mono ?_
          rintro e w3 ⟨rfl, hb3⟩
          have M3 := hQd (M2.out.drew.below hb3)
          have T3 := hQd ((T2.out.below (Aaa _)).below hb3)
          have L3 := hQd ((L2.out.below (Aaa _)).below hb3)
          have p03 := M3.out.p.wo.c0
          obtain ⟨t03, t13⟩ := T3.out.c2
          clear hb3)
       | (go_at_call 37
          refine (Ac9 ta M3.out.p M3.out.e.hi HTA.out.1 HTA.out.2 n0 n1).mono ?_
          rintro e w4 ⟨rfl, G4, e4, P4⟩
          have M4 := hQd (M3.out.world hk e4 P4)
          have T4 := hQd (T3.out.ext e4 sw0)
          have L4 := hQd (L3.out.ext e4 (fun h => by have := h.2; omega))
          have p04 := M4.out.p.wo.c0
          obtain ⟨t04, t14⟩ := T4.out.c2
          clear e4 P4)
       | (go_at_call 182
          refine (HF.out _).mono ?_
          rintro e w5 ⟨rfl, hb5⟩
          have M5 := hQd (M4.out.below hb5)
          have T5 := hQd (T4.out.below hb5)
          have L5 := hQd (L4.out.below hb5)
          have p05 := M5.out.p.wo.c0
          obtain ⟨t05, t15⟩ := T5.out.c2
          clear hb5)))
    all_goals
     clear p0 t0 t1 p03 t03 t13 p04 t04 t14 p05 t05 t15
     clear M2 T2 L2 M3 T3 L3 M4 T4 L4 T5 HT HF
     have x1 := M5.out.t.c 1 _ rfl
     obtain ⟨ao, cv, rfl, -⟩ := L5.out.shape
     obtain ⟨x0, -, x2, x3, -, x5⟩ := M5.out.t.c6
     have f5 := M5.out.t.f 5
     have p7 := M5.out.p.wo.c7
     go_upto_region 6 with fail
     have HNW := hQd (fun W G cs (h : Me k (k + 1) w O W G B f (Aan ta s) k X cs) => Apr (k := k + 2) b a c f.y HB.out.1 HB.out.2 HAC.out.1 HAC.out.2.1 HAC.out.2.2.1 HAC.out.2.2.2 (by omega) h.e.hi)
     go_region_held3 (fun w' => w'.cell? ⟨B.p, 7, none⟩ = some (.int .i64 f.y) ∧ w'.cell? ⟨X, 0, none⟩ = some (.int .i64 b) ∧ w'.cell? ⟨X, 2, none⟩ = some (.int .i64 a) ∧ w'.cell? ⟨X, 3, none⟩ = some (.int .i64 c)) (first | go_keep | (refine ⟨?_, ?_, ?_, ?_⟩ <;> (first | assumption | (refine (World.cell?_setCell_other _ _ _ _ ?_).trans (by assumption); simp; try omega))))
      ((go_at_call 184
        refine (HNW.out _ _ _ M5.out.drew).mono ?_
        rintro e w6 ⟨Y, rfl, G6, e6, Y6⟩
        have P6 := M5.out.drew.p.ext e6
        have X6 := M5.out.drew.t.ext e6
        have p76 := P6.wo.c7
        obtain ⟨x06, -, x26, x36, -, x56⟩ := X6.c6
        have f56 := X6.f 5
        have H6 := hQd (aN (M5.out.drew.e.mono (T := SX k (k + 14)) fun t _ h => SX.mono (by omega) (by omega) h) (aN e6 (aN P6 (aN X6 Y6))))
        clear e6 P6 X6 Y6))
     all_goals
      have y5 := H6.out.2.2.2.1.set 5 (.pointer (some ⟨Y, 0, none⟩)) (by simp [Afd])
      have e5 := Aaf (j := 5) (v := .pointer (some ⟨Y, 0, none⟩)) H6.out.2.1.hi H6.out.2.2.2.1 hk
      have y4 : Ob _ G6 k X (Afd b (.slice ao 0 cv) a c Aef (.pointer (some ⟨Y, 0, none⟩)) hv p is) := y5.set 4 Aef (by simp [Afd])
      have e4 := Aaf (j := 4) (v := Aef) e5.hi y5 hk
      have z4 := y5.c 4 _ rfl
      have zf4 := y5.f 4
      have e12 := e5.trans e4
      have FIN := hQd (aN (H6.out.1.trans ((H6.out.2.1.mono (T := SX k (k + 14)) fun t _ h => .inr (by omega)).trans (e12.mono (T := SX k (k + 14)) fun t _ h => .inr (by omega)))) (aN (H6.out.2.2.1.ext e12) (aN y4 (H6.out.2.2.2.2.ext e12 fun t q1 q2 => by omega))))
      clear y5 e5 y4 e4 e12 x0 x2 x3 x5 f5 p7 p76 x06 x26 x36 x56 f56 H6
      go_wp2_with fail
      go_end0
      first
       | exact ⟨rfl, G6, FIN.out.1, FIN.out.2.1, _, fun _ => ⟨Y, FIN.out.2.2.1, FIN.out.2.2.2⟩, fun h => absurd rfl h⟩
       | exact ⟨rfl, G6, FIN.out.1, FIN.out.2.1, _, Y, FIN.out.2.2.1, FIN.out.2.2.2⟩
 rw [if_neg hcp] at L1
 go_enter Tryz.func168, Tryz.ntmps168
 go_wp2_with fail
 go_region
 all_goals
  obtain ⟨W1, hW1⟩ := exq ((w.alloc (.cells #[.int .i64 b, .int .i64 q] 93)).drew)
  rw [← hW1] at M1 T1 L1 ⊢
  obtain ⟨N, hN⟩ := exq w.heap.size
  rw [← hN] at T1 hXN ⊢
  clear hW1 hN x0 x1 f1 a0 pp
  have x1 := M1.out.t.c 1 _ rfl
  have f1 := M1.out.t.f 1
  go_upto_region 2 with fail
  obtain ⟨V, hV⟩ : ∃ V : Value, V = .slice (some ⟨A, o + 1, none⟩) l.length (cp - 1) := ⟨_, rfl⟩
  rw [← hV] at L1 ⊢
  have M2 := hQd (M1.out.set hk (Nat.le_refl _) (by omega) 1 V (by simp [Afd]))
  have T2 := hQd (T1.out.other (b2 := X) (j := 1) (v := V) hXN)
  have L2 := hQd (L1.out.other (b2 := X) (j := 1) (u := V) M1.out.t.o (by omega))
  obtain ⟨W2, hW2⟩ := exq (W1.setCell ⟨X, 1, none⟩ V)
  rw [← hW2] at M2 T2 L2 ⊢
  clear hW2 x1 f1 hV M1 T1 L1
  have p0 := M2.out.p.wo.c0
  obtain ⟨t0, t1⟩ := T2.out.c2
  go_region_held3 (fun w' => w'.cell? ⟨B.p, 0, none⟩ = some (.pointer (some ⟨B.c, 0, none⟩)) ∧ w'.cell? ⟨N, 0, none⟩ = some (.int .i64 b) ∧ w'.cell? ⟨N, 1, none⟩ = some (.int .i64 q)) (go_keep)
   ((first
     | (go_at_call 124
        refine (HT.out _).mono ?_
        rintro e w3 ⟨rfl, hb3⟩
        have M3 := hQd (M2.out.drew.below hb3)
        have T3 := hQd ((T2.out.below (Aaa _)).below hb3)
        have L3 := hQd ((L2.out.below (Aaa _)).below hb3)
        have p03 := M3.out.p.wo.c0
        obtain ⟨t03, t13⟩ := T3.out.c2
        clear hb3)
     | (go_at_call 37
        refine (Ac9 ta M3.out.p M3.out.e.hi HTA.out.1 HTA.out.2 n0 n1).mono ?_
        rintro e w4 ⟨rfl, G4, e4, P4⟩
        have M4 := hQd (M3.out.world hk e4 P4)
        have T4 := hQd (T3.out.ext e4 sw0)
        have L4 := hQd (L3.out.ext e4 (fun h => by have := h.2; omega))
        have p04 := M4.out.p.wo.c0
        obtain ⟨t04, t14⟩ := T4.out.c2
        clear e4 P4)
     | (go_at_call 182
        refine (HF.out _).mono ?_
        rintro e w5 ⟨rfl, hb5⟩
        have M5 := hQd (M4.out.below hb5)
        have T5 := hQd (T4.out.below hb5)
        have L5 := hQd (L4.out.below hb5)
        have p05 := M5.out.p.wo.c0
        obtain ⟨t05, t15⟩ := T5.out.c2
        clear hb5)))
  all_goals
   clear p0 t0 t1 p03 t03 t13 p04 t04 t14 p05 t05 t15
   clear M2 T2 L2 M3 T3 L3 M4 T4 L4 T5 HT HF
   have x1 := M5.out.t.c 1 _ rfl
   obtain ⟨ao, cv, rfl, -⟩ := L5.out.shape
   cases l with
   | cons q2 l2 =>
     have dl : (((q2 :: l2).length : Int) == 0) = false := by simp; omega
     go_wp2_with fail
     go_end0
     exact ⟨rfl, _, M5.out.e.mono fun t _ h => SX.mono (by omega) (by omega) h, M5.out.p, _, fun h => (by cases h), fun _ => ⟨M5.out.t, L5.out⟩⟩
   | nil =>
     obtain ⟨x0, -, x2, x3, -, x5⟩ := M5.out.t.c6
     have f5 := M5.out.t.f 5
     have p7 := M5.out.p.wo.c7
     go_upto_region 6 with fail
     have HNW := hQd (fun W G cs (h : Me k (k + 1) w O W G B f (Aan ta s) k X cs) => Apr (k := k + 2) b a c f.y HB.out.1 HB.out.2 HAC.out.1 HAC.out.2.1 HAC.out.2.2.1 HAC.out.2.2.2 (by omega) h.e.hi)
     go_region_held3 (fun w' => w'.cell? ⟨B.p, 7, none⟩ = some (.int .i64 f.y) ∧ w'.cell? ⟨X, 0, none⟩ = some (.int .i64 b) ∧ w'.cell? ⟨X, 2, none⟩ = some (.int .i64 a) ∧ w'.cell? ⟨X, 3, none⟩ = some (.int .i64 c)) (first | go_keep | (refine ⟨?_, ?_, ?_, ?_⟩ <;> (first | assumption | (refine (World.cell?_setCell_other _ _ _ _ ?_).trans (by assumption); simp; try omega))))
      ((go_at_call 184
        refine (HNW.out _ _ _ M5.out.drew).mono ?_
        rintro e w6 ⟨Y, rfl, G6, e6, Y6⟩
        have P6 := M5.out.drew.p.ext e6
        have X6 := M5.out.drew.t.ext e6
        have p76 := P6.wo.c7
        obtain ⟨x06, -, x26, x36, -, x56⟩ := X6.c6
        have f56 := X6.f 5
        have H6 := hQd (aN (M5.out.drew.e.mono (T := SX k (k + 14)) fun t _ h => SX.mono (by omega) (by omega) h) (aN e6 (aN P6 (aN X6 Y6))))
        clear e6 P6 X6 Y6))
     all_goals
      have y5 := H6.out.2.2.2.1.set 5 (.pointer (some ⟨Y, 0, none⟩)) (by simp [Afd])
      have e5 := Aaf (j := 5) (v := .pointer (some ⟨Y, 0, none⟩)) H6.out.2.1.hi H6.out.2.2.2.1 hk
      have y4 : Ob _ G6 k X (Afd b (.slice ao 0 cv) a c Aef (.pointer (some ⟨Y, 0, none⟩)) hv p is) := y5.set 4 Aef (by simp [Afd])
      have e4 := Aaf (j := 4) (v := Aef) e5.hi y5 hk
      have z4 := y5.c 4 _ rfl
      have zf4 := y5.f 4
      have e12 := e5.trans e4
      have FIN := hQd (aN (H6.out.1.trans ((H6.out.2.1.mono (T := SX k (k + 14)) fun t _ h => .inr (by omega)).trans (e12.mono (T := SX k (k + 14)) fun t _ h => .inr (by omega)))) (aN (H6.out.2.2.1.ext e12) (aN y4 (H6.out.2.2.2.2.ext e12 fun t q1 q2 => by omega))))
      clear y5 e5 y4 e4 e12 x0 x2 x3 x5 f5 p7 p76 x06 x26 x36 x56 f56 H6
      go_wp2_with fail
      go_end0
      first
       | exact ⟨rfl, G6, FIN.out.1, FIN.out.2.1, _, fun _ => ⟨Y, FIN.out.2.2.1, FIN.out.2.2.2⟩, fun h => absurd rfl h⟩
       | exact ⟨rfl, G6, FIN.out.1, FIN.out.2.1, _, Y, FIN.out.2.2.1, FIN.out.2.2.2⟩
end
end
section
open Go.RowKit Go.Shelf
section
variable {X : Nat} {w : World} {O : Om} {B : Wb} {f : Cf} {s s' : AW} {k : Nat}
theorem Ags {z z' : Rmm} (p : Nat) (hR : Aa1 w O k X z) (hdo : Ani z.ln = .func (.func p) #[] #[]) (hK : ∀ args W, (callFunc p args).run Tryz.prog W = .ok (.enter p args) W)
 (H : C2 p X B.p w (RP (SX k (k + 14)) w O (.tuple #[]) fun W G => PW W G B f s' ∧ Aa1 W G k X z')) :
 C2 237 X B.p w (RP (SX k (k + 14)) w O (.bool (z'.ln == 0)) fun W G => PW W G B f s' ∧ Aa1 W G k X z') := by
 have x4 : w.cell? ⟨X, 4, none⟩ = some (.func (.func p) #[] #[]) := hR.c4.trans (by rw [hdo])
 have hOv0 : C1 236 X w fun e w' => e = .returned (.bool false) ∧ w = w' := Ahr X _ w x4 false (.inr ⟨_, _, _, rfl, rfl⟩)
 have HO0 := hQd hOv0
 have HL := hQd H
 clear hR hdo H hOv0
 go_enter Tryz.func237, Tryz.ntmps237
 go_wp2_with fail
 refine HO0.out.mono ?_
 rintro e w' ⟨rfl, rfl⟩
 go_wp2_with fail
 refine HL.out.mono ?_
 rintro e w1 ⟨rfl, G1, e1, P1, R1⟩
 have HE := hQd (aN e1 (aN P1 R1))
 have HO1 := hQd (Amn R1)
 clear e1 P1 R1 x4 hK HL HO0
 go_wp2_with fail
 refine HO1.out.mono ?_
 rintro e w' ⟨rfl, rfl⟩
 go_wp2_with fail
 go_ret
 exact ⟨rfl, G1, HE.out⟩
structure Bb2 (f : Cf) (z : Rmm) : Prop where
 b : 1 ≤ z.b ∧ z.b ≤ 12
 a : 0 ≤ z.a ∧ z.a < Aac z.b
 c : 0 ≤ z.c ∧ z.c < Aac z.b
 y : z.ln = 3 → Aw4 z.b z.wy
theorem Ats {z : Rmm} (hR : Aa1 w O k X z) (hl : z.ln = 3) (hg : Bb2 f z) (hP : PW w O B f s) (hk : 10 ≤ k) (hhi : Hh O w) (n0 : 0 ≤ s.n) (n1 : s.n ≤ 4611686018427387904) (hwl : (Aaw (s, z.wy)).2.way.length ≤ 8192) :
 C2 237 X B.p w (RP (SX k (k + 14)) w O (.bool ((Aaq f.y (s, z)).2.ln == 0)) fun W G => PW W G B f (Aaq f.y (s, z)).1 ∧ Aa1 W G k X (Aaq f.y (s, z)).2) :=
 Ags 185 hR (by unfold Ani; rw [if_neg (by omega), if_neg (by omega), if_pos hl]; rfl) (enters_of Tryz.func185 (by kernel_rfl) rfl) (Aqy f.y hR hl (hg.y hl) hP hk hhi n0 n1 hwl)
theorem Ajz {z : Rmm} (hR : Aa1 w O k X z) (hl : z.ln = 1 ∨ z.ln = 2) (hg : Bb2 f z) (hf : ¬ 0 ≤ Aa5 (Awn s z (if z.ln = 1 then z.a else z.c))) (hP : PW w O B f s) (hk : 10 ≤ k) (hhi : Hh O w) (n0 : 0 ≤ s.n) (n1 : s.n ≤ 4611686018427387904) :
 C2 237 X B.p w (RP (SX k (k + 14)) w O (.bool ((Aaq f.y (s, z)).2.ln == 0)) fun W G => PW W G B f (Aaq f.y (s, z)).1 ∧ Aa1 W G k X (Aaq f.y (s, z)).2) := by
 refine Ags 168 hR (by unfold Ani; rw [if_neg (by omega), if_pos (by omega)]; rfl) (enters_of Tryz.func168 (by kernel_rfl) rfl) ?_
 obtain ⟨bv, wv, hv, h1, h2, -, -⟩ := hR.ex
 have hS := h2 hl
 have hdo : Ani z.ln = Ahg := by unfold Ani; rw [if_neg (by omega), if_pos (by omega)]
 rw [hdo] at h1
 have key : ∀ q l, Add z = q :: l → (q = if z.ln = 1 then z.a else z.c) → Aaq f.y (s, z) = (Aan (Aai z.b q) s, if l = [] then Ab8 f.y z else ⟨2, z.b, z.a, z.c, z.wy, z.ho, z.p, z.is⟩) → (l ≠ [] → l = [z.c]) →
  C2 168 X B.p w (RP (SX k (k + 14)) w O (.tuple #[]) fun W G => PW W G B f (Aaq f.y (s, z)).1 ∧ Aa1 W G k X (Aaq f.y (s, z)).2) := by
  intro q l hql hq hst hlc
  rw [hql] at hS
  rw [← hq] at hf
  have hqb : 0 ≤ q ∧ q < Aac z.b := by
   rw [hq]; split
   · exact hg.a
   exact hg.c
  rw [hst]
  refine (Aqz z.b q z.a z.c l bv wv hv z.p z.is hP h1 hS hg.b hqb ⟨hg.a.1, hg.a.2, hg.c⟩ hf hk hhi n0 n1).mono ?_
  rintro e w' ⟨rfl, G, e1, P1, V, ha, hb⟩
  refine ⟨rfl, G, e1, P1, ?_⟩
  by_cases hl0 : l = []
  · obtain ⟨Y, x1, y1⟩ := ha hl0
    rw [if_pos hl0]
    exact ⟨V, _, hv, x1, fun h => absurd h (by show ¬ ((3 : Int) = 1 ∨ (3 : Int) = 2); decide), fun _ => ⟨Y, rfl, y1⟩, fun h => absurd h (by show ¬ (3 : Int) = 4; decide)⟩
  obtain ⟨x1, y1⟩ := hb hl0
  rw [if_neg hl0]
  rw [hlc hl0] at y1
  exact ⟨V, wv, hv, x1, fun _ => y1, fun h => absurd h (by show ¬ (2 : Int) = 3; decide), fun h => absurd h (by show ¬ (2 : Int) = 4; decide)⟩
 rcases hl with g | g
 · rw [if_pos g] at hf
   by_cases hc : z.c = z.a
   · refine key z.a [] (by unfold Add; rw [if_pos g, if_pos hc]) (by rw [if_pos g]) ?_ (fun h => absurd rfl h)
     unfold Aaq; dsimp only; rw [if_pos g, if_neg hf, if_pos hc, if_pos rfl]
   refine key z.a [z.c] (by unfold Add; rw [if_pos g, if_neg hc]) (by rw [if_pos g]) ?_ (fun _ => rfl)
   unfold Aaq; dsimp only; rw [if_pos g, if_neg hf, if_neg hc, if_neg (by simp)]
 rw [if_neg (by omega)] at hf
 refine key z.c [] (by unfold Add; rw [if_neg (by omega), if_pos g]) (by rw [if_neg (by omega)]) ?_ (fun h => absurd rfl h)
 unfold Aaq; dsimp only; rw [if_neg (by omega), if_pos g, if_neg hf, if_pos rfl]
end
end
section
open Go.RowKit Go.Shelf
def Afp (wv : Value) (lf tg : Int) (ld : Bool) (dv : Value) : List Value := [wv, .int .i64 lf, .int .i64 tg, .bool ld, dv]
section
variable {X : Nat} {w : World} {O : Om} {B : Wb} {f : Cf} {s : AW} {k : Nat}
theorem Ami {lf tg : Int} {ld : Bool} {wv lv : Value} {v0 : Value} {l : List Value} (hx : Ob w O k X (Afp wv lf tg ld lv)) (hS : Sls w O (k + 2) 1 lv (l.length + 1) (v0 :: l)) (h0 : Aa4 w O k v0 false) (hk : 10 ≤ k) (hhi : Hh O w) :
 C1 205 X w fun e w' => e = .returned (.tuple #[]) ∧ Below w.heap.size w w' := by
 obtain ⟨A, o, cp, rfl, hc1, hc2⟩ := hS.open (by omega)
 have a0 := hS.c 0 _ rfl
 rw [Nat.add_zero] at a0
 have x4 := hx.c 4 _ rfl
 have hXl := hx.lt
 obtain ⟨ty, r, r', fO, rfl, hm, hK, hC⟩ := h0
 have HC := hQd (hC w (Ext.refl hhi))
 have hl0 : (0 : Int) < (l.length : Int) + 1 := by omega
 have dl : ((l.length : Int) + 1 == 0) = false := by simp; omega
 clear hx hS hC hhi
 go_enter Tryz.func205, Tryz.ntmps205
 go_step3
 go_wp2_with fail
 go_step3
 go_wp2_with fail
 refine wp_loop_rounds 1 ?_
 rw [rounds_succ]
 go_wp2_with fail
 refine HC.out.mono ?_
 rintro e w1 ⟨rfl, hb⟩
 have x41 := (hb.cell (p := ⟨X, 4, none⟩) hXl).trans x4
 have HB := hQd hb
 clear hb x4 a0 hm hK
 go_wp2_with fail
 (try rw [Exit.noGoto_normal])
 go_end0
 exact ⟨rfl, HB.out⟩
theorem Asx {lf tg : Int} {ld : Bool} {wv lv : Value} {v0 v1 : Value} {l : List Value} (hx : Ob w O k X (Afp wv lf tg ld lv)) (hS : Sls w O (k + 2) 1 lv (l.length + 1 + 1) (v0 :: v1 :: l)) (h0 : Aa4 w O k v0 true) (h1 : Aa4 w O k v1 false) (hk : 10 ≤ k) (hhi : Hh O w) :
 C1 205 X w (RP (fun t => t = k) w O (.tuple #[]) fun W G => G = O ∧ ∃ lv', Ob W G k X (Afp wv lf tg ld lv') ∧ Sls W G (k + 2) 1 lv' (l.length + 1) (v1 :: l)) := by
 obtain ⟨A, o, cp, rfl, hc1, hc2⟩ := hS.open (by omega)
 have a0 := hS.c 0 _ rfl
 have a1 := hS.c 1 _ rfl
 rw [Nat.add_zero] at a0
 have hT1 := hS.tail (o' := o + 1) (.inl rfl)
 have x4 := hx.c 4 _ rfl
 have hXl := hx.lt
 have hAl := hS.lt.1
 have hAX : ¬ A = X := fun e => by have h1 := hx.o; have h2 := hS.lt.2; rw [← e, h2] at h1; omega
 have hXA : ¬ X = A := fun e => hAX e.symm
 obtain ⟨ty0, r0, r0', f0, rfl, hm0, hK0, hC0⟩ := h0
 have HC0 := hQd hC0
 obtain ⟨ty1, r1, r1', f1, rfl, hm1, hK1, hC1⟩ := h1
 have HC1 := hQd hC1
 have hl0 : (0 : Int) < (l.length : Int) + 1 + 1 := by omega
 have hl1 : (0 : Int) < (l.length : Int) + 1 := by omega
 have hs0 : (1 : Int) ≤ (l.length : Int) + 1 + 1 := by omega
 have dl : ((l.length : Int) + 1 == 0) = false := by simp; omega
 have hcp : ¬ cp = 1 := by omega
 have HX := hQd (aN hx hT1)
 have HH := hQd hhi
 clear hx hS hC0 hC1 hhi hT1
 go_enter Tryz.func205, Tryz.ntmps205
 go_step3
 go_wp2_with fail
 go_step3
 go_wp2_with fail
 refine wp_loop_rounds 2 ?_
 rw [rounds_succ]
 go_wp2_with fail
 refine (HC0.out w (Ext.refl HH.out)).mono ?_
 rintro e w1 ⟨rfl, hb⟩
 have X1 := hQd (HX.out.1.below hb)
 have T1 := hQd (HX.out.2.below hb)
 have E1 := hQd (Ext.of_below (S := fun t => t = k) HH.out hb)
 have y0 := X1.out.c 4 _ rfl
 have yf0 := X1.out.f 4
 have b01 := (hb.cell (p := ⟨A, o + 1, none⟩) hAl).trans a1
 have hAl1 := Nat.lt_of_lt_of_le hAl hb.size
 clear hb x4 a0 a1
 go_wp2_with fail
 have X2 := hQd (X1.out.set 4 (.slice (some ⟨A, o + 1, none⟩) (l.length + 1) (cp - 1)) (by simp [Afp]))
 have E2 := hQd (E1.out.trans (Aaf (j := 4) (v := .slice (some ⟨A, o + 1, none⟩) (l.length + 1) (cp - 1)) E1.out.hi X1.out hk))
 have T2 := hQd (T1.out.ext (Aaf (j := 4) (v := .slice (some ⟨A, o + 1, none⟩) (l.length + 1) (cp - 1)) E1.out.hi X1.out hk))
 have c01 : (w1.setCell ⟨X, 4, none⟩ (.slice (some ⟨A, o + 1, none⟩) (l.length + 1) (cp - 1))).cell? ⟨A, o + 1, none⟩ = some (.iface ty1 r1) := (World.cell?_setCell_other _ _ _ _ (by simp; try omega)).trans b01
 have hAl2 : A < (w1.setCell ⟨X, 4, none⟩ (.slice (some ⟨A, o + 1, none⟩) (l.length + 1) (cp - 1))).heap.size := by simpa using hAl1
 obtain ⟨w2, hw⟩ := exq (w1.setCell ⟨X, 4, none⟩ (.slice (some ⟨A, o + 1, none⟩) (l.length + 1) (cp - 1)))
 rw [← hw] at X2 E2 T2 hAl2 c01 ⊢
 clear hw y0 yf0 b01 hAl1
 have z0 := X2.out.c 4 _ rfl
 rw [rounds_succ]
 go_wp2_with fail
 refine (HC1.out w2 E2.out).mono ?_
 rintro e w3 ⟨rfl, hb⟩
 have X3 := hQd (X2.out.below hb)
 have T3 := hQd (T2.out.below hb)
 have E3 := hQd (E2.out.below hb)
 have y1 := X3.out.c 4 _ rfl
 have yf1 := X3.out.f 4
 clear hb z0 c01
 go_wp2_with fail
 (try rw [Exit.noGoto_normal])
 go_end0
 exact ⟨rfl, O, E3.out, rfl, _, X3.out, T3.out⟩
theorem Ba5 {lf tg : Int} {ld : Bool} {wv lv : Value} {v0 v1 v2 : Value} {l : List Value} (hx : Ob w O k X (Afp wv lf tg ld lv)) (hS : Sls w O (k + 2) 1 lv (l.length + 1 + 1 + 1) (v0 :: v1 :: v2 :: l)) (h0 : Aa4 w O k v0 true) (h1 : Aa4 w O k v1 true) (h2 : Aa4 w O k v2 false) (hk : 10 ≤ k) (hhi : Hh O w) :
 C1 205 X w (RP (fun t => t = k) w O (.tuple #[]) fun W G => G = O ∧ ∃ lv', Ob W G k X (Afp wv lf tg ld lv') ∧ Sls W G (k + 2) 1 lv' (l.length + 1) (v2 :: l)) := by
 obtain ⟨A, o, cp, rfl, hc1, hc2⟩ := hS.open (by omega)
 have a0 := hS.c 0 _ rfl
 have a1 := hS.c 1 _ rfl
 have a2 := hS.c 2 _ rfl
 rw [Nat.add_zero] at a0
 have hT1 := hS.tail (o' := o + 1) (.inl rfl)
 have hT2 := hT1.tail (o' := o + 2) (.inl rfl)
 have x4 := hx.c 4 _ rfl
 have hXl := hx.lt
 have hAl := hS.lt.1
 have hAX : ¬ A = X := fun e => by have h1 := hx.o; have h2 := hS.lt.2; rw [← e, h2] at h1; omega
 have hXA : ¬ X = A := fun e => hAX e.symm
 obtain ⟨ty0, r0, r0', f0, rfl, hm0, hK0, hC0⟩ := h0
 have HC0 := hQd hC0
 obtain ⟨ty1, r1, r1', f1, rfl, hm1, hK1, hC1⟩ := h1
 have HC1 := hQd hC1
 obtain ⟨ty2, r2, r2', f2, rfl, hm2, hK2, hC2⟩ := h2
 have HC2 := hQd hC2
 have hl0 : (0 : Int) < (l.length : Int) + 1 + 1 + 1 := by omega
 have hl1 : (0 : Int) < (l.length : Int) + 1 + 1 := by omega
 have hl2 : (0 : Int) < (l.length : Int) + 1 := by omega
 have hs0 : (1 : Int) ≤ (l.length : Int) + 1 + 1 + 1 := by omega
 have hs1 : (1 : Int) ≤ (l.length : Int) + 1 + 1 := by omega
 have dl : ((l.length : Int) + 1 == 0) = false := by simp; omega
 have hcp : ¬ cp = 1 := by omega
 have hcp2 : ¬ cp - 1 = 1 := by omega
 have HX := hQd (aN hx hT2)
 have HH := hQd hhi
 clear hx hS hC0 hC1 hC2 hhi hT1 hT2
 go_enter Tryz.func205, Tryz.ntmps205
 go_step3
 go_wp2_with fail
 go_step3
 go_wp2_with fail
 refine wp_loop_rounds 3 ?_
 rw [rounds_succ]
 go_wp2_with fail
 refine (HC0.out w (Ext.refl HH.out)).mono ?_
 rintro e w1 ⟨rfl, hb⟩
 have X1 := hQd (HX.out.1.below hb)
 have T1 := hQd (HX.out.2.below hb)
 have E1 := hQd (Ext.of_below (S := fun t => t = k) HH.out hb)
 have y0 := X1.out.c 4 _ rfl
 have yf0 := X1.out.f 4
 have b01 := (hb.cell (p := ⟨A, o + 1, none⟩) hAl).trans a1
 have b02 := (hb.cell (p := ⟨A, o + 2, none⟩) hAl).trans a2
 have hAl1 := Nat.lt_of_lt_of_le hAl hb.size
 clear hb x4 a0 a1 a2
 go_wp2_with fail
 have X2 := hQd (X1.out.set 4 (.slice (some ⟨A, o + 1, none⟩) (l.length + 1 + 1) (cp - 1)) (by simp [Afp]))
 have E2 := hQd (E1.out.trans (Aaf (j := 4) (v := .slice (some ⟨A, o + 1, none⟩) (l.length + 1 + 1) (cp - 1)) E1.out.hi X1.out hk))
 have T2 := hQd (T1.out.ext (Aaf (j := 4) (v := .slice (some ⟨A, o + 1, none⟩) (l.length + 1 + 1) (cp - 1)) E1.out.hi X1.out hk))
 have c01 : (w1.setCell ⟨X, 4, none⟩ (.slice (some ⟨A, o + 1, none⟩) (l.length + 1 + 1) (cp - 1))).cell? ⟨A, o + 1, none⟩ = some (.iface ty1 r1) := (World.cell?_setCell_other _ _ _ _ (by simp; try omega)).trans b01
 have c02 : (w1.setCell ⟨X, 4, none⟩ (.slice (some ⟨A, o + 1, none⟩) (l.length + 1 + 1) (cp - 1))).cell? ⟨A, o + 2, none⟩ = some (.iface ty2 r2) := (World.cell?_setCell_other _ _ _ _ (by simp; try omega)).trans b02
 have hAl2 : A < (w1.setCell ⟨X, 4, none⟩ (.slice (some ⟨A, o + 1, none⟩) (l.length + 1 + 1) (cp - 1))).heap.size := by simpa using hAl1
 obtain ⟨w2, hw⟩ := exq (w1.setCell ⟨X, 4, none⟩ (.slice (some ⟨A, o + 1, none⟩) (l.length + 1 + 1) (cp - 1)))
 rw [← hw] at X2 E2 T2 hAl2 c01 c02 ⊢
 clear hw y0 yf0 b01 b02 hAl1
 have z0 := X2.out.c 4 _ rfl
 rw [rounds_succ]
 go_wp2_with fail
 refine (HC1.out w2 E2.out).mono ?_
 rintro e w3 ⟨rfl, hb⟩
 have X3 := hQd (X2.out.below hb)
 have T3 := hQd (T2.out.below hb)
 have E3 := hQd (E2.out.below hb)
 have y1 := X3.out.c 4 _ rfl
 have yf1 := X3.out.f 4
 have b12 := (hb.cell (p := ⟨A, o + 2, none⟩) hAl2).trans c02
 have hAl3 := Nat.lt_of_lt_of_le hAl2 hb.size
 clear hb z0 c01 c02
 go_wp2_with fail
 have X4 := hQd (X3.out.set 4 (.slice (some ⟨A, o + 2, none⟩) (l.length + 1) (cp - 1 - 1)) (by simp [Afp]))
 have E4 := hQd (E3.out.trans (Aaf (j := 4) (v := .slice (some ⟨A, o + 2, none⟩) (l.length + 1) (cp - 1 - 1)) E3.out.hi X3.out hk))
 have T4 := hQd (T3.out.ext (Aaf (j := 4) (v := .slice (some ⟨A, o + 2, none⟩) (l.length + 1) (cp - 1 - 1)) E3.out.hi X3.out hk))
 have c12 : (w3.setCell ⟨X, 4, none⟩ (.slice (some ⟨A, o + 2, none⟩) (l.length + 1) (cp - 1 - 1))).cell? ⟨A, o + 2, none⟩ = some (.iface ty2 r2) := (World.cell?_setCell_other _ _ _ _ (by simp; try omega)).trans b12
 have hAl4 : A < (w3.setCell ⟨X, 4, none⟩ (.slice (some ⟨A, o + 2, none⟩) (l.length + 1) (cp - 1 - 1))).heap.size := by simpa using hAl3
 obtain ⟨w4, hw⟩ := exq (w3.setCell ⟨X, 4, none⟩ (.slice (some ⟨A, o + 2, none⟩) (l.length + 1) (cp - 1 - 1)))
 rw [← hw] at X4 E4 T4 hAl4 c12 ⊢
 clear hw y1 yf1 b12 hAl3
 have z1 := X4.out.c 4 _ rfl
 rw [rounds_succ]
 go_wp2_with fail
 refine (HC2.out w4 E4.out).mono ?_
 rintro e w5 ⟨rfl, hb⟩
 have X5 := hQd (X4.out.below hb)
 have T5 := hQd (T4.out.below hb)
 have E5 := hQd (E4.out.below hb)
 have y2 := X5.out.c 4 _ rfl
 have yf2 := X5.out.f 4
 clear hb z1 c12
 go_wp2_with fail
 (try rw [Exit.noGoto_normal])
 go_end0
 exact ⟨rfl, O, E5.out, rfl, _, X5.out, T5.out⟩
theorem Ba4 {lf tg : Int} {ld : Bool} {wv lv : Value} {v0 : Value} (hx : Ob w O k X (Afp wv lf tg ld lv)) (hS : Sls w O (k + 2) 1 lv 1 [v0]) (h0 : Aa4 w O k v0 true) (hlf : 1 ≤ lf) (hlf1 : lf ≤ 8192) (hk : 10 ≤ k) (hhi : Hh O w) :
 C1 205 X w (RP (fun t => t = k) w O (.tuple #[]) fun W G => G = O ∧ ∃ lv', Ob W G k X (Afp wv (lf - 1) tg false lv') ∧ Sls W G (k + 2) 1 lv' 0 []) := by
 obtain ⟨A, o, cp, rfl, hc1, hc2⟩ := hS.open (by omega)
 have a0 := hS.c 0 _ rfl
 rw [Nat.add_zero] at a0
 have x4 := hx.c 4 _ rfl
 have hXl := hx.lt
 have hAl := hS.lt.1
 have hAX : ¬ A = X := fun e => by have h1 := hx.o; have h2 := hS.lt.2; rw [← e, h2] at h1; omega
 have hXA : ¬ X = A := fun e => hAX e.symm
 obtain ⟨ty0, r0, r0', f0, rfl, hm0, hK0, hC0⟩ := h0
 have HC0 := hQd hC0
 have HS := hQd hS
 have HX := hQd hx
 have HH := hQd hhi
 clear hx hS hC0 hhi
 by_cases hcp : cp = 1
 · subst hcp
   have HT := hQd (HS.out.tail (n := 0) (o' := o) (.inr ⟨rfl, rfl⟩))
   go_enter Tryz.func205, Tryz.ntmps205
   go_step3
   go_wp2_with fail
   go_step3
   go_wp2_with fail
   refine wp_loop_rounds 2 ?_
   rw [rounds_succ]
   go_wp2_with fail
   refine (HC0.out w (Ext.refl HH.out)).mono ?_
   rintro e w1 ⟨rfl, hb⟩
   have X1 := hQd (HX.out.below hb)
   have T1 := hQd (HT.out.below hb)
   have E1 := hQd (Ext.of_below (S := fun t => t = k) HH.out hb)
   have y0 := X1.out.c 4 _ rfl
   have yf0 := X1.out.f 4
   clear hb x4 a0
   go_wp2_with fail
   have X2 := hQd (X1.out.set 4 (.slice (some ⟨A, o, none⟩) 0 0) (by simp [Afp]))
   have E2 := hQd (E1.out.trans (Aaf (j := 4) (v := .slice (some ⟨A, o, none⟩) 0 0) E1.out.hi X1.out hk))
   have T2 := hQd (T1.out.ext (Aaf (j := 4) (v := .slice (some ⟨A, o, none⟩) 0 0) E1.out.hi X1.out hk))
   obtain ⟨w2, hw⟩ := exq (w1.setCell ⟨X, 4, none⟩ (.slice (some ⟨A, o, none⟩) 0 0))
   rw [← hw] at X2 E2 T2
   (try (have e11 : 1 - 1 = 0 := rfl; rw [e11] at hw))
   rw [← hw]
   clear hw y0 yf0
   have z0 := X2.out.c 4 _ rfl
   obtain ⟨-, z1, -, z3⟩ := X2.out.c4
   have zf1 := X2.out.f 1
   have zf3 := X2.out.f 3
   rw [rounds_succ]
   go_wp2_with fail
   (try rw [Exit.noGoto_normal])
   go_end0
   have X3 := X2.out.set 1 (.int .i64 (lf - 1)) (by simp [Afp])
   have E3 := Aaf (j := 1) (v := .int .i64 (lf - 1)) E2.out.hi X2.out hk
   have X4 := X3.set 3 (.bool false) (by simp [Afp])
   have E4 := Aaf (j := 3) (v := .bool false) E3.hi X3 hk
   exact ⟨rfl, O, E2.out.trans (E3.trans E4), rfl, _, X4, T2.out.ext (E3.trans E4)⟩
 ·
  have HT := hQd (HS.out.tail (n := 0) (o' := o + 1) (.inl rfl))
  go_enter Tryz.func205, Tryz.ntmps205
  go_step3
  go_wp2_with fail
  go_step3
  go_wp2_with fail
  refine wp_loop_rounds 2 ?_
  rw [rounds_succ]
  go_wp2_with fail
  refine (HC0.out w (Ext.refl HH.out)).mono ?_
  rintro e w1 ⟨rfl, hb⟩
  have X1 := hQd (HX.out.below hb)
  have T1 := hQd (HT.out.below hb)
  have E1 := hQd (Ext.of_below (S := fun t => t = k) HH.out hb)
  have y0 := X1.out.c 4 _ rfl
  have yf0 := X1.out.f 4
  clear hb x4 a0
  go_wp2_with fail
  have X2 := hQd (X1.out.set 4 (.slice (some ⟨A, o + 1, none⟩) 0 (cp - 1)) (by simp [Afp]))
  have E2 := hQd (E1.out.trans (Aaf (j := 4) (v := .slice (some ⟨A, o + 1, none⟩) 0 (cp - 1)) E1.out.hi X1.out hk))
  have T2 := hQd (T1.out.ext (Aaf (j := 4) (v := .slice (some ⟨A, o + 1, none⟩) 0 (cp - 1)) E1.out.hi X1.out hk))
  obtain ⟨w2, hw⟩ := exq (w1.setCell ⟨X, 4, none⟩ (.slice (some ⟨A, o + 1, none⟩) 0 (cp - 1)))
  rw [← hw] at X2 E2 T2
  (try (have e11 : 1 - 1 = 0 := rfl; rw [e11] at hw))
  rw [← hw]
  clear hw y0 yf0
  have z0 := X2.out.c 4 _ rfl
  obtain ⟨-, z1, -, z3⟩ := X2.out.c4
  have zf1 := X2.out.f 1
  have zf3 := X2.out.f 3
  rw [rounds_succ]
  go_wp2_with fail
  (try rw [Exit.noGoto_normal])
  go_end0
  have X3 := X2.out.set 1 (.int .i64 (lf - 1)) (by simp [Afp])
  have E3 := Aaf (j := 1) (v := .int .i64 (lf - 1)) E2.out.hi X2.out hk
  have X4 := X3.set 3 (.bool false) (by simp [Afp])
  have E4 := Aaf (j := 3) (v := .bool false) E3.hi X3 hk
  exact ⟨rfl, O, E2.out.trans (E3.trans E4), rfl, _, X4, T2.out.ext (E3.trans E4)⟩
end
end
end Go.Proofs.YthbodknlhkapdaaGreat
