/- Run of an operation by itself, whatever the operation. -/
import Derived.Test.YthbodknlhkapdaaGreatBaC
import Derived.Test.YthbodknlhkapdaaGreatBaE
import Derived.Test.YthbodknlhkapdaaGreatBaG
import Derived.BigQuiet
import Derived.Deep.QuietTactic
namespace Go.Proofs.YthbodknlhkapdaaGreat
set_option linter.unusedSimpArgs false
set_option linter.unusedVariables false
set_option maxHeartbeats 2000000
set_option maxRecDepth 100000
section
open Go.RowKit
def Ad5 {Y : Type} (over : Y → Bool) (step : AW × Y → AW × Y) : Nat → AW × Y → Nat × (AW × Y)
 | 0, z => (0, z)
 | m + 1, z => if over z.2 then (0, z) else ((Ad5 over step m (step z)).1 + 1, (Ad5 over step m (step z)).2)
section
variable {Y : Type} {over : Y → Bool} {step : AW × Y → AW × Y}
theorem Ah0 (k : Nat) (z : AW × Y) (h : over z.2 = true) : Ad5 over step k z = (0, z) := by
 cases k with
 | zero => rfl
 | succ k => unfold Ad5; rw [if_pos h]
theorem Ang (k : Nat) (z : AW × Y) (h : over z.2 = false) : Ad5 over step (k + 1) z = ((Ad5 over step k (step z)).1 + 1, (Ad5 over step k (step z)).2) := by
 conv => lhs; unfold Ad5
 rw [if_neg (by simp [h])]
end
theorem Awu {Y : Type} (over : Y → Bool) (step : AW × Y → AW × Y) (S : Nat → Prop) (I : World → Om → AW × Y → Prop) (p X : Nat) (ty : TypeId) (fO fS : FuncId)
 (hmo : ∀ W, (method 464 ty (.pointer (some ⟨X, 0, none⟩)) "Over").run Tryz.prog W = .ok (fO, .pointer (some ⟨X, 0, none⟩)) W)
 (hms : ∀ W, (method 464 ty (.pointer (some ⟨X, 0, none⟩)) "Step").run Tryz.prog W = .ok (fS, .pointer (some ⟨X, 0, none⟩)) W)
 (hKO : ∀ args W, (callFunc fO args).run Tryz.prog W = .ok (.enter fO args) W) (hKS : ∀ args W, (callFunc fS args).run Tryz.prog W = .ok (.enter fS args) W)
 (cO : ∀ W G z, I W G z → C1 fO X W fun e w' => e = .returned (.bool (over z.2)) ∧ W = w')
 (cS : ∀ W G z, I W G z → over z.2 = false → (Hh G W) → 0 ≤ z.1.n → z.1.n ≤ 4611686018427387904 → C2 fS X p W fun e w' => ∃ v, RP S W G v (fun W1 G1 => I W1 G1 (step z)) e w')
 (hst : ∀ z, (step z).1.n ≤ z.1.n + 1 ∧ z.1.n ≤ (step z).1.n)
 (w : World) (O : Om) (m : Nat) (z : AW × Y) (h : I w O z) (hhi : Hh O w) (n0 : 0 ≤ z.1.n) (n1 : z.1.n + m ≤ 4611686018427387904) :
 Calls Tryz.prog 16 #[.pointer (some ⟨p, 0, none⟩), .iface ty (.pointer (some ⟨X, 0, none⟩)), .int .i64 m] w (RP S w O (.int .i64 (Ad5 over step m z).1) fun W G => I W G (Ad5 over step m z).2) := by
 have H := hQd h
 have HH := hQd hhi
 have HCO := hQd cO
 have HCS := hQd cS
 have HST := hQd hst
 have hm1 : (m : Int) ≤ 4611686018427387904 := by omega
 clear h hhi cO cS hst
 go_enter Tryz.func16, Tryz.ntmps16
 go_wp2_with fail
 go_loopw [7] (fun i wr => ∃ (k : Nat) (y : AW × Y) (G : Om), k ≤ m ∧ i = .int .i64 k ∧ I wr G y ∧ z.1.n ≤ y.1.n ∧ y.1.n ≤ z.1.n + k ∧ Ad5 over step m z = ((Ad5 over step (m - k) y).1 + k, (Ad5 over step (m - k) y).2) ∧ Ext S O w G wr) (fun i _ => m - (intOf i).toNat)
 case atStart => exact ⟨0, z, O, Nat.zero_le _, rfl, H.out, Int.le_refl _, by omega, rfl, Ext.refl HH.out⟩
 obtain ⟨k, y, G, hk, rfl, hI, hn, hn2, hr, he⟩ := hrel
 have HI := hQd hI
 have HR := hQd hr
 have HE := hQd he
 clear hI hr he
 by_cases hk2 : k < m
 · obtain ⟨q, hq⟩ : ∃ q, m - k = q + 1 := ⟨m - k - 1, by omega⟩
   have hq2 : m - (k + 1) = q := by omega
   have HQ := hQd hq
   have HQ2 := hQd hq2
   clear hq hq2
   cases ho : over y.2
   · have HOv := hQd ho
     have hy1 : y.1.n ≤ 4611686018427387904 := by omega
     have hy0 : 0 ≤ y.1.n := by omega
     clear ho
     go_wp2_with fail
     refine (HCO.out _ _ _ HI.out).mono ?_
     rintro e w' ⟨rfl, rfl⟩
     rw [HOv.out]
     go_wp2_with fail
     refine (HCS.out _ _ _ HI.out HOv.out HE.out.hi hy0 hy1).mono ?_
     rintro e w1 ⟨v, rfl, G1, e1, i1⟩
     have hn3 := HST.out y
     have HI1 := hQd i1
     have HE1 := hQd (HE.out.trans e1)
     have HR1 : Hid (Ad5 over step m z = ((Ad5 over step (m - (k + 1)) (step y)).1 + (k + 1), (Ad5 over step (m - (k + 1)) (step y)).2)) := by
      refine hQd ?_
      rw [HR.out, HQ.out, HQ2.out, Ang _ _ HOv.out]
      dsimp only
      rw [Nat.add_assoc, Nat.add_comm 1 k]
     clear i1 e1
     go_wp2
     go_roundw
     case rel => exact ⟨k + 1, step y, G1, by omega, by go_num, HI1.out, by omega, by omega, HR1.out, HE1.out⟩
     case measure => simp [intOf]; omega
   have HOv := hQd ho
   have HF : Hid (Ad5 over step m z = (k, y)) := by
    refine hQd ?_
    rw [HR.out, Ah0 _ _ ho]; simp
   clear ho
   go_wp2_with fail
   refine (HCO.out _ _ _ HI.out).mono ?_
   rintro e w' ⟨rfl, rfl⟩
   rw [HOv.out]
   go_wp2
   go_ret
   rw [HF.out]
   exact ⟨rfl, G, HE.out, HI.out⟩
 have hkm : k = m := by omega
 have HF : Hid (Ad5 over step m z = (k, y)) := by
  refine hQd ?_
  rw [HR.out, hkm, Nat.sub_self]; unfold Ad5; simp
 clear hkm
 go_wp2
 go_ret
 rw [HF.out]
 exact ⟨rfl, G, HE.out, HI.out⟩
end
section
open Go.RowKit
theorem Apq (ao : Option Addr) (n c : Nat) (w : World) (hn : n ≤ c) (hc : c ≤ maxLen) (ha : ao = none → c = 0) :
 Calls Tryz.prog 162 #[.slice ao n c] w fun e w' => e = .returned (.slice ao n n) ∧ w = w' := by
 unfold maxLen at hc
 cases ao with
 | none =>
   obtain rfl := ha rfl
   obtain rfl : n = 0 := by omega
   go_enter Tryz.func162, Tryz.ntmps162
   go_wp2
   go_ret
   exact ⟨rfl, rfl⟩
 | some a =>
   go_enter Tryz.func162, Tryz.ntmps162
   go_wp2
   go_ret
   exact ⟨rfl, rfl⟩
def Arf (w : World) (b o : Nat) (n : Nt) : Prop := ∀ j u, (ntc n)[j]? = some u → w.cell? ⟨b, o + j, none⟩ = some u
theorem Arf.all {w : World} {b o : Nat} {n : Nt} (h : Arf w b o n) : w.cell? ⟨b, o, none⟩ = some (.int .i64 n.step) ∧ w.cell? ⟨b, o + 1, none⟩ = some (.int .i64 n.thread) ∧ w.cell? ⟨b, o + 2, none⟩ = some (.int .u8 n.kind) ∧ w.cell? ⟨b, o + 3, none⟩ = some (.int .i64 n.ref) ∧ w.cell? ⟨b, o + 4, none⟩ = some (.int .i64 n.bits) ∧ w.cell? ⟨b, o + 5, none⟩ = some (.int .i64 n.bucket) ∧ w.cell? ⟨b, o + 6, none⟩ = some (.int .i64 n.slot) ∧ w.cell? ⟨b, o + 7, none⟩ = some (.int .i64 n.value) :=
 ⟨h 0 _ rfl, h 1 _ rfl, h 2 _ rfl, h 3 _ rfl, h 4 _ rfl, h 5 _ rfl, h 6 _ rfl, h 7 _ rfl⟩
theorem Arf.below {w w' : World} {b o B : Nat} {n : Nt} (h : Arf w b o n) (hb : Below B w w') (hlt : b < B) : Arf w' b o n := fun j u hu => (hb.cell (p := ⟨b, o + j, none⟩) hlt).trans (h j u hu)
theorem Arf.new (w : World) (n : Nt) (e : TypeId) (N : Nat) (hN : N = w.heap.size) : Arf (w.alloc (.cells #[.int .i64 n.step, .int .i64 n.thread, .int .u8 n.kind, .int .i64 n.ref, .int .i64 n.bits, .int .i64 n.bucket, .int .i64 n.slot, .int .i64 n.value] e)) N 0 n := by
 subst hN
 intro j u hu
 rw [Nat.zero_add]
 unfold World.cell?
 rw [heap_alloc_new]
 simpa [ntc] using hu
theorem Aot {w : World} {l : List Nt} {b o : Nat} (h : ∀ j u, (Aa2 ntc l)[j]? = some u → w.cell? ⟨b, o + j, none⟩ = some u) (i : Nat) (hi : i < l.length) : Arf w b (o + i * 8) l[i] := by
 intro j u hu
 have hj : j < 8 := (List.getElem?_eq_some_iff.1 hu).1
 have := Ahk Ar5 h i hi j hj hu
 rwa [Nat.add_assoc]
def Acg (f : Nat → Nt → Bool) : List Nt → Nat → List Nt
 | [], _ => []
 | n :: l, i => if f i n then n :: Acg f l (i + 1) else Acg f l (i + 1)
theorem Akd (f : Nat → Nt → Bool) (l m : List Nt) : ∀ i, Acg f (l ++ m) i = Acg f l i ++ Acg f m (i + l.length) := by
 induction l with
 | nil => intro i; simp [Acg]
 | cons a l ih =>
   intro i
   simp only [List.cons_append, Acg, ih, List.length_cons, show i + 1 + l.length = i + (l.length + 1) by omega]
   split <;> simp
theorem Ano (f : Nat → Nt → Bool) (l : List Nt) (k : Nat) (hk : k < l.length) : Acg f (l.take (k + 1)) 0 = Acg f (l.take k) 0 ++ (if f k l[k] then [l[k]] else []) := by
 rw [List.take_succ_eq_append_getElem hk, Akd, List.length_take, Nat.zero_add, Nat.min_eq_left (by omega)]
 simp [Acg]
theorem Aqa (f : Nat → Nt → Bool) (l : List Nt) : ∀ i, (Acg f l i).length ≤ l.length := by
 induction l with
 | nil => intro i; simp [Acg]
 | cons a l ih =>
   intro i
   have := ih (i + 1)
   simp only [Acg]
   split <;> simp <;> omega
theorem Alv (a : Int) (l : List Nt) : ∀ i : Nat, Acg (fun j _ => decide (a ≤ (j : Int))) l i = l.drop (a.toNat - i) := by
 induction l with
 | nil => intro i; simp [Acg]
 | cons n l ih =>
   intro i
   simp only [Acg, ih]
   by_cases h : a ≤ (i : Int)
   · rw [if_pos (by simpa using h), show a.toNat - i = 0 by omega, show a.toNat - (i + 1) = 0 by omega]; rfl
   rw [if_neg (by simpa using h), show a.toNat - i = (a.toNat - (i + 1)) + 1 by omega]; rfl
def Azq (w : World) (B : Nat) (v : Value) : Prop := ∀ a n c, v = .slice (some a) n c → B ≤ a.block ∧ ∃ o, a = ⟨a.block, o, none⟩ ∧ ∀ j, w.frozen? ⟨a.block, j, none⟩ = false
structure Are (w w' : World) (v : Value) (L : List Nt) : Prop where
 arr : Arr w' v L.length 8 (Aa2 ntc L)
 fresh : Azq w' w.heap.size v
 shape : ∃ ao, v = .slice ao L.length L.length
theorem Aqw (i : Int) (n : Nt) (a : Int) (c : Nat) (w : World) (hc : w.cell? ⟨c, 0, none⟩ = some (.int .i64 a)) (hlt : c < w.heap.size) :
 Calls Tryz.prog 132 #[.int .i64 i, .agg #[.int .i64 n.step, .int .i64 n.thread, .int .u8 n.kind, .int .i64 n.ref, .int .i64 n.bits, .int .i64 n.bucket, .int .i64 n.slot, .int .i64 n.value], .pointer (some ⟨c, 0, none⟩)] w fun e w' => e = .returned (.bool (decide (a ≤ i))) ∧ Below w.heap.size w w' := by
 have hcW := ((bal w (Aqb n)).cell (p := ⟨c, 0, none⟩) hlt).trans hc
 unfold Aqb at hcW
 go_enter Tryz.func132, Tryz.ntmps132
 go_wp2
 go_ret
 exact ⟨rfl, bal _ _⟩
theorem Aiv (t : Bool) (i : Int) (n : Nt) (a : Int) (c : Nat) (w : World) (ht : Hid (t = decide (a ≤ i))) (hc : w.cell? ⟨c, 0, none⟩ = some (.int .i64 a)) (hlt : c < w.heap.size) :
 Calls Tryz.prog 132 #[.int .i64 i, .agg #[.int .i64 n.step, .int .i64 n.thread, .int .u8 n.kind, .int .i64 n.ref, .int .i64 n.bits, .int .i64 n.bucket, .int .i64 n.slot, .int .i64 n.value], .pointer (some ⟨c, 0, none⟩)] w fun e w' => e = .returned (.bool t) ∧ Below w.heap.size w w' := by
 rw [ht.out]
 exact Aqw i n a c w hc hlt
theorem Aiz (h : Nat) (v : Value) (l : List Nt) (a : Int) (c : Nat) (w : World) (hh : w.cell? ⟨h, 0, none⟩ = some v) (hv : Arr w v l.length 8 (Aa2 ntc l)) (hl : l.length ≤ 1048576) (hc : w.cell? ⟨c, 0, none⟩ = some (.int .i64 a)) (hlt : c < w.heap.size) :
 Calls Tryz.prog 131 #[.pointer (some ⟨h, 0, none⟩), .func (.func 132) #[] #[.pointer (some ⟨c, 0, none⟩)]] w fun e w' => (∃ v', e = .returned v' ∧ Are w w' v' (Acg (fun i n => decide (a ≤ (i : Int))) l 0)) ∧ Below w.heap.size w w' := by
 obtain ⟨i0, hi, hz0, hz1, hz2⟩ := info_parts Awq
 obtain ⟨ao, cp, rfl, hcp, hm⟩ := hv.shape
 have HL := hQd hl
 have hl2 : l.length ≤ 9223372036854775807 := by omega
 clear hl
 go_enter Tryz.func131, Tryz.ntmps131
 go_wp2_with (go_at_call 93; refine (Amq h _ _ hh).mono ?_; rintro e w' ⟨rfl, rfl⟩)
 go_loopw [5, 11] (fun vo i wr => ∃ k : Nat, k ≤ l.length ∧ i = .int .i64 k ∧ wr.ownsRow w.heap.size 126 8 vo (Acg (fun i n => decide (a ≤ (i : Int))) (l.take k) 0).length (Aa2 ntc (Acg (fun i n => decide (a ≤ (i : Int))) (l.take k) 0)) ∧ Below w.heap.size w wr)
  (fun _ i _ => l.length - (intOf i).toNat)
 case atStart => exact ⟨0, Nat.zero_le _, rfl, World.ownsRow_nil _ _ _ _, Below.refl _ _⟩
 obtain ⟨k, hk, rfl, hown, hbel⟩ := hrel
 by_cases hk2 : k < l.length
 · obtain ⟨b, o, c', he, hcp, hm, hb, hx⟩ := hv.open (by omega) (by omega)
   cases he
   have hat0 := Aot hx k hk2
   obtain ⟨q, hq⟩ := exq (l[k])
   rw [← hq] at hat0
   obtain ⟨q0, q1, q2, q3, q4, q5, q6, q7⟩ := (hat0.below hbel hb).all
   have HD := hQd (Ano (fun i n => decide (a ≤ (i : Int))) l k hk2)
   have hlen := Aqa (fun i n => decide (a ≤ (i : Int))) (l.take k) 0
   rw [List.length_take] at hlen
   obtain ⟨D, hD⟩ := exq (Acg (fun i n => decide (a ≤ (i : Int))) (l.take k) 0)
   rw [← hD] at hown hlen
   have hlen2 : D.length ≤ l.length := by omega
   have HD2 := hQd hD
   have Hq := hQd hq
   have hcr := (hbel.cell (p := ⟨c, 0, none⟩) hlt).trans hc
   have hsz : w.heap.size ≤ wr.heap.size := hbel.size
   have hcl : c < wr.heap.size := by omega
   clear hx hv hq hlen hD hat0
   obtain ⟨t, ht⟩ := exq (decide (a ≤ (k : Int)))
   have HT : Hid (t = decide (a ≤ (k : Int))) := hQd ht
   clear ht
   cases t
   · have E : Acg (fun i n => decide (a ≤ (i : Int))) (l.take (k + 1)) 0 = D := by
      rw [HD.out, ← HD2.out, ← Hq.out, if_neg (by rw [← HT.out]; simp), List.append_nil]
     have HE := hQd E
     clear E
     go_wp2_with (first | (go_at_call 132; refine (Aiv false (k : Int) q a c _ HT (((bal _ _).cell (p := ⟨c, 0, none⟩) hcl).trans hcr) (by simp; omega)).mono ?_; rintro e w1 ⟨rfl, hb1⟩; have hnew : Arf w1 wr.heap.size 0 q := (Arf.new wr q _ _ rfl).below hb1 (by simp); obtain ⟨d0, d1, d2, d3, d4, d5, d6, d7⟩ := hnew.all; clear hnew; have hown1 := Abi (hown.alloc _) hb1; have hbel1 : Below w.heap.size w w1 := (hbel.alloc hbel.size _).trans (hb1.mono (by simp; omega)); clear hb1) | (at_builtin; refine Acf _ rfl _ _ 120 rfl w.heap.size 126 i0 _ 8 64 Tryz.underlying120 hi hz0 hz1 hz2 rfl (by decide) (by decide) _ _ _ rfl hown1 (ntc q) _ rfl rfl (by simp [Value.oneCell', ntc]) (by have := HL.out; omega) hbel1.size ?_; intro g cap w2 hown2 hgr2; have hbel2 := Abq hbel1 hbel1.size hown1 hgr2; clear hgr2))
     go_roundw
     case rel => exact ⟨k + 1, by omega, by go_num, by rw [HE.out]; exact hown1, hbel1⟩
     case measure => simp [intOf]; omega
   have E : Acg (fun i n => decide (a ≤ (i : Int))) (l.take (k + 1)) 0 = D ++ [q] := by
    rw [HD.out, ← HD2.out, ← Hq.out, if_pos (by rw [← HT.out])]
   have HE := hQd E
   clear E
   go_wp2_with (first | (go_at_call 132; refine (Aiv true (k : Int) q a c _ HT (((bal _ _).cell (p := ⟨c, 0, none⟩) hcl).trans hcr) (by simp; omega)).mono ?_; rintro e w1 ⟨rfl, hb1⟩; have hnew : Arf w1 wr.heap.size 0 q := (Arf.new wr q _ _ rfl).below hb1 (by simp); obtain ⟨d0, d1, d2, d3, d4, d5, d6, d7⟩ := hnew.all; clear hnew; have hown1 := Abi (hown.alloc _) hb1; have hbel1 : Below w.heap.size w w1 := (hbel.alloc hbel.size _).trans (hb1.mono (by simp; omega)); clear hb1) | (at_builtin; refine Acf _ rfl _ _ 120 rfl w.heap.size 126 i0 _ 8 64 Tryz.underlying120 hi hz0 hz1 hz2 rfl (by decide) (by decide) _ _ _ rfl hown1 (ntc q) _ rfl rfl (by simp [Value.oneCell', ntc]) (by have := HL.out; omega) hbel1.size ?_; intro g cap w2 hown2 hgr2; have hbel2 := Abq hbel1 hbel1.size hown1 hgr2; clear hgr2))
   go_roundw
   case rel => exact ⟨k + 1, by omega, by go_num, by rw [HE.out, Abw, List.length_append]; exact hown2, hbel2⟩
   case measure => simp [intOf]; omega
 obtain rfl : k = l.length := by omega
 rw [List.take_length] at hown
 clear hv
 have hA := Arr.of_own hown
 rcases hown.2 with ⟨rfl, h0⟩ | ⟨g, cap, cur, rfl, hbg, hgg, hnc, hcm, _⟩
 · clear hown
   go_wp2_with (go_at_call 162; refine (Apq none 0 0 _ (Nat.le_refl _) (by unfold maxLen; omega) (fun _ => rfl)).mono ?_; rintro e w1 ⟨rfl, rfl⟩)
   go_ret
   exact ⟨⟨.slice none 0 0, rfl, hA, (fun a n c h => by cases h), none, by rw [h0]⟩, hbel⟩
 have hfz := hown.frozenAt
 have hA2 := hA.clip
 clear hown hgg hA
 go_wp2_with (go_at_call 162; refine (Apq _ _ _ _ hnc hcm (fun h => by cases h)).mono ?_; rintro e w1 ⟨rfl, rfl⟩)
 go_ret
 exact ⟨⟨_, rfl, hA2, fun a n c h => (by cases h; exact ⟨hbg, 0, rfl, hfz⟩), _, rfl⟩, hbel⟩
theorem Are.mono {w w0 w' : World} {v : Value} {L : List Nt} (h : Are w w' v L) (hs : w0.heap.size ≤ w.heap.size) : Are w0 w' v L := ⟨h.arr, fun a n c he => ⟨Nat.le_trans hs (h.fresh a n c he).1, (h.fresh a n c he).2⟩, h.shape⟩
theorem Atv (h : Nat) (v : Value) (l : List Nt) (a : Int) (w : World) (hh : w.cell? ⟨h, 0, none⟩ = some v) (hlt : h < w.heap.size) (hv : Arr w v l.length 8 (Aa2 ntc l)) (hl : l.length ≤ 1048576) :
 Calls Tryz.prog 95 #[.pointer (some ⟨h, 0, none⟩), .int .i64 a] w fun e w' => (∃ v', e = .returned v' ∧ Are w w' v' (l.drop a.toNat)) ∧ Below w.heap.size w w' := by
 have hp := fun (o : Obj) (hc : (w.alloc o).cell? ⟨w.heap.size, 0, none⟩ = some (.int .i64 a)) => Aiz h v l a w.heap.size (w.alloc o) (((bal _ _).cell (p := ⟨h, 0, none⟩) hlt).trans hh) (hv.below (bal _ _)) hl hc (by simp)
 have Hp := hQd hp
 clear hp hl
 go_enter Tryz.func95, Tryz.ntmps95
 go_wp2_with (go_at_call 131; refine (Hp.out _ (by simp)).mono ?_; rintro e w' ⟨⟨v', rfl, hn⟩, hb⟩)
 go_ret
 exact ⟨⟨_, rfl, by rw [Alv, Nat.sub_zero] at hn; exact hn.mono (by simp)⟩, (bal _ _).trans (hb.mono (by simp))⟩
theorem Azd (h : Nat) (v : Value) (l : List Nt) (w : World) (hh : w.cell? ⟨h, 0, none⟩ = some v) (hlt : h < w.heap.size) (hv : Arr w v l.length 8 (Aa2 ntc l)) (hl : l.length ≤ 1048576) :
 C1 51 h w fun e w' => (∃ v', e = .returned v' ∧ Are w w' v' l) ∧ Below w.heap.size w w' := by
 have Hp := hQd (Atv h v l 0 w hh hlt hv hl)
 clear hl
 go_enter Tryz.func51, Tryz.ntmps51
 go_wp2_with (go_at_call 95; refine (Hp.out).mono ?_; rintro e w' ⟨⟨v', rfl, hn⟩, hb⟩)
 go_ret
 exact ⟨⟨_, rfl, by simpa using hn⟩, hb⟩
def Az0 (w : World) (b o : Nat) (n : Nt) : Prop := ∀ j u, (ntr n)[j]? = some u → w.cell? ⟨b, o + j, none⟩ = some u
theorem Az0.all {w : World} {b o : Nat} {n : Nt} (h : Az0 w b o n) : w.cell? ⟨b, o, none⟩ = some (.int .i64 n.step) ∧ w.cell? ⟨b, o + 1, none⟩ = some (.int .i64 n.thread) ∧ w.cell? ⟨b, o + 2, none⟩ = some (.int .i64 n.kind) ∧ w.cell? ⟨b, o + 3, none⟩ = some (.int .i64 n.ref) ∧ w.cell? ⟨b, o + 4, none⟩ = some (.int .i64 n.bits) ∧ w.cell? ⟨b, o + 5, none⟩ = some (.int .i64 n.bucket) ∧ w.cell? ⟨b, o + 6, none⟩ = some (.int .i64 n.slot) ∧ w.cell? ⟨b, o + 7, none⟩ = some (.int .i64 n.value) :=
 ⟨h 0 _ rfl, h 1 _ rfl, h 2 _ rfl, h 3 _ rfl, h 4 _ rfl, h 5 _ rfl, h 6 _ rfl, h 7 _ rfl⟩
theorem Az0.below {w w' : World} {b o B : Nat} {n : Nt} (h : Az0 w b o n) (hb : Below B w w') (hlt : b < B) : Az0 w' b o n := fun j u hu => (hb.cell (p := ⟨b, o + j, none⟩) hlt).trans (h j u hu)
theorem Au0 {w : World} {l : List Nt} {b o : Nat} (h : ∀ j u, (Aa2 ntr l)[j]? = some u → w.cell? ⟨b, o + j, none⟩ = some u) (i : Nat) (hi : i < l.length) : Az0 w b (o + i * 8) l[i] := by
 intro j u hu
 have hj : j < 8 := (List.getElem?_eq_some_iff.1 hu).1
 have := Ahk Ar4 h i hi j hj hu
 rwa [Nat.add_assoc]
end
section
open Go.RowKit Go.Shelf
def Azw (p : Spt) (tg rf : Int) (o : Otm) : List Value := [.int .u64 p.tags, .int .u64 p.item, .int .i64 p.s, .int .u64 o.w, .int .i64 o.ln, .int .i64 tg, .int .i64 rf]
def Arc : Value := .agg #[.func (.func 263) #[] #[], .func (.func 264) #[] #[], .func (.func 265) #[] #[]]
theorem Amh (w : World) : Calls Tryz.prog 262 #[] w fun e w' => e = .returned Arc ∧ Below w.heap.size w w' := by
 go_enter Tryz.func262, Tryz.ntmps262
 go_wp2
 exact bodyPost_ret (v := Arc) (by simp [results, Tryz.results262, go_sem, Arc]) rfl ⟨rfl, bal _ _⟩
theorem Ac4 {U : Nat} {w : World} (a : Int) (n : Nat) (h0 : w.cell? ⟨U, 0, none⟩ = some (.int .u64 a)) (h4 : w.cell? ⟨U, 4, none⟩ = some (.int .i64 n)) (ha : a ≠ 0) (hn : n ≤ 3) :
 C1 260 U w fun e w' => e = .returned (.bool (n == 3)) ∧ Below w.heap.size w w' := by
 have hU := Aj0 h0
 dsimp only at hU
 have d0 : (a == 0) = false := by simp [ha]
 have d3 : ((n : Int) == 3) = (n == 3) := by rw [Bool.eq_iff_iff]; simp; omega
 clear ha
 go_enter Tryz.func260, Tryz.ntmps260
 go_wp2_with fail
 refine Abh (by kernel_rfl) (by kernel_rfl) ?_
 repeat (go_big_quiet_step ((first
  | (go_at_call 262; exact Auj (Amh _)))))
 refine wpQuiet_nil ?_
 rintro _ ⟨e, rfl⟩
 go_wp2_with fail
 go_ret
 exact ⟨Adp (by first | exact d3 | rfl), Abv _ _⟩
structure Adu (W : World) (G : Om) (k U : Nat) (p : Spt) (tg rf : Int) (o : Otm) : Prop where
 ob : Ob W G k U (Azw p tg rf o)
theorem Adu.ext {S : Nat → Prop} {O O' : Om} {w w' : World} {k U : Nat} {p : Spt} {tg rf : Int} {o : Otm} (h : Adu w O k U p tg rf o) (e : Ext S O w O' w') (h1 : ¬ S k := by omega) : Adu w' O' k U p tg rf o := ⟨h.ob.ext e h1⟩
theorem Adu.below {O : Om} {w w' : World} {k U : Nat} {p : Spt} {tg rf : Int} {o : Otm} (h : Adu w O k U p tg rf o) (hb : Below w.heap.size w w') : Adu w' O k U p tg rf o := ⟨h.ob.below hb⟩
section
variable {U : Nat} {w : World} {O : Om} {B : Wb} {f : Cf} {s : AW} {k : Nat} {p : Spt} {tg rf : Int}
theorem Bal : (∀ W, (Instr.index 361 Arc (.int .i64 0)).run Tryz.prog W = .ok (.func (.func 263) #[] #[]) W) ∧ (∀ W, (Instr.index 361 Arc (.int .i64 1)).run Tryz.prog W = .ok (.func (.func 264) #[] #[]) W) ∧ (∀ W, (Instr.index 361 Arc (.int .i64 2)).run Tryz.prog W = .ok (.func (.func 265) #[] #[]) W) := ⟨fun W => by kernel_rfl, fun W => by kernel_rfl, fun W => by kernel_rfl⟩
theorem Aq2 (o : Otm) (hP : PW w O B f s) (hU : Adu w O k U p tg rf o) (hp : p.ok) (hk : 10 ≤ k) (hhi : Hh O w) (n0 : 0 ≤ s.n) (n1 : s.n ≤ 4611686018427387904) (r0 : 0 ≤ rf) (r1 : rf ≤ 9223372036854775807) :
 C2 263 U B.p w (RP (SX k k) w O (.tuple #[]) fun W G => PW W G B f (Aax p.item rf s) ∧ Adu W G k U p tg rf o) := by
 have ht := hp.item
 have HM : Hid (Me k k w O w O B f s k U (Azw p tg rf o)) := hQd (Me.start hhi hP hU.ob)
 have p0 := hP.wo.c0
 obtain ⟨-, x1, -, -, -, -, x6⟩ := hU.ob.c7
 have hr1 : IntKind.u64.wrap rf = rf := by rw [IntKind.wrap_u64]; omega
 obtain ⟨it, hit⟩ := exq p.item
 rw [← hit] at ht x1 ⊢
 have HIT := hQd hit
 have hb : 0 ≤ it ∧ it < 18446744073709551616 := by omega
 clear hP hU hhi hp ht hit
 go_enter Tryz.func263, Tryz.ntmps263
 go_wp2_with fail
 go_region_held3 (fun w' => w'.cell? ⟨B.p, 0, none⟩ = some (.pointer (some ⟨B.c, 0, none⟩)) ∧ w'.cell? ⟨U, 1, none⟩ = some (.int .u64 it) ∧ w'.cell? ⟨U, 6, none⟩ = some (.int .i64 rf)) (go_keep)
  ((go_at_call 17
    refine (Aed it rf (w := w.drew) HM.out.drew.p HM.out.drew.e.hi hb.1 hb.2 r0 (by omega) n0 n1).mono ?_
    rintro e w2 ⟨rfl, G2, e2, P2⟩
    have M2 := hQd (HM.out.drew.world hk e2 P2)
    have p02 := M2.out.p.wo.c0
    obtain ⟨-, x12, -, -, -, -, x62⟩ := M2.out.t.c7
    rw [← HIT.out] at x12
    clear e2 P2))
 all_goals
  go_wp2_with fail
  go_end0
  obtain ⟨e0, G, e1, P1, t1⟩ := M2.out.rp (v := .tuple #[])
  exact ⟨rfl, G, e1, P1, ⟨t1⟩⟩
theorem An5 (o : Otm) (hP : PW w O B f s) (hU : Adu w O k U p tg rf o) (hp : p.ok) (hk : 10 ≤ k) (hhi : Hh O w) (n0 : 0 ≤ s.n) (n1 : s.n ≤ 4611686018427387904) :
 C2 264 U B.p w (RP (SX k k) w O (.tuple #[]) fun W G => PW W G B f (Aan p.tags s) ∧ Adu W G k U p tg rf ⟨o.ln, s.M p.tags⟩) := by
 have ht := hp.tags
 have HL := hQd (Apc _ p.tags hP hU.ob rfl ⟨_, rfl⟩ hk hhi (by omega) (by omega) n0 n1)
 clear hP hU hhi hp ht
 go_enter Tryz.func264, Tryz.ntmps264
 go_wp2_with fail
 refine HL.out.mono ?_
 rintro e w1 ⟨rfl, G1, e1, P1, U1⟩
 have HE := hQd (aN e1 (aN P1 (Adu.mk (p := p) (tg := tg) (rf := rf) (o := ⟨o.ln, s.M p.tags⟩) U1)))
 clear e1 P1 U1 HL
 go_wp2
 go_end0
 exact ⟨rfl, G1, HE.out⟩
theorem Aq1 (o : Otm) (hP : PW w O B f s) (hU : Adu w O k U p tg rf o) (hp : p.ok) (hk : 10 ≤ k) (hhi : Hh O w) (w0 : 0 ≤ o.w) (w1 : o.w < 18446744073709551616) (n0 : 0 ≤ s.n) (n1 : s.n ≤ 4611686018427387904) (t0 : 0 ≤ tg) (t1 : tg ≤ 255) :
 C2 265 U B.p w (RP (SX k k) w O (.tuple #[]) fun W G => PW W G B f (Aax p.tags (Acp o.w p.s tg) s) ∧ Adu W G k U p tg rf o) := by
 have ht := hp.tags
 have x5 := hU.ob.c 5 _ rfl
 have HL := hQd (Ama (w := w.drew) _ p.tags o.w p.s tg (hP.below hhi (Aaa w)) (hU.ob.below (Aaa w)) rfl rfl rfl hk (fun j hj => hhi j hj) (by omega) (by omega) w0 w1 hp.s0 hp.s1 t0 t1 n0 n1)
 have HE0 : Hid (Ext (SX k k) O w O w.drew) := hQd (Ext.of_below hhi (Aaa w))
 clear hP hU hhi hp ht
 go_enter Tryz.func265, Tryz.ntmps265
 go_wp2_with fail
 go_region_held3 (fun w' => w'.cell? ⟨U, 5, none⟩ = some (.int .i64 tg)) (go_keep)
  ((go_at_call 258
    refine HL.out.mono ?_
    rintro e w1 ⟨rfl, G1, e1, P1, U1⟩
    have HE := hQd (aN (HE0.out.trans e1) (aN P1 (Adu.mk (p := p) (o := o) U1)))
    have x51 := U1.c 5 _ rfl
    clear e1 P1 U1))
 all_goals
  go_wp2_with fail
  go_end0
  exact ⟨rfl, G1, HE.out⟩
theorem Acw (p : Spt) (tg rf : Int) (s : AW) (o : Otm) (h : o.ln < 3) : (Aap p tg rf s o).2.ln = o.ln + 1 := by
 unfold Aap
 split
 · rename_i e; rw [e]
 split
 · rename_i e; rw [e]
 split
 · rename_i e; rw [e]
 omega
theorem Aiw (o : Otm) (hP : PW w O B f s) (hU : Adu w O k U p tg rf o) (hp : p.ok) (ho : o.ln < 3) (w0 : 0 ≤ o.w) (w1 : o.w < 18446744073709551616) (hk : 10 ≤ k) (hhi : Hh O w) (n0 : 0 ≤ s.n) (n1 : s.n ≤ 4611686018427387904) (t0 : 0 ≤ tg) (t1 : tg ≤ 255) (r0 : 0 ≤ rf) (r1 : rf ≤ 9223372036854775807) :
 C2 261 U B.p w (RP (SX k k) w O (.bool (o.ln == 2)) fun W G => PW W G B f (Aap p tg rf s o).1 ∧ Adu W G k U p tg rf (Aap p tg rf s o).2) := by
 obtain ⟨ln, wd⟩ := o
 dsimp only at ho w0 w1
 obtain ⟨x0, -, -, -, x4⟩ := hU.ob.c5
 have ht := hp.tags
 have ht0 : p.tags ≠ 0 := by omega
 obtain ⟨ix0, ix1, ix2⟩ := Bal
 have hk0 : ∀ args W, (callFunc 263 args).run Tryz.prog W = .ok (.enter 263 args) W := enters_of Tryz.func263 (by kernel_rfl) rfl
 have hk1 : ∀ args W, (callFunc 264 args).run Tryz.prog W = .ok (.enter 264 args) W := enters_of Tryz.func264 (by kernel_rfl) rfl
 have hk2 : ∀ args W, (callFunc 265 args).run Tryz.prog W = .ok (.enter 265 args) W := enters_of Tryz.func265 (by kernel_rfl) rfl
 have HU := hQd hU
 have HP := hQd hP
 have HH := hQd hhi
 have HB := hQd hp
 have hln : ln = 0 ∨ ln = 1 ∨ ln = 2 := by omega
 obtain ⟨ta, hta⟩ := exq p.tags
 rw [← hta] at x0 ht0
 have HT := hQd hta
 clear hU hP hhi hp ht ho hta
 rcases hln with rfl | rfl | rfl
 · clear hk1 hk2 ix1 ix2
   go_enter Tryz.func261, Tryz.ntmps261
   go_wp2_with fail
   refine (Ac4 ta 0 x0 x4 ht0 (by decide)).mono ?_
   rintro e wa ⟨rfl, hba⟩
   have P1 := hQd (HP.out.below HH.out hba)
   have U1 := hQd (HU.out.below hba)
   have E1 := hQd (Ext.of_below (S := SX k k) HH.out hba)
   have y4 := U1.out.ob.c 4 _ rfl
   have yl := U1.out.ob.lt
   clear hba x0 x4
   go_wp2_with fail
   go_region_held3 (fun w' => w'.cell? ⟨U, 4, none⟩ = some (.int .i64 0)) (go_keep)
    ((first
      | (go_at_call 262
         refine (Amh _).mono ?_
         rintro e wb ⟨rfl, hbb⟩
         have P2 := hQd ((P1.out.below E1.out.hi (Aaa wa)).below E1.out.drew.hi hbb)
         have U2 := hQd ((U1.out.below (Aaa wa)).below hbb)
         have E2 := hQd (E1.out.drew.below hbb)
         have y42 := U2.out.ob.c 4 _ rfl
         clear hbb)
      | (go_at_call 263
         refine (Aq2 ⟨0, wd⟩ P2.out U2.out HB.out hk E2.out.hi n0 n1 r0 r1).mono ?_
         rintro e wc ⟨rfl, G3, e3, P3, U3⟩
         have M3 : Hid (Me k k w O wc G3 B f (Aax p.item rf s) k U _) := hQd ⟨E2.out.trans e3, P3, U3.ob⟩
         have y43 := M3.out.t.c 4 _ rfl
         clear e3 P3 U3)))
   all_goals
    have z4 := M3.out.t.c 4 _ rfl
    have zf := M3.out.t.f 4
    have M4 := hQd (M3.out.set hk (Nat.le_refl _) (Nat.le_refl _) 4 (.int .i64 ((1 : Nat) : Int)) (by simp [Azw]))
    obtain ⟨q0, -, -, -, q4⟩ := M4.out.t.c5
    go_wp2_with fail
    refine (Ac4 p.tags 1 q0 q4 (by rw [← HT.out]; exact ht0) (by decide)).mono ?_
    rintro e wd ⟨rfl, hbd⟩
    have M5 := hQd (M4.out.below hbd)
    clear hbd q0 q4
    go_wp2_with fail
    go_ret
    exact ⟨rfl, _, M5.out.e, M5.out.p, ⟨M5.out.t⟩⟩
 · clear hk0 hk2 ix0 ix2
   go_enter Tryz.func261, Tryz.ntmps261
   go_wp2_with fail
   refine (Ac4 ta 1 x0 x4 ht0 (by decide)).mono ?_
   rintro e wa ⟨rfl, hba⟩
   have P1 := hQd (HP.out.below HH.out hba)
   have U1 := hQd (HU.out.below hba)
   have E1 := hQd (Ext.of_below (S := SX k k) HH.out hba)
   have y4 := U1.out.ob.c 4 _ rfl
   have yl := U1.out.ob.lt
   clear hba x0 x4
   go_wp2_with fail
   go_region_held3 (fun w' => w'.cell? ⟨U, 4, none⟩ = some (.int .i64 1)) (go_keep)
    ((first
      | (go_at_call 262
         refine (Amh _).mono ?_
         rintro e wb ⟨rfl, hbb⟩
         have P2 := hQd ((P1.out.below E1.out.hi (Aaa wa)).below E1.out.drew.hi hbb)
         have U2 := hQd ((U1.out.below (Aaa wa)).below hbb)
         have E2 := hQd (E1.out.drew.below hbb)
         have y42 := U2.out.ob.c 4 _ rfl
         clear hbb)
      | (go_at_call 264
         refine (An5 ⟨1, wd⟩ P2.out U2.out HB.out hk E2.out.hi n0 n1).mono ?_
         rintro e wc ⟨rfl, G3, e3, P3, U3⟩
         have M3 : Hid (Me k k w O wc G3 B f (Aan p.tags s) k U _) := hQd ⟨E2.out.trans e3, P3, U3.ob⟩
         have y43 := M3.out.t.c 4 _ rfl
         clear e3 P3 U3)))
   all_goals
    have z4 := M3.out.t.c 4 _ rfl
    have zf := M3.out.t.f 4
    have M4 := hQd (M3.out.set hk (Nat.le_refl _) (Nat.le_refl _) 4 (.int .i64 ((2 : Nat) : Int)) (by simp [Azw]))
    obtain ⟨q0, -, -, -, q4⟩ := M4.out.t.c5
    go_wp2_with fail
    refine (Ac4 p.tags 2 q0 q4 (by rw [← HT.out]; exact ht0) (by decide)).mono ?_
    rintro e wd ⟨rfl, hbd⟩
    have M5 := hQd (M4.out.below hbd)
    clear hbd q0 q4
    go_wp2_with fail
    go_ret
    exact ⟨rfl, _, M5.out.e, M5.out.p, ⟨M5.out.t⟩⟩
 clear hk0 hk1 ix0 ix1
 go_enter Tryz.func261, Tryz.ntmps261
 go_wp2_with fail
 refine (Ac4 ta 2 x0 x4 ht0 (by decide)).mono ?_
 rintro e wa ⟨rfl, hba⟩
 have P1 := hQd (HP.out.below HH.out hba)
 have U1 := hQd (HU.out.below hba)
 have E1 := hQd (Ext.of_below (S := SX k k) HH.out hba)
 have y4 := U1.out.ob.c 4 _ rfl
 have yl := U1.out.ob.lt
 clear hba x0 x4
 go_wp2_with fail
 go_region_held3 (fun w' => w'.cell? ⟨U, 4, none⟩ = some (.int .i64 2)) (go_keep)
  ((first
    | (go_at_call 262
       refine (Amh _).mono ?_
       rintro e wb ⟨rfl, hbb⟩
       have P2 := hQd ((P1.out.below E1.out.hi (Aaa wa)).below E1.out.drew.hi hbb)
       have U2 := hQd ((U1.out.below (Aaa wa)).below hbb)
       have E2 := hQd (E1.out.drew.below hbb)
       have y42 := U2.out.ob.c 4 _ rfl
       clear hbb)
    | (go_at_call 265
       refine (Aq1 ⟨2, wd⟩ P2.out U2.out HB.out hk E2.out.hi w0 w1 n0 n1 t0 t1).mono ?_
       rintro e wc ⟨rfl, G3, e3, P3, U3⟩
       have M3 : Hid (Me k k w O wc G3 B f (Aax p.tags (Acp wd p.s tg) s) k U _) := hQd ⟨E2.out.trans e3, P3, U3.ob⟩
       have y43 := M3.out.t.c 4 _ rfl
       clear e3 P3 U3)))
 all_goals
  have z4 := M3.out.t.c 4 _ rfl
  have zf := M3.out.t.f 4
  have M4 := hQd (M3.out.set hk (Nat.le_refl _) (Nat.le_refl _) 4 (.int .i64 ((3 : Nat) : Int)) (by simp [Azw]))
  obtain ⟨q0, -, -, -, q4⟩ := M4.out.t.c5
  go_wp2_with fail
  refine (Ac4 p.tags 3 q0 q4 (by rw [← HT.out]; exact ht0) (by decide)).mono ?_
  rintro e wd ⟨rfl, hbd⟩
  have M5 := hQd (M4.out.below hbd)
  clear hbd q0 q4
  go_wp2_with fail
  go_ret
  exact ⟨rfl, _, M5.out.e, M5.out.p, ⟨M5.out.t⟩⟩
theorem Av5 (hp : p.ok) (hhi : Hh O w) (t0 : 1 ≤ tg) (t1 : tg ≤ 255) (r0 : 1 ≤ rf) (r1 : rf ≤ 9223372036854775807) : Calls Tryz.prog 209 #[.agg #[.int .i64 p.b, .int .i64 p.q, .int .i64 p.s], .int .i64 tg, .int .i64 rf] w fun e w' => ∃ U, RP (fun t => t = k) w O (.pointer (some ⟨U, 0, none⟩)) (fun W G => Adu W G k U p tg rf ⟨0, 0⟩) e w' := by
 have HO := hQd (fun (W : World) => c_of (w := W) hp)
 have HH := hQd hhi
 have d1 : decide (tg < 1) = false := by simp; omega
 have d2 : decide ((255 : Int) < tg) = false := by simp; omega
 have d3 : decide (rf < 1) = false := by simp; omega
 clear hp hhi
 go_enter Tryz.func209, Tryz.ntmps209
 go_wp2_with fail
 refine (HO.out _).mono ?_
 rintro e w1 ⟨rfl, hb⟩
 have HB : Hid (Below w.heap.size w w1) := hQd ((bal _ _).trans (hb.mono (by simp)))
 obtain ⟨G2, e2, x2, -⟩ := Aar (Ext.of_below (S := fun t => t = k) HH.out HB.out).hi k (Azw p tg rf ⟨0, 0⟩).toArray 333 w1.heap.size rfl
 have HE := hQd (aN ((Ext.of_below HH.out HB.out).trans e2) x2)
 clear hb e2 x2
 go_wp2_with fail
 go_ret
 exact ⟨_, rfl, G2, HE.out.1, ⟨HE.out.2⟩⟩
end
end
section
open Go.RowKit
theorem Bbd {Y : Type} (over : Y → Bool) (step : AW × Y → AW × Y) (S : Nat → Prop) (I : World → Om → AW × Y → Prop) (p X : Nat) (ty : TypeId) (fO fS : FuncId)
 (hmo : ∀ W, (method 464 ty (.pointer (some ⟨X, 0, none⟩)) "Over").run Tryz.prog W = .ok (fO, .pointer (some ⟨X, 0, none⟩)) W)
 (hms : ∀ W, (method 464 ty (.pointer (some ⟨X, 0, none⟩)) "Step").run Tryz.prog W = .ok (fS, .pointer (some ⟨X, 0, none⟩)) W)
 (hKO : ∀ args W, (callFunc fO args).run Tryz.prog W = .ok (.enter fO args) W) (hKS : ∀ args W, (callFunc fS args).run Tryz.prog W = .ok (.enter fS args) W)
 (cO : ∀ W G z, I W G z → C1 fO X W fun e w' => e = .returned (.bool (over z.2)) ∧ Below W.heap.size W w')
 (hbI : ∀ W W' G z, I W G z → (Hh G W) → Below W.heap.size W W' → I W' G z)
 (cS : ∀ W G z, I W G z → over z.2 = false → (Hh G W) → 0 ≤ z.1.n → z.1.n ≤ 4611686018427387904 → C2 fS X p W fun e w' => ∃ v, RP S W G v (fun W1 G1 => I W1 G1 (step z)) e w')
 (hst : ∀ z, (step z).1.n ≤ z.1.n + 1 ∧ z.1.n ≤ (step z).1.n)
 (w : World) (O : Om) (m : Nat) (z : AW × Y) (h : I w O z) (hhi : Hh O w) (n0 : 0 ≤ z.1.n) (n1 : z.1.n + m ≤ 4611686018427387904) :
 Calls Tryz.prog 16 #[.pointer (some ⟨p, 0, none⟩), .iface ty (.pointer (some ⟨X, 0, none⟩)), .int .i64 m] w (RP S w O (.int .i64 (Ad5 over step m z).1) fun W G => I W G (Ad5 over step m z).2) := by
 have H := hQd h
 have HH := hQd hhi
 have HCO := hQd cO
 have HCS := hQd cS
 have HST := hQd hst
 have HBI := hQd hbI
 have hm1 : (m : Int) ≤ 4611686018427387904 := by omega
 clear h hhi cO cS hst hbI
 go_enter Tryz.func16, Tryz.ntmps16
 go_wp2_with fail
 go_loopw [7] (fun i wr => ∃ (k : Nat) (y : AW × Y) (G : Om), k ≤ m ∧ i = .int .i64 k ∧ I wr G y ∧ z.1.n ≤ y.1.n ∧ y.1.n ≤ z.1.n + k ∧ Ad5 over step m z = ((Ad5 over step (m - k) y).1 + k, (Ad5 over step (m - k) y).2) ∧ Ext S O w G wr) (fun i _ => m - (intOf i).toNat)
 case atStart => exact ⟨0, z, O, Nat.zero_le _, rfl, H.out, Int.le_refl _, by omega, rfl, Ext.refl HH.out⟩
 obtain ⟨k, y, G, hk, rfl, hI, hn, hn2, hr, he⟩ := hrel
 have HI := hQd hI
 have HR := hQd hr
 have HE := hQd he
 clear hI hr he
 by_cases hk2 : k < m
 · obtain ⟨q, hq⟩ : ∃ q, m - k = q + 1 := ⟨m - k - 1, by omega⟩
   have hq2 : m - (k + 1) = q := by omega
   have HQ := hQd hq
   have HQ2 := hQd hq2
   clear hq hq2
   cases ho : over y.2
   · have HOv := hQd ho
     have hy1 : y.1.n ≤ 4611686018427387904 := by omega
     have hy0 : 0 ≤ y.1.n := by omega
     clear ho
     go_wp2_with fail
     refine (HCO.out _ _ _ HI.out).mono ?_
     rintro e w' ⟨rfl, hbw⟩
     have HIb := hQd (HBI.out _ _ _ _ HI.out HE.out.hi hbw)
     have HEb := hQd (HE.out.below hbw)
     clear hbw
     rw [HOv.out]
     go_wp2_with fail
     refine (HCS.out _ _ _ HIb.out HOv.out HEb.out.hi hy0 hy1).mono ?_
     rintro e w1 ⟨v, rfl, G1, e1, i1⟩
     have hn3 := HST.out y
     have HI1 := hQd i1
     have HE1 := hQd (HEb.out.trans e1)
     have HR1 : Hid (Ad5 over step m z = ((Ad5 over step (m - (k + 1)) (step y)).1 + (k + 1), (Ad5 over step (m - (k + 1)) (step y)).2)) := by
      refine hQd ?_
      rw [HR.out, HQ.out, HQ2.out, Ang _ _ HOv.out]
      dsimp only
      rw [Nat.add_assoc, Nat.add_comm 1 k]
     clear i1 e1
     go_wp2
     go_roundw
     case rel => exact ⟨k + 1, step y, G1, by omega, by go_num, HI1.out, by omega, by omega, HR1.out, HE1.out⟩
     case measure => simp [intOf]; omega
   have HOv := hQd ho
   have HF : Hid (Ad5 over step m z = (k, y)) := by
    refine hQd ?_
    rw [HR.out, Ah0 _ _ ho]; simp
   clear ho
   go_wp2_with fail
   refine (HCO.out _ _ _ HI.out).mono ?_
   rintro e w' ⟨rfl, hbw⟩
   have HIb := hQd (HBI.out _ _ _ _ HI.out HE.out.hi hbw)
   have HEb := hQd (HE.out.below hbw)
   clear hbw
   rw [HOv.out]
   go_wp2
   go_ret
   rw [HF.out]
   exact ⟨rfl, G, HEb.out, HIb.out⟩
 have hkm : k = m := by omega
 have HF : Hid (Ad5 over step m z = (k, y)) := by
  refine hQd ?_
  rw [HR.out, hkm, Nat.sub_self]; unfold Ad5; simp
 clear hkm
 go_wp2
 go_ret
 rw [HF.out]
 exact ⟨rfl, G, HE.out, HI.out⟩
end
section
open Go.RowKit Go.Shelf
def Aor (o : Otm) : Bool := o.ln == 3
theorem sw0 : ¬ SW 0 := fun h => absurd h.1 (by decide)
theorem sx0 {a b : Nat} (h : 10 ≤ a) : ¬ SX a b 0 := fun k => by unfold SX at k; omega
theorem Aoz (a : Addr) (w : World) : (method 464 323 (.pointer (some a)) "Over").run Tryz.prog w = .ok (260, .pointer (some a)) w := by kernel_rfl
theorem Aoy (a : Addr) (w : World) : (method 464 323 (.pointer (some a)) "Step").run Tryz.prog w = .ok (261, .pointer (some a)) w := by kernel_rfl
theorem Ah3 {p : Spt} {tg rf : Int} {s : AW} {o : Otm} (hb : Bd s.M) (w0 : 0 ≤ o.w) (w1 : o.w < 18446744073709551616) : 0 ≤ (Aap p tg rf s o).2.w ∧ (Aap p tg rf s o).2.w < 18446744073709551616 := by
 unfold Aap
 split
 · exact ⟨w0, w1⟩
 split
 · exact hb _
 split
 · exact ⟨w0, w1⟩
 exact ⟨w0, w1⟩
theorem Arv (p : Spt) (tg rf : Int) (s : AW) (o : Otm) : (Aap p tg rf s o).1.n ≤ s.n + 1 ∧ s.n ≤ (Aap p tg rf s o).1.n := by
 unfold Aap
 split
 · exact ⟨Int.le_refl _, by show s.n ≤ s.n + 1; omega⟩
 split
 · exact ⟨Int.le_refl _, by show s.n ≤ s.n + 1; omega⟩
 split
 · exact ⟨Int.le_refl _, by show s.n ≤ s.n + 1; omega⟩
 exact ⟨by dsimp only; omega, Int.le_refl _⟩
theorem Aau {O : Om} {w : World} {S : Nat → Prop} (hhi : Hh O w) (cs : Array Value) (ty : TypeId) (n : Nat) (hn : n = w.heap.size) :
 Ext S O w O (w.alloc (.cells cs ty)) ∧ Ob (w.alloc (.cells cs ty)) O 0 n cs.toList := by
 subst hn
 refine ⟨Ext.of_below hhi (bal _ _), ⟨?_, by simp, fun j u hu => Aak w cs ty _ rfl j u (by simpa using hu), fun j => Acy w cs ty _ rfl j⟩⟩
 by_cases h : O w.heap.size = 0
 · exact h
 exact absurd (hhi _ h) (by omega)
section
variable {w : World} {O : Om} {B : Wb} {f : Cf} {s : AW} {k : Nat}
theorem Bc2 (U : Nat) (p : Spt) (tg rf : Int) (m : Nat) (hP : PW w O B f s) (hU : Adu w O k U p tg rf ⟨0, 0⟩) (hp : p.ok) (hk : 10 ≤ k) (hhi : Hh O w) (n0 : 0 ≤ s.n) (n1 : s.n + m ≤ 4611686018427387904) (t0 : 1 ≤ tg) (t1 : tg ≤ 255) (r0 : 1 ≤ rf) (r1 : rf ≤ 9223372036854775807) :
 Calls Tryz.prog 16 #[.pointer (some ⟨B.p, 0, none⟩), .iface 323 (.pointer (some ⟨U, 0, none⟩)), .int .i64 m] w (RP (SX k k) w O (.int .i64 (Ad5 Aor (fun z => Aap p tg rf z.1 z.2) m (s, ⟨0, 0⟩)).1) fun W G => PW W G B f (Ad5 Aor (fun z => Aap p tg rf z.1 z.2) m (s, ⟨0, 0⟩)).2.1) := by
 refine (Bbd Aor (fun z => Aap p tg rf z.1 z.2) (SX k k) (fun W G z => PW W G B f z.1 ∧ Adu W G k U p tg rf z.2 ∧ z.2.ln ≤ 3 ∧ 0 ≤ z.2.w ∧ z.2.w < 18446744073709551616) B.p U 323 260 261 (Aoz _) (Aoy _)
  (Aao Tryz.func260 (by kernel_rfl) (by kernel_rfl)) (Aao Tryz.func261 (by kernel_rfl) (by kernel_rfl)) ?_ (fun W W' G z h hh hb => ⟨h.1.below hh hb, h.2.1.below hb, h.2.2⟩) ?_ (fun z => Arv p tg rf z.1 z.2) w O m (s, ⟨0, 0⟩) ⟨hP, hU, Nat.zero_le _, Int.le_refl _, by show (0 : Int) < 18446744073709551616; decide⟩ hhi n0 n1).mono ?_
 · rintro W G ⟨s1, y⟩ ⟨h1, h2, h3, -, -⟩
   have ht := hp.tags
   exact Ac4 p.tags y.ln (h2.ob.c 0 _ rfl) (h2.ob.c 4 _ rfl) (by omega) h3
 · rintro W G ⟨s1, y⟩ ⟨h1, h2, h3, h4, h5⟩ ho hh q0 q1
   have hy : y.ln < 3 := by
    have h3 : y.ln ≤ 3 := h3
    have : y.ln ≠ 3 := by intro e; unfold Aor at ho; simp [e] at ho
    omega
   refine (Aiw y h1 h2 hp hy h4 h5 hk hh q0 q1 (by omega) t1 (by omega) r1).mono ?_
   intro e w' hp2
   have hw := Ah3 (p := p) (tg := tg) (rf := rf) (o := y) h1.bd h4 h5
   have hl := Acw p tg rf s1 y hy
   exact ⟨_, hp2.mono (fun _ _ h => h) fun W1 G1 h => ⟨h.1, h.2, by show (Aap p tg rf s1 y).2.ln ≤ 3; omega, hw.1, hw.2⟩⟩
 intro e w' hp2
 exact hp2.mono (fun _ _ h => h) fun W1 G1 h => h.1
end
end
end Go.Proofs.YthbodknlhkapdaaGreat
