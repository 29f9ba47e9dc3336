/- Layer 18, plain: how often each item stands (nestboxlaw18.Stand); arrays of numbers that are compared. Layer 24: arrays of 64 numbers in a block: loaded and stored as one. The marks of the items (nestboxlaw24.marks), how many versions are odd (nestboxlaw18.Odds). Layer 18: how often each item stands (nestboxlaw18.Stand). -/
import Derived.Test.YtfnmdafpdcgcmaaGreatZL
import Derived.Test.YtfnmdafpdcgcmaaGreatZM
import Derived.Laws.StructEq
namespace Go.Proofs.YtfnmdafpdcgcmaaGreat
set_option linter.unusedSimpArgs false
section
set_option linter.unusedVariables false
open Go.RowKit
theorem all_range_int : ∀ (xs ys : List Int), xs.length = ys.length → ((List.range xs.length).all fun i => xs.getD i 0 == ys.getD i 0) = (xs == ys)
 | [], [], _ => rfl
 | x :: xs, y :: ys, h => by
   have ih := all_range_int xs ys (by simpa using h)
   rw [List.length_cons, List.range_succ_eq_map, List.all_cons, List.all_map]
   simp only [List.getD_cons_zero, Function.comp_def, List.getD_cons_succ, ih]
   simp [List.cons_beq_cons]
 | [], _ :: _, h => by simp at h
 | _ :: _, [], h => by simp at h
section
variable {P : Program} (w : World)
theorem run_equalIn_ints (d : Nat) (t e : TypeId) (n : Nat) (k : IntKind) (ht : P.underlying t = some (.array n e)) (he : P.underlying e = some (.int k)) (hsz : ∀ w, (sizeOf e).run P w = .ok 1 w)
 (xs ys : List Int) (hx : xs.length = n) (hy : ys.length = n) :
 (Op.equalIn (d + 2) t (.agg (xs.map (Value.int k)).toArray) (.agg (ys.map (Value.int k)).toArray)).run P w = .ok (xs == ys) w := by
 rw [← all_range_int xs ys (hx.trans hy.symm), hx, List.range_eq_range', Op.equalIn]
 simp only [Sem.run_bind, run_underlying ht, Result.andThen_ok, hsz, Std.Legacy.Range.forIn_eq_forIn_range', Std.Legacy.Range.size, Nat.sub_zero, Nat.add_sub_cancel, Nat.div_one]
 have hl : ∀ i ∈ List.range' 0 n 1, i < n := fun i hi => by simpa using (List.mem_range'_1.1 hi).2
 generalize List.range' 0 n 1 = l at hl ⊢
 induction l with
 | nil => simp
 | cons i l ih =>
   have hi : i < n := hl i (by simp)
   have px : (part e (xs.map (Value.int k)).toArray (i * 1)).run P w = .ok (Value.int k (xs.getD i 0)) w := by
    simp [part, isAgg, run_underlying he, List.getD, List.getElem?_eq_getElem (show i < xs.length by omega)]
   have py : (part e (ys.map (Value.int k)).toArray (i * 1)).run P w = .ok (Value.int k (ys.getD i 0)) w := by
    simp [part, isAgg, run_underlying he, List.getD, List.getElem?_eq_getElem (show i < ys.length by omega)]
   have pe : (Op.equalIn (d + 1) e (Value.int k (xs.getD i 0)) (Value.int k (ys.getD i 0))).run P w = .ok (xs.getD i 0 == ys.getD i 0) w := run_equalIn_int w d e k k _ _ he
   simp only [List.forIn_cons, Sem.run_bind, px, py, pe, Result.andThen_ok, List.all_cons]
   cases hb : (xs.getD i 0 == ys.getD i 0)
   · simp
   · simp only [Bool.not_true, Bool.false_eq_true, if_false, Sem.run_pure, Result.andThen_ok, Bool.true_and]
     exact ih fun j hj => hl j (by simp [hj])
end
def stC (t : Int) (M : Int → Int) : Nat → Nat → Int
 | 0, _ => 0
 | n + 1, r => stC t M n r + if M (plAt t n).item = r ∧ r ≠ 0 then 1 else 0
theorem stC_bd (t : Int) (M : Int → Int) (n r : Nat) : 0 ≤ stC t M n r ∧ stC t M n r ≤ n := by
 induction n with
 | zero => exact ⟨Int.le_refl _, Int.le_refl _⟩
 | succ n ih => unfold stC; split <;> omega
def StAt (t : Int) (ks : List ByteArray) (M : Int → Int) (p : Spt) : Prop :=
 (twTag (M p.tags) p.s = 0 ∧ M p.item = 0) ∨ ∃ (r : Nat) (k : ByteArray), ks[r]? = some k ∧ M p.item = (r : Int) + 1 ∧ twTag (M p.tags) p.s = fnvTag (keyH k) ∧ (p.b, p.q) ∈ plPlaces (keyH k) t
end
section
set_option linter.unusedVariables false
set_option maxHeartbeats 8000000
set_option maxRecDepth 100000
open Go.RowKit Go.Shelf
def ir (kd : IntKind) (I : Nat → Int) (n : Nat) : List Value := (List.range 64).map fun j => .int kd (if j < n then I j else 0)
theorem ir_len (kd : IntKind) (I : Nat → Int) (n : Nat) : (ir kd I n).length = 64 := by unfold ir; rw [List.length_map, List.length_range]
theorem ir_get {kd : IntKind} {I : Nat → Int} {n j : Nat} (hj : j < 64) : (ir kd I n)[j]? = some (.int kd (if j < n then I j else 0)) := by unfold ir; rw [List.getElem?_map, List.getElem?_range hj]; rfl
theorem ir_all (kd : IntKind) (I : Nat → Int) (n : Nat) : (ir kd I n).toArray.all (·.oneCell') = true := by
 unfold ir
 simp [Value.oneCell']
theorem ir_size (kd : IntKind) (I : Nat → Int) (n : Nat) : (ir kd I n).toArray.size = 64 := by rw [List.size_toArray, ir_len]
theorem cell_of_blk {w : World} {b : Nat} {cs : List Value} {ty : TypeId} {j : Nat} {u : Value} (h : w.heap[b]? = some (.cells cs.toArray ty (0, 0))) (hj : cs[j]? = some u) : w.cell? ⟨b, j, none⟩ = some u := by
 rw [cell_of_row w b j _ _ _ h]; simpa using hj
theorem froz_of_blk {w : World} {b : Nat} {cs : List Value} {ty : TypeId} (j : Nat) (h : w.heap[b]? = some (.cells cs.toArray ty (0, 0))) : w.frozen? ⟨b, j, none⟩ = false := frozen_of_row w b j _ _ h
theorem blk_set {w : World} {b j : Nat} {cs : List Value} {ty : TypeId} {v : Value} (h : w.heap[b]? = some (.cells cs.toArray ty (0, 0))) : (w.setCell ⟨b, j, none⟩ v).heap[b]? = some (.cells (cs.set j v).toArray ty (0, 0)) := by
 rw [heap_setCell_same w b j _ ty v h]
 simp
theorem below_setRow {B : Nat} {w w1 : World} (h : Below B w w1) {b : Nat} (hb : B ≤ b) (cs : Array Value) : Below B w (w1.setRow b cs) := by
 refine ⟨h.os, h.tape, h.output, by rw [size_setRow]; exact h.size, fun k hk => ?_⟩
 rw [← h.block k hk]
 simp only [World.setRow, Array.getElem?_modify]
 rw [if_neg (by omega)]
theorem c_OddE (v : Int) (w : World) (v0 : 0 ≤ v) (v1 : v < 18446744073709551616) : Calls Tryz.prog 51 #[.int .u64 v] w fun e w' => e = .returned (.bool (rfMarked v)) ∧ w = w' := by
 have h := u64_mark v v0 v1
 go_enter Tryz.func51, Tryz.ntmps51
 go_wp2
 go_ret
 exact ⟨ret_bool (by unfold rfMarked; rw [Bool.eq_iff_iff]; simp), rfl⟩
theorem c_Odds {w0 w : World} {G : Om} {B : Wb} {f : Cf} {s : AW} (L : LW w0 w G B f s) (hv : ∀ i : Nat, i < 64 → s.M (64 + i) % 2 = 0) : Calls Tryz.prog 24 #[.pointer (some ⟨B.p, 0, none⟩)] w fun e w' => e = .returned (.int .i64 0) ∧ Below w.heap.size w w' := by
 have HL := Lib.hid L
 have HV := Lib.hid hv
 have p0 := L.p.wo.c0
 clear L hv
 go_enter Tryz.func24, Tryz.ntmps24
 go_upto_region 3 with fail
 go_loopw [3, 4] (fun nv iv wr => ∃ i : Nat, iv = .int .i64 i ∧ nv = .int .i64 0 ∧ i ≤ 64 ∧ wr = w) (fun _ iv _ => 64 - (intOf iv).toNat)
 case atStart => exact ⟨0, rfl, rfl, by omega, rfl⟩
 case round =>
  obtain ⟨i, rfl, rfl, hi, rfl⟩ := hrel
  by_cases hi2 : i < 64
  · have he := HV.out i hi2
    have hb := HL.out.p.bd (64 + i)
    obtain ⟨m, hm⟩ : ∃ m, m = s.M (64 + i) := ⟨_, rfl⟩
    rw [← hm] at he hb
    have HP : Hid (Calls Tryz.prog 10 #[.pointer (some ⟨B.c, 0, none⟩), .int .u64 (64 + (i : Int))] wr fun e w' => e = .returned (.int .u64 m) ∧ wr = w') := Lib.hid (by rw [hm]; exact HL.out.peek (64 + i) (by omega) (by omega) wr (Below.refl _ _))
    have HO : Hid (Calls Tryz.prog 51 #[.int .u64 m] wr fun e w' => e = .returned (.bool false) ∧ wr = w') := Lib.hid (by
     have h := c_OddE m wr hb.1 hb.2
     rw [show rfMarked m = false from decide_eq_false (by omega)] at h
     exact h)
    clear hm he
    go_wp2_with fail
    refine HP.out.mono ?_
    rintro e w' ⟨rfl, rfl⟩
    go_wp2_with fail
    refine HO.out.mono ?_
    rintro e w' ⟨rfl, rfl⟩
    go_wp2_with fail
    go_roundw
    case rel => exact ⟨i + 1, by go_num, rfl, by omega, trivial⟩
    case measure => simp [intOf]; omega
  · have hi6 : i = 64 := by omega
    subst hi6
    go_wp2_with fail
    go_ret
    exact ⟨rfl, Below.refl _ _⟩
end
section
set_option linter.unusedVariables false
set_option maxHeartbeats 8000000
set_option maxRecDepth 100000
open Go.RowKit Go.Shelf
theorem ir_zero (kd : IntKind) (I : Nat → Int) (n : Nat) (h : ∀ j, I j = 0) : ir kd I n = List.replicate 64 (.int kd 0) := by
 unfold ir
 rw [show (fun j => Value.int kd (if j < n then I j else 0)) = fun _ => Value.int kd 0 from funext fun j => by rw [h j]; simp]
 rw [List.map_const', List.length_range]
theorem ir64_get {kd : IntKind} {I : Nat → Int} {j : Nat} (hj : j < 64) : (ir kd I 64)[j]? = some (.int kd (I j)) := by rw [ir_get hj, if_pos hj]
theorem ir64_set {kd : IntKind} {I J : Nat → Int} {r : Nat} (hr : r < 64) (h : J r = I r + 1) (ho : ∀ j, j ≠ r → J j = I j) : (ir kd I 64).set r (.int kd (I r + 1)) = ir kd J 64 := by
 refine List.ext_getElem? fun i => ?_
 rw [List.getElem?_set, ir_len]
 by_cases hi : i < 64
 · rw [ir64_get hi, ir64_get hi]
   by_cases c : r = i
   · subst c; rw [if_pos rfl, if_pos hr, h]
   · rw [if_neg c, ho i (fun e => c e.symm)]
 · rw [List.getElem?_eq_none (by rw [ir_len]; omega), if_neg (by omega), List.getElem?_eq_none (by rw [ir_len]; omega)]
theorem stC_skip {t : Int} {M : Int → Int} {n : Nat} (h : M (plAt t n).item = 0) : stC t M (n + 1) = stC t M n := by
 funext r
 conv => lhs; unfold stC
 rw [if_neg (by omega)]; omega
theorem c_Stand {w0 w : World} {G : Om} {B : Wb} {f : Cf} {s : AW} {t : Int} {ks : List ByteArray} {A : Nat} (L : LW w0 w G B f s) (t0 : 0 ≤ t) (t1 : t < 18446744073709551616) (wd : s.M 2 = t) (hA : (A : Int) = plSpots t) (hA5 : A ≤ 500) (hit : s.it = ks.map fulIt) (hkl : ks.length ≤ 40)
 (hkz : ∀ k ∈ ks, k.size ≤ maxLen) (hsl : ∀ n : Nat, n < A → StAt t ks s.M (plAt t n)) :
 Calls Tryz.prog 13 #[.pointer (some ⟨B.p, 0, none⟩)] w fun e w' => e = .returned (.tuple #[.agg (ir .i64 (stC t s.M A) 64).toArray, .bool true]) ∧ Below w.heap.size w w' := by
 have HL := Lib.hid L
 have HPK := L.peek 2 (by decide) (by decide)
 rw [wd] at HPK
 have HPK := Lib.hid HPK
 have HSP : Hid (∀ W, Calls Tryz.prog 43 #[.int .u64 t] W fun e w' => e = .returned (.int .i64 (A : Int)) ∧ W = w') := Lib.hid fun W => by rw [hA]; exact c_Spots t W t0 t1
 have HIT := Lib.hid hit
 have HKZ := Lib.hid hkz
 have HSL := Lib.hid hsl
 have hlw := L.p.wo.lt
 clear L wd hA hit hkz hsl
 go_enter Tryz.func13, Tryz.ntmps13
 go_upto_region 2 with fail
 generalize hW1 : World.alloc (World.alloc w _) _ = W1
 have hW2 : (w.alloc (.cells (List.replicate 64 (.int .i64 0)).toArray 45)).alloc (.cells (List.replicate 64 (.int .i64 0)).toArray 45) = W1 := hW1
 clear hW1
 have hb1 : Below w.heap.size w W1 := by rw [← hW2]; exact ((Below.refl _ _).alloc (Nat.le_refl _) _).alloc (by simp) _
 have h3 : W1.heap[w.heap.size + 1]? = some (.cells (ir .i64 (stC t s.M 0) 64).toArray 45 (0, 0)) := by rw [← hW2, heap_alloc2_new, ir_zero .i64 (stC t s.M 0) 64 (fun _ => rfl)]
 have h2 : W1.heap[w.heap.size]? = some (.cells (List.replicate 64 (.int .i64 0)).toArray 45 (0, 0)) := by rw [← hW2, heap_alloc2_old]
 obtain ⟨X4, hX4⟩ : ∃ X4, X4 = w.heap.size + 1 := ⟨_, rfl⟩
 rw [← hX4] at h3 ⊢
 obtain ⟨X2, hX2⟩ : ∃ X2, X2 = w.heap.size := ⟨_, rfl⟩
 have hx4 : w.heap.size ≤ X4 := by omega
 have hx2 : w.heap.size ≤ X2 := by omega
 have hne : X4 ≠ X2 := by omega
 rw [← hX2] at h2 ⊢
 have p1 := (HL.out.below hb1).p.wo.c0
 have HPK1 := Lib.hid (HPK.out W1 hb1)
 have H4 := Lib.hid h3
 have H2 := Lib.hid h2
 have HB1 := Lib.hid hb1
 clear hW2 hX4 hX2 h3 h2 hb1 HPK
 go_wp2_with fail
 refine HPK1.out.mono ?_
 rintro e w' ⟨rfl, rfl⟩
 go_wp2_with fail
 refine (HSP.out _).mono ?_
 rintro e w' ⟨rfl, rfl⟩
 clear HPK1 HSP p1
 go_upto_region 5 with fail
 go_loopw [7] (fun iv wr => ∃ n : Nat, iv = .int .i64 n ∧ n ≤ A ∧ Below w.heap.size w wr ∧ wr.heap[X4]? = some (.cells (ir .i64 (stC t s.M n) 64).toArray 45 (0, 0)) ∧ wr.heap[X2]? = some (.cells (List.replicate 64 (.int .i64 0)).toArray 45 (0, 0))) (fun iv _ => A - (intOf iv).toNat)
 case atStart => exact ⟨0, rfl, by omega, HB1.out, H4.out, H2.out⟩
 case round =>
  clear HB1 H4 H2
  obtain ⟨n, rfl, hn, hb, h4, h2⟩ := hrel
  have BR := Lib.hid hb
  have H4 := Lib.hid h4
  have H2 := Lib.hid h2
  have X4L : X4 < wr.heap.size := by
   rcases Nat.lt_or_ge X4 wr.heap.size with q | q
   · exact q
   · rw [Array.getElem?_eq_none q] at h4; cases h4
  have X2L : X2 < wr.heap.size := by
   rcases Nat.lt_or_ge X2 wr.heap.size with q | q
   · exact q
   · rw [Array.getElem?_eq_none q] at h2; cases h2
  clear hb h4 h2
  by_cases hn2 : n < A
  · have d5 : decide ((n : Int) < 512) = true := decide_eq_true (by omega)
    obtain ⟨p, hp⟩ : ∃ p, p = plAt t n := ⟨_, rfl⟩
    have hpo : p.ok := by rw [hp]; exact plAt_ok _ _
    have hst := HSL.out n hn2
    rw [← hp] at hst
    have HAT : Hid (∀ W, Calls Tryz.prog 44 #[.int .u64 t, .int .i64 (n : Int)] W fun e w' => e = .returned (.agg #[.int .i64 p.b, .int .i64 p.q, .int .i64 p.s]) ∧ Below W.heap.size W w') := Lib.hid fun W => by rw [hp]; exact c_At t n W t0 t1 (by omega) (by omega)
    have HPO := Lib.hid hpo
    have HPE := Lib.hid hp
    have HST := Lib.hid hst
    clear hp hpo hst
    go_wp2_with fail
    refine (HAT.out _).mono ?_
    rintro e w4 ⟨rfl, hb4⟩
    have hba := (Below.refl w4.heap.size w4).alloc (Nat.le_refl _) (.cells #[.int .i64 p.b, .int .i64 p.q, .int .i64 p.s] 56)
    have B5 : Hid (Below wr.heap.size wr (w4.alloc (.cells #[.int .i64 p.b, .int .i64 p.q, .int .i64 p.s] 56))) := Lib.hid (hb4.trans (hba.mono hb4.size))
    have v0 := cell_newA w4 #[.int .i64 p.b, .int .i64 p.q, .int .i64 p.s] 56 _ rfl 0 _ rfl
    have v1 := cell_newA w4 #[.int .i64 p.b, .int .i64 p.q, .int .i64 p.s] 56 _ rfl 1 _ rfl
    have v2 := cell_newA w4 #[.int .i64 p.b, .int .i64 p.q, .int .i64 p.s] 56 _ rfl 2 _ rfl
    have hl5 : w4.heap.size < (w4.alloc (.cells #[.int .i64 p.b, .int .i64 p.q, .int .i64 p.s] 56)).heap.size := by simp
    clear hb4 hba
    go_wp2_with fail
    obtain ⟨W5, hW5⟩ : ∃ W, W = w4.alloc (.cells #[.int .i64 p.b, .int .i64 p.q, .int .i64 p.s] 56) := ⟨_, rfl⟩
    rw [← hW5] at B5 v0 v1 v2 hl5 ⊢
    clear hW5
    obtain ⟨N, hN⟩ : ∃ N, N = w4.heap.size := ⟨_, rfl⟩
    rw [← hN] at v0 v1 v2 hl5 ⊢
    clear hN
    have V5 := Lib.hid (show W5.cell? ⟨N, 0, none⟩ = _ ∧ W5.cell? ⟨N, 1, none⟩ = _ ∧ W5.cell? ⟨N, 2, none⟩ = _ from ⟨v0, v1, v2⟩)
    have L5 := Lib.hid ((HL.out.below BR.out).below B5.out)
    have HS := c_Slot p L5.out.p HPO.out L5.out.hi
    refine HS.mono ?_
    clear HS
    rintro e w6 ⟨rfl, hb6⟩
    have B6 : Hid (Below wr.heap.size wr w6) := Lib.hid (B5.out.trans (hb6.mono B5.out.size))
    have B56 := Lib.hid hb6
    clear hb6 v0 v1 v2
    have keep : Hid (∀ W, Below wr.heap.size wr W → W.heap[X4]? = some (.cells (ir .i64 (stC t s.M n) 64).toArray 45 (0, 0)) ∧ W.heap[X2]? = some (.cells (List.replicate 64 (.int .i64 0)).toArray 45 (0, 0))) := Lib.hid fun W hb => ⟨(hb.block X4 X4L).trans H4.out, (hb.block X2 X2L).trans H2.out⟩
    rcases HST.out with ⟨hf1, hf2⟩ | ⟨r, k, hk1, hk2, hk3, hk4⟩
    · rw [hf1, hf2]
      have hsk := stC_skip (t := t) (M := s.M) (n := n) (by rw [← HPE.out]; exact hf2)
      have HSK := Lib.hid hsk
      clear hf1 hf2 hsk
      go_wp2_with fail
      go_roundw
      case rel => exact ⟨n + 1, by go_num, by omega, BR.out.trans (B6.out.mono BR.out.size), by rw [HSK.out]; exact (keep.out w6 B6.out).1, (keep.out w6 B6.out).2⟩
      case measure => simp [intOf]; omega
    · obtain ⟨tg, htg⟩ : ∃ tg, tg = fnvTag (keyH k) := ⟨_, rfl⟩
      have hr40 : r < 40 := by have := (List.getElem?_eq_some_iff.1 hk1).1; omega
      obtain ⟨r1, hr1⟩ : ∃ r1 : Nat, r1 = r + 1 := ⟨_, rfl⟩
      have hk2' : s.M p.item = (r1 : Int) := by rw [hk2, hr1]; omega
      rw [hk2', hk3, ← htg]
      have htb := fnvTag_key k
      rw [← htg] at htb
      have dt : (tg == 0) = false := by simp; omega
      have d64 : decide ((64 : Int) ≤ (r1 : Int)) = false := decide_eq_false (by omega)
      have L6 := Lib.hid (L5.out.below B56.out)
      have p0 := L6.out.p.wo.c0
      have p1 := L6.out.p.wo.c1
      have HIA := Lib.hid (c_IAt_yes (r1 : Int) r (fulIt k) L6.out.p.ar (by rw [HIT.out, List.length_map]; omega) (by rw [HIT.out, List.getElem?_map, hk1]; rfl) (by omega))
      have hkm := HKZ.out k (List.mem_of_getElem? hk1)
      have HH := Lib.hid (fun W => c_Hash k W hkm)
      have hbd := fnvHash_bd k.data.toList
      have HTG : Hid (∀ W, Calls Tryz.prog 37 #[.int .u64 (keyH k)] W fun e w' => e = .returned (.int .i64 tg) ∧ W = w') := Lib.hid fun W => by rw [htg]; exact c_fTag (keyH k) W hbd.1 hbd.2
      have HPL : Hid (∀ W, Calls Tryz.prog 46 #[.int .u64 (keyH k), .int .u64 t] W fun e w' => (∃ v', e = .returned v' ∧ Arr w' v' (plPlaces (keyH k) t).length 2 (rowOf plc (plPlaces (keyH k) t)) ∧ Fresh w' W.heap.size v' ∧ ∃ ao, v' = .slice ao (plPlaces (keyH k) t).length (plPlaces (keyH k) t).length) ∧ Below W.heap.size W w') := Lib.hid fun W => c_Places (keyH k) t W hbd.1 hbd.2 t0 t1
      have hKH : keyH k = fnvHash k.data.toList := rfl
      have hpos := plPlaces_pos (keyH k) t
      have hple := plPlaces_le (keyH k) t
      obtain ⟨PL, hPL⟩ : ∃ PL, PL = plPlaces (keyH k) t := ⟨_, rfl⟩
      rw [← hPL] at HPL hk4 hpos hple
      rw [← hKH] at HH
      obtain ⟨hh, hhh⟩ : ∃ hh, hh = keyH k := ⟨_, rfl⟩
      rw [← hhh] at HPL HTG HH
      have hhb : 0 ≤ hh ∧ hh < 18446744073709551616 := by rw [hhh, hKH]; exact hbd
      have HMEM := Lib.hid hk4
      have hci := stC_bd t s.M n r1
      have HNX : Hid (stC t s.M (n + 1) r1 = stC t s.M n r1 + 1 ∧ ∀ j, j ≠ r1 → stC t s.M (n + 1) j = stC t s.M n j) := Lib.hid ⟨by
       conv => lhs; unfold stC
       rw [if_pos ⟨by rw [← HPE.out]; exact hk2', by omega⟩], fun j hj => by
       conv => lhs; unfold stC
       rw [if_neg (by rw [← HPE.out, hk2']; omega)]; omega⟩
      obtain ⟨cur, hcur⟩ : ∃ cur, cur = stC t s.M n r1 := ⟨_, rfl⟩
      rw [← hcur] at hci
      have HCU := Lib.hid hcur
      have hr1b : 1 ≤ r1 ∧ r1 ≤ 40 := by omega
      clear htg hk1 hk2 hk3 hk4 hk2' hr1 hr40 hbd hKH hPL hhh hkm hcur
      go_wp2_with fail
      refine HIA.out.mono ?_
      rintro e w7 ⟨rfl, hb7⟩
      unfold fulIt
      dsimp only
      have B57 : Hid (Below W5.heap.size W5 w7) := Lib.hid (B56.out.trans (hb7.mono B56.out.size))
      clear hb7 HIA p0 p1
      go_upto_region 13 with fail
      obtain ⟨w8, hw8⟩ : ∃ W, W = w7.alloc (.cells #[.string k, .string ⟨#[]⟩, .int .u32 0, .int .u64 0, .int .i64 (-1), .int .i64 0] 83) := ⟨_, rfl⟩
      have B58 : Hid (Below W5.heap.size W5 w8) := Lib.hid (by rw [hw8]; exact B57.out.alloc B57.out.size _)
      have x0 : w8.cell? ⟨w7.heap.size, 0, none⟩ = some (.string k) := by rw [hw8]; simp
      rw [← hw8]
      obtain ⟨N8, hN8⟩ : ∃ N, N = w7.heap.size := ⟨_, rfl⟩
      rw [← hN8] at x0 ⊢
      clear hw8 hN8
      go_wp2_with fail
      refine (HH.out _).mono ?_
      rintro e w9 ⟨rfl, hw9⟩
      have B59 : Hid (Below W5.heap.size W5 w9) := Lib.hid (by rw [← hw9]; exact B58.out.alloc B58.out.size _)
      clear hw9 x0 HH
      go_wp2_with fail
      refine (HPL.out _).mono ?_
      rintro e w10 ⟨⟨v', rfl, hAr, -, ao, hv⟩, hb10⟩
      obtain ⟨Ab, ob, cp, he, -, -, hlt, hx⟩ := hAr.open hpos (by omega)
      rw [he] at hv
      cases hv
      subst he
      have HX := Lib.hid hx
      have B510 : Hid (Below W5.heap.size W5 w10) := Lib.hid (B59.out.trans (hb10.mono B59.out.size))
      have B10 : Hid (Below wr.heap.size wr w10) := Lib.hid (B5.out.trans (B510.out.mono B5.out.size))
      have v0 := (B510.out.cell (p := ⟨N, 0, none⟩) hl5).trans V5.out.1
      have v1 := (B510.out.cell (p := ⟨N, 1, none⟩) hl5).trans V5.out.2.1
      clear hAr hb10 HPL hx
      go_upto_region 17 with fail
      go_loopw [15, 16] (fun bv kv W => ∃ j : Nat, kv = .int .i64 j ∧ bv = .bool (decide ((p.b, p.q) ∈ PL.take j)) ∧ j ≤ PL.length ∧ Below w10.heap.size w10 W) (fun _ kv _ => PL.length - (intOf kv).toNat)
      case atStart => exact ⟨0, rfl, by simp, Nat.zero_le _, Below.refl _ _⟩
      case round =>
       obtain ⟨j, rfl, rfl, hj, hbi⟩ := hrel
       have BI := Lib.hid hbi
       have v0 := (hbi.cell (p := ⟨N, 0, none⟩) (Nat.lt_of_lt_of_le hl5 B510.out.size)).trans v0
       have v1 := (hbi.cell (p := ⟨N, 1, none⟩) (Nat.lt_of_lt_of_le hl5 B510.out.size)).trans v1
       clear hbi
       by_cases hj2 : j < PL.length
       · obtain ⟨x, hxe⟩ : ∃ x, x = PL[j] := ⟨_, rfl⟩
         have hrr : ∀ q, q < 2 → (rowOf plc PL)[j * 2 + q]? = (plc x)[q]? := fun q hq => by rw [hxe]; exact rowOf_get plc_len PL j q hj2 hq
         have c0 : wr.cell? ⟨Ab, ob + j * 2, none⟩ = some (.int .i64 x.1) := (BI.out.cell (p := ⟨Ab, ob + j * 2, none⟩) hlt).trans (HX.out _ _ (hrr 0 (by omega)))
         have c1 : wr.cell? ⟨Ab, ob + j * 2 + 1, none⟩ = some (.int .i64 x.2) := (BI.out.cell (p := ⟨Ab, ob + j * 2 + 1, none⟩) hlt).trans (HX.out _ _ (hrr 1 (by omega)))
         have bn : ∀ q, Below wr.heap.size wr (wr.drewN q) := fun q => ⟨rfl, rfl, rfl, Nat.le_refl _, fun _ _ => rfl⟩
         have BN := Lib.hid bn
         clear bn
         have HTK : Hid (decide ((p.b, p.q) ∈ PL.take (j + 1)) = (decide ((p.b, p.q) ∈ PL.take j) || decide (x = (p.b, p.q)))) := Lib.hid (by
          rw [List.take_succ_eq_append_getElem hj2, ← hxe, Bool.eq_iff_iff]
          simp only [List.mem_append, List.mem_singleton, decide_eq_true_eq, Bool.or_eq_true]
          exact ⟨fun h => h.imp id fun h => h.symm, fun h => h.imp id fun h => h.symm⟩)
         have hjb0 : (0 : Int) ≤ (j : Int) := by omega
         have hjb1 : (j : Int) < (PL.length : Int) := by omega
         obtain ⟨inb, hin⟩ : ∃ inb, inb = decide ((p.b, p.q) ∈ PL.take j) := ⟨_, rfl⟩
         rw [← hin] at HTK ⊢
         clear hxe hrr hin
         cases inb with
         | true =>
           go_wp2_with fail
           go_quiet (fail)
           go_wp2_with fail
           go_roundw
           case rel => exact ⟨j + 1, by go_num, by rw [HTK.out]; rfl, by omega, BI.out.trans ((BN.out nq).mono BI.out.size)⟩
           case measure => simp [intOf]; omega
         | false =>
           obtain ⟨xa, xb⟩ := x
           dsimp only at c0 c1
           by_cases ha : xa = p.b
           · have ea : (xa == p.b) = true := by simp [ha]
             by_cases hb : xb = p.q
             · have eb : (xb == p.q) = true := by simp [hb]
               have HF : Hid (decide (((xa, xb) : Int × Int) = (p.b, p.q)) = true) := Lib.hid (by rw [ha, hb]; simp)
               clear ha hb
               go_wp2_with fail
               go_quiet (fail)
               go_wp2_with fail
               go_roundw
               case rel => exact ⟨j + 1, by go_num, by rw [HTK.out, HF.out]; rfl, by omega, BI.out.trans ((BN.out nq).mono BI.out.size)⟩
               case measure => simp [intOf]; omega
             · have eb : (xb == p.q) = false := by simp [hb]
               have HF : Hid (decide (((xa, xb) : Int × Int) = (p.b, p.q)) = false) := Lib.hid (decide_eq_false fun e => hb (congrArg Prod.snd e))
               clear ha hb
               go_wp2_with fail
               go_quiet (fail)
               go_wp2_with fail
               go_roundw
               case rel => exact ⟨j + 1, by go_num, by rw [HTK.out, HF.out]; rfl, by omega, BI.out.trans ((BN.out nq).mono BI.out.size)⟩
               case measure => simp [intOf]; omega
           · have ea : (xa == p.b) = false := by simp [ha]
             have HF : Hid (decide (((xa, xb) : Int × Int) = (p.b, p.q)) = false) := Lib.hid (decide_eq_false fun e => ha (congrArg Prod.fst e))
             clear ha
             go_wp2_with fail
             go_quiet (fail)
             go_wp2_with fail
             go_roundw
             case rel => exact ⟨j + 1, by go_num, by rw [HTK.out, HF.out]; rfl, by omega, BI.out.trans ((BN.out nq).mono BI.out.size)⟩
             case measure => simp [intOf]; omega
       · have hjL : j = PL.length := by omega
         subst hjL
         have hin : decide ((p.b, p.q) ∈ PL.take PL.length) = true := by rw [List.take_length]; exact decide_eq_true HMEM.out
         rw [hin]
         have B11 := Lib.hid (B10.out.trans (BI.out.mono B10.out.size))
         have K11 := Lib.hid (keep.out wr B11.out)
         have a0 := cell_of_blk (j := r1) K11.out.1 (ir64_get (by omega))
         rw [← HCU.out] at a0
         have f0 := froz_of_blk r1 K11.out.1
         have hrb0 : (0 : Int) ≤ (r1 : Int) := by omega
         have hrb1 : (r1 : Int) < 64 := by omega
         have H4n : Hid ((wr.setCell ⟨X4, r1, none⟩ (.int .i64 (cur + 1))).heap[X4]? = some (.cells (ir .i64 (stC t s.M (n + 1)) 64).toArray 45 (0, 0))) := Lib.hid (by
          rw [blk_set K11.out.1, HCU.out, ir64_set (by omega) HNX.out.1 HNX.out.2])
         have H2n : Hid ((wr.setCell ⟨X4, r1, none⟩ (.int .i64 (cur + 1))).heap[X2]? = some (.cells (List.replicate 64 (.int .i64 0)).toArray 45 (0, 0))) := Lib.hid (by
          rw [heap_setCell_other _ _ _ _ (by show X2 ≠ X4; exact Ne.symm hne)]; exact K11.out.2)
         have HBn : Hid (Below w.heap.size w (wr.setCell ⟨X4, r1, none⟩ (.int .i64 (cur + 1)))) := Lib.hid ((BR.out.trans (B11.out.mono BR.out.size)).setCell (p := ⟨X4, r1, none⟩) hx4 _)
         clear hin v0 v1
         go_wp2_with fail
         refine (HTG.out _).mono ?_
         rintro e w' ⟨rfl, rfl⟩
         go_wp2_with fail
         go_roundw
         case rel => exact ⟨n + 1, by go_num, by omega, HBn.out, H4n.out, H2n.out⟩
         case measure => simp [intOf]; omega
  · have hnA : n = A := by omega
    subst hnA
    have hsz := ir_size .i64 (stC t s.M n) 64
    go_wp2_with (first
     | (refine wpList_load_row rfl 45 _ rfl X4 rfl 45 _ (0, 0) _ H4.out Tryz.underlying45 rfl (by rw [hsz]; kernel_rfl) ?_)
     | (refine wpList_store_row rfl 45 _ _ rfl X2 (ir .i64 (stC t s.M n) 64).toArray rfl rfl 45 _ H2.out (by rw [hsz]; kernel_rfl) (by rw [hsz]; simp) (ir_all _ _ _) ?_))
    have h2 := setRow_heap wr X2 _ (ir .i64 (stC t s.M n) 64).toArray _ _ H2.out
    have hld := run_loadVar_row (P := Tryz.prog) (wr.setRow X2 (ir .i64 (stC t s.M n) 64).toArray) X2 45 45 _ (0, 0) _ h2 Tryz.underlying45 rfl (by rw [hsz]; kernel_rfl)
    trace_state
    exact bodyPost_ret (v := .tuple #[.agg (ir .i64 (stC t s.M n) 64).toArray, .bool true]) (by simp [results, Tryz.results13, asAddr, hld, Act.put]) rfl ⟨rfl, below_setRow BR.out hx2 _⟩
end
end Go.Proofs.YtfnmdafpdcgcmaaGreat
