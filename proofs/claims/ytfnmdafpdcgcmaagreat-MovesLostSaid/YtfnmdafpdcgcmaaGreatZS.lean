/- Layer 18, plain: how often each item stands (nestboxlaw18.Stand); arrays of numbers that are compared. Layer 24: arrays of 64 numbers in a block: loaded and stored as one. The marks of the items (nestboxlaw24.marks), how many versions are odd (nestboxlaw18.Odds). Layer 18: how often each item stands (nestboxlaw18.Stand). -/
import Derived.Test.YtfnmdafpdcgcmaaGreatZL
import Derived.Test.YtfnmdafpdcgcmaaGreatZM
import Derived.Laws.StructEq
namespace Go.Proofs.YtfnmdafpdcgcmaaGreat
set_option linter.unusedSimpArgs false
section
set_option linter.unusedVariables false
open Go.RowKit
theorem all_range_int : ∀ (xs ys : List Int), xs.length = ys.length → ((List.range xs.length).all fun i => xs.getD i 0 == ys.getD i 0) = (xs == ys)
 | [], [], _ => rfl
 | x :: xs, y :: ys, h => by
   have ih := all_range_int xs ys (by simpa using h)
   rw [List.length_cons, List.range_succ_eq_map, List.all_cons, List.all_map]
   simp only [List.getD_cons_zero, Function.comp_def, List.getD_cons_succ, ih]
   simp [List.cons_beq_cons]
 | [], _ :: _, h => by simp at h
 | _ :: _, [], h => by simp at h
section
variable {P : Program} (w : World)
theorem run_equalIn_ints (d : Nat) (t e : TypeId) (n : Nat) (k : IntKind) (ht : P.underlying t = some (.array n e)) (he : P.underlying e = some (.int k)) (hsz : ∀ w, (sizeOf e).run P w = .ok 1 w)
 (xs ys : List Int) (hx : xs.length = n) (hy : ys.length = n) :
 (Op.equalIn (d + 2) t (.agg (xs.map (Value.int k)).toArray) (.agg (ys.map (Value.int k)).toArray)).run P w = .ok (xs == ys) w := by
 rw [← all_range_int xs ys (hx.trans hy.symm), hx, List.range_eq_range', Op.equalIn]
 simp only [Sem.run_bind, run_underlying ht, Result.andThen_ok, hsz, Std.Legacy.Range.forIn_eq_forIn_range', Std.Legacy.Range.size, Nat.sub_zero, Nat.add_sub_cancel, Nat.div_one]
 have hl : ∀ i ∈ List.range' 0 n 1, i < n := fun i hi => by simpa using (List.mem_range'_1.1 hi).2
 generalize List.range' 0 n 1 = l at hl ⊢
 induction l with
 | nil => simp
 | cons i l ih =>
   have hi : i < n := hl i (by simp)
   have px : (part e (xs.map (Value.int k)).toArray (i * 1)).run P w = .ok (Value.int k (xs.getD i 0)) w := by
    simp [part, isAgg, run_underlying he, List.getD, List.getElem?_eq_getElem (show i < xs.length by omega)]
   have py : (part e (ys.map (Value.int k)).toArray (i * 1)).run P w = .ok (Value.int k (ys.getD i 0)) w := by
    simp [part, isAgg, run_underlying he, List.getD, List.getElem?_eq_getElem (show i < ys.length by omega)]
   have pe : (Op.equalIn (d + 1) e (Value.int k (xs.getD i 0)) (Value.int k (ys.getD i 0))).run P w = .ok (xs.getD i 0 == ys.getD i 0) w := run_equalIn_int w d e k k _ _ he
   simp only [List.forIn_cons, Sem.run_bind, px, py, pe, Result.andThen_ok, List.all_cons]
   cases hb : (xs.getD i 0 == ys.getD i 0)
   · simp
   · simp only [Bool.not_true, Bool.false_eq_true, if_false, Sem.run_pure, Result.andThen_ok, Bool.true_and]
     exact ih fun j hj => hl j (by simp [hj])
end
end
section
set_option linter.unusedVariables false
set_option maxHeartbeats 8000000
set_option maxRecDepth 100000
open Go.RowKit Go.Shelf
def ir (kd : IntKind) (I : Nat → Int) (n : Nat) : List Value := (List.range 64).map fun j => .int kd (if j < n then I j else 0)
theorem ir_len (kd : IntKind) (I : Nat → Int) (n : Nat) : (ir kd I n).length = 64 := by unfold ir; rw [List.length_map, List.length_range]
theorem ir_get {kd : IntKind} {I : Nat → Int} {n j : Nat} (hj : j < 64) : (ir kd I n)[j]? = some (.int kd (if j < n then I j else 0)) := by unfold ir; rw [List.getElem?_map, List.getElem?_range hj]; rfl
theorem ir_all (kd : IntKind) (I : Nat → Int) (n : Nat) : (ir kd I n).toArray.all (·.oneCell') = true := by
 unfold ir
 simp [Value.oneCell']
theorem ir_size (kd : IntKind) (I : Nat → Int) (n : Nat) : (ir kd I n).toArray.size = 64 := by rw [List.size_toArray, ir_len]
theorem cell_of_blk {w : World} {b : Nat} {cs : List Value} {ty : TypeId} {j : Nat} {u : Value} (h : w.heap[b]? = some (.cells cs.toArray ty (0, 0))) (hj : cs[j]? = some u) : w.cell? ⟨b, j, none⟩ = some u := by
 rw [cell_of_row w b j _ _ _ h]; simpa using hj
theorem froz_of_blk {w : World} {b : Nat} {cs : List Value} {ty : TypeId} (j : Nat) (h : w.heap[b]? = some (.cells cs.toArray ty (0, 0))) : w.frozen? ⟨b, j, none⟩ = false := frozen_of_row w b j _ _ h
theorem blk_set {w : World} {b j : Nat} {cs : List Value} {ty : TypeId} {v : Value} (h : w.heap[b]? = some (.cells cs.toArray ty (0, 0))) : (w.setCell ⟨b, j, none⟩ v).heap[b]? = some (.cells (cs.set j v).toArray ty (0, 0)) := by
 rw [heap_setCell_same w b j _ ty v h]
 simp
theorem below_setRow {B : Nat} {w w1 : World} (h : Below B w w1) {b : Nat} (hb : B ≤ b) (cs : Array Value) : Below B w (w1.setRow b cs) := by
 refine ⟨h.os, h.tape, h.output, by rw [size_setRow]; exact h.size, fun k hk => ?_⟩
 rw [← h.block k hk]
 simp only [World.setRow, Array.getElem?_modify]
 rw [if_neg (by omega)]
theorem c_OddE (v : Int) (w : World) (v0 : 0 ≤ v) (v1 : v < 18446744073709551616) : Calls Tryz.prog 51 #[.int .u64 v] w fun e w' => e = .returned (.bool (rfMarked v)) ∧ w = w' := by
 have h := u64_mark v v0 v1
 go_enter Tryz.func51, Tryz.ntmps51
 go_wp2
 go_ret
 exact ⟨ret_bool (by unfold rfMarked; rw [Bool.eq_iff_iff]; simp), rfl⟩
theorem c_Odds {w0 w : World} {G : Om} {B : Wb} {f : Cf} {s : AW} (L : LW w0 w G B f s) (hv : ∀ i : Nat, i < 64 → s.M (64 + i) % 2 = 0) : Calls Tryz.prog 24 #[.pointer (some ⟨B.p, 0, none⟩)] w fun e w' => e = .returned (.int .i64 0) ∧ Below w.heap.size w w' := by
 have HL := Lib.hid L
 have HV := Lib.hid hv
 have p0 := L.p.wo.c0
 clear L hv
 go_enter Tryz.func24, Tryz.ntmps24
 go_upto_region 3 with fail
 go_loopw [3, 4] (fun nv iv wr => ∃ i : Nat, iv = .int .i64 i ∧ nv = .int .i64 0 ∧ i ≤ 64 ∧ wr = w) (fun _ iv _ => 64 - (intOf iv).toNat)
 case atStart => exact ⟨0, rfl, rfl, by omega, rfl⟩
 case round =>
  obtain ⟨i, rfl, rfl, hi, rfl⟩ := hrel
  by_cases hi2 : i < 64
  · have he := HV.out i hi2
    have hb := HL.out.p.bd (64 + i)
    obtain ⟨m, hm⟩ : ∃ m, m = s.M (64 + i) := ⟨_, rfl⟩
    rw [← hm] at he hb
    have HP : Hid (Calls Tryz.prog 10 #[.pointer (some ⟨B.c, 0, none⟩), .int .u64 (64 + (i : Int))] wr fun e w' => e = .returned (.int .u64 m) ∧ wr = w') := Lib.hid (by rw [hm]; exact HL.out.peek (64 + i) (by omega) (by omega) wr (Below.refl _ _))
    have HO : Hid (Calls Tryz.prog 51 #[.int .u64 m] wr fun e w' => e = .returned (.bool false) ∧ wr = w') := Lib.hid (by
     have h := c_OddE m wr hb.1 hb.2
     rw [show rfMarked m = false from decide_eq_false (by omega)] at h
     exact h)
    clear hm he
    go_wp2_with fail
    refine HP.out.mono ?_
    rintro e w' ⟨rfl, rfl⟩
    go_wp2_with fail
    refine HO.out.mono ?_
    rintro e w' ⟨rfl, rfl⟩
    go_wp2_with fail
    go_roundw
    case rel => exact ⟨i + 1, by go_num, rfl, by omega, trivial⟩
    case measure => simp [intOf]; omega
  · have hi6 : i = 64 := by omega
    subst hi6
    go_wp2_with fail
    go_ret
    exact ⟨rfl, Below.refl _ _⟩
end
section
set_option linter.unusedVariables false
open Go.RowKit Go.Shelf
theorem ir_zero (kd : IntKind) (I : Nat → Int) (n : Nat) (h : ∀ j, I j = 0) : ir kd I n = List.replicate 64 (.int kd 0) := by
 unfold ir
 rw [show (fun j => Value.int kd (if j < n then I j else 0)) = fun _ => Value.int kd 0 from funext fun j => by rw [h j]; simp]
 rw [List.map_const', List.length_range]
theorem ir64_get {kd : IntKind} {I : Nat → Int} {j : Nat} (hj : j < 64) : (ir kd I 64)[j]? = some (.int kd (I j)) := by rw [ir_get hj, if_pos hj]
theorem ir64_set {kd : IntKind} {I J : Nat → Int} {r : Nat} (hr : r < 64) (h : J r = I r + 1) (ho : ∀ j, j ≠ r → J j = I j) : (ir kd I 64).set r (.int kd (I r + 1)) = ir kd J 64 := by
 refine List.ext_getElem? fun i => ?_
 rw [List.getElem?_set, ir_len]
 by_cases hi : i < 64
 · rw [ir64_get hi, ir64_get hi]
   by_cases c : r = i
   · subst c; rw [if_pos rfl, if_pos hr, h]
   · rw [if_neg c, ho i (fun e => c e.symm)]
 · rw [List.getElem?_eq_none (by rw [ir_len]; omega), if_neg (by omega), List.getElem?_eq_none (by rw [ir_len]; omega)]
end
end Go.Proofs.YtfnmdafpdcgcmaaGreat
