/- Layer 24: arrays of 64 numbers in a block: loaded and stored as one. The marks of the items (nestboxlaw24.marks), how many versions are odd (nestboxlaw18.Odds). -/
import Derived.Test.YtlcibfpibklbdaaGreatLW
import Derived.Test.YtlcibfpibklbdaaGreatStP
namespace Go.Proofs.YtlcibfpibklbdaaGreat
set_option linter.unusedSimpArgs false
open Go.RowKit Go.Shelf
set_option linter.unusedVariables false
def ir (kd : IntKind) (I : Nat → Int) (n : Nat) : List Value := (List.range 64).map fun j => .int kd (if j < n then I j else 0)
theorem ir_len (kd : IntKind) (I : Nat → Int) (n : Nat) : (ir kd I n).length = 64 := by unfold ir; rw [List.length_map, List.length_range]
theorem ir_get {kd : IntKind} {I : Nat → Int} {n j : Nat} (hj : j < 64) : (ir kd I n)[j]? = some (.int kd (if j < n then I j else 0)) := by unfold ir; rw [List.getElem?_map, List.getElem?_range hj]; rfl
theorem ir_set {kd : IntKind} {I : Nat → Int} {n : Nat} (hn : n < 64) : (ir kd I n).set n (.int kd (I n)) = ir kd I (n + 1) := by
  refine List.ext_getElem? fun i => ?_
  rw [List.getElem?_set, ir_len]
  by_cases hi : i < 64
  · rw [ir_get hi, ir_get hi]
    by_cases c : n = i
    · subst c; rw [if_pos rfl, if_pos hn, if_pos (by omega)]
    · rw [if_neg c]
      by_cases d : i < n
      · rw [if_pos d, if_pos (by omega)]
      · rw [if_neg d, if_neg (by omega)]
  · rw [List.getElem?_eq_none (by rw [ir_len]; omega), if_neg (by omega), List.getElem?_eq_none (by rw [ir_len]; omega)]
theorem ir_one (kd : IntKind) (I : Nat → Int) (h : I 0 = 0) : ir kd I 1 = List.replicate 64 (.int kd 0) := by
  unfold ir
  rw [show (fun j => Value.int kd (if j < 1 then I j else 0)) = fun _ => Value.int kd 0 from funext fun j => by
    by_cases c : j < 1
    · rw [if_pos c, show j = 0 by omega, h]
    · rw [if_neg c]]
  rw [List.map_const', List.length_range]
theorem ir_all (kd : IntKind) (I : Nat → Int) (n : Nat) : (ir kd I n).toArray.all (·.oneCell') = true := by
  unfold ir
  simp [Value.oneCell']
theorem ir_size (kd : IntKind) (I : Nat → Int) (n : Nat) : (ir kd I n).toArray.size = 64 := by rw [List.size_toArray, ir_len]
theorem cell_of_blk {w : World} {b : Nat} {cs : List Value} {ty : TypeId} {j : Nat} {u : Value} (h : w.heap[b]? = some (.cells cs.toArray ty (0, 0))) (hj : cs[j]? = some u) : w.cell? ⟨b, j, none⟩ = some u := by
  rw [cell_of_row w b j _ _ _ h]; simpa using hj
theorem froz_of_blk {w : World} {b : Nat} {cs : List Value} {ty : TypeId} (j : Nat) (h : w.heap[b]? = some (.cells cs.toArray ty (0, 0))) : w.frozen? ⟨b, j, none⟩ = false := frozen_of_row w b j _ _ h
theorem blk_set {w : World} {b j : Nat} {cs : List Value} {ty : TypeId} {v : Value} (h : w.heap[b]? = some (.cells cs.toArray ty (0, 0))) : (w.setCell ⟨b, j, none⟩ v).heap[b]? = some (.cells (cs.set j v).toArray ty (0, 0)) := by
  rw [heap_setCell_same w b j _ ty v h]
  simp
theorem below_setRow {B : Nat} {w w1 : World} (h : Below B w w1) {b : Nat} (hb : B ≤ b) (cs : Array Value) : Below B w (w1.setRow b cs) := by
  refine ⟨h.os, h.tape, h.output, by rw [size_setRow]; exact h.size, fun k hk => ?_⟩
  rw [← h.block k hk]
  simp only [World.setRow, Array.getElem?_modify]
  rw [if_neg (by omega)]
/-- The mark of an item's number. -/
def mkI (M : Int → Int) (j : Nat) : Int := if j = 0 then 0 else M (plRef j)
set_option maxHeartbeats 8000000 in
set_option maxRecDepth 100000 in
theorem c_marks {w0 w : World} {G : Om} {B : Wb} {f : Cf} {s : AW} (L : LW w0 w G B f s) : Calls Tryz.prog 44 #[.pointer (some ⟨B.p, 0, none⟩)] w fun e w' => e = .returned (.agg (ir .u64 (mkI s.M) 64).toArray) ∧ Below w.heap.size w w' := by
  have HL := Lib.hid L
  clear L
  go_enter Tryz.func44, Tryz.ntmps44
  go_upto_region 3 with fail
  generalize hW1 : World.alloc (World.alloc w _) _ = W1
  have hW2 : (w.alloc (.cells (List.replicate 64 (.int .u64 0)).toArray 36)).alloc (.cells (List.replicate 64 (.int .u64 0)).toArray 36) = W1 := hW1
  clear hW1
  have hb1 : Below w.heap.size w W1 := by rw [← hW2]; exact ((Below.refl _ _).alloc (Nat.le_refl _) _).alloc (by simp) _
  have h3 : W1.heap[w.heap.size + 1]? = some (.cells (ir .u64 (mkI s.M) 1).toArray 36 (0, 0)) := by rw [← hW2, heap_alloc2_new, ir_one .u64 (mkI s.M) rfl]
  have h2 : W1.heap[w.heap.size]? = some (.cells (List.replicate 64 (.int .u64 0)).toArray 36 (0, 0)) := by rw [← hW2, heap_alloc2_old]
  obtain ⟨X3, hX3⟩ : ∃ X3, X3 = w.heap.size + 1 := ⟨_, rfl⟩
  rw [← hX3] at h3 ⊢
  obtain ⟨X2, hX2⟩ : ∃ X2, X2 = w.heap.size := ⟨_, rfl⟩
  have hx3 : w.heap.size ≤ X3 := by omega
  have hx2 : w.heap.size ≤ X2 := by omega
  have hne : X3 ≠ X2 := by omega
  rw [← hX2] at h2 ⊢
  have HX2 := Lib.hid hX2
  have H3 := Lib.hid h3
  have H2 := Lib.hid h2
  have HB1 := Lib.hid hb1
  clear hW2 hX3 hX2 h3 h2 hb1
  clear HX2
  go_loopw [4] (fun iv wr => ∃ n : Nat, iv = .int .i64 n ∧ 1 ≤ n ∧ n ≤ 64 ∧ Below w.heap.size w wr ∧ wr.heap[X3]? = some (.cells (ir .u64 (mkI s.M) n).toArray 36 (0, 0)) ∧ wr.heap[X2]? = some (.cells (List.replicate 64 (.int .u64 0)).toArray 36 (0, 0))) (fun iv _ => 64 - (intOf iv).toNat)
  case atStart => exact ⟨1, rfl, by omega, by omega, HB1.out, H3.out, H2.out⟩
  case round =>
    clear HB1 H3 H2
    obtain ⟨n, rfl, hn1, hn, hb, h3, h2⟩ := hrel
    have HBB := Lib.hid hb
    have H3 := Lib.hid h3
    have H2 := Lib.hid h2
    clear hb h3 h2
    by_cases hn2 : n < 64
    · have a0 := cell_of_blk (j := n) H3.out (ir_get hn2)
      have f0 := froz_of_blk n H3.out
      have L1 := Lib.hid (HL.out.below HBB.out)
      have p0 := L1.out.p.wo.c0
      obtain ⟨rf, hrf⟩ : ∃ rf, rf = plRef n := ⟨_, rfl⟩
      have hrb : 0 ≤ rf ∧ rf < 18446744073709551616 := by rw [hrf]; unfold plRef; split <;> omega
      have HRF : Hid (∀ W, Calls Tryz.prog 26 #[.int .i64 n] W fun e w' => e = .returned (.int .u64 rf) ∧ W = w') := Lib.hid fun W => by rw [hrf]; exact c_Ref n W (by omega) (by omega)
      obtain ⟨mk, hmk⟩ : ∃ mk, mk = s.M rf := ⟨_, rfl⟩
      have HP : Hid (Calls Tryz.prog 16 #[.pointer (some ⟨B.c, 0, none⟩), .int .u64 rf] wr.drew fun e w' => e = .returned (.int .u64 mk) ∧ wr.drew = w') := Lib.hid (by rw [hmk]; exact L1.out.peek rf hrb.1 hrb.2 _ (drew_below wr))
      have HMK : Hid (mkI s.M n = mk) := Lib.hid (by unfold mkI; rw [if_neg (by omega), hmk, hrf])
      have hpx : ¬ B.p = X3 := fun e => by have := HL.out.p.wo.lt; omega
      have hxp : ¬ X3 = B.p := fun e => hpx e.symm
      have hnb0 : (0 : Int) ≤ (n : Int) := by omega
      have hnb1 : (n : Int) < 64 := by omega
      have H3n : Hid ((wr.drew.setCell ⟨X3, n, none⟩ (.int .u64 mk)).heap[X3]? = some (.cells (ir .u64 (mkI s.M) (n + 1)).toArray 36 (0, 0))) := Lib.hid (by
        rw [blk_set (w := wr.drew) H3.out, ← HMK.out, ir_set hn2])
      have H2n : Hid ((wr.drew.setCell ⟨X3, n, none⟩ (.int .u64 mk)).heap[X2]? = some (.cells (List.replicate 64 (.int .u64 0)).toArray 36 (0, 0))) := Lib.hid (by
        rw [heap_setCell_other _ _ _ _ (by show X2 ≠ X3; exact Ne.symm hne)]; exact H2.out)
      have HBn : Hid (Below w.heap.size w (wr.drew.setCell ⟨X3, n, none⟩ (.int .u64 mk))) := Lib.hid (HBB.out.drew.setCell (p := ⟨X3, n, none⟩) hx3 _)
      clear hrf hmk
      go_wp2_with fail
      go_region_held3 (fun w' => w'.cell? ⟨B.p, 0, none⟩ = some (.pointer (some ⟨B.c, 0, none⟩))) (go_keep)
        ((first
          | (go_at_call 26
             refine (HRF.out _).mono ?_
             rintro e w' ⟨rfl, rfl⟩)
          | (go_at_call 16
             refine HP.out.mono ?_
             rintro e w' ⟨rfl, rfl⟩)))
      obtain ⟨W8, hW8⟩ : ∃ W, W = (wr.setCell ⟨X3, n, none⟩ (.int .u64 mk)).drew := ⟨_, rfl⟩
      have hW8' : W8 = wr.drew.setCell ⟨X3, n, none⟩ (.int .u64 mk) := hW8
      rw [← hW8'] at H3n H2n HBn
      rw [← hW8]
      clear hW8 hW8' a0 f0 p0
      go_wp2_with fail
      go_roundw
      case rel => exact ⟨n + 1, by go_num, by omega, by omega, HBn.out, H3n.out, H2n.out⟩
      case measure => simp [intOf]; omega
    · have hn6 : n = 64 := by omega
      subst hn6
      have hsz := ir_size .u64 (mkI s.M) 64
      go_wp2_with (first
        | (refine wpList_load_row rfl 36 _ rfl X3 rfl 36 _ (0, 0) _ H3.out Tryz.underlying36 rfl (by rw [hsz]; kernel_rfl) ?_)
        | (refine wpList_store_row rfl 36 _ _ rfl X2 (ir .u64 (mkI s.M) 64).toArray rfl rfl 36 _ H2.out (by rw [hsz]; kernel_rfl) (by rw [hsz]; simp) (ir_all _ _ _) ?_))
      have h2 := setRow_heap wr X2 _ (ir .u64 (mkI s.M) 64).toArray _ _ H2.out
      exact bodyPost_ret (v := .agg (ir .u64 (mkI s.M) 64).toArray) (results_cell_row Tryz.results44 _ _ X2 _ _ (0, 0) _ (by rfl) h2 Tryz.underlying36 rfl (by rw [hsz]; kernel_rfl)) rfl ⟨rfl, below_setRow HBB.out hx2 _⟩
theorem c_OddE (v : Int) (w : World) (v0 : 0 ≤ v) (v1 : v < 18446744073709551616) : Calls Tryz.prog 27 #[.int .u64 v] w fun e w' => e = .returned (.bool (rfMarked v)) ∧ w = w' := by
  have h := u64_mark v v0 v1
  go_enter Tryz.func27, Tryz.ntmps27
  go_wp2
  go_ret
  exact ⟨ret_bool (by unfold rfMarked; rw [Bool.eq_iff_iff]; simp), rfl⟩
set_option maxHeartbeats 8000000 in
set_option maxRecDepth 100000 in
theorem c_Odds {w0 w : World} {G : Om} {B : Wb} {f : Cf} {s : AW} (L : LW w0 w G B f s) (hv : ∀ i : Nat, i < 64 → s.M (64 + i) % 2 = 0) : Calls Tryz.prog 48 #[.pointer (some ⟨B.p, 0, none⟩)] w fun e w' => e = .returned (.int .i64 0) ∧ Below w.heap.size w w' := by
  have HL := Lib.hid L
  have HV := Lib.hid hv
  have p0 := L.p.wo.c0
  clear L hv
  go_enter Tryz.func48, Tryz.ntmps48
  go_upto_region 3 with fail
  go_loopw [3, 4] (fun nv iv wr => ∃ i : Nat, iv = .int .i64 i ∧ nv = .int .i64 0 ∧ i ≤ 64 ∧ wr = w) (fun _ iv _ => 64 - (intOf iv).toNat)
  case atStart => exact ⟨0, rfl, rfl, by omega, rfl⟩
  case round =>
    obtain ⟨i, rfl, rfl, hi, rfl⟩ := hrel
    by_cases hi2 : i < 64
    · have he := HV.out i hi2
      have hb := HL.out.p.bd (64 + i)
      obtain ⟨m, hm⟩ : ∃ m, m = s.M (64 + i) := ⟨_, rfl⟩
      rw [← hm] at he hb
      have HP : Hid (Calls Tryz.prog 16 #[.pointer (some ⟨B.c, 0, none⟩), .int .u64 (64 + (i : Int))] wr fun e w' => e = .returned (.int .u64 m) ∧ wr = w') := Lib.hid (by rw [hm]; exact HL.out.peek (64 + i) (by omega) (by omega) wr (Below.refl _ _))
      have HO : Hid (Calls Tryz.prog 27 #[.int .u64 m] wr fun e w' => e = .returned (.bool false) ∧ wr = w') := Lib.hid (by
        have h := c_OddE m wr hb.1 hb.2
        rw [show rfMarked m = false from decide_eq_false (by omega)] at h
        exact h)
      clear hm he
      go_wp2_with fail
      refine HP.out.mono ?_
      rintro e w' ⟨rfl, rfl⟩
      go_wp2_with fail
      refine HO.out.mono ?_
      rintro e w' ⟨rfl, rfl⟩
      go_wp2_with fail
      go_roundw
      case rel => exact ⟨i + 1, by go_num, rfl, by omega, trivial⟩
      case measure => simp [intOf]; omega
    · have hi6 : i = 64 := by omega
      subst hi6
      go_wp2_with fail
      go_ret
      exact ⟨rfl, Below.refl _ _⟩
end Go.Proofs.YtlcibfpibklbdaaGreat
