/- Contracts that other seats of ours hold too (taken by sub.py). Contracts that other seats of ours hold too (taken by sub.py). The hash, with its closure. -/
import Derived.Test.YtifkfhnbkjkakaaGreatDoorZrBaA
import Derived.Test.YtifkfhnbkjkakaaGreatDoorZrBaH
import Derived.Deep.RegionWith
import Derived.Laws.AppendOwnNone
namespace Go.Proofs.YtifkfhnbkjkakaaGreatDoor
set_option linter.unusedSimpArgs false
set_option linter.unusedVariables false
section
open Go.RowKit
theorem c_fTag (h : Int) (w : World) (h0 : 0 ≤ h) (h1 : h < 18446744073709551616) :
 Calls Tryz.prog 85 #[.int .u64 h] w fun e w' => e = .returned (.int .i64 (fnvTag h)) ∧ w = w' := by
 by_cases c : h / 72057594037927936 < 1
 · have e : fnvTag h = 1 := by unfold fnvTag; rw [if_pos c]
   rw [e]
   go_enter Tryz.func85, Tryz.ntmps85
   go_wp2
   go_ret
   exact ⟨rfl, rfl⟩
 · have e : fnvTag h = h / 72057594037927936 := by unfold fnvTag; rw [if_neg c]
   rw [e]
   go_enter Tryz.func85, Tryz.ntmps85
   go_wp2
   go_ret
   exact ⟨rfl, rfl⟩
theorem c_fBucket (h b : Int) (w : World) (h0 : 0 ≤ h) (h1 : h < 18446744073709551616) (b0 : -9223372036854775808 ≤ b) (b1 : b ≤ 9223372036854775807) :
 Calls Tryz.prog 209 #[.int .u64 h, .int .i64 b] w fun e w' => e = .returned (.int .i64 (fnvBucket h b)) ∧ w = w' := by
 have hs := fnvSize_bd b
 by_cases c : 1 ≤ b ∧ b ≤ 12
 · have hp := fnvSize_pos c.1 c.2
   have hm : wrap64 (bits .and .u64 h (fnvSize b - 1)) = fnvBucket h b := by
    have := fnvBucket_bd (h := h) c.1 c.2
    rw [bits_and_size h0 h1 c.1 c.2, ← fnvBucket_in c.1 c.2, IntWalk.wrap64_in _ (by omega)]
   have Hm := Lib.hid hm
   clear hm c
   go_enter Tryz.func209, Tryz.ntmps209
   go_wp2_with (go_at_call 205; refine (c_Size _ _ b0 b1).mono ?_; rintro e w' ⟨rfl, rfl⟩)
   go_ret
   exact ⟨ret_int Hm.out, rfl⟩
 · have hz : fnvSize b ≤ 0 := by rw [fnvSize_out (by omega)]; omega
   rw [fnvBucket_out (by omega)]
   clear c
   go_enter Tryz.func209, Tryz.ntmps209
   go_wp2_with (go_at_call 205; refine (c_Size _ _ b0 b1).mono ?_; rintro e w' ⟨rfl, rfl⟩)
   go_ret
   exact ⟨rfl, rfl⟩
theorem c_fOther (k t b : Int) (w : World) (k0 : -9223372036854775808 ≤ k) (k1 : k ≤ 9223372036854775807) (t0 : -9223372036854775808 ≤ t) (t1 : t ≤ 9223372036854775807) (b0 : -9223372036854775808 ≤ b) (b1 : b ≤ 9223372036854775807) :
 Calls Tryz.prog 210 #[.int .i64 k, .int .i64 t, .int .i64 b] w fun e w' => e = .returned (.int .i64 (fnvOther k t b)) ∧ w = w' := by
 have hs := fnvSize_bd b
 by_cases c : 0 ≤ k ∧ k < fnvSize b ∧ 1 ≤ t ∧ t ≤ 255
 · have Hm := Lib.hid (bits_other c)
   obtain ⟨c1, c2, c3, c4⟩ := c
   go_enter Tryz.func210, Tryz.ntmps210
   go_wp2_with (go_at_call 205; refine (c_Size _ _ b0 b1).mono ?_; rintro e w' ⟨rfl, rfl⟩)
   go_ret
   exact ⟨ret_int Hm.out, rfl⟩
 · rw [fnvOther_out c]
   by_cases c1 : k < 0
   · clear c
     go_enter Tryz.func210, Tryz.ntmps210
     go_wp2_with (go_at_call 205; refine (c_Size _ _ b0 b1).mono ?_; rintro e w' ⟨rfl, rfl⟩)
     go_ret
     exact ⟨rfl, rfl⟩
   · by_cases c2 : fnvSize b ≤ k
     · clear c
       go_enter Tryz.func210, Tryz.ntmps210
       go_wp2_with (go_at_call 205; refine (c_Size _ _ b0 b1).mono ?_; rintro e w' ⟨rfl, rfl⟩)
       go_ret
       exact ⟨rfl, rfl⟩
     · by_cases c3 : t < 1
       · clear c
         go_enter Tryz.func210, Tryz.ntmps210
         go_wp2_with (go_at_call 205; refine (c_Size _ _ b0 b1).mono ?_; rintro e w' ⟨rfl, rfl⟩)
         go_ret
         exact ⟨rfl, rfl⟩
       · have c4 : 255 < t := by omega
         clear c
         go_enter Tryz.func210, Tryz.ntmps210
         go_wp2_with (go_at_call 205; refine (c_Size _ _ b0 b1).mono ?_; rintro e w' ⟨rfl, rfl⟩)
         go_ret
         exact ⟨rfl, rfl⟩
end
section
open Go.RowKit
set_option maxRecDepth 100000
set_option maxHeartbeats 4000000
theorem c_once1 (p q : Int × Int) (c : Nat) (w : World) (h0 : w.cell? ⟨c, 0, none⟩ = some (.int .i64 p.1)) (h1 : w.cell? ⟨c, 1, none⟩ = some (.int .i64 p.2)) (hc : c < w.heap.size) :
 Calls Tryz.prog 207 #[.agg #[.int .i64 q.1, .int .i64 q.2], .pointer (some ⟨c, 0, none⟩)] w fun e w' => e = .returned (.bool (decide (q = p))) ∧ Below w.heap.size w w' := by
 go_enter Tryz.func207, Tryz.ntmps207
 go_wp2
 all_goals (go_ret; exact ⟨ret_bool (by simp [Prod.ext_iff, *]), (Below.refl _ _).alloc (Nat.le_refl _) _⟩)
theorem c_IndexFunc (l : List (Int × Int)) (p : Int × Int) (v : Value) (c : Nat) (w : World) (hv : Arr w v l.length 2 (rowOf plc l)) (h0 : w.cell? ⟨c, 0, none⟩ = some (.int .i64 p.1)) (h1 : w.cell? ⟨c, 1, none⟩ = some (.int .i64 p.2)) (hc : c < w.heap.size) :
 Calls Tryz.prog 256 #[v, .func (.func 207) #[] #[.pointer (some ⟨c, 0, none⟩)]] w fun e w' => (∃ i : Int, e = .returned (.int .i64 i) ∧ decide (0 ≤ i) = decide (p ∈ l)) ∧ Below w.heap.size w w' := by
 by_cases hn : 0 < l.length
 · obtain ⟨b, o, cp, rfl, hcp, hm, hb, hx⟩ := hv.open hn (by omega)
   have hcells := plc_cells hx
   clear hx hv
   have hlen : l.length ≤ 9223372036854775807 := by unfold maxLen at hm; omega
   go_enter Tryz.func256, Tryz.ntmps256
   go_wp2
   go_loopw [5, 8] (fun z i wr => ∃ k : Nat, k ≤ l.length ∧ i = .int .i64 k ∧ (∀ j, (hj : j < l.length) → j < k → l[j] ≠ p) ∧ Below w.heap.size w wr)
    (fun _ i _ => l.length - (intOf i).toNat)
   case atStart => exact ⟨0, Nat.zero_le _, rfl, fun j _ hj => absurd hj (by omega), Below.refl _ _⟩
   case round =>
    obtain ⟨k, hk, rfl, hno, hbel⟩ := hrel
    by_cases hk2 : k < l.length
    · obtain ⟨q, hq⟩ : ∃ q, q = l[k] := ⟨_, rfl⟩
      have q0 := (hbel.cell (p := ⟨b, o + k * 2, none⟩) hb).trans (hcells k hk2).1
      have q1 := (hbel.cell (p := ⟨b, o + k * 2 + 1, none⟩) hb).trans (hcells k hk2).2
      rw [← hq] at q0 q1
      have Hq := Lib.hid hq
      have Hno := Lib.hid hno
      have g0 := (hbel.cell (p := ⟨c, 0, none⟩) hc).trans h0
      have g1 := (hbel.cell (p := ⟨c, 1, none⟩) hc).trans h1
      have gc := Nat.lt_of_lt_of_le hc hbel.size
      clear hcells h0 h1 hq hno
      go_wp2_with (go_at_call 207; refine (c_once1 p q _ _ g0 g1 gc).mono ?_; rintro e w1 ⟨rfl, hb1⟩)
      · have hqp : q = p := by assumption
        go_ret
        exact ⟨⟨k, rfl, by rw [decide_eq_decide]; exact ⟨fun _ => by rw [← hqp, Hq.out]; exact List.getElem_mem _, fun _ => by omega⟩⟩, hbel.trans (hb1.mono hbel.size)⟩
      · have hqp : ¬ q = p := by assumption
        go_roundw
        case rel => exact ⟨k + 1, by omega, by go_num, no_more Hq.out Hno.out hqp, hbel.trans (hb1.mono hbel.size)⟩
        case measure => simp [intOf]; omega
    · clear hcells
      go_wp2
      go_ret
      exact ⟨⟨-1, rfl, by rw [decide_eq_decide]; refine ⟨fun h => absurd h (by omega), fun h => ?_⟩; obtain ⟨j, hj, rfl⟩ := List.getElem_of_mem h; exact absurd rfl (hno j hj (by omega))⟩, hbel⟩
 · obtain ⟨ao, cp, rfl, hcp, hm⟩ := hv.shape
   have hl : l.length = 0 := by omega
   have hl' : l = [] := List.eq_nil_of_length_eq_zero hl
   subst hl'
   go_enter Tryz.func256, Tryz.ntmps256
   go_wp2
   refine wp_loop_rounds 1 ?_
   rw [rounds_succ]
   go_wp2
   go_ret
   exact ⟨⟨-1, rfl, by simp⟩, Below.refl _ _⟩
theorem c_ContainsFunc (l : List (Int × Int)) (p : Int × Int) (v : Value) (c : Nat) (w : World) (hv : Arr w v l.length 2 (rowOf plc l)) (h0 : w.cell? ⟨c, 0, none⟩ = some (.int .i64 p.1)) (h1 : w.cell? ⟨c, 1, none⟩ = some (.int .i64 p.2)) (hc : c < w.heap.size) :
 Calls Tryz.prog 206 #[v, .func (.func 207) #[] #[.pointer (some ⟨c, 0, none⟩)]] w fun e w' => e = .returned (.bool (decide (p ∈ l))) ∧ Below w.heap.size w w' := by
 go_enter Tryz.func206, Tryz.ntmps206
 go_wp2_with (go_at_call 256; refine (c_IndexFunc l p v c _ hv h0 h1 hc).mono ?_; rintro e w1 ⟨⟨i, rfl, hi⟩, hb1⟩)
 go_ret
 exact ⟨ret_bool (by first | exact hi | rfl), hb1⟩
theorem c_Clip (ao : Option Addr) (n c : Nat) (w : World) (hn : n ≤ c) (hc : c ≤ maxLen) (ha : ao = none → c = 0) :
 Calls Tryz.prog 208 #[.slice ao n c] w fun e w' => e = .returned (.slice ao n n) ∧ w = w' := by
 unfold maxLen at hc
 cases ao with
 | none =>
   obtain rfl := ha rfl
   obtain rfl : n = 0 := by omega
   go_enter Tryz.func208, Tryz.ntmps208
   go_wp2
   go_ret
   exact ⟨rfl, rfl⟩
 | some a =>
   go_enter Tryz.func208, Tryz.ntmps208
   go_wp2
   go_ret
   exact ⟨rfl, rfl⟩
theorem plOnce_take (l : List (Int × Int)) (k : Nat) (hk : k < l.length) : plOnce (l.take (k + 1)) = plAdd (plOnce (l.take k)) l[k] := by
 rw [List.take_succ_eq_append_getElem hk, plOnce_snoc]
def Fresh (w : World) (B : Nat) (v : Value) : Prop := ∀ a n c, v = .slice (some a) n c → B ≤ a.block ∧ ∃ o, a = ⟨a.block, o, none⟩ ∧ ∀ j, w.frozen? ⟨a.block, j, none⟩ = false
theorem c_once (l : List (Int × Int)) (v : Value) (w : World) (hv : Arr w v l.length 2 (rowOf plc l)) (hl : l.length ≤ 1000) :
 Calls Tryz.prog 150 #[v] w fun e w' => (∃ v', e = .returned v' ∧ Arr w' v' (plOnce l).length 2 (rowOf plc (plOnce l)) ∧ Fresh w' w.heap.size v' ∧ ∃ ao, v' = .slice ao (plOnce l).length (plOnce l).length) ∧ Below w.heap.size w w' := by
 obtain ⟨i0, hi, hz0, hz1, hz2⟩ := info_parts infoPl
 obtain ⟨ao, cp, rfl, hcp, hm⟩ := hv.shape
 go_enter Tryz.func150, Tryz.ntmps150
 go_wp2
 go_loopw [2, 7] (fun vo i wr => ∃ k : Nat, k ≤ l.length ∧ i = .int .i64 k ∧ wr.ownsRow w.heap.size 73 2 vo (plOnce (l.take k)).length (rowOf plc (plOnce (l.take k))) ∧ Below w.heap.size w wr)
  (fun _ i _ => l.length - (intOf i).toNat)
 case atStart => exact ⟨0, Nat.zero_le _, rfl, World.ownsRow_nil _ _ _ _, Below.refl _ _⟩
 case round =>
  obtain ⟨k, hk, rfl, hown, hbel⟩ := hrel
  by_cases hk2 : k < l.length
  · obtain ⟨b, o, c', he, hcp, hm, hb, hx⟩ := hv.open (by omega) (by omega)
    cases he
    have hcells := plc_cells hx k hk2
    obtain ⟨q, hq⟩ : ∃ q, q = l[k] := ⟨_, rfl⟩
    rw [← hq] at hcells
    have q0 := (hbel.cell (p := ⟨b, o + k * 2, none⟩) hb).trans hcells.1
    have q1 := (hbel.cell (p := ⟨b, o + k * 2 + 1, none⟩) hb).trans hcells.2
    have HD := Lib.hid (plOnce_take l k hk2)
    have hlen := plOnce_len (l.take k)
    rw [List.length_take] at hlen
    have hlen2 : (plOnce (l.take k)).length ≤ 1000 := by omega
    obtain ⟨D, hD⟩ : ∃ D, D = plOnce (l.take k) := ⟨_, rfl⟩
    rw [← hD] at hown hlen2
    have HD2 := Lib.hid hD
    have Hq := Lib.hid hq
    clear hx hv hcells hq hlen hD
    have hsz : w.heap.size ≤ wr.heap.size := hbel.size
    go_wp2_with (first | (go_at_call 206; refine (c_ContainsFunc D q u2 _ _ ((Arr.of_own hown).below (by repeat (first | (with_reducible exact Below.refl _ _) | (with_reducible refine below_alloc ?_ _) | (with_reducible refine below_setCell ?_ (by simp) _ _)))) (by simp) (by simp) (by simp)).mono ?_; rintro e w1 ⟨rfl, hb1⟩; have d0 : w1.cell? ⟨wr.heap.size, 0, none⟩ = some (.int .i64 q.1) := (hb1.cell (p := ⟨wr.heap.size, 0, none⟩) (by simp)).trans (by simp); have d1 : w1.cell? ⟨wr.heap.size, 1, none⟩ = some (.int .i64 q.2) := (hb1.cell (p := ⟨wr.heap.size, 1, none⟩) (by simp)).trans (by simp); have hown1 := ownsRow_below (hown.alloc _) hb1; have hbel1 : Below w.heap.size w w1 := (hbel.alloc hbel.size _).trans (hb1.mono (by simp; omega)); clear hb1) | (at_builtin; refine append_one _ rfl _ _ 185 rfl w.heap.size 73 i0 (.agg #[.int .i64 0, .int .i64 0]) 2 16 Tryz.underlying185 hi hz0 hz1 hz2 rfl (by decide) (by decide) _ _ _ rfl hown1 [.int .i64 q.1, .int .i64 q.2] _ rfl rfl (by simp [Value.oneCell']) (by omega) hbel1.size ?_; intro g cap w2 hown2 hgr2; have hbel2 := below_grown hbel1 hbel1.size hown1 hgr2; clear hgr2))
    · have hin : ¬ q ∈ D := by have h : (!decide (q ∈ D)) = true := by assumption
                               simpa using h
      have E : plOnce (l.take (k + 1)) = D ++ [q] := by rw [HD.out, ← HD2.out, ← Hq.out]; unfold plAdd; rw [if_neg hin]
      go_roundw
      case rel => exact ⟨k + 1, by omega, by go_num, by rw [E, rowOf_snoc, List.length_append]; exact hown2, hbel2⟩
      case measure => simp [intOf]; omega
    · have hin : q ∈ D := by have h : (!decide (q ∈ D)) = false := by assumption
                             simpa using h
      have E : plOnce (l.take (k + 1)) = D := by rw [HD.out, ← HD2.out, ← Hq.out]; unfold plAdd; rw [if_pos hin]
      go_roundw
      case rel => exact ⟨k + 1, by omega, by go_num, by rw [E]; exact hown1, hbel1⟩
      case measure => simp [intOf]; omega
  · obtain rfl : k = l.length := by omega
    rw [List.take_length] at hown
    clear hv
    have hA := Arr.of_own hown
    rcases hown.2 with ⟨rfl, h0⟩ | ⟨g, cap, cur, rfl, hbg, hgg, hnc, hcm, _⟩
    · clear hown
      go_wp2_with (go_at_call 208; refine (c_Clip none 0 0 _ (Nat.le_refl _) (by unfold maxLen; omega) (fun _ => rfl)).mono ?_; rintro e w1 ⟨rfl, rfl⟩)
      go_ret
      exact ⟨⟨.slice none 0 0, rfl, hA, (fun a n c h => by cases h), none, by rw [h0]⟩, hbel⟩
    · have hfz := hown.frozenAt
      have hA2 := hA.clip
      clear hown hgg hA
      go_wp2_with (go_at_call 208; refine (c_Clip _ _ _ _ hnc hcm (fun h => by cases h)).mono ?_; rintro e w1 ⟨rfl, rfl⟩)
      go_ret
      exact ⟨⟨_, rfl, hA2, fun a n c h => (by cases h; exact ⟨hbg, 0, rfl, hfz⟩), _, rfl⟩, hbel⟩
theorem c_pair_in (h b : Int) (w : World) (h0 : 0 ≤ h) (h1 : h < 18446744073709551616) (b0 : 1 ≤ b) (b1 : b ≤ 12) :
 Calls Tryz.prog 151 #[.int .u64 h, .int .i64 b] w fun e w' => e = .returned (.slice (some ⟨w.heap.size, 0, none⟩) 2 2) ∧ w' = w.alloc (.cells (rowOf plc (plPair h b)).toArray 73) := by
 have ht := fnvTag_bd h h0 h1
 have hbk := fnvBucket_bd (h := h) b0 b1
 have hsz := fnvSize_bd b
 have hot := fnvOther_bd (k := fnvBucket h b) (t := fnvTag h) (b := b) (by omega)
 rw [plPair_in b0 b1]
 go_enter Tryz.func151, Tryz.ntmps151
 go_wp2_with (first | (go_at_call 209; refine (c_fBucket _ _ _ h0 h1 (by omega) (by omega)).mono ?_; rintro e w' ⟨rfl, rfl⟩) | (go_at_call 85; refine (c_fTag _ _ h0 h1).mono ?_; rintro e w' ⟨rfl, rfl⟩) | (go_at_call 210; refine (c_fOther _ _ _ _ (by omega) (by omega) (by omega) (by omega) (by omega) (by omega)).mono ?_; rintro e w' ⟨rfl, rfl⟩))
 go_ret
 exact ⟨rfl, rfl⟩
theorem c_pair_out (h b : Int) (w : World) (h0 : 0 ≤ h) (h1 : h < 18446744073709551616) (hb : b = 0) :
 Calls Tryz.prog 151 #[.int .u64 h, .int .i64 b] w fun e w' => e = .returned (.slice none 0 0) ∧ w' = w := by
 have hbk := fnvBucket_out (h := h) (b := b) (by omega)
 go_enter Tryz.func151, Tryz.ntmps151
 go_wp2_with (first | (go_at_call 209; refine (c_fBucket _ _ _ h0 h1 (by omega) (by omega)).mono ?_; rintro e w' ⟨rfl, rfl⟩))
 go_ret
 exact ⟨rfl, rfl⟩
theorem c_once' (l : List (Int × Int)) (n : Nat) (hn : l.length = n) (v : Value) (w : World) (hv : Arr w v n 2 (rowOf plc l)) (hl : n ≤ 1000) :
 Calls Tryz.prog 150 #[v] w fun e w' => (∃ v', e = .returned v' ∧ Arr w' v' (plOnce l).length 2 (rowOf plc (plOnce l)) ∧ Fresh w' w.heap.size v' ∧ ∃ ao, v' = .slice ao (plOnce l).length (plOnce l).length) ∧ Below w.heap.size w w' := by
 subst hn
 exact c_once l v w hv hl
theorem plPair_len (h b : Int) (b0 : 1 ≤ b) (b1 : b ≤ 12) : (plPair h b).length = 2 := by rw [plPair_in b0 b1]; rfl
theorem plPair_own (w : World) (h b : Int) (b0 : 1 ≤ b) (b1 : b ≤ 12) (base : Nat) (hb : base ≤ w.heap.size) (e : TypeId) :
 (w.alloc (.cells (rowOf plc (plPair h b)).toArray e)).ownsRow base e 2 (.slice (some ⟨w.heap.size, 0, none⟩) 2 2) 2 (rowOf plc (plPair h b)) := by
 have := World.ownsRow_lit (base := base) (e := e) (size := 2) w (rowOf plc (plPair h b)).toArray 2 hb (by unfold maxLen; omega) (by simp [rowOf_len plc_len, plPair_len h b b0 b1])
 simpa using this
theorem c_Places (h x : Int) (w : World) (h0 : 0 ≤ h) (h1 : h < 18446744073709551616) (x0 : 0 ≤ x) (x1 : x < 18446744073709551616) :
 Calls Tryz.prog 83 #[.int .u64 h, .int .u64 x] w fun e w' => (∃ v', e = .returned v' ∧ Arr w' v' (plPlaces h x).length 2 (rowOf plc (plPlaces h x)) ∧ Fresh w' w.heap.size v' ∧ ∃ ao, v' = .slice ao (plPlaces h x).length (plPlaces h x).length) ∧ Below w.heap.size w w' := by
 obtain ⟨i0, hi, hz0, hz1, hz2⟩ := info_parts infoPl
 have ho := plOld_bd x
 have hl1 := plPair_len h (plOld x) ho.1 ho.2
 have hown := plPair_own w h (plOld x) ho.1 ho.2 w.heap.size (Nat.le_refl _) 73
 have hB : Below w.heap.size w (w.alloc (.cells (rowOf plc (plPair h (plOld x))).toArray 73)) := (Below.refl _ _).alloc (Nat.le_refl _) _
 rcases plNow_cases x with c | ⟨c, c12⟩
 · have e1 : plPlaces h x = plOnce (plPair h (plOld x)) := by unfold plPlaces; rw [plPair_out (b := plNow x) (by omega), List.append_nil]
   have hC := c_once' (plPair h (plOld x)) 2 hl1 _ _ (Arr.of_own hown) (by omega)
   rw [e1]
   clear e1
   go_enter Tryz.func83, Tryz.ntmps83
   go_wp2_with (first | (go_at_call 149; refine (c_As _ _ x0 x1).mono ?_; rintro e w' ⟨rfl, rfl⟩) | (go_at_call_of 151 (plOld x); refine (c_pair_in h (plOld x) _ h0 h1 (by omega) (by omega)).mono ?_; rintro e w' ⟨rfl, rfl⟩) | (go_at_call 151; refine (c_pair_out h 0 _ h0 h1 rfl).mono ?_; rintro e w' ⟨rfl, rfl⟩) | (at_builtin; refine wpList_append_own_none rfl _ _ 185 rfl w.heap.size 73 i0 2 Tryz.underlying185 hi _ _ _ rfl hown rfl ?_) | (go_at_call 150; refine hC.mono ?_; rintro e w2 ⟨⟨v, rfl, hv⟩, hb⟩))
   go_ret
   exact ⟨⟨v, rfl, hv.1, (fun a n c h => ⟨Nat.le_trans hB.size (hv.2.1 a n c h).1, (hv.2.1 a n c h).2⟩), hv.2.2⟩, hB.trans (hb.mono hB.size)⟩
 · have ho2 : 1 ≤ plNow x ∧ plNow x ≤ 12 := by omega
   have hl2 := plPair_len h (plNow x) ho2.1 ho2.2
   clear c c12
   go_enter Tryz.func83, Tryz.ntmps83
   go_wp2_with (first | (go_at_call 149; refine (c_As _ _ x0 x1).mono ?_; rintro e w' ⟨rfl, rfl⟩) | (go_at_call_of 151 (plNow x); refine (c_pair_in h (plNow x) _ h0 h1 (by omega) (by omega)).mono ?_; rintro e w' ⟨rfl, rfl⟩) | (go_at_call 151; refine (c_pair_in h (plOld x) _ h0 h1 (by omega) (by omega)).mono ?_; rintro e w' ⟨rfl, rfl⟩) | (at_builtin; refine wpList_append_own _ rfl _ _ 185 rfl w.heap.size 73 i0 (.agg #[.int .i64 0, .int .i64 0]) 2 16 Tryz.underlying185 hi hz0 hz1 hz2 rfl (by decide) _ _ _ rfl (hown.alloc _) ⟨w.heap.size + 1, 0, none⟩ 2 2 (rowOf plc (plPair h (plNow x))) rfl (by rw [rowOf_len plc_len, hl2]) (alloc_cells _ _ _ _ (by simp)) (plc_one _) (by unfold maxLen; omega) (by omega) (by simp; omega) ?_; intro v1 w1 hown1 hgr1 _; have hB1 := below_grown (hB.alloc hB.size _) (by simp; omega) (hown.alloc _) hgr1; have hC := c_once' (plPair h (plOld x) ++ plPair h (plNow x)) 4 (by rw [List.length_append, hl1, hl2]) v1 w1 (Arr.of_own (by rw [rowOf_append]; exact hown1)) (by omega); clear hgr1 hown1) | (go_at_call 150; refine hC.mono ?_; rintro e w2 ⟨⟨v, rfl, hv⟩, hb⟩))
   go_ret
   exact ⟨⟨v, rfl, hv.1, (fun a n c h => ⟨Nat.le_trans hB1.size (hv.2.1 a n c h).1, (hv.2.1 a n c h).2⟩), hv.2.2⟩, hB1.trans (hb.mono hB1.size)⟩
end
section
open Go.RowKit
theorem hstep_q {h c : Int} (h0 : 0 ≤ h) (h1 : h < 18446744073709551616) (c0 : 0 ≤ c) (c1 : c < 256) : IntKind.u64.wrap (bits .xor .u64 h c * 1099511628211) = fnvStep h c := by
 rw [u64_xor h c h0 h1 c0 (by omega), IntKind.wrap_u64]
 unfold fnvStep
 omega
theorem c_add (b : Nat) (h c : Int) (w : World) (h0 : 0 ≤ h) (h1 : h < 18446744073709551616) (c0 : 0 ≤ c) (c1 : c < 256) (hc : w.cell? ⟨b, 0, none⟩ = some (.int .u64 h)) (hf : w.frozen? ⟨b, 0, none⟩ = false) :
 Calls Tryz.prog 148 #[.pointer (some ⟨b, 0, none⟩), .int .u8 c] w fun e w' => e = .returned (.tuple #[]) ∧ w.setCell ⟨b, 0, none⟩ (.int .u64 (fnvStep h c)) = w' := by
 have Hm := Lib.hid (hstep_q h0 h1 c0 c1)
 go_enter Tryz.func148, Tryz.ntmps148
 go_wp2
 go_end0
 exact ⟨rfl, by rw [Hm.out]⟩
theorem c_each (s : ByteArray) (w : World) (hs : s.size ≤ maxLen) (h : Int) (h0 : 0 ≤ h) (h1 : h < 18446744073709551616) (T : Nat) :
 Calls Tryz.prog 147 #[.string s, .func (.func 148) #[.pointer (some ⟨w.heap.size, 0, none⟩)] #[]] (w.alloc (.cells #[.int .u64 h] T)) fun e w' => e = .returned (.tuple #[]) ∧ w.alloc (.cells #[.int .u64 (fnvFrom h s.data.toList)] T) = w' := by
 unfold maxLen at hs
 go_enter Tryz.func147, Tryz.ntmps147
 go_wp2
 go_loopw [7] (fun i wr => ∃ k : Nat, k ≤ s.size ∧ i = .int .i64 k ∧ wr = w.alloc (.cells #[.int .u64 (fnvFrom h (s.data.toList.take k))] T)) (fun i _ => s.size - (intOf i).toNat)
 case atStart => exact ⟨0, Nat.zero_le _, rfl, by simp [fnvFrom_nil]⟩
 case round =>
  obtain ⟨k, hk, rfl, rfl⟩ := hrel
  have hb := fnvFrom_bd h (s.data.toList.take k) h0 h1
  by_cases hlt : k < s.size
  · have HS := Lib.hid (show fnvFrom h (s.data.toList.take (k + 1)) = fnvStep (fnvFrom h (s.data.toList.take k)) (s[k].toNat : Int) by rw [take_snoc s k hlt, fnvFrom_snoc])
    have hc0 : (0 : Int) ≤ (s[k].toNat : Int) := by omega
    have hc1 : (s[k].toNat : Int) < 256 := by have := s[k].toNat_lt; omega
    have g1 := Lib.hid (show (w.alloc (.cells #[.int .u64 (fnvFrom h (s.data.toList.take k))] T)).cell? ⟨w.heap.size, 0, none⟩ = some (.int .u64 (fnvFrom h (s.data.toList.take k))) by simp)
    have g2 := Lib.hid (show (w.alloc (.cells #[.int .u64 (fnvFrom h (s.data.toList.take k))] T)).frozen? ⟨w.heap.size, 0, none⟩ = false by simp)
    go_wp2_with (go_at_call 148; refine (c_add _ _ _ _ hb.1 hb.2 hc0 hc1 g1.out g2.out).mono ?_; rintro e w' ⟨rfl, rfl⟩)
    go_roundw
    case rel => exact ⟨k + 1, by omega, by go_num, by rw [HS.out]⟩
    case measure => simp [intOf]; omega
  · go_wp2
    go_end0
    exact ⟨rfl, by rw [List.take_of_length_le (by simp; omega)]⟩
theorem c_Hash (s : ByteArray) (w : World) (hs : s.size ≤ maxLen) :
 Calls Tryz.prog 82 #[.string s] w fun e w' => e = .returned (.int .u64 (fnvHash s.data.toList)) ∧ w.alloc (.cells #[.int .u64 (fnvHash s.data.toList)] 264) = w' := by
 go_enter Tryz.func82, Tryz.ntmps82
 go_wp2_with (go_at_call 147; refine (c_each _ _ hs _ (by decide) (by decide) _).mono ?_; rintro e w' ⟨rfl, rfl⟩)
 go_ret
 exact ⟨rfl, rfl⟩
end
end Go.Proofs.YtifkfhnbkjkakaaGreatDoor
