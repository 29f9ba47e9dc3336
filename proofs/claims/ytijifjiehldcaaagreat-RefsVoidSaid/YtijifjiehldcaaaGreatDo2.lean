/- Contracts that other seats of ours hold too (taken by sub.py). -/
import Derived.Test.YtijifjiehldcaaaGreatDo1
import Derived.Test.YtijifjiehldcaaaGreatOw
namespace Go.Proofs.YtijifjiehldcaaaGreat
set_option linter.unusedSimpArgs false
open Go.RowKit
set_option linter.unusedVariables false
theorem below_drewN {B : Nat} {a w : World} (h : Below B a w) (n : Nat) : Below B a (w.drewN n) := ⟨h.os, h.tape, h.output, h.size, h.block⟩
theorem plAdd_in {l : List (Int × Int)} {p : Int × Int} (h : p ∈ l) : plAdd l p = l := by unfold plAdd; rw [if_pos h]
theorem c_rwith (base : Nat) (l : List (Int × Int)) (n : Nat) (hn : n = l.length) (v : Value) (p : Int × Int) (w : World) (hown : w.ownsRow base 136 2 v n (rowOf plc l)) (hb : base ≤ w.heap.size) (hl : n ≤ 1000) :
    Calls Tryz.prog 133 #[v, .agg #[.int .i64 p.1, .int .i64 p.2]] w fun e w' => (∃ v', e = .returned v' ∧ w'.ownsRow base 136 2 v' (plAdd l p).length (rowOf plc (plAdd l p))) ∧ Below base w w' := by
  obtain ⟨i0, hi, hz0, hz1, hz2⟩ := info_parts infoPl
  have hA := Arr.of_own hown
  obtain ⟨ao, cp, rfl, hcp, hm⟩ := hA.shape
  have hm' : n ≤ 9223372036854775807 := by omega
  go_enter Tryz.func133, Tryz.ntmps133
  go_wp2
  go_loopw [5] (fun i wr => ∃ k : Nat, k ≤ n ∧ i = .int .i64 k ∧ (∀ j, (hj : j < l.length) → j < k → l[j] ≠ p) ∧ Below (w.alloc (.cells #[.int .i64 p.1, .int .i64 p.2] 136)).heap.size (w.alloc (.cells #[.int .i64 p.1, .int .i64 p.2] 136)) wr)
    (fun i _ => n - (intOf i).toNat)
  case atStart => exact ⟨0, Nat.zero_le _, rfl, fun j _ hj => absurd hj (by omega), Below.refl _ _⟩
  case round =>
    obtain ⟨k, hk, rfl, hno, hbel⟩ := hrel
    have g0 : wr.cell? ⟨w.heap.size, 0, none⟩ = some (.int .i64 p.1) := (hbel.cell (p := ⟨w.heap.size, 0, none⟩) (by simp)).trans (by simp)
    have g1 : wr.cell? ⟨w.heap.size, 1, none⟩ = some (.int .i64 p.2) := (hbel.cell (p := ⟨w.heap.size, 1, none⟩) (by simp)).trans (by simp)
    have hown1 := ownsRow_below (hown.alloc _) hbel
    have hbel1 : Below base w wr := ((Below.refl _ _).alloc hb _).trans (hbel.mono (by simp; omega))
    have hsz : w.heap.size + 1 ≤ wr.heap.size := by have := hbel.size; simpa using this
    have hA1 := Arr.of_own hown1
    clear hown hA
    by_cases hk2 : k < n
    · obtain ⟨b, o, c', he, hcp, hm, hb, hx⟩ := hA1.open (by omega) (by omega)
      cases he
      subst hn
      obtain ⟨q0, q1⟩ := plc_cells hx k hk2
      obtain ⟨q, hq⟩ : ∃ q, q = l[k] := ⟨_, rfl⟩
      rw [← hq] at q0 q1
      have Hq := Lib.hid hq
      have Hno := Lib.hid hno
      clear hx hA1 hq hno
      by_cases hqp : q = p
      · subst hqp
        go_wp2
        go_quiet (fail)
        go_wp2
        go_ret
        exact ⟨⟨_, rfl, by rw [plAdd_in (by rw [Hq.out]; exact List.getElem_mem _)]; exact hown1⟩, below_drewN hbel1 _⟩
      · have e1 : (q.1 == p.1 && q.2 == p.2) = false := by
          by_cases h1 : q.1 = p.1
          · have h2 : q.2 ≠ p.2 := fun h2 => hqp (Prod.ext h1 h2)
            simp [h2]
          · simp [h1]
        have Hqp := Lib.hid hqp
        clear hqp
        by_cases h1 : q.1 = p.1
        all_goals
          first | (have h2 : (q.2 == p.2) = false := by simpa [h1] using e1) | (have h2 : (q.1 == p.1) = false := by simpa using h1)
          clear e1
          first | clear h1 | skip
          go_wp2
          go_quiet (fail)
          go_wp2
          go_roundw
          case rel => exact ⟨k + 1, by omega, by go_num, no_more Hq.out Hno.out Hqp.out, below_drewN hbel _⟩
          case measure => simp [intOf]; omega
    · obtain rfl : k = n := by omega
      have hin : ¬ p ∈ l := by
        intro h
        obtain ⟨j, hj, e⟩ := List.getElem_of_mem h
        exact hno j hj (by omega) e
      have E : plAdd l p = l ++ [p] := by unfold plAdd; rw [if_neg hin]
      have HE := Lib.hid E
      have Hn := Lib.hid hn
      have hbs : base ≤ wr.heap.size := by omega
      clear hno hin E hn hA1
      go_wp2_with (at_builtin; refine append_one _ rfl _ _ 184 rfl base 136 i0 (.agg #[.int .i64 0, .int .i64 0]) 2 16 Tryz.underlying184 hi hz0 hz1 hz2 rfl (by decide) (by decide) _ _ _ rfl hown1 [.int .i64 p.1, .int .i64 p.2] _ rfl rfl (by simp [Value.oneCell']) (by omega) hbs ?_; intro g cap w2 hown2 hgr2; have hbel2 := below_grown hbel1 hbs hown1 hgr2; clear hgr2)
      go_ret
      exact ⟨⟨_, rfl, by rw [HE.out, rowOf_snoc, List.length_append, ← Hn.out]; exact hown2⟩, hbel2⟩

theorem infoInt : (Tryz.prog.info? 3).map (fun i => (i.zero, i.size, i.bytes)) = some (some (.int .i64 0), 1, 8) := by kernel_rfl
theorem plAdd_len (l : List (Int × Int)) (p : Int × Int) : (plAdd l p).length ≤ l.length + 1 := by unfold plAdd; split <;> simp
/-- The places in the first k of some tables. -/
def plRun (h : Int) (bs : List Int) (k : Nat) : List (Int × Int) := plOnce ((bs.take k).flatMap (plPair h))
theorem plRun_succ (h : Int) (bs : List Int) (k : Nat) (b : Int) (hb : bs[k]? = some b) (b0 : 1 ≤ b) (b1 : b ≤ 12) : plRun h bs (k + 1) = plAdd (plAdd (plRun h bs k) (b, fnvBucket h b)) (b, fnvOther (fnvBucket h b) (fnvTag h) b) := by
  obtain ⟨hk, rfl⟩ := List.getElem?_eq_some_iff.1 hb
  unfold plRun
  rw [List.take_succ_eq_append_getElem hk, List.flatMap_append, List.flatMap_singleton, plPair_in b0 b1, show ∀ (a : List (Int × Int)) (x y : Int × Int), a ++ [x, y] = a ++ [x] ++ [y] by simp, plOnce_snoc, plOnce_snoc]
theorem plRun_len (h : Int) (bs : List Int) (k : Nat) : (plRun h bs k).length ≤ 2 * k := by
  unfold plRun
  refine Nat.le_trans (plOnce_len _) ?_
  have : ∀ l : List Int, (l.flatMap (plPair h)).length ≤ 2 * l.length := by
    intro l
    induction l with
    | nil => simp
    | cons a l ih =>
      have : (plPair h a).length ≤ 2 := by unfold plPair; split <;> simp
      simp only [List.flatMap_cons, List.length_append, List.length_cons]
      omega
  have := this (bs.take k)
  have := List.length_take_le k bs
  omega
theorem plRun_one (h x : Int) (hc : plNow x = 0) : plRun h [plOld x] 1 = plPlaces h x := by
  unfold plRun plPlaces
  rw [hc, plPair_out (b := 0) (by omega)]
  simp
theorem plRun_two (h x : Int) : plRun h [plOld x, plNow x] 2 = plPlaces h x := by unfold plRun plPlaces; simp

theorem cell_newD (W : World) (cs : Array Value) (e : TypeId) (N j : Nat) (u : Value) (hN : N = W.heap.size) (hj : cs[j]? = some u) : (W.alloc (.cells cs e)).cell? ⟨N, j, none⟩ = some u := by
  subst hN
  unfold World.cell?
  rw [heap_alloc_new]
  simpa using hj
theorem ownsRow_mono {w : World} {base base' : Nat} {e : TypeId} {size : Nat} {v : Value} {n : Nat} {xs : List Value} (h : w.ownsRow base e size v n xs) (hb : base' ≤ base) : w.ownsRow base' e size v n xs := by
  refine ⟨h.1, ?_⟩
  rcases h.2 with hn | ⟨g, cap, cur, hv, hbs, rest⟩
  · exact .inl hn
  · exact .inr ⟨g, cap, cur, hv, Nat.le_trans hb hbs, rest⟩
theorem c_rPlaces (h x : Int) (w : World) (h0 : 0 ≤ h) (h1 : h < 18446744073709551616) (x0 : 0 ≤ x) (x1 : x < 18446744073709551616) :
    Calls Tryz.prog 94 #[.int .u64 h, .int .u64 x] w fun e w' => (∃ v', e = .returned v' ∧ w'.ownsRow w.heap.size 136 2 v' (plPlaces h x).length (rowOf plc (plPlaces h x))) ∧ Below w.heap.size w w' := by
  have ho := plOld_bd x
  have ht := fnvTag_bd h h0 h1
  rcases plNow_cases x with c | ⟨c, c12⟩
  · have HE := Lib.hid (plRun_one h x c)
    have HBS : Hid (∀ z ∈ [plOld x], 1 ≤ z ∧ z ≤ 12) := by intro z hz; simp at hz; omega
    go_enter Tryz.func94, Tryz.ntmps94
    go_wp2_with (first | (go_at_call 131; refine (c_rAs _ _ x0 x1).mono ?_; rintro e w' ⟨rfl, rfl⟩))
    go_loopw [8, 9, 10] (fun vo i b wr => ∃ k : Nat, k ≤ 1 ∧ i = .int .i64 k ∧ wr.ownsRow (w.heap.size + 1) 136 2 vo (plRun h [plOld x] k).length (rowOf plc (plRun h [plOld x] k)) ∧ Below w.heap.size w wr ∧ w.heap.size < wr.heap.size ∧ (∀ j z, [plOld x][j]? = some z → wr.cell? ⟨w.heap.size, j, none⟩ = some (.int .i64 z)))
      (fun _ i _ _ => 1 - (intOf i).toNat)
    case atStart => exact ⟨0, Nat.zero_le _, rfl, World.ownsRow_nil _ _ _ _, (Below.refl _ _).alloc (Nat.le_refl _) _, by simp, by intro j z hj; match j, hj with | 0, hj => (cases hj; simp)⟩
    case round =>
      obtain ⟨k, hk, rfl, hown, hbel, hsz, hrow⟩ := hrel
      by_cases hk2 : k < 1
      · have hk3 : k < [plOld x].length := hk2
        obtain ⟨z, hz⟩ : ∃ z, [plOld x][k]? = some z := ⟨_, List.getElem?_eq_getElem hk3⟩
        obtain ⟨z0, z1⟩ := HBS.out z (List.mem_of_getElem? hz)
        have hc := hrow k z hz
        have HR := Lib.hid (plRun_succ h [plOld x] k z hz z0 z1)
        have hl0 := plRun_len h [plOld x] k
        have hl1 := plAdd_len (plRun h [plOld x] k) (z, fnvBucket h z)
        obtain ⟨D, hD⟩ : ∃ D, D = plRun h [plOld x] k := ⟨_, rfl⟩
        rw [← hD] at hown hl0 hl1
        have HD := Lib.hid hD
        have Hrow := Lib.hid hrow
        have hbk := fnvBucket_bd (h := h) z0 z1
        have hzs := fnvSize_bd z
        have hB : w.heap.size + 1 ≤ wr.heap.size := by omega
        clear hD hrow hk3 hz
        go_wp2_with (first | (go_at_call 132; refine (c_rBucket _ _ _ h0 h1 (by omega) (by omega)).mono ?_; rintro e w' ⟨rfl, rfl⟩) | (go_at_call 133; refine (c_rwith (w.heap.size + 1) D _ rfl _ (z, fnvBucket h z) _ hown hB (by omega)).mono ?_; rintro e w1 ⟨⟨v1, rfl, hown1⟩, hb1⟩; have hc1 := (hb1.cell (p := ⟨w.heap.size, k, none⟩) (by simp)).trans hc; have hB1 := Nat.le_trans hB hb1.size; have hbel1 := hbel.trans (hb1.mono (by omega)); clear hown))
        go_region_held3 (fun w' => w'.cell? ⟨w.heap.size, k, none⟩ = some (.int .i64 z)) (first | go_keep | assumption)
          (first | (go_at_call 97; refine (c_rTag _ _ h0 h1).mono ?_; rintro e w' ⟨rfl, rfl⟩) | (go_at_call 134; refine (c_rOther _ _ _ _ (by omega) (by omega) (by omega) (by omega) (by omega) (by omega)).mono ?_; rintro e w' ⟨rfl, rfl⟩) | (go_at_call 133; refine (c_rwith (w.heap.size + 1) (plAdd D (z, fnvBucket h z)) _ rfl _ (z, fnvOther (fnvBucket h z) (fnvTag h) z) _ (by exact hown1) (by exact hB1) (by omega)).mono ?_; rintro e w3 ⟨⟨v3, rfl, hown3⟩, hb3⟩; have hc3 := (hb3.cell (p := ⟨w.heap.size, k, none⟩) (by simp)).trans hc1))
        all_goals
          go_wp2
          have hb13 : Below (w.heap.size + 1) wr w3 := by first | exact hb1.trans hb3 | exact hb1.drew.trans hb3
          go_roundw
          case rel => exact ⟨k + 1, by omega, by go_num, by rw [HR.out, ← HD.out]; exact hown3, hbel.trans (hb13.mono (by omega)), Nat.lt_of_lt_of_le hsz hb13.size, fun j y hj => (hb13.cell (p := ⟨w.heap.size, j, none⟩) (by simp)).trans (Hrow.out j y hj)⟩
          case measure => simp [intOf]; omega
      · obtain rfl : k = 1 := by omega
        rw [HE.out] at hown
        clear hrow
        go_wp2
        go_ret
        exact ⟨⟨_, rfl, ownsRow_mono hown (by omega)⟩, hbel⟩
  · have HE := Lib.hid (plRun_two h x)
    rw [c] at HE
    have HBS : Hid (∀ z ∈ [plOld x, plOld x + 1], 1 ≤ z ∧ z ≤ 12) := by intro z hz; simp at hz; omega
    go_enter Tryz.func94, Tryz.ntmps94
    go_wp2_with (first | (go_at_call 131; refine (c_rAs _ _ x0 x1).mono ?_; rintro e w' ⟨rfl, rfl⟩))
    go_loopw [8, 9, 10] (fun vo i b wr => ∃ k : Nat, k ≤ 2 ∧ i = .int .i64 k ∧ wr.ownsRow (w.heap.size + 2 + 1) 136 2 vo (plRun h [plOld x, plOld x + 1] k).length (rowOf plc (plRun h [plOld x, plOld x + 1] k)) ∧ Below w.heap.size w wr ∧ w.heap.size + 2 < wr.heap.size ∧ (∀ j z, [plOld x, plOld x + 1][j]? = some z → wr.cell? ⟨w.heap.size + 2, j, none⟩ = some (.int .i64 z)))
      (fun _ i _ _ => 2 - (intOf i).toNat)
    case atStart => exact ⟨0, Nat.zero_le _, rfl, World.ownsRow_nil _ _ _ _, ((((Below.refl _ _).alloc (Nat.le_refl _) _).alloc (by simp) _).alloc (by simp; omega) _).drew, by simp, by intro j z hj; match j, hj with | 0, hj => (cases hj; refine cell_newD _ _ _ _ _ _ (by simp) ?_; simp [Array.getElem?_append]) | 1, hj => (cases hj; refine cell_newD _ _ _ _ _ _ (by simp) ?_; simp [Array.getElem?_append])⟩
    case round =>
      obtain ⟨k, hk, rfl, hown, hbel, hsz, hrow⟩ := hrel
      by_cases hk2 : k < 2
      · have hk3 : k < [plOld x, plOld x + 1].length := hk2
        obtain ⟨z, hz⟩ : ∃ z, [plOld x, plOld x + 1][k]? = some z := ⟨_, List.getElem?_eq_getElem hk3⟩
        obtain ⟨z0, z1⟩ := HBS.out z (List.mem_of_getElem? hz)
        have hc := hrow k z hz
        have HR := Lib.hid (plRun_succ h [plOld x, plOld x + 1] k z hz z0 z1)
        have hl0 := plRun_len h [plOld x, plOld x + 1] k
        have hl1 := plAdd_len (plRun h [plOld x, plOld x + 1] k) (z, fnvBucket h z)
        obtain ⟨D, hD⟩ : ∃ D, D = plRun h [plOld x, plOld x + 1] k := ⟨_, rfl⟩
        rw [← hD] at hown hl0 hl1
        have HD := Lib.hid hD
        have Hrow := Lib.hid hrow
        have hbk := fnvBucket_bd (h := h) z0 z1
        have hzs := fnvSize_bd z
        have hB : w.heap.size + 2 + 1 ≤ wr.heap.size := by omega
        clear hD hrow hk3 hz
        go_wp2_with (first | (go_at_call 132; refine (c_rBucket _ _ _ h0 h1 (by omega) (by omega)).mono ?_; rintro e w' ⟨rfl, rfl⟩) | (go_at_call 133; refine (c_rwith (w.heap.size + 2 + 1) D _ rfl _ (z, fnvBucket h z) _ hown hB (by omega)).mono ?_; rintro e w1 ⟨⟨v1, rfl, hown1⟩, hb1⟩; have hc1 := (hb1.cell (p := ⟨w.heap.size + 2, k, none⟩) (by simp)).trans hc; have hB1 := Nat.le_trans hB hb1.size; have hbel1 := hbel.trans (hb1.mono (by omega)); clear hown))
        go_region_held3 (fun w' => w'.cell? ⟨w.heap.size + 2, k, none⟩ = some (.int .i64 z)) (first | go_keep | assumption)
          (first | (go_at_call 97; refine (c_rTag _ _ h0 h1).mono ?_; rintro e w' ⟨rfl, rfl⟩) | (go_at_call 134; refine (c_rOther _ _ _ _ (by omega) (by omega) (by omega) (by omega) (by omega) (by omega)).mono ?_; rintro e w' ⟨rfl, rfl⟩) | (go_at_call 133; refine (c_rwith (w.heap.size + 2 + 1) (plAdd D (z, fnvBucket h z)) _ rfl _ (z, fnvOther (fnvBucket h z) (fnvTag h) z) _ (by exact hown1) (by exact hB1) (by omega)).mono ?_; rintro e w3 ⟨⟨v3, rfl, hown3⟩, hb3⟩; have hc3 := (hb3.cell (p := ⟨w.heap.size + 2, k, none⟩) (by simp)).trans hc1))
        all_goals
          go_wp2
          have hb13 : Below (w.heap.size + 2 + 1) wr w3 := by first | exact hb1.trans hb3 | exact hb1.drew.trans hb3
          go_roundw
          case rel => exact ⟨k + 1, by omega, by go_num, by rw [HR.out, ← HD.out]; exact hown3, hbel.trans (hb13.mono (by omega)), Nat.lt_of_lt_of_le hsz hb13.size, fun j y hj => (hb13.cell (p := ⟨w.heap.size + 2, j, none⟩) (by simp)).trans (Hrow.out j y hj)⟩
          case measure => simp [intOf]; omega
      · obtain rfl : k = 2 := by omega
        rw [HE.out] at hown
        clear hrow
        go_wp2
        go_ret
        exact ⟨⟨_, rfl, ownsRow_mono hown (by omega)⟩, hbel⟩
end Go.Proofs.YtijifjiehldcaaaGreat
