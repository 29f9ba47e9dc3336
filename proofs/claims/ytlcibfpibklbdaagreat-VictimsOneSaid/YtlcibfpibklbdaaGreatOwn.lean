/- Layer 24: a key's slots in their order (nestboxlaw24.own). -/
import Derived.Test.YtlcibfpibklbdaaGreatVcF
import Derived.Test.YtlcibfpibklbdaaGreatLW
import Derived.Laws.AppendOwnNone
namespace Go.Proofs.YtlcibfpibklbdaaGreat
set_option linter.unusedSimpArgs false
open Go.RowKit Go.Shelf
set_option linter.unusedVariables false
def spc3 (p : Spt) : List Value := [.int .i64 p.b, .int .i64 p.q, .int .i64 p.s]
theorem spc3_len (p : Spt) : (spc3 p).length = 3 := rfl
/-- The first slots of a key, of n that were come by. -/
def ownL (b a o : Int) (n : Nat) : List Spt := (List.range (min n (vcN a o))).map (vcP b a o)
theorem ownL_len (b a o : Int) (n : Nat) : (ownL b a o n).length = min n (vcN a o) := by unfold ownL; rw [List.length_map, List.length_range]
theorem ownL_get {b a o : Int} {n i : Nat} (hi : i < min n (vcN a o)) : (ownL b a o n)[i]? = some (vcP b a o i) := by unfold ownL; rw [List.getElem?_map, List.getElem?_range hi]; rfl
theorem ownL_more {b a o : Int} {n : Nat} (h : n < vcN a o) : ownL b a o (n + 1) = ownL b a o n ++ [vcP b a o n] := by
  unfold ownL
  rw [show min (n + 1) (vcN a o) = n + 1 by omega, show min n (vcN a o) = n by omega, List.range_succ, List.map_append]
  rfl
theorem ownL_stop {b a o : Int} {n : Nat} (h : vcN a o ≤ n) : ownL b a o (n + 1) = ownL b a o n := by
  unfold ownL
  rw [show min (n + 1) (vcN a o) = vcN a o by omega, show min n (vcN a o) = vcN a o by omega]
theorem infoSp3 : (Tryz.prog.info? 45).map (fun i => (i.zero, i.size, i.bytes)) = some (some (.agg #[.int .i64 0, .int .i64 0, .int .i64 0]), 3, 24) := by kernel_rfl
set_option maxHeartbeats 8000000 in
set_option maxRecDepth 100000 in
theorem c_own (b h a o : Int) (w : World) (b0 : 1 ≤ b) (b1 : b ≤ 12) (h0 : 0 ≤ h) (h1 : h < 18446744073709551616) (ha : a = fnvBucket h b) (ho : o = fnvOther a (fnvTag h) b) :
    Calls Tryz.prog 38 #[.int .i64 b, .int .u64 h] w fun e w' => ∃ g cp, e = .returned (.slice (some ⟨g, 0, none⟩) (vcN a o) cp) ∧ w.heap.size ≤ g ∧ Arr w' (.slice (some ⟨g, 0, none⟩) (vcN a o) cp) (vcN a o) 3 (rowOf spc3 (ownL b a o 8)) ∧ Below w.heap.size w w' := by
  obtain ⟨i0, hi, hz0, hz1, hz2⟩ := info_parts infoSp3
  have hsz := fnvSize_bd b
  have htg := fnvTag_bd h h0 h1
  have HB : Hid (∀ W, Calls Tryz.prog 90 #[.int .u64 h, .int .i64 b] W fun e w' => e = .returned (.int .i64 a) ∧ W = w') := Lib.hid fun W => by rw [ha]; exact c_fBucket h b W h0 h1 (by omega) (by omega)
  have HT : Hid (∀ W, Calls Tryz.prog 92 #[.int .u64 h] W fun e w' => e = .returned (.int .i64 (fnvTag h)) ∧ W = w') := Lib.hid fun W => c_fTag h W h0 h1
  have hab := fnvBucket_bd (h := h) b0 b1
  rw [← ha] at hab
  have HO : Hid (∀ W, Calls Tryz.prog 91 #[.int .i64 a, .int .i64 (fnvTag h), .int .i64 b] W fun e w' => e = .returned (.int .i64 o) ∧ W = w') := Lib.hid fun W => by rw [ho]; exact c_fOther a (fnvTag h) b W (by omega) (by omega) (by omega) (by omega) (by omega) (by omega)
  obtain ⟨tg, htge⟩ : ∃ tg, tg = fnvTag h := ⟨_, rfl⟩
  rw [← htge] at HT HO
  have hN := vcN_le a o
  clear htge ho ha hsz htg hab
  go_enter Tryz.func38, Tryz.ntmps38
  go_wp2_with fail
  refine (HB.out _).mono ?_
  rintro e w' ⟨rfl, rfl⟩
  go_wp2_with fail
  refine (HT.out _).mono ?_
  rintro e w' ⟨rfl, rfl⟩
  go_wp2_with fail
  refine (HO.out _).mono ?_
  rintro e w' ⟨rfl, rfl⟩
  go_upto_region 5 with fail
  go_loopw [5, 8] (fun vo nv wr => ∃ n : Nat, nv = .int .i64 n ∧ n ≤ 8 ∧ wr.ownsRow w.heap.size 45 3 vo (ownL b a o n).length (rowOf spc3 (ownL b a o n)) ∧ Below w.heap.size w wr) (fun _ nv _ => 8 - (intOf nv).toNat)
  case atStart => exact ⟨0, rfl, by omega, by have : ownL b a o 0 = [] := by { unfold ownL; rw [Nat.zero_min]; rfl }; rw [this]; exact World.ownsRow_nil _ _ _ _, Below.refl _ _⟩
  case round =>
    obtain ⟨n, rfl, hn, hown, hbel⟩ := hrel
    have hlen := ownL_len b a o n
    by_cases hn2 : n < 8
    · obtain ⟨D, hD⟩ : ∃ D, D = ownL b a o n := ⟨_, rfl⟩
      have HD := Lib.hid hD
      rw [← hD] at hown hlen
      have HLN := Lib.hid hlen
      have hl8 : D.length ≤ 8 := by omega
      have hsz : w.heap.size ≤ wr.heap.size := hbel.size
      clear hD hlen
      by_cases hn4 : n < 4
      · have d1 : decide ((4 : Int) ≤ (n : Int)) = false := decide_eq_false (by omega)
        have d2 : decide ((n : Int) < 4) = true := decide_eq_true (by omega)
        have d3 : (n : Int) % 4 = n := by omega
        have HE : Hid (ownL b a o (n + 1) = D ++ [⟨b, a, n⟩]) := Lib.hid (by rw [ownL_more (by omega), ← HD.out]; unfold vcP; rw [if_pos hn4])
        go_wp2_with (at_builtin; refine append_one _ rfl _ _ 75 rfl w.heap.size 45 i0 (.agg #[.int .i64 0, .int .i64 0, .int .i64 0]) 3 24 Tryz.underlying75 hi hz0 hz1 hz2 rfl (by decide) (by decide) _ _ _ rfl hown [.int .i64 b, .int .i64 a, .int .i64 n] _ rfl rfl (by simp [Value.oneCell']) (by omega) hsz ?_; intro g cap w2 hown2 hgr2; have hbel2 := below_grown hbel hsz hown hgr2; clear hgr2)
        go_roundw
        case rel => exact ⟨n + 1, by go_num, by omega, by rw [HE.out, rowOf_snoc, List.length_append]; exact hown2, hbel2⟩
        case measure => simp [intOf]; omega
      · have d1 : decide ((4 : Int) ≤ (n : Int)) = true := decide_eq_true (by omega)
        have d2 : decide ((n : Int) < 4) = false := decide_eq_false (by omega)
        have d3 : (n : Int) % 4 = ((n - 4 : Nat) : Int) := by omega
        by_cases hao : a = o
        · have d4 : (o != a) = false := by simp [hao]
          have HE : Hid (ownL b a o (n + 1) = D) := Lib.hid (by rw [ownL_stop (by unfold vcN; rw [if_pos hao]; omega), ← HD.out])
          go_wp2_with fail
          go_roundw
          case rel => exact ⟨n + 1, by go_num, by omega, by rw [HE.out]; exact hown, hbel⟩
          case measure => simp [intOf]; omega
        · have d4 : (o != a) = true := by simp [Ne.symm hao]
          have HE : Hid (ownL b a o (n + 1) = D ++ [⟨b, o, ((n - 4 : Nat) : Int)⟩]) := Lib.hid (by rw [ownL_more (by unfold vcN; rw [if_neg hao]; omega), ← HD.out]; unfold vcP; rw [if_neg hn4])
          obtain ⟨m, hm⟩ : ∃ m, m = n - 4 := ⟨_, rfl⟩
          rw [← hm] at d3 HE
          clear hm
          go_wp2_with (at_builtin; refine append_one _ rfl _ _ 75 rfl w.heap.size 45 i0 (.agg #[.int .i64 0, .int .i64 0, .int .i64 0]) 3 24 Tryz.underlying75 hi hz0 hz1 hz2 rfl (by decide) (by decide) _ _ _ rfl hown [.int .i64 b, .int .i64 o, .int .i64 m] _ rfl rfl (by simp [Value.oneCell']) (by omega) hsz ?_; intro g cap w2 hown2 hgr2; have hbel2 := below_grown hbel hsz hown hgr2; clear hgr2)
          go_roundw
          case rel => exact ⟨n + 1, by go_num, by omega, by rw [HE.out, rowOf_snoc, List.length_append]; exact hown2, hbel2⟩
          case measure => simp [intOf]; omega
    · have hn8 : n = 8 := by omega
      subst hn8
      have hA := Arr.of_own hown
      rw [hlen, show min 8 (vcN a o) = vcN a o by omega] at hA hown
      rcases hown.2 with ⟨rfl, h0⟩ | ⟨g, cap, cur, rfl, hbg, -⟩
      · exact absurd h0 (by omega)
      · clear hown hlen
        go_wp2_with fail
        go_ret
        exact ⟨g, cap, rfl, hbg, hA, hbel⟩
/-- A key's slots, in a block that is nobody's. -/
structure OwA (W : World) (G : Om) (g N : Nat) (b a o : Int) : Prop where
  ow : G g = 0
  lt : g < W.heap.size
  c : ∀ i, i < N → W.cell? ⟨g, i * 3, none⟩ = some (.int .i64 (vcP b a o i).b) ∧ W.cell? ⟨g, i * 3 + 1, none⟩ = some (.int .i64 (vcP b a o i).q) ∧ W.cell? ⟨g, i * 3 + 2, none⟩ = some (.int .i64 (vcP b a o i).s)
theorem OwA.ext {S : Nat → Prop} {W W' : World} {G G' : Om} {g N : Nat} {b a o : Int} (h : OwA W G g N b a o) (e : Ext S G W G' W') (hs : ¬ S 0) : OwA W' G' g N b a o := by
  have hc : ∀ j, W'.cell? ⟨g, j, none⟩ = W.cell? ⟨g, j, none⟩ := fun j => e.cell (p := ⟨g, j, none⟩) h.lt (by rw [h.ow]; exact hs)
  exact ⟨(e.lo g h.lt).trans h.ow, Nat.lt_of_lt_of_le h.lt e.size, fun i hi => by rw [hc, hc, hc]; exact h.c i hi⟩
theorem OwA.below {W W' : World} {G : Om} {g N : Nat} {b a o : Int} (h : OwA W G g N b a o) (hb : Below W.heap.size W W') : OwA W' G g N b a o := by
  have hc : ∀ j, W'.cell? ⟨g, j, none⟩ = W.cell? ⟨g, j, none⟩ := fun j => hb.cell (p := ⟨g, j, none⟩) h.lt
  exact ⟨h.ow, Nat.lt_of_lt_of_le h.lt hb.size, fun i hi => by rw [hc, hc, hc]; exact h.c i hi⟩
theorem OwA.of {W : World} {G : Om} {g cp : Nat} {b a o : Int} (hA : Arr W (.slice (some ⟨g, 0, none⟩) (vcN a o) cp) (vcN a o) 3 (rowOf spc3 (ownL b a o 8))) (hg : G g = 0) : OwA W G g (vcN a o) b a o := by
  have hN := vcN_le a o
  obtain ⟨Ab, ob, cb, he, -, -, hlt, hx⟩ := hA.open (by omega) (by omega)
  cases he
  have hll : (ownL b a o 8).length = vcN a o := by rw [ownL_len]; omega
  refine ⟨hg, hlt, fun i hi => ?_⟩
  have hgi : (ownL b a o 8)[i]'(by omega) = vcP b a o i := by
    have h1 := ownL_get (b := b) (a := a) (o := o) (n := 8) (i := i) (by omega)
    rw [List.getElem?_eq_getElem (by omega)] at h1
    exact Option.some.inj h1
  have hc : ∀ t u, (spc3 (vcP b a o i))[t]? = some u → W.cell? ⟨g, i * 3 + t, none⟩ = some u := fun t u hu => by
    have ht : t < 3 := (List.getElem?_eq_some_iff.1 hu).1
    have := hx (i * 3 + t) u (by rw [rowOf_get spc3_len (ownL b a o 8) i t (by omega) ht, hgi]; exact hu)
    rw [Nat.zero_add] at this
    exact this
  exact ⟨hc 0 _ rfl, hc 1 _ rfl, hc 2 _ rfl⟩
end Go.Proofs.YtlcibfpibklbdaaGreat
