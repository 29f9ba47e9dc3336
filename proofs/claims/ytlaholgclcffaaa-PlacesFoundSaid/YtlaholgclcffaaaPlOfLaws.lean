/- Layer 8: a key's places are the document's, in new memory. -/
import Derived.Test.YtlaholgclcffaaaPlOfRef
import Derived.Test.YtlaholgclcffaaaPlLaws
namespace Go.Proofs.Ytlaholgclcffaaa
open Go.RowKit
set_option linter.unusedVariables false

theorem plAdd_pos (l : List (Int × Int)) (p : Int × Int) : 0 < (plAdd l p).length := by
  unfold plAdd
  split
  · rename_i h
    exact List.length_pos_of_mem h
  · simp
theorem foldl_pos (l : List (Int × Int)) : ∀ out : List (Int × Int), 0 < out.length → 0 < (l.foldl plAdd out).length := by
  induction l with
  | nil => intro out h; exact h
  | cons a l ih => intro out h; exact ih _ (plAdd_pos _ _)
theorem plPlaces_pos (h x : Int) : 0 < (plPlaces h x).length := by
  have ho := plOld_bd x
  unfold plPlaces plOnce
  rw [plPair_in ho.1 ho.2]
  exact foldl_pos _ (plAdd [] _) (plAdd_pos _ _)
theorem plPlaces_le (h x : Int) : (plPlaces h x).length ≤ 4 := by
  unfold plPlaces
  refine Nat.le_trans (plOnce_len _) ?_
  have : ∀ b, (plPair h b).length ≤ 2 := by intro b; unfold plPair; split <;> simp
  have h1 := this (plOld x)
  have h2 := this (plNow x)
  rw [List.length_append]
  omega
set_option maxHeartbeats 1000000 in
theorem w_PlacesOf (h x : Int) (w : World) (h0 : 0 ≤ h) (h1' : h ≤ 18446744073709551615) (x0 : 0 ≤ x) (x1' : x ≤ 18446744073709551615) :
    Calls Try.prog 14 #[.int .u64 h, .int .u64 x] w fun e w' => e = .returned (.bool true) ∧ Below w.heap.size w w' := by
  have h1 : h < 18446744073709551616 := by omega
  have x1 : x < 18446744073709551616 := by omega
  have hp := plPlaces_pos h x
  have hq := plPlaces_le h x
  have hC := c_Places h x
  have hR := c_rPlaces h x
  obtain ⟨L, hL⟩ : ∃ L, L = plPlaces h x := ⟨_, rfl⟩
  rw [← hL] at hp hq hC hR
  clear hL
  have HC := Lib.hid hC
  have HR := Lib.hid hR
  clear hC hR
  go_enter Try.func14, Try.ntmps14
  go_wp2_with (first | (go_at_call 51; refine (HC.out _ h0 h1 x0 x1).mono ?_; rintro e w1 ⟨⟨v, rfl, hA, hF, ao, rfl⟩, hb1⟩; have HA := Lib.hid hA; have HF := Lib.hid hF; clear hA hF) | (go_at_call 52; refine (HR.out _ h0 h1 x0 x1).mono ?_; rintro e w2 ⟨⟨v2, rfl, hown2⟩, hb2⟩; have hA2 := Arr.of_own hown2; obtain ⟨b2, o2, c2, rfl, hc2, hm2, hlt2, hx2⟩ := hA2.open hp (by omega)))
  rcases hown2.2 with ⟨he, _⟩ | ⟨g2, cap2, cur2, he, hg2, _⟩
  · cases he
  cases he
  obtain ⟨b1, o1, c1, he, hc1, hm1, hlt1, hx1⟩ := HA.out.open hp (by omega)
  cases he
  obtain ⟨hf0, _, -, hf1⟩ := HF.out _ _ _ rfl
  have hne : ¬ b1 = b2 := by omega
  have hne' : ¬ b2 = b1 := by omega
  have hbel0 : Below w.heap.size w w2 := hb1.trans (hb2.mono hb1.size)
  have rel0 : (∀ j u, 2 * 0 ≤ j → (rowOf plc L)[j]? = some u → w2.cell? ⟨b1, o1 + j, none⟩ = some u) ∧ (∀ j, w2.frozen? ⟨b1, j, none⟩ = false) ∧ (∀ j u, (rowOf plc L)[j]? = some u → w2.cell? ⟨b2, 0 + j, none⟩ = some u) ∧ Below w.heap.size w w2 ∧ b1 < w2.heap.size ∧ b2 < w2.heap.size :=
    ⟨fun j u _ hj => (hb2.cell (p := ⟨b1, o1 + j, none⟩) hlt1).trans (hx1 j u hj), fun j => (hb2.frozen (p := ⟨b1, j, none⟩) hlt1).trans (hf1 j), hx2, hbel0, Nat.lt_of_lt_of_le hlt1 hb2.size, hlt2⟩
  clear hx1 hf1 hx2 hown2 hA2 hb1 hb2 hbel0 HA HF hlt1 hlt2
  go_loopw [7] (fun i wr => ∃ k : Nat, k ≤ L.length ∧ i = .int .i64 k ∧ (∀ j u, 2 * k ≤ j → (rowOf plc L)[j]? = some u → wr.cell? ⟨b1, o1 + j, none⟩ = some u) ∧ (∀ j, wr.frozen? ⟨b1, j, none⟩ = false) ∧ (∀ j u, (rowOf plc L)[j]? = some u → wr.cell? ⟨b2, 0 + j, none⟩ = some u) ∧ Below w.heap.size w wr ∧ b1 < wr.heap.size ∧ b2 < wr.heap.size)
    (fun i _ => L.length - (intOf i).toNat)
  case atStart => exact ⟨0, Nat.zero_le _, rfl, rel0⟩
  case round =>
    obtain ⟨k, hk, rfl, hx1, hf1, hx2, hbel, hlt1, hlt2⟩ := hrel
    by_cases hk2 : k < L.length
    · obtain ⟨q, hq⟩ : ∃ q, q = L[k] := ⟨_, rfl⟩
      have q0 := hx1 (k * 2 + 0) _ (by omega) (rowOf_get plc_len L k 0 hk2 (by omega))
      have q1 := hx1 (k * 2 + 1) _ (by omega) (rowOf_get plc_len L k 1 hk2 (by omega))
      have r0 := hx2 (k * 2 + 0) _ (rowOf_get plc_len L k 0 hk2 (by omega))
      have r1 := hx2 (k * 2 + 1) _ (rowOf_get plc_len L k 1 hk2 (by omega))
      rw [← hq] at q0 q1 r0 r1
      have q0 : wr.cell? ⟨b1, o1 + k * 2, none⟩ = some (.int .i64 q.1) := q0
      have q1 : wr.cell? ⟨b1, o1 + k * 2 + 1, none⟩ = some (.int .i64 q.2) := q1
      have r0 : wr.cell? ⟨b2, k * 2, none⟩ = some (.int .i64 q.1) := by simpa using r0
      have r1 : wr.cell? ⟨b2, k * 2 + 1, none⟩ = some (.int .i64 q.2) := by simpa using r1
      have f1 := hf1 (o1 + k * 2 + 1)
      have Hx1 := Lib.hid hx1
      have Hx2 := Lib.hid hx2
      have Hf1 := Lib.hid hf1
      clear hx1 hx2 hf1 hq
      go_wp2
      go_quiet (fail)
      go_wp2
      go_roundw
      case rel => exact ⟨k + 1, by omega, by go_num, fun j u hj hu => (World.cell?_setCell_other _ _ _ _ (by simp <;> omega)).trans (Hx1.out j u (by omega) hu), fun j => (World.frozen?_setCell _ _ _ _).trans (Hf1.out j), fun j u hu => (World.cell?_setCell_other _ _ _ _ (by simp)).trans (Hx2.out j u hu), (below_drewN hbel nq).setCell (p := ⟨b1, o1 + k * 2 + 1, none⟩) hf0 _, by simpa using hlt1, by simpa using hlt2⟩
      case measure => simp [intOf]; omega
    · obtain rfl : k = L.length := by omega
      have r0 : wr.cell? ⟨b2, 0, none⟩ = some (.int .i64 L[0].1) := by simpa using hx2 (0 * 2 + 0) _ (rowOf_get plc_len L 0 0 hp (by omega))
      have r1 : wr.cell? ⟨b2, 1, none⟩ = some (.int .i64 L[0].2) := by simpa using hx2 (0 * 2 + 1) _ (rowOf_get plc_len L 0 1 hp (by omega))
      have hz : w.heap.size ≤ wr.heap.size := hbel.size
      obtain ⟨q, hq⟩ : ∃ q, q = L[0] := ⟨_, rfl⟩
      rw [← hq] at r0 r1
      have Hq := Lib.hid hq
      clear hx1 hx2 hf1 rel0 hq
      go_wp2_with (first | (go_at_call 51; refine (HC.out _ h0 h1 x0 x1).mono ?_; rintro e w3 ⟨⟨v, rfl, hA, hF, ao, rfl⟩, hb3⟩; have HA := Lib.hid hA; have s0 := (hb3.cell (p := ⟨b2, 0, none⟩) hlt2).trans r0; have s1 := (hb3.cell (p := ⟨b2, 1, none⟩) hlt2).trans r1; have hbel3 := hbel.trans (hb3.mono hz); have hlt3 := Nat.lt_of_lt_of_le hlt2 hb3.size; clear hA hF))
      obtain ⟨b3, o3, c3, he, hc3, hm3, hlt3', hx3⟩ := HA.out.open hp (by omega)
      cases he
      have t0 : w3.cell? ⟨b3, o3, none⟩ = some (.int .i64 q.1) := by rw [Hq.out]; simpa using hx3 (0 * 2 + 0) _ (rowOf_get plc_len L 0 0 hp (by omega))
      have t1 : w3.cell? ⟨b3, o3 + 1, none⟩ = some (.int .i64 q.2) := by rw [Hq.out]; simpa using hx3 (0 * 2 + 1) _ (rowOf_get plc_len L 0 1 hp (by omega))
      clear hx3 r0 r1 hbel HA
      refine wp_region_via (by kernel_rfl) (by kernel_rfl) ?_
      repeat (go_big_quiet_step ((first | (go_at_call 33; exact viaB (c_lives08 _)))))
      refine wpQuiet_nil ?_
      rintro _ ⟨e, rfl⟩
      go_wp2
      go_ret
      exact ⟨rfl, below_via hbel3 _⟩
end Go.Proofs.Ytlaholgclcffaaa
