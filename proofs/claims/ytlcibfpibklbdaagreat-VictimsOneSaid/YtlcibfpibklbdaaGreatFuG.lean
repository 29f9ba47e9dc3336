/- A table that is filled (nestboxlaw17.Full): is it great? -/
import Derived.Test.YtlcibfpibklbdaaGreatFuW
namespace Go.Proofs.YtlcibfpibklbdaaGreat
set_option linter.unusedSimpArgs false
open Go.RowKit Go.Shelf
set_option linter.unusedVariables false
def FulGreat (w : World) (F : Ful) (e : Ending) (w' : World) : Prop :=
  ∃ b : Bool, e = .returned (.bool b) ∧ Below w.heap.size w w' ∧ (b = false → F.ks.length ≤ 40 ∧ F.ly.length ≤ 80 ∧ F.sp.length ≤ 400)
set_option maxHeartbeats 8000000 in
set_option maxRecDepth 100000 in
theorem c_Great17 {F : Ful} {v : Value} {w : World} (h : FulAt w v F) (g : FulBd F) : Calls Tryz.prog 13 #[v] w (FulGreat w F) := by
  obtain ⟨vk, vl, vs, rfl, h1, h2, h3⟩ := h.ex
  obtain ⟨bi, ks, ly, ky, mo, sp⟩ := F
  unfold fulV
  dsimp only at h1 h2 h3 ⊢
  obtain ⟨ai, ci, rfl, hci, hmi⟩ := h1.shape
  obtain ⟨ap, cp, rfl, hcp, hmp⟩ := h2.shape
  obtain ⟨as', cs, rfl, hcs, hms⟩ := h3.shape
  have hkz := g.kz
  have hks := g.ks
  dsimp only at hkz hks
  have HA := Lib.hid h1
  have HKS := Lib.hid hks
  clear h h1 h2 h3 g hks
  have hmm : ci ≤ 9223372036854775807 := by unfold maxLen at hmi; omega
  unfold maxLen at hkz
  go_enter Tryz.func13, Tryz.ntmps13
  go_wp2_with fail
  obtain ⟨W1, hW1⟩ : ∃ W1, W1 = w.alloc (.cells #[.int .u8 bi, .slice ai ks.length ci, .slice ap ly.length cp, .string ky, .int .u8 mo, .slice as' sp.length cs] 26) := ⟨_, rfl⟩
  have HB : Hid (Below w.heap.size w W1) := Lib.hid (by rw [hW1]; exact (Below.refl _ _).alloc (Nat.le_refl _) _)
  have y1 : W1.cell? ⟨w.heap.size, 1, none⟩ = some (.slice ai ks.length ci) := by rw [hW1]; simp
  have y2 : W1.cell? ⟨w.heap.size, 2, none⟩ = some (.slice ap ly.length cp) := by rw [hW1]; simp
  have y5 : W1.cell? ⟨w.heap.size, 5, none⟩ = some (.slice as' sp.length cs) := by rw [hW1]; simp
  rw [← hW1]
  clear hW1
  go_loopw [3, 4] (fun n i wr => ∃ (k : Nat) (z : Int), k ≤ ks.length ∧ k ≤ 60 ∧ i = .int .i64 k ∧ n = .int .i64 z ∧ wr = W1) (fun _ i _ => ks.length - (intOf i).toNat)
  case atStart => exact ⟨0, _, Nat.zero_le _, by omega, rfl, rfl, rfl⟩
  case round =>
    obtain ⟨k, z, hk, hk6, rfl, rfl, rfl⟩ := hrel
    by_cases hk2 : k < ks.length
    · by_cases hk3 : k < 60
      · have d1 : decide ((k : Int) < 60) = true := decide_eq_true (by omega)
        obtain ⟨A, o, c', he, -, -, hlt, hx⟩ := HA.out.open (by omega) (by omega)
        cases he
        obtain ⟨x, hxe⟩ : ∃ x, x = ks[k] := ⟨_, rfl⟩
        have hr0 : (rowOf strc ks)[k]? = (strc x)[0]? := by rw [hxe]; have := rowOf_get strc_len ks k 0 hk2 (by omega); rw [Nat.mul_one] at this; exact this
        have v0 : wr.cell? ⟨A, o + k, none⟩ = some (.string x) := (HB.out.cell (p := ⟨A, o + k, none⟩) hlt).trans (hx _ _ hr0)
        have hxz := HKS.out x (by rw [hxe]; exact List.getElem_mem _)
        unfold maxLen at hxz
        clear hx hxe hr0
        go_wp2_with fail
        go_roundw
        case rel => exact ⟨k + 1, _, by omega, by omega, by go_num, rfl, trivial⟩
        case measure => simp [intOf]; omega
      · have d1 : decide ((k : Int) < 60) = false := decide_eq_false (by omega)
        by_cases c1 : (4000 : Int) < z
        · have e1 : decide ((4000 : Int) < z) = true := decide_eq_true c1
          go_wp2_with fail
          go_ret
          exact ⟨true, rfl, HB.out, fun h => by cases h⟩
        have e1 : decide ((4000 : Int) < z) = false := decide_eq_false c1
        by_cases c2 : (40 : Int) < (ks.length : Int)
        · have e2 : decide ((40 : Int) < (ks.length : Int)) = true := decide_eq_true c2
          go_wp2_with fail
          go_ret
          exact ⟨true, rfl, HB.out, fun h => by cases h⟩
        exfalso; omega
    · have hk3 : k = ks.length := by omega
      subst hk3
      by_cases c1 : (4000 : Int) < z
      · have e1 : decide ((4000 : Int) < z) = true := decide_eq_true c1
        go_wp2_with fail
        go_ret
        exact ⟨true, rfl, HB.out, fun h => by cases h⟩
      have e1 : decide ((4000 : Int) < z) = false := decide_eq_false c1
      by_cases c2 : (40 : Int) < (ks.length : Int)
      · have e2 : decide ((40 : Int) < (ks.length : Int)) = true := decide_eq_true c2
        go_wp2_with fail
        go_ret
        exact ⟨true, rfl, HB.out, fun h => by cases h⟩
      have e2 : decide ((40 : Int) < (ks.length : Int)) = false := decide_eq_false c2
      by_cases c3 : (80 : Int) < (ly.length : Int)
      · have e3 : decide ((80 : Int) < (ly.length : Int)) = true := decide_eq_true c3
        go_wp2_with fail
        go_ret
        exact ⟨true, rfl, HB.out, fun h => by cases h⟩
      have e3 : decide ((80 : Int) < (ly.length : Int)) = false := decide_eq_false c3
      by_cases c4 : (400 : Int) < (sp.length : Int)
      · have e4 : decide ((400 : Int) < (sp.length : Int)) = true := decide_eq_true c4
        go_wp2_with fail
        go_ret
        exact ⟨true, rfl, HB.out, fun h => by cases h⟩
      have e4 : decide ((400 : Int) < (sp.length : Int)) = false := decide_eq_false c4
      go_wp2_with fail
      go_ret
      exact ⟨false, rfl, HB.out, fun _ => ⟨by show ks.length ≤ 40; omega, by show ly.length ≤ 80; omega, by show sp.length ≤ 400; omega⟩⟩
end Go.Proofs.YtlcibfpibklbdaaGreat
