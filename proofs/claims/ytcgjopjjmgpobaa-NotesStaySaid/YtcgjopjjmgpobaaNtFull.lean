/- Layer 9: a full list. -/
import Derived.Test.YtcgjopjjmgpobaaNtLives
namespace Go.Proofs.Ytcgjopjjmgpobaa
open Go.RowKit
set_option linter.unusedVariables false

def nfull (k : Int) : Nt := ⟨k, 0, 9, 0, 0, 0, 0, 0⟩
def nmany (k : Nat) : List Nt := (List.range k).map fun (i : Nat) => nfull (i : Int)
theorem nmany_len (k : Nat) : (nmany k).length = k := by simp [nmany]
theorem nmany_succ (k : Nat) : nmany (k + 1) = nmany k ++ [nfull k] := by simp [nmany, List.range_succ]
theorem ntLow_snoc (l : List Nt) (m n : Nt) : ntLow (l ++ [m]) n = decide (n.step < m.step) := by
  unfold ntLow
  rw [List.getLast?_concat]
theorem nmany_low (k : Nat) (z : Int) (kd : Int) (h : (k : Int) ≤ z) : ntLow (nmany k) ⟨z, 0, kd, 0, 0, 0, 0, 0⟩ = false := by
  cases k with
  | zero => rfl
  | succ k =>
    rw [nmany_succ, ntLow_snoc]
    refine decide_eq_false ?_
    show ¬ z < (k : Int)
    omega
theorem nmany_err (k : Nat) (h : (k : Int) < 1048576) : ntErr (nmany k) (nfull k) = 0 := by
  refine ntErr_ok ?_ (by rw [nmany_len]; omega)
  unfold ntBad
  rw [show nfull k = ⟨k, 0, 9, 0, 0, 0, 0, 0⟩ from rfl, nmany_low k k 9 (Int.le_refl _)]
  rfl
theorem nmany_full (k : Nat) (h : (k : Int) = 1048576) : ntErr (nmany k) (nfull 1073741824) = 3 := by
  refine ntErr_full ?_ (by rw [nmany_len]; omega)
  unfold ntBad
  rw [show nfull 1073741824 = ⟨1073741824, 0, 9, 0, 0, 0, 0, 0⟩ from rfl, nmany_low k _ 9 (by omega)]
  rfl
def nnone : Nt := ⟨1073741824, 0, 0, 0, 0, 0, 0, 0⟩
theorem nmany_arg (k : Nat) : ntErr (nmany k) nnone = 1 := by
  refine ntErr_bad ?_
  unfold ntBad
  rfl
theorem nmany_drop (k : Nat) : (nmany (k + 1)).drop k = [nfull k] := by
  rw [nmany_succ, List.drop_append_of_le_length (by rw [nmany_len]; omega), List.drop_eq_nil_of_le (by rw [nmany_len]; omega)]
  rfl
theorem c_Count' (h : Nat) (v : Value) (l : List Nt) (n : Int) (w : World) (hc : w.cell? ⟨h, 0, none⟩ = some v) (hv : Arr w v l.length 8 (rowOf ntc l)) (hn : (l.length : Int) = n) :
    Calls Try.prog 36 #[.pointer (some ⟨h, 0, none⟩)] w fun e w' => e = .returned (.int .i64 n) ∧ w = w' := by
  obtain ⟨ao, cp, rfl, -, -⟩ := hv.shape
  rw [← hn]
  exact c_Count h ao _ _ w hc

set_option maxHeartbeats 1000000 in
set_option maxRecDepth 100000 in
theorem w_NotesFull (w : World) : Calls Try.prog 11 #[] w fun e w' => e = .returned (.bool true) ∧ Below w.heap.size w w' := by
  go_enter Try.func11, Try.ntmps11
  go_wp2_with fail
  refine (c_New _).mono ?_
  rintro e w' ⟨rfl, rfl⟩
  have n0 := NLx.new (Below.refl w.heap.size w) w.heap.size rfl
  have N0 := Lib.hid n0
  clear n0
  go_wp2_with fail
  go_loopw [2] (fun i wr => ∃ k : Nat, (k : Int) ≤ 1048576 ∧ i = .int .i64 k ∧ ∃ v, NLx w wr 56 ntc w.heap.size v (nmany k)) (fun i _ => 1048576 - (intOf i).toNat)
  case atStart => exact ⟨0, by omega, rfl, _, N0.out⟩
  case round =>
    obtain ⟨k, hk, rfl, v, hn⟩ := hrel
    have HN := Lib.hid hn
    clear hn
    by_cases hlt : (k : Int) < 1048576
    · have hd : decide ((k : Int) < 1048576) = true := by simp only [decide_eq_true_eq]; exact hlt
      have HE := Lib.hid (nmany_err k hlt)
      have hk0 : (0 : Int) ≤ (k : Int) := by omega
      go_wp2_with fail
      refine (c_Addx (nfull k) _ _ _ _ _ HN.out (by simp [nfull]) (by simp [nfull])).mono ?_
      rintro e w1 ⟨rfl, v1, n1⟩
      rw [HE.out]
      rw [ntAdd_ok HE.out, ← nmany_succ] at n1
      have N1 := Lib.hid n1
      clear n1
      go_wp2
      go_roundw
      case rel => exact ⟨k + 1, by omega, by go_num, _, N1.out⟩
      case measure => simp only [intOf]; omega
    · have hd : decide ((k : Int) < 1048576) = false := by simp only [decide_eq_false_iff_not]; exact hlt
      have hk1 : (k : Int) = 1048576 := by omega
      have HK := Lib.hid hk1
      have HE := Lib.hid (nmany_full k hk1)
      have HA := Lib.hid (nmany_arg k)
      clear hk hk1 hlt
      go_wp2_with fail
      refine (c_Addx (nfull 1073741824) _ _ _ _ _ HN.out (by decide) (by decide)).mono ?_
      rintro e w1 ⟨rfl, v1, n1⟩
      rw [HE.out]
      rw [ntAdd_no (by rw [HE.out]; decide)] at n1
      have N1 := Lib.hid n1
      clear n1
      go_wp2_with fail
      refine (c_Addx nnone _ _ _ _ _ N1.out (by decide) (by decide)).mono ?_
      rintro e w2 ⟨rfl, v2, n2⟩
      rw [HA.out]
      rw [ntAdd_no (by rw [HA.out]; decide)] at n2
      have N2 := Lib.hid n2
      clear n2
      go_wp2_with fail
      refine (c_Since _ _ _ 1048575 _ N2.out.nl.head N2.out.nl.lt N2.out.arr (by rw [nmany_len]; have := HK.out; omega)).mono ?_
      rintro e w3 ⟨⟨v3, rfl, hf⟩, hb3⟩
      have N3 := Lib.hid (N2.out.go hb3)
      have e3 : (nmany k).drop (1048575 : Int).toNat = [nfull 1048575] := by
        have h1 := HK.out
        obtain ⟨m, rfl⟩ : ∃ m, k = m + 1 := ⟨k - 1, by omega⟩
        have h2 : (m : Int) = 1048575 := by omega
        rw [← h2, Int.toNat_natCast, nmany_drop]
      rw [e3] at hf
      obtain ⟨b, o, cp, rfl, hcp, hm, hlt3, hx⟩ := hf.arr.open (by decide) (by decide)
      have q0 := (ntAt_row hx 0 (by decide)).all.1
      simp only [Nat.zero_mul, Nat.add_zero, List.getElem_cons_zero, nfull] at q0
      have hc3 := N3.out.nl.head
      have HB := Lib.hid N3.out.below
      have HA3 := Lib.hid N3.out.arr
      clear hf hb3 hx N0 HN N1 N2 N3 e3
      go_wp2_with (first | (go_at_call 36; refine (c_Count' _ _ _ 1048576 _ hc3 HA3.out (by rw [nmany_len]; exact HK.out)).mono ?_; rintro e w8 ⟨rfl, rfl⟩) | (go_at_call 34; refine (viaC (c_lives09 _)).mono ?_; rintro e w8 ⟨rfl, m1, rfl⟩))
      go_ret
      exact ⟨rfl, below_via HB.out _⟩
end Go.Proofs.Ytcgjopjjmgpobaa
