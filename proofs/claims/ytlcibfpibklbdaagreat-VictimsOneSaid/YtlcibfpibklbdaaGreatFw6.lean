/- The hash, with its closure. -/
import Derived.Test.YtlcibfpibklbdaaGreatFw4
namespace Go.Proofs.YtlcibfpibklbdaaGreat
set_option linter.unusedSimpArgs false
open Go.RowKit
set_option linter.unusedVariables false

theorem hstep_q {h c : Int} (h0 : 0 ≤ h) (h1 : h < 18446744073709551616) (c0 : 0 ≤ c) (c1 : c < 256) : IntKind.u64.wrap (bits .xor .u64 h c * 1099511628211) = fnvStep h c := by
  rw [u64_xor h c h0 h1 c0 (by omega), IntKind.wrap_u64]
  unfold fnvStep
  omega

theorem c_add (b : Nat) (h c : Int) (w : World) (h0 : 0 ≤ h) (h1 : h < 18446744073709551616) (c0 : 0 ≤ c) (c1 : c < 256) (hc : w.cell? ⟨b, 0, none⟩ = some (.int .u64 h)) (hf : w.frozen? ⟨b, 0, none⟩ = false) :
    Calls Tryz.prog 89 #[.pointer (some ⟨b, 0, none⟩), .int .u8 c] w fun e w' => e = .returned (.tuple #[]) ∧ w.setCell ⟨b, 0, none⟩ (.int .u64 (fnvStep h c)) = w' := by
  have Hm := Lib.hid (hstep_q h0 h1 c0 c1)
  go_enter Tryz.func89, Tryz.ntmps89
  go_wp2
  go_end0
  exact ⟨rfl, by rw [Hm.out]⟩

theorem c_each (s : ByteArray) (w : World) (hs : s.size ≤ maxLen) (h : Int) (h0 : 0 ≤ h) (h1 : h < 18446744073709551616) (T : Nat) :
    Calls Tryz.prog 88 #[.string s, .func (.func 89) #[.pointer (some ⟨w.heap.size, 0, none⟩)] #[]] (w.alloc (.cells #[.int .u64 h] T)) fun e w' => e = .returned (.tuple #[]) ∧ w.alloc (.cells #[.int .u64 (fnvFrom h s.data.toList)] T) = w' := by
  unfold maxLen at hs
  go_enter Tryz.func88, Tryz.ntmps88
  go_wp2
  go_loopw [7] (fun i wr => ∃ k : Nat, k ≤ s.size ∧ i = .int .i64 k ∧ wr = w.alloc (.cells #[.int .u64 (fnvFrom h (s.data.toList.take k))] T)) (fun i _ => s.size - (intOf i).toNat)
  case atStart => exact ⟨0, Nat.zero_le _, rfl, by simp [fnvFrom_nil]⟩
  case round =>
    obtain ⟨k, hk, rfl, rfl⟩ := hrel
    have hb := fnvFrom_bd h (s.data.toList.take k) h0 h1
    by_cases hlt : k < s.size
    · have HS := Lib.hid (show fnvFrom h (s.data.toList.take (k + 1)) = fnvStep (fnvFrom h (s.data.toList.take k)) (s[k].toNat : Int) by rw [take_snoc s k hlt, fnvFrom_snoc])
      have hc0 : (0 : Int) ≤ (s[k].toNat : Int) := by omega
      have hc1 : (s[k].toNat : Int) < 256 := by have := s[k].toNat_lt; omega
      have g1 := Lib.hid (show (w.alloc (.cells #[.int .u64 (fnvFrom h (s.data.toList.take k))] T)).cell? ⟨w.heap.size, 0, none⟩ = some (.int .u64 (fnvFrom h (s.data.toList.take k))) by simp)
      have g2 := Lib.hid (show (w.alloc (.cells #[.int .u64 (fnvFrom h (s.data.toList.take k))] T)).frozen? ⟨w.heap.size, 0, none⟩ = false by simp)
      go_wp2_with (go_at_call 89; refine (c_add _ _ _ _ hb.1 hb.2 hc0 hc1 g1.out g2.out).mono ?_; rintro e w' ⟨rfl, rfl⟩)
      go_roundw
      case rel => exact ⟨k + 1, by omega, by go_num, by rw [HS.out]⟩
      case measure => simp [intOf]; omega
    · go_wp2
      go_end0
      exact ⟨rfl, by rw [List.take_of_length_le (by simp; omega)]⟩

theorem c_Hash (s : ByteArray) (w : World) (hs : s.size ≤ maxLen) :
    Calls Tryz.prog 37 #[.string s] w fun e w' => e = .returned (.int .u64 (fnvHash s.data.toList)) ∧ w.alloc (.cells #[.int .u64 (fnvHash s.data.toList)] 187) = w' := by
  go_enter Tryz.func37, Tryz.ntmps37
  go_wp2_with (go_at_call 88; refine (c_each _ _ hs _ (by decide) (by decide) _).mono ?_; rintro e w' ⟨rfl, rfl⟩)
  go_ret
  exact ⟨rfl, rfl⟩
end Go.Proofs.YtlcibfpibklbdaaGreat
