/- The law FnvsBytes: a key of one byte more; keys that part in one byte. -/
import Derived.Test.YtlaholgclcffaaaFnvLives
import Derived.Lib.SlBytesConst
namespace Go.Proofs.Ytlaholgclcffaaa
open Go.RowKit

/-! ### one step takes apart what was apart -/
theorem mul_inj {a b : Nat} (ha : a < 18446744073709551616) (hb : b < 18446744073709551616) (h : a * 1099511628211 % 18446744073709551616 = b * 1099511628211 % 18446744073709551616) : a = b := by
  have e : ∀ x : Nat, x < 18446744073709551616 → x * 1099511628211 % 18446744073709551616 * 14886173955864302971 % 18446744073709551616 = x := fun x hx => by
    rw [Nat.mod_mul_mod, Nat.mul_assoc, Nat.mul_mod, show 1099511628211 * 14886173955864302971 % 18446744073709551616 = 1 by decide, Nat.mul_one, Nat.mod_mod, Nat.mod_eq_of_lt hx]
  rw [← e a ha, ← e b hb, h]
theorem xor_lt64 {a b : Nat} (ha : a < 18446744073709551616) (hb : b < 18446744073709551616) : a ^^^ b < 18446744073709551616 := Nat.xor_lt_two_pow (n := 64) ha hb
theorem step_inj_h {g h c : Int} (g0 : 0 ≤ g) (g1 : g < 18446744073709551616) (h0 : 0 ≤ h) (h1 : h < 18446744073709551616) (c0 : 0 ≤ c) (c1 : c < 256) (e : fnvStep g c = fnvStep h c) : g = h := by
  unfold fnvStep at e
  have := mul_inj (xor_lt64 (a := g.toNat) (b := c.toNat) (by omega) (by omega)) (xor_lt64 (a := h.toNat) (b := c.toNat) (by omega) (by omega)) (Int.ofNat.inj e)
  have : g.toNat = h.toNat := by have := congrArg (· ^^^ c.toNat) this; simpa [Nat.xor_assoc] using this
  omega
theorem step_inj_c {h c d : Int} (h0 : 0 ≤ h) (h1 : h < 18446744073709551616) (c0 : 0 ≤ c) (c1 : c < 256) (d0 : 0 ≤ d) (d1 : d < 256) (e : fnvStep h c = fnvStep h d) : c = d := by
  unfold fnvStep at e
  have := mul_inj (xor_lt64 (a := h.toNat) (b := c.toNat) (by omega) (by omega)) (xor_lt64 (a := h.toNat) (b := d.toNat) (by omega) (by omega)) (Int.ofNat.inj e)
  have : c.toNat = d.toNat := by have := congrArg (h.toNat ^^^ ·) this; simpa [← Nat.xor_assoc] using this
  omega
theorem from_inj {g h : Int} {l : List UInt8} (g0 : 0 ≤ g) (g1 : g < 18446744073709551616) (h0 : 0 ≤ h) (h1 : h < 18446744073709551616) (e : fnvFrom g l = fnvFrom h l) : g = h := by
  induction l generalizing g h with
  | nil => exact e
  | cons c l ih =>
    have := ih (fnvStep_bd g c.toNat).1 (fnvStep_bd g c.toNat).2 (fnvStep_bd h c.toNat).1 (fnvStep_bd h c.toNat).2 e
    exact step_inj_h g0 g1 h0 h1 (by omega) (by have := c.toNat_lt; omega) this
theorem fnvFrom_append (h : Int) (l m : List UInt8) : fnvFrom h (l ++ m) = fnvFrom (fnvFrom h l) m := by simp [fnvFrom]
/-- Keys of one length that part in one byte alone have unlike hashes. -/
theorem hash_set_ne {l : List UInt8} {k : Nat} {c : UInt8} (hk : k < l.length) (hc : l[k] ≠ c) : fnvHash (l.set k c) ≠ fnvHash l := by
  intro e
  unfold fnvHash at e
  rw [List.set_eq_take_append_cons_drop, if_pos hk] at e
  have e2 : l = l.take k ++ l[k] :: l.drop (k + 1) := by rw [List.getElem_cons_drop, List.take_append_drop]
  rw [show fnvFrom 14695981039346656037 l = fnvFrom 14695981039346656037 (l.take k ++ l[k] :: l.drop (k + 1)) by rw [← e2]] at e
  rw [fnvFrom_append, fnvFrom_append] at e
  have hb := fnvFrom_bd 14695981039346656037 (l.take k) (by decide) (by decide)
  have b1 := fnvStep_bd (fnvFrom 14695981039346656037 (l.take k)) c.toNat
  have b2 := fnvStep_bd (fnvFrom 14695981039346656037 (l.take k)) l[k].toNat
  have e3 := from_inj b1.1 b1.2 b2.1 b2.2 (show fnvFrom (fnvStep _ _) (l.drop (k + 1)) = fnvFrom (fnvStep _ _) (l.drop (k + 1)) from e)
  have e4 := step_inj_c hb.1 hb.2 (by omega) (by have := c.toNat_lt; omega) (by omega) (by have := l[k].toNat_lt; omega) e3
  exact hc (UInt8.toNat_inj.1 (by omega))

theorem size_push (s : ByteArray) (u : UInt8) (h : s.size ≤ 2000) : (s ++ ⟨#[u]⟩ : ByteArray).size ≤ maxLen := by
  have : (s ++ ⟨#[u]⟩ : ByteArray).size = s.size + 1 := by simp [ByteArray.size_append]; rfl
  unfold maxLen
  omega

/-- The bytes of a key, one of them turned, as a string again. -/
theorem bytes_turned {w4 : World} {b C k : Nat} {s : ByteArray} {u : UInt8} (hc : ∀ (k : Nat) (h : k < s.size), w4.cell? ⟨b, k, none⟩ = some (.int .u8 (s[k].toNat : Int)) ∧ w4.frozen? ⟨b, k, none⟩ = false) (hk : k < s.size) (hs : s.size ≤ 2000) (hu : ¬ u = 0) :
    ∃ t : ByteArray, (convert 37 9 (.slice (some ⟨b, 0, none⟩) s.size C)).run Try.prog (w4.setCell ⟨b, k, none⟩ (.int .u8 (bits .xor .u8 (s[k].toNat : Int) (u.toNat : Int)))) = .ok (.string t) (w4.setCell ⟨b, k, none⟩ (.int .u8 (bits .xor .u8 (s[k].toNat : Int) (u.toNat : Int)))) ∧ t.size ≤ maxLen ∧ (fnvHash t.data.toList != fnvHash s.data.toList) = true := by
  have hkl : k < s.data.toList.length := by simpa using hk
  have ek : s.data.toList[k] = s[k] := by simp [ByteArray.getElem_eq_getElem_data]
  have ex : bits .xor .u8 (s[k].toNat : Int) (u.toNat : Int) = ((s[k] ^^^ u).toNat : Int) := by
    rw [u8_xor_nat _ _ s[k].toNat_lt u.toNat_lt, UInt8.toNat_xor]
  rw [ex]
  refine ⟨⟨(s.data.toList.set k (s[k] ^^^ u)).toArray⟩, ?_, ?_, ?_⟩
  · have := run_convert_bytes_back (P := Try.prog) (w4.setCell ⟨b, k, none⟩ (.int .u8 ((s[k] ^^^ u).toNat : Int))) 37 9 5 ⟨b, 0, none⟩ C (s.data.toList.set k (s[k] ^^^ u)) Try.underlying37 Try.underlying5 Try.underlying9 (fun j hj => by
      have hj' : j < s.size := by simpa using hj
      have hadd : (⟨b, 0, none⟩ : Addr).add j = ⟨b, j, none⟩ := by unfold Addr.add; split <;> simp_all
      rw [hadd]
      by_cases e : k = j
      · subst e
        rw [World.cell?_setCell_same (h := (hc k hk).1)]
        simp
      · rw [List.getElem_set_ne (by omega)]
        rw [World.cell?_setCell_other (h := by intro h; cases h; exact e rfl), (hc j hj').1]
        simp [ByteArray.getElem_eq_getElem_data])
    rw [List.length_set, show s.data.toList.length = s.size by simp] at this
    exact this
  · have : (⟨(s.data.toList.set k (s[k] ^^^ u)).toArray⟩ : ByteArray).size = s.size := by
      show (s.data.toList.set k (s[k] ^^^ u)).toArray.size = s.data.size
      simp
    unfold maxLen
    omega
  · rw [bne_iff_ne]
    refine hash_set_ne hkl ?_
    rw [ek]
    intro e
    apply hu
    have e2 : s[k] ^^^ s[k] = s[k] ^^^ (s[k] ^^^ u) := by rw [← e]
    rw [← UInt8.xor_assoc, UInt8.xor_self, UInt8.zero_xor] at e2
    exact e2.symm

theorem w_FnvsBytes (s : ByteArray) (c at' : Int) (w : World) (hs : s.size ≤ maxLen) (c0 : 0 ≤ c) (c1 : c ≤ 255) (a0 : 0 ≤ at') (a1 : at' ≤ 65535) :
    Calls Try.prog 7 #[.string s, .int .u8 c, .int .u16 at'] w fun e w' => e = .returned (.bool true) ∧ Below w.heap.size w w' := by
  by_cases cc : s.size > 2000
  · clear hs
    go_enter Try.func7, Try.ntmps7
    go_wp2_with (go_at_call 16; refine (c_lives01 _).mono ?_; rintro e w' ⟨rfl, hb⟩)
    go_ret
    exact ⟨rfl, hb⟩
  · have hh := fnvHash_bd s.data.toList
    have hs' := Lib.hid hs
    clear hs
    obtain ⟨u, rfl⟩ : ∃ u : UInt8, c = (u.toNat : Int) := ⟨UInt8.ofNat c.toNat, by rw [UInt8.toNat_ofNat_of_lt' (by simp [UInt8.size]; omega)]; omega⟩
    have k1 := run_convert_bytes_back (P := Try.prog) ((w.alloc (.cells #[.int .u64 (fnvHash s.data.toList)] 65)).alloc (.cells #[.int .u8 (u.toNat : Int)] 5)) 37 9 5 ⟨w.heap.size + 1, 0, none⟩ 1 [u] Try.underlying37 Try.underlying5 Try.underlying9 (by intro j hj; obtain rfl : j = 0 := (by simpa using hj); simp [Addr.add])
    simp only [List.length_cons, List.length_nil, Nat.zero_add] at k1
    have hsz := Lib.hid (size_push s u (by omega))
    have hnx : (fnvHash (s.data.toList ++ [u]) != IntKind.u64.wrap (bits .xor .u64 (fnvHash s.data.toList) (u.toNat : Int) * 1099511628211)) = false := by
      rw [hstep_eq hh.1 hh.2 c0 (by omega)]
      simp [fnvHash, fnvFrom_snoc]
    have hL : w.heap.size ≤ (((w.alloc (.cells #[.int .u64 (fnvHash s.data.toList)] 65)).alloc (.cells #[.int .u8 (u.toNat : Int)] 5)).alloc (.cells #[.int .u64 (fnvHash (s.data.toList ++ [u]))] 65)).heap.size := by simp; omega
    by_cases he : s = ByteArray.empty
    · subst he
      have hz : (((ByteArray.empty.size : Nat) : Int) == 0) = true := rfl
      have e0 : ByteArray.empty.data.toList = [] := rfl
      have e1 : ByteArray.empty ++ (⟨#[u]⟩ : ByteArray) = ⟨#[u]⟩ := by simp
      rw [e0] at k1 hnx hL hh
      rw [e1] at hsz
      simp only [List.nil_append] at hnx hL
      clear e0 e1
      go_enter Try.func7, Try.ntmps7
      go_wp2_with (first | (go_at_call 17; refine (c_Hash _ _ ?_).mono ?_; (first | exact hs'.out | exact hsz.out); rintro e w' ⟨rfl, rfl⟩) | (go_at_call 16; refine (c_lives01 _).mono ?_; rintro e w' ⟨rfl, hl⟩))
      go_ret
      exact ⟨rfl, (((((Below.refl _ _).alloc (Nat.le_refl _) _).alloc (by simp) _).alloc (by simp; omega) _).trans (hl.mono hL))⟩
    · have hz : ((s.size : Int) == 0) = false := by
        have : s.size ≠ 0 := fun h => he (by simpa using h)
        simp; omega
      by_cases hu : u = 0
      · have hu' : ((u.toNat : Int) == 0) = true := by rw [hu]; rfl
        clear hu
        go_enter Try.func7, Try.ntmps7
        go_wp2_with (first | (go_at_call 17; refine (c_Hash _ _ ?_).mono ?_; (first | exact hs'.out | exact hsz.out); rintro e w' ⟨rfl, rfl⟩) | (go_at_call 16; refine (c_lives01 _).mono ?_; rintro e w' ⟨rfl, hl⟩))
        go_ret
        exact ⟨rfl, (((((Below.refl _ _).alloc (Nat.le_refl _) _).alloc (by simp) _).alloc (by simp; omega) _).trans (hl.mono hL))⟩
      · have hu' : ((u.toNat : Int) == 0) = false := by
          have : u.toNat ≠ 0 := fun h => hu (UInt8.toNat_inj.1 (by simpa using h))
          simp; omega
        have hp : 0 < s.size := by
          have : s.size ≠ 0 := fun h => he (by simpa using h)
          omega
        obtain ⟨k, hk, hlt⟩ : ∃ k : Nat, at' % (s.size : Int) = (k : Int) ∧ k < s.size := ⟨(at' % (s.size : Int)).toNat, by
          have := Int.emod_nonneg at' (show (s.size : Int) ≠ 0 by omega); omega, by
          have := Int.emod_lt_of_pos at' (show 0 < (s.size : Int) by omega); omega⟩
        obtain ⟨b, C, w4, k2, hb1, hb2, hC, hB, hcell⟩ := bytes_of (P := Try.prog) (((w.alloc (.cells #[.int .u64 (fnvHash s.data.toList)] 65)).alloc (.cells #[.int .u8 (u.toNat : Int)] 5)).alloc (.cells #[.int .u64 (fnvHash (s.data.toList ++ [u]))] 65)) 9 37 5 s Try.underlying9 Try.underlying37 Try.underlying5
        obtain ⟨hc1, hc2⟩ := hcell k hlt
        have Hcell := Lib.hid hcell
        clear hcell
        obtain ⟨t, k3, ht1, ht2⟩ : ∃ t : ByteArray, (convert 37 9 (.slice (some ⟨b, 0, none⟩) s.size C)).run Try.prog (w4.setCell ⟨b, k, none⟩ (.int .u8 (bits .xor .u8 (s[k].toNat : Int) (u.toNat : Int)))) = .ok (.string t) (w4.setCell ⟨b, k, none⟩ (.int .u8 (bits .xor .u8 (s[k].toNat : Int) (u.toNat : Int)))) ∧ t.size ≤ maxLen ∧ (fnvHash t.data.toList != fnvHash s.data.toList) = true := bytes_turned Hcell.out hlt (by omega) hu
        have hL' : w.heap.size ≤ b := Nat.le_trans (by simp; omega) hb1
        have hB' := (((((Below.refl w.heap.size w).alloc (Nat.le_refl _) _).alloc (by simp) _).alloc (by simp; omega) _).trans (hB.mono hL)).setCell (p := ⟨b, k, none⟩) hL' (.int .u8 (bits .xor .u8 (s[k].toNat : Int) (u.toNat : Int)))
        have hB2 := hB'.alloc hB'.size (.cells #[.int .u64 (fnvHash t.data.toList)] 65)
        have Ht := Lib.hid ht1
        clear ht1
        go_enter Try.func7, Try.ntmps7
        go_wp2_with (first | (go_at_call 17; refine (c_Hash _ _ ?_).mono ?_; (first | exact hs'.out | exact hsz.out | exact Ht.out); rintro e w' ⟨rfl, rfl⟩) | (go_at_call 16; refine (c_lives01 _).mono ?_; rintro e w' ⟨rfl, hl⟩))
        go_ret
        exact ⟨rfl, hB2.trans (hl.mono hB2.size)⟩
end Go.Proofs.Ytlaholgclcffaaa
