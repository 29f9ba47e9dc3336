/- Layer 4: numbers as texts: is it one, what it says, its text. -/
import Derived.Test.YtifkfhnbkjkakaaGreatDoorZrChP
import Derived.Test.YtifkfhnbkjkakaaGreatDoorZrGoA
import Derived.Laws.RangeAny
import Derived.Lib.ItoaNum
import Derived.Lib.OthersKept
import Derived.Lib.ParseIntBCases
import Derived.Lib.RuneLoops
namespace Go.Proofs.YtifkfhnbkjkakaaGreatDoor
set_option linter.unusedSimpArgs false
set_option linter.unusedVariables false
set_option maxHeartbeats 4000000
set_option maxRecDepth 100000
section
def nuOk (v : ByteArray) : Bool := decide (v.size ≠ 0) && (decide (v.size ≤ 20) && v.data.toList.all nuB)
def nuFold (a : Nat) (l : List UInt8) : Nat := l.foldl (fun n b => n * 10 + (b.toNat - 48)) a
theorem nuFold_ge : ∀ (l : List UInt8) (a : Nat), a ≤ nuFold a l
 | [], a => Nat.le_refl _
 | c :: r, a => by
   have := nuFold_ge r (a * 10 + (c.toNat - 48))
   show a ≤ nuFold (a * 10 + (c.toNat - 48)) r
   omega
theorem nuParseM : ∀ (l : List UInt8) (a : Nat), a < 18446744073709551616 → l.all nuB = true → Lib.parseUintM 18446744073709551615 a l = if nuFold a l < 18446744073709551616 then .ok (nuFold a l) else .range
 | [], a, ha, _ => by
   rw [show nuFold a [] = a from rfl, if_pos ha]
   rfl
 | c :: r, a, ha, h => by
   rw [List.all_cons, Bool.and_eq_true] at h
   have hc : 48 ≤ c.toNat ∧ c.toNat ≤ 57 := of_decide_eq_true h.1
   have hg := nuFold_ge r (a * 10 + (c.toNat - 48))
   rw [show nuFold a (c :: r) = nuFold (a * 10 + (c.toNat - 48)) r from rfl]
   unfold Lib.parseUintM
   rw [if_pos hc]
   by_cases h1 : 1844674407370955162 ≤ a
   · rw [if_pos h1, if_neg (by omega)]
   · rw [if_neg h1]
     by_cases h2 : 18446744073709551615 < a * 10 + (c.toNat - 48)
     · rw [if_pos h2, if_neg (by omega)]
     · rw [if_neg h2]
       exact nuParseM r _ (by omega) h.2
theorem nuParseB (v : ByteArray) (h : nuOk v = true) : Lib.parseUintB 64 v.data.toList = match nuParse v with | some _ => .ok (nuVal v.data.toList) | none => .range := by
 unfold nuOk at h
 rw [Bool.and_eq_true, Bool.and_eq_true, decide_eq_true_eq, decide_eq_true_eq] at h
 obtain ⟨h1, h2, h3⟩ := h
 have hne : v.data.toList ≠ [] := fun e => by
  have : v.size = v.data.toList.length := by simp
  rw [e] at this
  exact h1 this
 unfold Lib.parseUintB
 rw [if_neg hne, show 2 ^ 64 - 1 = 18446744073709551615 from rfl, nuParseM _ _ (by decide) h3]
 unfold nuParse
 rw [decide_eq_true h1, decide_eq_true h2, h3, Bool.true_and, Bool.true_and, Bool.true_and]
 show (if nuVal v.data.toList < _ then _ else _) = _
 by_cases c : nuVal v.data.toList < 18446744073709551616
 · rw [if_pos c, if_pos (decide_eq_true c)]
   try rfl
 · rw [if_neg c, if_neg (by rw [decide_eq_true_eq]; exact c)]
theorem nuParse_no (v : ByteArray) (h : nuOk v = false) : nuParse v = none := by
 unfold nuParse
 rw [if_neg]
 intro h2
 rw [Bool.and_eq_true, Bool.and_eq_true, Bool.and_eq_true] at h2
 obtain ⟨h3, h4, h5, -⟩ := h2
 unfold nuOk at h
 rw [h3, h4, h5] at h
 cases h
theorem nuParse_some (v : ByteArray) (n : Int) (h : nuParse v = some n) : n = nuVal v.data.toList ∧ 0 ≤ n ∧ n < 18446744073709551616 := by
 unfold nuParse at h
 split at h
 · rename_i h2
   rw [Bool.and_eq_true, Bool.and_eq_true, Bool.and_eq_true, decide_eq_true_eq (p := nuVal _ < _)] at h2
   have := Option.some.inj h
   exact ⟨this.symm, by omega, by have := h2.2.2.2; omega⟩
 · cases h
theorem nuDig_eq : ∀ (f n : Nat), n < 10 ^ f → f ≠ 0 → Lib.decDigits n = nuDig f n
 | 0, n, _, h => absurd rfl h
 | f + 1, n, hn, _ => by
   unfold nuDig
   rw [Lib.decDigits]
   by_cases c : n < 10
   · rw [dif_pos c, if_pos c]
   · rw [dif_neg c, if_neg c]
     by_cases hf : f = 0
     · subst hf; exact absurd hn (by simpa using c)
     · rw [nuDig_eq f (n / 10) (by rw [Nat.pow_succ] at hn; omega) hf]
theorem nuText_eq (n : Nat) (h : n < 18446744073709551616) : nuText n = ⟨(Lib.decDigits n).toArray⟩ := by
 unfold nuText
 rw [Int.toNat_natCast, nuDig_eq 20 n (by have : (18446744073709551616 : Nat) < 10 ^ 20 := by decide
                                          omega) (by decide)]
end
section
open Go.RowKit
theorem nuAll_take {v : ByteArray} {pos : Nat} (hp : pos < v.size) (h : (v.data.toList.take pos).all nuB = true) (hb : nuB v[pos] = true) : (v.data.toList.take (pos + 1)).all nuB = true := by
 have hl : pos < v.data.toList.length := by simpa using hp
 rw [List.take_succ_eq_append_getElem hl, List.all_append, h, List.all_cons, List.all_nil]
 have hg : v.data.toList[pos] = v[pos] := by simp; rfl
 rw [hg, hb]
 rfl
theorem nuAll_not {v : ByteArray} {pos : Nat} (hp : pos < v.size) (hb : nuB v[pos] = false) : nuOk v = false := by
 have hl : pos < v.data.toList.length := by simpa using hp
 have hg : v.data.toList[pos] = v[pos] := by simp; rfl
 have : v.data.toList.all nuB = false := by
  rw [List.all_eq_false]
  exact ⟨v.data.toList[pos], List.getElem_mem hl, by rw [hg, hb]; decide⟩
 unfold nuOk
 rw [this, Bool.and_false, Bool.and_false]
theorem c_nuNumber (v : ByteArray) (w : World) (hv : v.size ≤ maxLen) : Calls Tryz.prog 89 #[.string v] w fun e w' => e = .returned (.bool (nuOk v)) ∧ Below w.heap.size w w' := by
 unfold maxLen at hv
 obtain ⟨ok, hok⟩ : ∃ b, b = nuOk v := ⟨_, rfl⟩
 rw [← hok]
 have HOK := Lib.hid hok
 clear hok
 go_enter Tryz.func89, Tryz.ntmps89
 go_wp2
 go_loopw [4] (fun _ wr => ∃ pos : Nat, wr.heap[w.heap.size]? = some (.stringIter v pos) ∧ Below w.heap.size w wr ∧ pos ≤ v.size ∧ (v.data.toList.take pos).all nuB = true) (fun _ wr => v.size - wr.iterPos w.heap.size)
 case atStart =>
  refine ⟨0, ?_, (Below.refl _ w).alloc (Nat.le_refl _) _, Nat.zero_le _, rfl⟩
  have := World.iter_heap w v 0
  simpa using this
 case round =>
  obtain ⟨pos, hit, hbw, hps, hall⟩ := hrel
  have hsz : w.heap.size < wr.heap.size := (Array.getElem?_eq_some_iff.1 hit).1
  have HBW := Lib.hid hbw
  have HALL := Lib.hid hall
  have HIT := Lib.hid hit
  clear hbw hall
  by_cases hp : pos < v.size
  · have hnx : ∀ ty, (Instr.next (.pointer (some ⟨w.heap.size, 0, none⟩)) true ty).run Tryz.prog wr = _ := fun ty => Lib.run_next_any_at wr w.heap.size v pos ty hit hp
    obtain ⟨c, hc⟩ : ∃ c, c = (Utf8.decode v pos).1 := ⟨_, rfl⟩
    obtain ⟨d, hd⟩ : ∃ d, d = (Utf8.decode v pos).2 := ⟨_, rfl⟩
    rw [← hc, ← hd] at hnx
    have hb2 := Lib.below_iterAt HBW.out (k := w.heap.size) (Nat.le_refl _) v (pos + d)
    have hit2 := Lib.iterAt_heap wr w.heap.size v pos (pos + d) hit
    have HJ := Lib.hid (And.intro hb2 hit2)
    have HN : (48 ≤ c ∧ c ≤ 57 ∧ d = 1 ∧ nuB v[pos] = true) ∨ ((c < 48 ∨ 57 < c) ∧ nuB v[pos] = false) := by
     by_cases ha : (v[pos]'hp).toNat < 128
     · rw [decode_ascii v pos hp ha] at hc hd
       dsimp only at hc hd
       by_cases hb : nuB v[pos] = true
       · have : 48 ≤ v[pos].toNat ∧ v[pos].toNat ≤ 57 := of_decide_eq_true hb
         exact .inl ⟨by omega, by omega, hd, hb⟩
       · have hb : nuB v[pos] = false := by simpa using hb
         have : ¬ (48 ≤ v[pos].toNat ∧ v[pos].toNat ≤ 57) := of_decide_eq_false hb
         exact .inr ⟨by omega, hb⟩
     · have h1 := (decode_high v pos hp (by omega)).1
       refine .inr ⟨.inr (by omega), ?_⟩
       exact decide_eq_false (by omega)
    clear hc hd hb2 hit2 hit
    rcases HN with ⟨c0, c1, rfl, hb⟩ | ⟨c0, hb⟩
    · have HA := Lib.hid (nuAll_take hp HALL.out hb)
      have d0 : decide ((c : Int) < 48) = false := by simp; omega
      have d1 : decide ((57 : Int) < (c : Int)) = false := by simp; omega
      clear c0 c1 hb
      go_wp2_with fail
      go_roundw
      case rel => exact ⟨pos + 1, HJ.out.2, HJ.out.1, by omega, HA.out⟩
      case measure =>
       simp only [World.iterPos, HJ.out.2, HIT.out]
       omega
    · have HF : Hid (false = ok) := Lib.hid (by rw [HOK.out, nuAll_not hp hb])
      clear hb
      have hcc : c < 48 ∨ (48 ≤ c ∧ 57 < c) := by omega
      clear c0
      rcases hcc with c0 | ⟨c0, c1⟩
      · have d0 : decide ((c : Int) < 48) = true := by simp; omega
        go_wp2_with fail
        go_ret
        exact ⟨ret_bool HF.out, HJ.out.1⟩
      · have d0 : decide ((c : Int) < 48) = false := by simp; omega
        have d1 : decide ((57 : Int) < (c : Int)) = true := by simp; omega
        go_wp2_with fail
        go_ret
        exact ⟨ret_bool HF.out, HJ.out.1⟩
  · have hnx : ∀ ty, (Instr.next (.pointer (some ⟨w.heap.size, 0, none⟩)) true ty).run Tryz.prog wr = _ := fun ty => Lib.run_next_end_at wr w.heap.size v pos ty hit hp
    have HV : Hid (v.data.toList.all nuB = true) := Lib.hid (by
     have h := HALL.out
     rw [List.take_of_length_le (by simp; omega)] at h
     exact h)
    by_cases h0 : v.size = 0
    · have : v = ⟨#[]⟩ := by
       obtain ⟨a⟩ := v
       have : a.size = 0 := h0
       rw [Array.eq_empty_of_size_eq_zero this]
      subst this
      have HF : Hid (false = ok) := Lib.hid (by rw [HOK.out]; rfl)
      go_wp2_with fail
      go_ret
      exact ⟨ret_bool HF.out, HBW.out⟩
    · have hemp : v.toList.isEmpty = false := by
       rw [← decide_eq_emptyBytes]
       exact decide_eq_false (fun h => h0 (by rw [h]; rfl))
      have hok : nuOk v = decide ((v.size : Int) ≤ 20) := by
       unfold nuOk
       rw [decide_eq_true h0, HV.out, Bool.true_and, Bool.and_true]
       by_cases c : v.size ≤ 20
       · rw [decide_eq_true c, decide_eq_true (by omega)]
       · rw [decide_eq_false c, decide_eq_false (by omega)]
      have HF : Hid (decide ((v.size : Int) ≤ 20) = ok) := Lib.hid (by rw [HOK.out, hok])
      clear h0 hok
      go_wp2_with fail
      go_ret
      exact ⟨ret_bool HF.out, HBW.out⟩
theorem c_nuIncr (a b : Int) (w : World) (a0 : 0 ≤ a) (a1 : a < 18446744073709551616) (b0 : 0 ≤ b) (b1 : b < 18446744073709551616) : Calls Tryz.prog 39 #[.int .u64 a, .int .u64 b] w fun e w' => e = .returned (.int .u64 (nuBy 9 a b)) ∧ w = w' := by
 have e1 : IntKind.u64.wrap (a + b) = nuBy 9 a b := by rw [IntKind.wrap_u64]; rfl
 go_enter Tryz.func39, Tryz.ntmps39
 go_wp2
 go_ret
 exact ⟨rfl, rfl⟩
theorem c_nuDecr (a b : Int) (w : World) (a0 : 0 ≤ a) (a1 : a < 18446744073709551616) (b0 : 0 ≤ b) (b1 : b < 18446744073709551616) : Calls Tryz.prog 40 #[.int .u64 a, .int .u64 b] w fun e w' => e = .returned (.int .u64 (nuBy 10 a b)) ∧ w = w' := by
 have e0 : nuBy 10 a b = if a ≤ b then 0 else a - b := by unfold nuBy; rw [if_neg (by decide)]
 rw [e0]
 clear e0
 by_cases h : b < a
 · have d0 : decide (b < a) = true := by simp [h]
   have e1 : IntKind.u64.wrap (a - b) = a - b := by rw [IntKind.wrap_u64]; omega
   rw [if_neg (by omega)]
   go_enter Tryz.func40, Tryz.ntmps40
   go_wp2
   go_ret
   exact ⟨rfl, rfl⟩
 · have d0 : decide (b < a) = false := by simp; omega
   have e1 : IntKind.u64.wrap (a - a) = 0 := by rw [IntKind.wrap_u64]; omega
   rw [if_pos (by omega)]
   go_enter Tryz.func40, Tryz.ntmps40
   go_wp2
   go_ret
   exact ⟨rfl, rfl⟩
end
end Go.Proofs.YtifkfhnbkjkakaaGreatDoor
