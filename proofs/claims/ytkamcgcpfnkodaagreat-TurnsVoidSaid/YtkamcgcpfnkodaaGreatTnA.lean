/- Contracts that other seats of ours hold too (taken by sub.py). Contracts that other seats of ours hold too (taken by sub.py). Layers 2, 10: of a word that is 0 each tag is 0; a note of a world. Layer 20: a Move of an empty bucket. Layer 20: a Move's step at a slot that is empty. Layer 19: a Swap. -/
import Derived.Test.YtkamcgcpfnkodaaGreatPl2
import Derived.BigQuiet
import Derived.Test.YtkamcgcpfnkodaaGreatNtNL
import Derived.Test.YtkamcgcpfnkodaaGreatMem
import Derived.Test.YtkamcgcpfnkodaaGreatOw
import Derived.Laws.AppendOwnNone
import Derived.Deep.RegionHeld3
import Derived.Outline
import Derived.Deep.DeepCutAuto
import Derived.Deep.RegionLaw
import Derived.BigRegion
import Derived.Test.YtkamcgcpfnkodaaGreatWtk
import Derived.Test.YtkamcgcpfnkodaaGreatFlN
import Derived.Test.YtkamcgcpfnkodaaGreatTk
import Derived.Laws.EntriesVeiled
import Derived.Shelf.Lay
namespace Go.Proofs.YtkamcgcpfnkodaaGreat
set_option linter.unusedSimpArgs false
section
open Go.RowKit
set_option linter.unusedVariables false
theorem size0 {b : Int} : (fnvSize b == 0) = decide (b < 1 ∨ 12 < b) := by
  rw [Bool.eq_iff_iff]
  simp only [beq_iff_eq, decide_eq_true_eq]
  have := fnvSize_iff b
  have := fnvSize_bd b
  omega

theorem c_Size (b : Int) (w : World) (b0 : -9223372036854775808 ≤ b) (b1 : b ≤ 9223372036854775807) :
    Calls Tryz.prog 37 #[.int .i64 b] w fun e w' => e = .returned (.int .i64 (fnvSize b)) ∧ w = w' := by
  by_cases c : 1 ≤ b ∧ b ≤ 12
  · obtain ⟨c1, c2⟩ := c
    have hp := two_pow_le (n := b.toNat) (by omega) (by omega)
    rw [fnvSize_in c1 c2]
    go_enter Tryz.func37, Tryz.ntmps37
    go_wp2
    go_ret
    exact ⟨rfl, rfl⟩
  · rw [fnvSize_out (by omega)]
    by_cases c2 : b < 1
    · go_enter Tryz.func37, Tryz.ntmps37
      go_wp2
      go_ret
      exact ⟨rfl, rfl⟩
    · have c3 : 12 < b := by omega
      go_enter Tryz.func37, Tryz.ntmps37
      go_wp2
      go_ret
      exact ⟨rfl, rfl⟩

theorem c_As (x : Int) (w : World) (x0 : 0 ≤ x) (x1 : x < 18446744073709551616) :
    Calls Tryz.prog 9 #[.int .u64 x] w fun e w' => e = .returned (.tuple #[.int .i64 (plOld x), .int .i64 (plNow x)]) ∧ w = w' := by
  by_cases c1 : 1 ≤ x % 256 ∧ x % 256 ≤ 12
  · have Ho := Lib.hid (show plOld x = x % 256 from by unfold plOld; rw [if_pos c1])
    have s1 : (fnvSize (x % 256) == 0) = false := by rw [size0]; simp; omega
    by_cases c2 : x / 256 % 256 = x % 256 + 1
    · by_cases c3 : x / 256 % 256 ≤ 12
      · have Hn := Lib.hid (show plNow x = x / 256 % 256 from by unfold plNow; rw [if_pos ⟨by rw [Ho.out]; exact c2, c3⟩])
        have s2 : (fnvSize (x / 256 % 256) == 0) = false := by rw [size0]; simp; omega
        have d2 : (x / 256 % 256 != x % 256 + 1) = false := by rw [c2]; simp
        rw [Ho.out, Hn.out]
        clear c2
        go_enter Tryz.func9, Tryz.ntmps9
        go_wp2_with (go_at_call 37; refine (c_Size _ _ (by omega) (by omega)).mono ?_; rintro e w' ⟨rfl, rfl⟩)
        go_ret2
        exact ⟨rfl, rfl⟩
      · have Hn := Lib.hid (show plNow x = 0 from by unfold plNow; rw [if_neg (by omega)])
        have s2 : (fnvSize (x / 256 % 256) == 0) = true := by rw [size0]; simp; omega
        have d2 : (x / 256 % 256 != x % 256 + 1) = false := by rw [c2]; simp
        rw [Ho.out, Hn.out]
        clear c2
        go_enter Tryz.func9, Tryz.ntmps9
        go_wp2_with (go_at_call 37; refine (c_Size _ _ (by omega) (by omega)).mono ?_; rintro e w' ⟨rfl, rfl⟩)
        go_ret2
        exact ⟨rfl, rfl⟩
    · have Hn := Lib.hid (show plNow x = 0 from by unfold plNow; rw [if_neg (by rw [Ho.out]; omega)])
      have d2 : (x / 256 % 256 != x % 256 + 1) = true := by rw [bne_iff_ne]; exact c2
      rw [Ho.out, Hn.out]
      clear c2
      go_enter Tryz.func9, Tryz.ntmps9
      go_wp2_with (go_at_call 37; refine (c_Size _ _ (by omega) (by omega)).mono ?_; rintro e w' ⟨rfl, rfl⟩)
      go_ret2
      exact ⟨rfl, rfl⟩
  · have Ho := Lib.hid (show plOld x = 1 from by unfold plOld; rw [if_neg c1])
    have s1 : (fnvSize (x % 256) == 0) = true := by rw [size0]; simp; omega
    by_cases c2 : x / 256 % 256 = 2
    · have Hn := Lib.hid (show plNow x = x / 256 % 256 from by unfold plNow; rw [if_pos ⟨by rw [Ho.out]; exact c2, by omega⟩])
      have s2 : (fnvSize (x / 256 % 256) == 0) = false := by rw [size0]; simp; omega
      have d2 : (x / 256 % 256 != 2) = false := by rw [c2]; rfl
      rw [Ho.out, Hn.out]
      clear c2 c1
      go_enter Tryz.func9, Tryz.ntmps9
      go_wp2_with (go_at_call 37; refine (c_Size _ _ (by omega) (by omega)).mono ?_; rintro e w' ⟨rfl, rfl⟩)
      go_ret2
      exact ⟨rfl, rfl⟩
    · have Hn := Lib.hid (show plNow x = 0 from by unfold plNow; rw [if_neg (by rw [Ho.out]; omega)])
      have d2 : (x / 256 % 256 != 2) = true := by rw [bne_iff_ne]; exact c2
      rw [Ho.out, Hn.out]
      clear c2 c1
      go_enter Tryz.func9, Tryz.ntmps9
      go_wp2_with (go_at_call 37; refine (c_Size _ _ (by omega) (by omega)).mono ?_; rintro e w' ⟨rfl, rfl⟩)
      go_ret2
      exact ⟨rfl, rfl⟩

theorem c_there (b k : Int) (w : World) (b0 : -9223372036854775808 ≤ b) (b1 : b ≤ 9223372036854775807) (k0 : -9223372036854775808 ≤ k) (k1 : k ≤ 9223372036854775807) :
    Calls Tryz.prog 113 #[.agg #[.int .i64 b, .int .i64 k]] w fun e w' => e = .returned (.bool (decide (0 ≤ k ∧ k < fnvSize b))) ∧ Below w.heap.size w w' := by
  have hs := fnvSize_bd b
  by_cases c1 : 0 ≤ k
  · have d1 : decide (0 ≤ k) = true := by simpa using c1
    by_cases c2 : k < fnvSize b
    · have d2 : decide (k < fnvSize b) = true := by simpa using c2
      rw [decide_eq_true (⟨c1, c2⟩ : 0 ≤ k ∧ k < fnvSize b)]
      go_enter Tryz.func113, Tryz.ntmps113
      go_wp2
      go_quiet ((go_at_call 37; exact quietS (c_Size _ _ b0 b1)))
      go_wp2
      go_ret
      exact ⟨rfl, below_drewN ((Below.refl _ _).alloc (Nat.le_refl _) _) _⟩
    · have d2 : decide (k < fnvSize b) = false := by simpa using c2
      rw [decide_eq_false (show ¬ (0 ≤ k ∧ k < fnvSize b) by omega)]
      go_enter Tryz.func113, Tryz.ntmps113
      go_wp2
      go_quiet ((go_at_call 37; exact quietS (c_Size _ _ b0 b1)))
      go_wp2
      go_ret
      exact ⟨rfl, below_drewN ((Below.refl _ _).alloc (Nat.le_refl _) _) _⟩
  · have d1 : decide (0 ≤ k) = false := by simpa using c1
    rw [decide_eq_false (show ¬ (0 ≤ k ∧ k < fnvSize b) by omega)]
    go_enter Tryz.func113, Tryz.ntmps113
    go_wp2
    go_quiet ((go_at_call 37; exact quietS (c_Size _ _ b0 b1)))
    go_wp2
    go_ret
    exact ⟨rfl, below_drewN ((Below.refl _ _).alloc (Nat.le_refl _) _) _⟩

theorem c_Tags (b k : Int) (w : World) (b0 : -9223372036854775808 ≤ b) (b1 : b ≤ 9223372036854775807) (k0 : -9223372036854775808 ≤ k) (k1 : k ≤ 9223372036854775807) :
    Calls Tryz.prog 83 #[.agg #[.int .i64 b, .int .i64 k]] w fun e w' => e = .returned (.int .u64 (plTags b k)) ∧ Below w.heap.size w w' := by
  have hs := fnvSize_bd b
  by_cases c : 0 ≤ k ∧ k < fnvSize b
  · have Ht := Lib.hid (plTags_in c)
    have d := decide_eq_true c
    rw [Ht.out]
    obtain ⟨ca, cb⟩ := c
    go_enter Tryz.func83, Tryz.ntmps83
    go_wp2_with fail
    refine (c_there _ _ _ b0 b1 k0 k1).mono ?_
    rintro e w' ⟨rfl, hb⟩
    have q0 : w'.cell? ⟨w.heap.size, 0, none⟩ = some (.int .i64 b) := by rw [hb.cell (p := ⟨w.heap.size, 0, none⟩) (by simp)]; simp
    have q1 : w'.cell? ⟨w.heap.size, 1, none⟩ = some (.int .i64 k) := by rw [hb.cell (p := ⟨w.heap.size, 1, none⟩) (by simp)]; simp
    go_wp2_with fail
    go_quiet ((go_at_call 37; exact quietS (c_Size _ _ b0 b1)))
    go_wp2
    go_ret
    exact ⟨by simp, below_drewN (((Below.refl _ _).alloc (Nat.le_refl _) _).trans (hb.mono (by simp))) _⟩
  · have d := decide_eq_false c
    rw [plTags_out c]
    clear c
    go_enter Tryz.func83, Tryz.ntmps83
    go_wp2_with (go_at_call 113; refine (c_there _ _ _ b0 b1 k0 k1).mono ?_; rintro e w' ⟨rfl, hb⟩)
    go_ret
    exact ⟨rfl, ((Below.refl _ _).alloc (Nat.le_refl _) _).trans (hb.mono (by simp))⟩
end
section
open Go.RowKit
set_option linter.unusedVariables false
theorem c_Ntnotes (h : Nat) (v : Value) (w : World) (hc : w.cell? ⟨h, 0, none⟩ = some v) :
    Calls Tryz.prog 40 #[.pointer (some ⟨h, 0, none⟩)] w fun e w' => e = .returned v ∧ w = w' := by
  go_enter Tryz.func40, Tryz.ntmps40
  go_wp2
  go_ret
  exact ⟨rfl, rfl⟩
theorem c_NtCount (h : Nat) (ao : Option Addr) (n c : Nat) (w : World) (hc : w.cell? ⟨h, 0, none⟩ = some (.slice ao n c)) :
    Calls Tryz.prog 12 #[.pointer (some ⟨h, 0, none⟩)] w fun e w' => e = .returned (.int .i64 n) ∧ w = w' := by
  go_enter Tryz.func12, Tryz.ntmps12
  go_wp2_with (go_at_call 40; refine (c_Ntnotes h _ _ hc).mono ?_; rintro e w' ⟨rfl, rfl⟩)
  go_ret
  exact ⟨rfl, rfl⟩
theorem infoNt : (Tryz.prog.info? 126).map (fun i => (i.zero, i.size, i.bytes)) = some (some (.agg #[.int .i64 0, .int .i64 0, .int .u8 0, .int .i64 0, .int .i64 0, .int .i64 0, .int .i64 0, .int .i64 0]), 8, 64) := by kernel_rfl
theorem ntbelow_drewN {B : Nat} {a w : World} (h : Below B a w) (n : Nat) : Below B a (w.drewN n) := ⟨h.os, h.tape, h.output, h.size, h.block⟩
theorem ntkeepF {w : World} {o : Obj} {h j : Nat} (hl : h < w.heap.size) (hf : w.frozen? ⟨h, j, none⟩ = false) : (w.alloc o).drew.frozen? ⟨h, j, none⟩ = false :=
  ((((Below.refl w.heap.size w).alloc (Nat.le_refl _) o).drew).frozen (p := ⟨h, j, none⟩) hl).trans hf
def ntObj (n : Nt) : Obj := .cells #[.int .i64 n.step, .int .i64 n.thread, .int .u8 n.kind, .int .i64 n.ref, .int .i64 n.bits, .int .i64 n.bucket, .int .i64 n.slot, .int .i64 n.value] 126
theorem add_end {w W w1 : World} {o : Obj} {h gg cap : Nat} {v : Value} {l : List Nt} {n : Nt} (he : ntErr l n = 0) (hB : Wrote (NLset h v) w W) (hlW : h < W.heap.size) (hap : v.ownBlock ≠ some h)
    (hown : w1.ownsRow 0 126 8 (.slice (some ⟨gg, 0, none⟩) (l.length + 1) cap) (l.length + 1) (rowOf ntc l ++ ntc n)) (hg : (W.alloc o).drew.grownBy w1 v.ownBlock) (hat : v.ownBlock = some gg ∨ gg = W.heap.size + 1)
    (hh1 : w1.cell? ⟨h, 0, none⟩ = some v) (hh2 : w1.frozen? ⟨h, 0, none⟩ = false) :
    ∃ v', NL (w1.setCell ⟨h, 0, none⟩ (.slice (some ⟨gg, 0, none⟩) (l.length + 1) cap)) 126 ntc h v' (ntAdd l n) ∧ (∀ k, v'.ownBlock = some k → v.ownBlock = some k ∨ w.heap.size ≤ k) ∧ Wrote (NLset h v) w (w1.setCell ⟨h, 0, none⟩ (.slice (some ⟨gg, 0, none⟩) (l.length + 1) cap)) := by
  have hgh : gg ≠ h := by
    rcases hat with e | e
    · intro he; subst he; exact hap e
    · omega
  have hw1 : Wrote (NLset h v) w w1 := ((hB.alloc o).drew).grown hg fun k hk _ => .inr hk
  have hz : W.heap.size + 1 ≤ w1.heap.size := by have := hg.size; simpa using this
  have hs : ∀ u, Wrote (fun k => k = h) w1 (w1.setCell ⟨h, 0, none⟩ u) := fun u => Wrote.setCell (S := fun k => k = h) (Wrote.refl _ _) (p := ⟨h, 0, none⟩) (fun _ => rfl) u
  refine ⟨_, ⟨World.cell?_setCell_same _ _ _ hh1, (World.frozen?_setCell _ _ _ _).trans hh2, by simp; omega, ?_, ?_⟩, ?_, hw1.setCell (p := ⟨h, 0, none⟩) (fun _ => .inl rfl) _⟩
  · intro e; cases e; exact hgh rfl
  · rw [ntAdd_ok he, rowOf_snoc, List.length_append]
    exact (hs _).own hown fun k hk e => by cases hk; exact hgh e
  · intro k hk
    cases hk
    rcases hat with e | e
    · exact .inl e
    · right; have := hB.size; show w.heap.size ≤ gg; omega
set_option maxHeartbeats 1000000 in
set_option maxRecDepth 100000 in
theorem c_NtAdd (n : Nt) (h : Nat) (v : Value) (l : List Nt) (w : World) (hl : NL w 126 ntc h v l) (k0 : 0 ≤ n.kind) (k1 : n.kind ≤ 255) :
    Calls Tryz.prog 133 #[.pointer (some ⟨h, 0, none⟩), .agg #[.int .i64 n.step, .int .i64 n.thread, .int .u8 n.kind, .int .i64 n.ref, .int .i64 n.bits, .int .i64 n.bucket, .int .i64 n.slot, .int .i64 n.value]] w fun e w' =>
      e = .returned (.int .i64 (ntErr l n)) ∧ ∃ v', NL w' 126 ntc h v' (ntAdd l n) ∧ (∀ k, v'.ownBlock = some k → v.ownBlock = some k ∨ w.heap.size ≤ k) ∧ Wrote (NLset h v) w w' := by
  have hlt := hl.lt
  have hc := hl.head
  have hfz := hl.free
  have hap := hl.apart
  have hown := hl.own
  obtain ⟨ao, cp, rfl, hcp, hm⟩ := (Arr.of_own hl.own).shape
  have hm' : l.length ≤ 9223372036854775807 := by unfold maxLen at hm; omega
  have hne : ¬ h = w.heap.size := by omega
  have HL := Lib.hid hl
  clear hl
  go_enter Tryz.func133, Tryz.ntmps133
  go_wp2_with (go_at_call 12; refine (c_NtCount h ao l.length cp _ ((((Below.refl _ _).alloc (Nat.le_refl _) _).cell (p := ⟨h, 0, none⟩) hlt).trans hc)).mono ?_; rintro e w' ⟨rfl, rfl⟩)
  go_cut [11] (fun s wx => s = .bool (ntBad l n) ∧ ∃ nq, wx = (w.alloc (ntObj n)).drewN nq)
  case first =>
    by_cases h0 : n.kind = 0
    · have hB : ntBad l n = true := by unfold ntBad; simp [h0]
      have e0 : (n.kind == 0) = true := by simp [h0]
      have HB := Lib.hid hB
      clear h0 hB
      go_quiet (fail)
      go_wp2
      go_meet
      exact ⟨by rw [HB.out], _, rfl⟩
    · have e0 : (n.kind == 0) = false := by simp [h0]
      clear h0
      by_cases h9 : 9 < n.kind
      · have hB : ntBad l n = true := by unfold ntBad; simp [h9]
        have e9 : decide (9 < n.kind) = true := by simp [h9]
        have HB := Lib.hid hB
        clear hB
        go_quiet (fail)
        go_wp2
        go_meet
        exact ⟨by rw [HB.out], _, rfl⟩
      · have e9 : decide (9 < n.kind) = false := by simp; omega
        have hk0 : ¬ n.kind = 0 := by simpa using e0
        have hB : ntBad l n = ntLow l n := by unfold ntBad; rw [decide_eq_false (by omega)]; rfl
        have HB := Lib.hid hB
        clear hB hk0
        by_cases hz : l.length = 0
        · have ez : decide (0 < l.length) = false := by simp [hz]
          have hB : ntLow l n = false := by rw [List.eq_nil_of_length_eq_zero hz]; rfl
          have HB2 := Lib.hid hB
          clear hB hz
          go_quiet (fail)
          go_wp2
          go_meet
          exact ⟨by rw [HB.out, HB2.out], _, rfl⟩
        · have ez : decide (0 < l.length) = true := by simp; omega
          have hB := ntLow_get n (show 0 < l.length by omega)
          obtain ⟨b, o, c', he, -, -, hb, hx⟩ := (Arr.of_own hown).open (show 0 < l.length by omega) (by omega)
          cases he
          have hi0 : (0 : Int) ≤ (l.length : Int) - 1 := by omega
          have hi1 : (l.length : Int) - 1 < (l.length : Int) := by omega
          obtain ⟨m, hmm⟩ : ∃ m, m = l[l.length - 1] := ⟨_, rfl⟩
          have g0 := nt_cells ntc_len hx (l.length - 1) (by omega) 0 (by omega) (u := .int .i64 m.step) (by rw [hmm]; rfl)
          rw [Nat.add_zero] at g0
          have hbn : ¬ b = w.heap.size := by omega
          rw [← hmm] at hB
          have HB2 := Lib.hid hB
          clear hx hB hmm hz hown
          go_quiet (fail)
          go_wp2
          go_meet
          exact ⟨by rw [HB.out, HB2.out], _, rfl⟩
  case rest =>
    obtain ⟨rfl, nq, rfl⟩ := hcut
    cases hB : ntBad l n
    · have HB := Lib.hid hB
      by_cases hfull : 1048576 ≤ l.length
      · have hd : decide ((1048576 : Int) ≤ (l.length : Int)) = true := by simp only [decide_eq_true_eq]; omega
        have HF := Lib.hid hfull
        clear hown hfull
        go_wp2
        have hfull := HF.out
        go_ret
        exact ⟨ret_int (ntErr_full HB.out hfull).symm, _, by rw [ntAdd_no (by rw [ntErr_full HB.out hfull]; omega)]; exact HL.out.wrote ((Wrote.refl _ _).alloc _ |>.drewN nq) (fun _ _ hf => hf), fun k hk => .inl hk, ((Wrote.refl _ _).alloc _).drewN nq⟩
      · obtain ⟨i0, hi, hz0, hz1, hz2⟩ := info_parts infoNt
        have HE := Lib.hid (ntErr_ok HB.out hfull)
        obtain ⟨W, hW⟩ : ∃ W, W = (w.alloc (ntObj n)).drewN nq := ⟨_, rfl⟩
        have hlW : h < W.heap.size := by rw [hW]; simp; omega
        have hB : Wrote (NLset h (.slice ao l.length cp)) w W := by rw [hW]; exact ((Wrote.refl _ _).alloc _).drewN nq
        have hbel : Below w.heap.size w W := by rw [hW]; exact ntbelow_drewN ((Below.refl _ _).alloc (Nat.le_refl _) _) _
        have hcW : W.cell? ⟨h, 0, none⟩ = some (.slice ao l.length cp) := (hbel.cell (p := ⟨h, 0, none⟩) hlt).trans hc
        have hfW : W.frozen? ⟨h, 0, none⟩ = false := (hbel.frozen (p := ⟨h, 0, none⟩) hlt).trans hfz
        have hownW : W.ownsRow 0 126 8 (.slice ao l.length cp) l.length (rowOf ntc l) := by rw [hW]; exact ownsRow_below hown (ntbelow_drewN ((Below.refl _ _).alloc (Nat.le_refl _) _) _)
        obtain ⟨B, hBB⟩ : ∃ B, B = w.heap.size := ⟨_, rfl⟩
        rw [← hBB]
        have hcell : ∀ j u, (ntc n)[j]? = some u → W.cell? ⟨B, j, none⟩ = some u := by
          intro j u hu
          rw [hW, hBB]
          have : (w.alloc (ntObj n)).cell? ⟨w.heap.size, j, none⟩ = some u := by
            unfold World.cell? ntObj
            rw [heap_alloc_new]
            simpa [ntc] using hu
          exact this
        have b0 : W.cell? ⟨B, 0, none⟩ = some (.int .i64 n.step) := hcell 0 _ rfl
        have b1 : W.cell? ⟨B, 1, none⟩ = some (.int .i64 n.thread) := hcell 1 _ rfl
        have b2 : W.cell? ⟨B, 2, none⟩ = some (.int .u8 n.kind) := hcell 2 _ rfl
        have b3 : W.cell? ⟨B, 3, none⟩ = some (.int .i64 n.ref) := hcell 3 _ rfl
        have b4 : W.cell? ⟨B, 4, none⟩ = some (.int .i64 n.bits) := hcell 4 _ rfl
        have b5 : W.cell? ⟨B, 5, none⟩ = some (.int .i64 n.bucket) := hcell 5 _ rfl
        have b6 : W.cell? ⟨B, 6, none⟩ = some (.int .i64 n.slot) := hcell 6 _ rfl
        have b7 : W.cell? ⟨B, 7, none⟩ = some (.int .i64 n.value) := hcell 7 _ rfl
        have hBW : B < W.heap.size := by rw [hBB, hW]; simp
        have hBo : (Value.slice ao l.length cp).ownBlock ≠ some B := fun he => by have := (hown.lt _ he).2; omega
        have hd : decide ((1048576 : Int) ≤ (l.length : Int)) = false := by simp only [decide_eq_false_iff_not]; omega
        have HF := Lib.hid hfull
        clear hfull
        have hfA : ∀ o, (W.alloc o).frozen? ⟨h, 0, none⟩ = false := fun o => (((Below.refl W.heap.size W).alloc (Nat.le_refl _) o).frozen (p := ⟨h, 0, none⟩) hlW).trans hfW
        have HW := Lib.hid hW
        have HBB := Lib.hid hBB
        clear hBB
        rw [← hW]
        clear hcell hW hc hfz hown hbel
        go_wp2
        go_region_law ((refine step_append_lies _ (by rfl) _ _ _ (by rfl) 0 126 i0 _ 8 64 Tryz.underlying104 hi hz0 hz1 hz2 rfl (by omega) (.slice ao l.length cp) l.length (rowOf ntc l) (by rfl) ((hownW.alloc _).drew) ⟨W.heap.size, 0, none⟩ 1 1 (ntc n) (by rfl) (by rfl) (World.news_of_block (cs := (ntc n).toArray) (t := 126) (fr := (0, 0)) (heap_alloc_new W _)) (by simp [Value.oneCell', ntc]) (by omega) (by have := HF.out; unfold maxLen; omega) (by have := HF.out; omega) (by simp) (W.heap.size + 1) (by simp) ?_; intro gg cap w1 hown1 hgrow hat hlt1; have hh1 : w1.cell? ⟨h, 0, none⟩ = some (.slice ao l.length cp) := (hgrow.cell_far _ (by simp; omega) (Ne.symm hap)).trans ((((Below.refl W.heap.size W).alloc (Nat.le_refl _) _).cell (p := ⟨h, 0, none⟩) hlW).trans hcW); have hh2 : w1.frozen? ⟨h, 0, none⟩ = false := (hgrow.frozen_far _ (by simp; omega) (Ne.symm hap)).trans (hfA _)))
        all_goals
          go_wp2
          go_ret
          exact ⟨ret_int HE.out.symm, add_end HE.out hB hlW hap hown1 hgrow hat hh1 hh2⟩
    · have HB := Lib.hid hB
      clear hown
      go_wp2
      go_ret
      exact ⟨ret_int (ntErr_bad HB.out).symm, _, by rw [ntAdd_no (by rw [ntErr_bad HB.out]; omega)]; exact HL.out.wrote ((Wrote.refl _ _).alloc _ |>.drewN nq) (fun _ _ hf => hf), fun k hk => .inl hk, ((Wrote.refl _ _).alloc _).drewN nq⟩
/-- A note is taken, by owners. -/
theorem c_NoAdd (n : Nt) {w : World} {O : Om} {t np : Nat} {l : List Nt} (h : No w O t np l) (ht : t ≠ 0) (hhi : ∀ j, O j ≠ 0 → j < w.heap.size) (k0 : 0 ≤ n.kind) (k1 : n.kind ≤ 255) :
    Calls Tryz.prog 133 #[.pointer (some ⟨np, 0, none⟩), .agg #[.int .i64 n.step, .int .i64 n.thread, .int .u8 n.kind, .int .i64 n.ref, .int .i64 n.bits, .int .i64 n.bucket, .int .i64 n.slot, .int .i64 n.value]] w
      (RP (fun j => j = t) w O (.int .i64 (ntErr l n)) fun W G => No W G t np (ntAdd l n)) := by
  classical
  obtain ⟨v, hl, hO⟩ := h.ex
  refine (c_NtAdd n np v l w hl k0 k1).mono ?_
  rintro e w' ⟨rfl, v', hl', hv', hw⟩
  refine ⟨rfl, fun j => if NLset np v' j ∧ O j = 0 then t else O j, ⟨fun j hj => ?_, fun j hj => ?_, fun j hj hn => ?_, ?_⟩, ⟨v', hl', fun k hk => ?_⟩⟩
  · show (if NLset np v' j ∧ O j = 0 then t else O j) = O j
    by_cases hc : NLset np v' j ∧ O j = 0
    · exfalso
      have hold : NLset np v j := by
        rcases hc.1 with h1 | h1
        · exact .inl h1
        · rcases hv' j h1 with h2 | h2
          · exact .inr h2
          · omega
      rw [hO j hold] at hc
      exact ht hc.2
    · rw [if_neg hc]
  · by_cases hc : NLset np v' j
    · exact hl'.lts j hc
    · have hj2 : (if NLset np v' j ∧ O j = 0 then t else O j) ≠ 0 := hj
      rw [if_neg (fun h => hc h.1)] at hj2
      exact Nat.lt_of_lt_of_le (hhi j hj2) hw.size
  · show (if NLset np v' j ∧ O j = 0 then t else O j) = t
    have hn2 : (if NLset np v' j ∧ O j = 0 then t else O j) ≠ 0 := hn
    by_cases hc : NLset np v' j ∧ O j = 0
    · rw [if_pos hc]
    · rw [if_neg hc] at hn2
      have := hhi j hn2
      omega
  · exact hw.mono fun j hj hs => ⟨hO j hs, by rw [hO j hs]; exact ht⟩
  · show (if NLset np v' k ∧ O k = 0 then t else O k) = t
    by_cases hz : O k = 0
    · rw [if_pos ⟨hk, hz⟩]
    · rw [if_neg (fun h => hz h.2)]
      rcases hk with h1 | h1
      · exact hO k (.inl h1)
      · rcases hv' k h1 with h2 | h2
        · exact hO k (.inr h2)
        · exact absurd (hhi k hz) (by omega)
end
section
open Go.RowKit
set_option linter.unusedVariables false

set_option maxRecDepth 100000 in
theorem c_Parts0 (w : World) : Calls Tryz.prog 112 #[.int .u64 0] w fun e w' => e = .returned (.agg #[.int .i64 0, .int .i64 0, .int .i64 0, .int .i64 0]) ∧ Below w.heap.size w w' := by
  have hz : bits BinOp.and IntKind.u64 0 255 = 0 := by decide
  go_enter Tryz.func112, Tryz.ntmps112
  go_wp2_with fail
  refine wp_loop_rounds 5 ?_
  rw [rounds_succ]
  go_wp2_with fail
  rw [rounds_succ]
  go_wp2_with fail
  rw [rounds_succ]
  go_wp2_with fail
  rw [rounds_succ]
  go_wp2_with fail
  rw [rounds_succ]
  go_wp2_with fail
  exact bodyPost_ret (v := .agg #[.int .i64 0, .int .i64 0, .int .i64 0, .int .i64 0]) (by simp [results, Tryz.results112, go_sem, hz, wrap64]) rfl ⟨rfl, (Below.refl _ _).alloc (Nat.le_refl _) _⟩
theorem c_tthere (k : Int) (w : World) (k0 : 0 ≤ k) (k1 : k < 4) : Calls Tryz.prog 111 #[.int .i64 k] w fun e w' => e = .returned (.bool true) ∧ w = w' := by
  have d1 : decide (0 ≤ k) = true := by simp; omega
  have d2 : decide (k < 4) = true := by simp; omega
  go_enter Tryz.func111, Tryz.ntmps111
  go_wp2
  go_ret
  exact ⟨rfl, rfl⟩
set_option maxRecDepth 100000 in
theorem c_Tag0 (k : Int) (w : World) (k0 : 0 ≤ k) (k1 : k < 4) : Calls Tryz.prog 82 #[.int .u64 0, .int .i64 k] w fun e w' => e = .returned (.int .i64 0) ∧ Below w.heap.size w w' := by
  have hk : k = 0 ∨ k = 1 ∨ k = 2 ∨ k = 3 := by omega
  have h0 : ∀ W, (Instr.index 214 (.agg #[.int .i64 0, .int .i64 0, .int .i64 0, .int .i64 0]) (.int .i64 0)).run Tryz.prog W = .ok (.int .i64 0) W := fun W => by kernel_rfl
  have h1 : ∀ W, (Instr.index 214 (.agg #[.int .i64 0, .int .i64 0, .int .i64 0, .int .i64 0]) (.int .i64 1)).run Tryz.prog W = .ok (.int .i64 0) W := fun W => by kernel_rfl
  have h2 : ∀ W, (Instr.index 214 (.agg #[.int .i64 0, .int .i64 0, .int .i64 0, .int .i64 0]) (.int .i64 2)).run Tryz.prog W = .ok (.int .i64 0) W := fun W => by kernel_rfl
  have h3 : ∀ W, (Instr.index 214 (.agg #[.int .i64 0, .int .i64 0, .int .i64 0, .int .i64 0]) (.int .i64 3)).run Tryz.prog W = .ok (.int .i64 0) W := fun W => by kernel_rfl
  rcases hk with rfl | rfl | rfl | rfl
  all_goals
    go_enter Tryz.func82, Tryz.ntmps82
    go_wp2_with fail
    refine (c_tthere _ _ (by decide) (by decide)).mono ?_
    rintro e w' ⟨rfl, rfl⟩
    go_wp2_with fail
    refine (c_Parts0 _).mono ?_
    rintro e w' ⟨rfl, hb⟩
    go_wp2_with fail
    go_ret
    exact ⟨rfl, hb⟩
theorem zero_own1 {O : Om} {w : World} (h : ∀ j, O j ≠ 0 → j < w.heap.size) {j : Nat} (hj : w.heap.size ≤ j) : O j = 0 := by
  by_cases hz : O j = 0
  · exact hz
  · exact absurd (h j hz) (by omega)
def awNote (k ref b q s v : Int) (x : AW) : AW := ⟨x.M, x.n, x.la, x.tk, x.ho, x.it, ntAdd x.nt ⟨x.n, x.ho, k, ref, b, q, s, v⟩⟩
theorem PW.notes {w w' : World} {O O' : Om} {B : Wb} {f : Cf} {s : AW} {l : List Nt} (h : PW w O B f s) (e : Ext (fun t => t = 4) O w O' w') (hc : No w' O' 4 B.np l) : PW w' O' B f ⟨s.M, s.n, s.la, s.tk, s.ho, s.it, l⟩ :=
  ⟨(e.lo _ h.wo.lt).trans h.o, h.wo.wrote e.wr (fun k => absurd (show (1 : Nat) = 4 from by have := k.1; rwa [h.o] at this) (by decide)), h.ce.ext e (by decide) (by decide), h.ar.ext e (by decide), hc⟩
set_option maxHeartbeats 2000000 in
set_option maxRecDepth 100000 in
theorem c_WNote (k ref b q sl v : Int) {w : World} {O : Om} {B : Wb} {f : Cf} {s : AW} (h : PW w O B f s) (hhi : ∀ j, O j ≠ 0 → j < w.heap.size) (k0 : 0 ≤ k) (k1 : k ≤ 255) :
    Calls Tryz.prog 110 #[.pointer (some ⟨B.p, 0, none⟩), .int .u8 k, .int .i64 ref, .agg #[.int .i64 b, .int .i64 q, .int .i64 sl], .int .i64 v] w (RP SW w O (.tuple #[]) fun W G => PW W G B f (awNote k ref b q sl v s)) := by
  have HP := Lib.hid h
  have HH := Lib.hid hhi
  clear h hhi
  go_enter Tryz.func110, Tryz.ntmps110
  go_wp2_with fail
  obtain ⟨W, hW⟩ : ∃ W, W = w.alloc (.cells #[.int .i64 b, .int .i64 q, .int .i64 sl] 58) := ⟨_, rfl⟩
  have y0 : W.cell? ⟨w.heap.size, 0, none⟩ = some (.int .i64 b) := by rw [hW]; simp
  have y1 : W.cell? ⟨w.heap.size, 1, none⟩ = some (.int .i64 q) := by rw [hW]; simp
  have y2 : W.cell? ⟨w.heap.size, 2, none⟩ = some (.int .i64 sl) := by rw [hW]; simp
  have hB : Below w.heap.size w W := by rw [hW]; exact (Below.refl _ _).alloc (Nat.le_refl _) _
  have E1 := Lib.hid (Ext.of_below (S := SW) HH.out hB)
  have P1 := Lib.hid (HP.out.below HH.out hB)
  have c2 := P1.out.wo.c2
  have ch := P1.out.wo.ho
  have hlt : w.heap.size < W.heap.size := by rw [hW]; simp
  have hO0 := Lib.hid (zero_own1 HH.out (Nat.le_refl w.heap.size))
  rw [← hW]
  clear hW hB
  go_region_held3 (fun w' => w'.cell? ⟨w.heap.size, 0, none⟩ = some (.int .i64 b) ∧ w'.cell? ⟨w.heap.size, 1, none⟩ = some (.int .i64 q) ∧ w'.cell? ⟨w.heap.size, 2, none⟩ = some (.int .i64 sl) ∧ w'.cell? ⟨B.p, 2, none⟩ = some (.pointer (some ⟨B.np, 0, none⟩)) ∧ w'.cell? ⟨B.p, 72, none⟩ = some (.int .i64 s.ho)) (go_keep)
    ((first
      | (go_at_call 11
         refine (c_WSteps W.drew O B f s (P1.out.below E1.out.hi (drew_below W))).mono ?_
         rintro e w' ⟨rfl, rfl⟩)
      | (go_at_call 133
         refine (c_NoAdd (w := W.drew) ⟨s.n, s.ho, k, ref, b, q, sl, v⟩ (P1.out.below E1.out.hi (drew_below W)).no (by decide) E1.out.drew.hi k0 k1).mono ?_
         rintro e w1 ⟨rfl, G, e1, no1⟩
         have Q1 := Lib.hid ((P1.out.below E1.out.hi (drew_below W)).notes e1 no1)
         have F1 := Lib.hid (E1.out.drew.trans (e1.mono fun t _ h => by subst h; exact ⟨by decide, by decide⟩))
         have x0 := (e1.cell (p := ⟨w.heap.size, 0, none⟩) hlt (by show ¬ (O w.heap.size = 4); rw [hO0.out]; decide)).trans y0
         have x1 := (e1.cell (p := ⟨w.heap.size, 1, none⟩) hlt (by show ¬ (O w.heap.size = 4); rw [hO0.out]; decide)).trans y1
         have x2 := (e1.cell (p := ⟨w.heap.size, 2, none⟩) hlt (by show ¬ (O w.heap.size = 4); rw [hO0.out]; decide)).trans y2
         have x3 := Q1.out.wo.c2
         have x4 := Q1.out.wo.ho
         clear e1 no1)))
  all_goals
    go_wp2_with fail
    go_end0
    exact ⟨rfl, G, F1.out, Q1.out⟩
end
section
open Go.RowKit
set_option linter.unusedVariables false

theorem c_LoadP (a : Int) {w : World} {O : Om} {B : Wb} {f : Cf} {s : AW} (hP : PW w O B f s) (hhi : ∀ j, O j ≠ 0 → j < w.heap.size) (a0 : 0 ≤ a) (a1 : a < 18446744073709551616) (n0 : 0 ≤ s.n) (n1 : s.n ≤ 4611686018427387904) :
    Calls Tryz.prog 41 #[.pointer (some ⟨B.c, 0, none⟩), .int .u64 a] w (RP SW w O (.int .u64 (s.M a)) fun W G => PW W G B f (awLoad a s)) := by
  refine (c_Load a hP.ce a0 a1 n0 n1).mono fun e w' hp => ?_
  exact hP.rp_cells hhi hp
def TAGSV (Y : Nat) : Value := .func (.func 44) #[.pointer (some ⟨Y, 0, none⟩)] #[]
def mvCs (now old bk k : Int) (l : Value) : List Value := [.int .i64 now, .int .i64 old, .int .i64 bk, .int .i64 k, l, .int .i64 0, .int .i64 0, .int .i64 0]
/-- A Move in block Y that is to look at slot k's tag. -/
structure MvAt (W : World) (G : Om) (Y : Nat) (now old bk k : Int) : Prop where
  ex : ∃ S A, Ob W G 11 Y (mvCs now old bk k (.slice (some ⟨S, 0, none⟩) 1 1)) ∧ Ob W G 12 S [.iface 107 (.pointer (some ⟨A, 0, none⟩))] ∧ Ob W G 13 A [TAGSV Y, .bool false]
theorem MvAt.ext {S : Nat → Prop} {O O' : Om} {w w' : World} {Y : Nat} {now old bk k : Int} (h : MvAt w O Y now old bk k) (e : Ext S O w O' w') (h1 : ¬ S 11) (h2 : ¬ S 12) (h3 : ¬ S 13) : MvAt w' O' Y now old bk k := by
  obtain ⟨S, A, a, b, c⟩ := h.ex
  exact ⟨S, A, a.ext e h1, b.ext e h2, c.ext e h3⟩
def SM (t : Nat) : Prop := 11 ≤ t ∧ t ≤ 13
set_option maxHeartbeats 2000000 in
set_option maxRecDepth 100000 in
theorem c_NewMove (v bk : Int) {w : World} {O : Om} (hhi : ∀ j, O j ≠ 0 → j < w.heap.size) (v0 : 0 ≤ v) (v1 : v < 18446744073709551616) (hn : plNow v ≠ 0) (b0 : 0 ≤ bk) (b1 : bk < fnvSize (plOld v)) :
    Calls Tryz.prog 17 #[.int .u64 v, .int .i64 bk] w fun e w' => ∃ Y, RP SM w O (.pointer (some ⟨Y, 0, none⟩)) (fun W G => MvAt W G Y (plNow v) (plOld v) bk 0) e w' := by
  obtain ⟨o, ho⟩ : ∃ o, o = plOld v := ⟨_, rfl⟩
  obtain ⟨n, hno⟩ : ∃ n, n = plNow v := ⟨_, rfl⟩
  have hA := c_As v w v0 v1
  rw [← ho, ← hno] at hA
  rw [← hno] at hn
  rw [← ho] at b1
  have hob : -9223372036854775808 ≤ o ∧ o ≤ 9223372036854775807 := by rw [ho]; unfold plOld; split <;> omega
  rw [← ho, ← hno]
  have dn : (n != 0) = true := by simp [hn]
  have d0 : decide (0 ≤ bk) = true := by simp; omega
  obtain ⟨sz, hsz⟩ : ∃ sz, sz = fnvSize o := ⟨_, rfl⟩
  rw [← hsz] at b1
  have d1 : decide (bk < sz) = true := by simp; omega
  have HS := Lib.hid hsz
  have HO := Lib.hid hob
  obtain ⟨O1, e1, y1, -⟩ := alloc_ob hhi 11 (mvCs n o bk 0 (.slice (some ⟨w.heap.size + 1 + 1, 0, none⟩) 1 1)).toArray 61 w.heap.size rfl
  have HH := Lib.hid hhi
  clear ho hno hhi hsz hob hn
  go_enter Tryz.func17, Tryz.ntmps17
  go_wp2_with fail
  refine hA.mono ?_
  rintro e w' ⟨rfl, rfl⟩
  go_wp2_with fail
  refine (c_Size o _ HO.out.1 HO.out.2).mono ?_
  rintro e w' ⟨rfl, rfl⟩
  rw [← HS.out]
  go_wp2_with fail
  go_ret
  obtain ⟨O2, e2, a2, k2⟩ := alloc_ob e1.hi 13 #[TAGSV w.heap.size, .bool false] 110 (w.heap.size + 1) (by simp)
  obtain ⟨O3, e3, s3, k3⟩ := alloc_ob e2.hi 12 #[.iface 107 (.pointer (some ⟨w.heap.size + 1, 0, none⟩))] 112 (w.heap.size + 1 + 1) (by simp)
  have y3 := k3 _ _ _ (k2 _ _ _ y1)
  have a3 := k3 _ _ _ a2
  have E3 : Ext SM O w O3 _ := ((e1.mono fun t _ h => by subst h; exact ⟨by decide, by decide⟩).trans (e2.mono fun t _ h => by subst h; exact ⟨by decide, by decide⟩)).trans (e3.mono fun t _ h => by subst h; exact ⟨by decide, by decide⟩)
  exact ⟨w.heap.size, rfl, O3, E3, ⟨w.heap.size + 1 + 1, w.heap.size + 1, y3, s3, a3⟩⟩
theorem c_actOver {A : Nat} {w : World} {b : Bool} (h : w.cell? ⟨A, 1, none⟩ = some (.bool b)) : Calls Tryz.prog 232 #[.pointer (some ⟨A, 0, none⟩)] w fun e w' => e = .returned (.bool b) ∧ w = w' := by
  go_enter Tryz.func232, Tryz.ntmps232
  go_wp2
  go_ret
  exact ⟨rfl, rfl⟩
theorem c_MOver {Y : Nat} {ao : Option Addr} {n c : Nat} {w : World} (h : w.cell? ⟨Y, 4, none⟩ = some (.slice ao n c)) : Calls Tryz.prog 19 #[.pointer (some ⟨Y, 0, none⟩)] w fun e w' => e = .returned (.bool (n == 0)) ∧ w = w' := by
  go_enter Tryz.func19, Tryz.ntmps19
  go_wp2
  go_ret
  exact ⟨ret_bool (by rw [Bool.eq_iff_iff]; simp), rfl⟩
set_option maxHeartbeats 4000000 in
set_option maxRecDepth 100000 in
/-- Line 1 of a slot that is empty. -/
theorem c_mtags {Y : Nat} {now old bk k : Int} {l : Value} {w : World} {O : Om} {B : Wb} {f : Cf} {s : AW} (hP : PW w O B f s) (hY : Ob w O 11 Y (mvCs now old bk k l)) (hhi : ∀ j, O j ≠ 0 → j < w.heap.size) (o0 : -9223372036854775808 ≤ old) (o1 : old ≤ 9223372036854775807) (b0 : -9223372036854775808 ≤ bk) (b1 : bk ≤ 9223372036854775807) (k0 : 0 ≤ k) (k1 : k < 4)
    (hz : s.M (plTags old bk) = 0) (hp0 : 0 ≤ plTags old bk) (hp1 : plTags old bk < 18446744073709551616) (n0 : 0 ≤ s.n) (n1 : s.n ≤ 4611686018427387904) :
    Calls Tryz.prog 44 #[.pointer (some ⟨Y, 0, none⟩), .pointer (some ⟨B.p, 0, none⟩)] w (RP (SX 11 11) w O (.tuple #[]) fun W G => PW W G B f (awLoad (plTags old bk) s) ∧ Ob W G 11 Y (mvCs now old bk k l)) := by
  have HM : Hid (Me 11 11 w O w O B f s 11 Y (mvCs now old bk k l)) := Lib.hid (Me.start hhi hP hY)
  have p0 := hP.wo.c0
  have q1 := hY.c 1 _ rfl
  have q2 := hY.c 2 _ rfl
  have q3 := hY.c 3 _ rfl
  have HZ := Lib.hid hz
  clear hP hY hhi hz
  go_enter Tryz.func44, Tryz.ntmps44
  go_wp2_with fail
  go_region_held3 (fun w' => w'.cell? ⟨B.p, 0, none⟩ = some (.pointer (some ⟨B.c, 0, none⟩)) ∧ w'.cell? ⟨Y, 1, none⟩ = some (.int .i64 old) ∧ w'.cell? ⟨Y, 2, none⟩ = some (.int .i64 bk) ∧ w'.cell? ⟨Y, 3, none⟩ = some (.int .i64 k)) (go_keep)
    ((first
      | (go_at_call 83
         refine (c_Tags _ _ w.drew o0 o1 b0 b1).mono ?_
         rintro e w1 ⟨rfl, hb1⟩
         have M1 := Lib.hid (HM.out.drew.below hb1)
         have p01 := M1.out.p.wo.c0
         have q11 := M1.out.t.c 1 _ rfl
         have q21 := M1.out.t.c 2 _ rfl
         have q31 := M1.out.t.c 3 _ rfl
         clear hb1)
      | (go_at_call 41
         refine (c_LoadP _ M1.out.p M1.out.e.hi hp0 hp1 n0 n1).mono ?_
         rintro e w2 ⟨rfl, G2, e2, P2⟩
         have M2 := Lib.hid (M1.out.world (by decide) e2 P2)
         rw [HZ.out]
         have p02 := M2.out.p.wo.c0
         have q12 := M2.out.t.c 1 _ rfl
         have q22 := M2.out.t.c 2 _ rfl
         have q32 := M2.out.t.c 3 _ rfl
         clear e2 P2)
      | (go_at_call 82
         refine (c_Tag0 _ w2 k0 k1).mono ?_
         rintro e w3 ⟨rfl, hb3⟩
         have M3 := Lib.hid (M2.out.below hb3)
         have p03 := M3.out.p.wo.c0
         have q13 := M3.out.t.c 1 _ rfl
         have q23 := M3.out.t.c 2 _ rfl
         have q33 := M3.out.t.c 3 _ rfl
         have q53 := M3.out.t.c 5 _ rfl
         have f53 := M3.out.t.f 5
         have M4 := Lib.hid (M3.out.set (by decide) (by decide) (by decide) 5 (.int .i64 0) (by simp [mvCs]))
         have p04 := M4.out.p.wo.c0
         have q14 := M4.out.t.c 1 _ rfl
         have q24 := M4.out.t.c 2 _ rfl
         have q34 := M4.out.t.c 3 _ rfl
         have q54 := M4.out.t.c 5 _ rfl
         clear hb3)))
  all_goals
    go_wp2_with fail
    go_end0
    exact M4.out.rp
end
section
open Go.RowKit Go.Shelf
set_option linter.unusedVariables false

theorem sx_mono {a b c d : Nat} (h1 : c ≤ a) (h2 : b ≤ d) {t : Nat} (h : SX a b t) : SX c d t := SX.mono h1 h2 h
set_option maxHeartbeats 2000000 in
set_option maxRecDepth 100000 in
theorem c_actStep {Y S A : Nat} {now old bk k : Int} {l : Value} {w : World} {O : Om} {B : Wb} {f : Cf} {s : AW} (hP : PW w O B f s) (hY : Ob w O 11 Y (mvCs now old bk k l)) (hS : Ob w O 12 S [.iface 107 (.pointer (some ⟨A, 0, none⟩))]) (hA : Ob w O 13 A [TAGSV Y, .bool false]) (hhi : ∀ j, O j ≠ 0 → j < w.heap.size) (o0 : -9223372036854775808 ≤ old) (o1 : old ≤ 9223372036854775807) (b0 : -9223372036854775808 ≤ bk) (b1 : bk ≤ 9223372036854775807) (k0 : 0 ≤ k) (k1 : k < 4)
    (hz : s.M (plTags old bk) = 0) (hp0 : 0 ≤ plTags old bk) (hp1 : plTags old bk < 18446744073709551616) (n0 : 0 ≤ s.n) (n1 : s.n ≤ 4611686018427387904) :
    Calls Tryz.prog 233 #[.pointer (some ⟨A, 0, none⟩), .pointer (some ⟨B.p, 0, none⟩)] w (RP (SX 11 13) w O (.bool true) fun W G => PW W G B f (awLoad (plTags old bk) s) ∧ Ob W G 11 Y (mvCs now old bk k l) ∧ Ob W G 12 S [.iface 107 (.pointer (some ⟨A, 0, none⟩))] ∧ Ob W G 13 A [TAGSV Y, .bool true]) := by
  have HM : Hid (Me 11 13 w O w O B f s 13 A [TAGSV Y, .bool false]) := Lib.hid (Me.start hhi hP hA)
  have M1 := HM.out.set (by decide) (by decide) (by decide) 1 (.bool true) (by simp)
  have e1 := ext_set (j := 1) (v := .bool true) hhi hA (by decide)
  have Y1 := hY.ext e1 (by decide)
  have S1 := Lib.hid (hS.ext e1 (by decide))
  have q1 := hA.c 1 _ rfl
  have f1 := hA.f 1
  have q0 := M1.t.c 0 _ rfl
  unfold TAGSV at q0
  have hT := c_mtags (l := l) M1.p Y1 M1.e.hi o0 o1 b0 b1 k0 k1 hz hp0 hp1 n0 n1
  have HT := Lib.hid hT
  have N1 := Lib.hid M1
  clear hP hY hS hA hhi M1 e1 Y1 hT hz
  go_enter Tryz.func233, Tryz.ntmps233
  go_wp2_with fail
  refine HT.out.mono ?_
  rintro e w2 ⟨rfl, G2, e2, P2, Y2⟩
  have N2 := Lib.hid (N1.out.call (by decide) (by decide) (by decide) (by decide) e2 P2)
  have Q2 := Lib.hid (And.intro Y2 (S1.out.ext e2 (by unfold SX; omega)))
  clear HT e2 P2 Y2
  go_wp2_with fail
  go_ret
  exact ⟨rfl, G2, N2.out.e, N2.out.p, Q2.out.1, Q2.out.2, N2.out.t⟩
theorem mOver (A : Nat) : ∀ W, (method 454 107 (.pointer (some ⟨A, 0, none⟩)) "Over").run Tryz.prog W = .ok (232, .pointer (some ⟨A, 0, none⟩)) W := fun W => by kernel_rfl
theorem mStep (A : Nat) : ∀ W, (method 454 107 (.pointer (some ⟨A, 0, none⟩)) "Step").run Tryz.prog W = .ok (233, .pointer (some ⟨A, 0, none⟩)) W := fun W => by kernel_rfl
set_option maxHeartbeats 2000000 in
set_option maxRecDepth 100000 in
/-- Behind a slot: the next one, or it is over. -/
theorem c_on {Y S A : Nat} {now old bk k : Int} {w : World} {O : Om} (hY : Ob w O 11 Y (mvCs now old bk k (.slice (some ⟨S, 0, none⟩) 1 1))) (hS : Ob w O 12 S [.iface 107 (.pointer (some ⟨A, 0, none⟩))]) (hA : Ob w O 13 A [TAGSV Y, .bool true]) (hhi : ∀ j, O j ≠ 0 → j < w.heap.size) (k0 : 0 ≤ k) (k1 : k < 4) :
    Calls Tryz.prog 47 #[.pointer (some ⟨Y, 0, none⟩)] w (RP SM w O (.tuple #[]) fun W G => (k < 3 ∧ MvAt W G Y now old bk (k + 1)) ∨ (k = 3 ∧ ∃ ao c, W.cell? ⟨Y, 4, none⟩ = some (.slice ao 0 c))) := by
  have hmo := mOver A
  have hYl := hY.lt
  have y3 := hY.c 3 _ rfl
  have y4 := hY.c 4 _ rfl
  have f3 := hY.f 3
  have f4 := hY.f 4
  have s0 := hS.c 0 _ rfl
  have a1 := hA.c 1 _ rfl
  have hKO : ∀ args W, (callFunc 232 args).run Tryz.prog W = .ok (.enter 232 args) W := enters_of Tryz.func232 (by kernel_rfl) rfl
  by_cases hk : k < 3
  · have dk : decide (k < 3) = true := by simp; omega
    have hY' := Lib.hid hY
    have HH := Lib.hid hhi
    clear hY hS hA hhi
    go_enter Tryz.func47, Tryz.ntmps47
    go_wp2_with fail
    refine wp_loop_rounds 2 ?_
    rw [rounds_succ]
    go_wp2_with fail
    refine (c_actOver a1).mono ?_
    rintro e w' ⟨rfl, rfl⟩
    go_wp2_with fail
    rw [rounds_succ]
    go_wp2_with fail
    go_end0
    have e1 := ext_set (j := 4) (v := .slice (some ⟨S, 0, none⟩) 0 0) HH.out hY'.out (by decide)
    have Y1 := hY'.out.set 4 (.slice (some ⟨S, 0, none⟩) 0 0) (by simp [mvCs])
    have e2 := ext_set (j := 3) (v := .int .i64 (k + 1)) e1.hi Y1 (by decide)
    have Y2 := Y1.set 3 (.int .i64 (k + 1)) (by simp [mvCs])
    have e3 := ext_set (j := 4) (v := .slice (some ⟨w.heap.size + 1, 0, none⟩) 1 1) e2.hi Y2 (by decide)
    have Y3 := Y2.set 4 (.slice (some ⟨w.heap.size + 1, 0, none⟩) 1 1) (by simp [mvCs])
    obtain ⟨O4, e4, a4, k4⟩ := alloc_ob e3.hi 13 #[TAGSV Y, .bool false] 110 w.heap.size (by simp)
    obtain ⟨O5, e5, s5, k5⟩ := alloc_ob e4.hi 12 #[.iface 107 (.pointer (some ⟨w.heap.size, 0, none⟩))] 112 (w.heap.size + 1) (by simp)
    have Y5 := k5 _ _ _ (k4 _ _ _ Y3)
    have A5 := k5 _ _ _ a4
    have E := ((((e1.trans e2).trans e3).mono (T := SM) fun t _ h => by subst h; exact ⟨by decide, by decide⟩).trans (e4.mono fun t _ h => by subst h; exact ⟨by decide, by decide⟩)).trans (e5.mono fun t _ h => by subst h; exact ⟨by decide, by decide⟩)
    exact ⟨rfl, O5, E, .inl ⟨by first | trivial | exact hk | omega, ⟨w.heap.size + 1, w.heap.size, Y5, s5, A5⟩⟩⟩
  · obtain rfl : k = 3 := by omega
    have hY' := Lib.hid hY
    have HH := Lib.hid hhi
    clear hY hS hA hhi
    go_enter Tryz.func47, Tryz.ntmps47
    go_wp2_with fail
    refine wp_loop_rounds 2 ?_
    rw [rounds_succ]
    go_wp2_with fail
    refine (c_actOver a1).mono ?_
    rintro e w' ⟨rfl, rfl⟩
    go_wp2_with fail
    rw [rounds_succ]
    go_wp2_with fail
    go_end0
    have e1 := ext_set (j := 4) (v := .slice (some ⟨S, 0, none⟩) 0 0) HH.out hY'.out (by decide)
    have Y1 := hY'.out.set 4 (.slice (some ⟨S, 0, none⟩) 0 0) (by simp [mvCs])
    exact ⟨rfl, O, e1.mono fun t _ h => by subst h; exact ⟨by decide, by decide⟩, .inr ⟨by first | trivial | rfl, _, _, Y1.c 4 _ rfl⟩⟩
set_option maxHeartbeats 4000000 in
set_option maxRecDepth 100000 in
/-- A Move's step at a slot that is empty. -/
theorem c_MStep {Y : Nat} {now old bk k : Int} {w : World} {O : Om} {B : Wb} {f : Cf} {s : AW} (hP : PW w O B f s) (hM : MvAt w O Y now old bk k) (hhi : ∀ j, O j ≠ 0 → j < w.heap.size) (o0 : -9223372036854775808 ≤ old) (o1 : old ≤ 9223372036854775807) (b0 : -9223372036854775808 ≤ bk) (b1 : bk ≤ 9223372036854775807) (k0 : 0 ≤ k) (k1 : k < 4)
    (hz : s.M (plTags old bk) = 0) (hp0 : 0 ≤ plTags old bk) (hp1 : plTags old bk < 18446744073709551616) (n0 : 0 ≤ s.n) (n1 : s.n ≤ 4611686018427387904) :
    Calls Tryz.prog 20 #[.pointer (some ⟨Y, 0, none⟩), .pointer (some ⟨B.p, 0, none⟩)] w (RP (SX 11 13) w O (.bool (decide (k = 3))) fun W G => PW W G B f (awLoad (plTags old bk) s) ∧ (k < 3 → MvAt W G Y now old bk (k + 1))) := by
  obtain ⟨S, A, hY, hS, hA⟩ := hM.ex
  have y4 := hY.c 4 _ rfl
  have s0 := hS.c 0 _ rfl
  have hms := mStep A
  have hKS : ∀ args W, (callFunc 233 args).run Tryz.prog W = .ok (.enter 233 args) W := enters_of Tryz.func233 (by kernel_rfl) rfl
  have HT := Lib.hid (c_actStep hP hY hS hA hhi o0 o1 b0 b1 k0 k1 hz hp0 hp1 n0 n1)
  clear hP hM hY hS hA hhi hz
  go_enter Tryz.func20, Tryz.ntmps20
  go_wp2_with fail
  refine (c_MOver y4).mono ?_
  rintro e w' ⟨rfl, rfl⟩
  go_wp2_with fail
  refine HT.out.mono ?_
  rintro e w2 ⟨rfl, G2, e2, P2, Y2, S2, A2⟩
  have E2 := Lib.hid e2
  have PP2 := Lib.hid P2
  have ho := c_on Y2 S2 A2 e2.hi k0 k1
  have HO := Lib.hid ho
  clear HT e2 P2 Y2 S2 A2 ho y4 s0
  go_wp2_with fail
  refine HO.out.mono ?_
  rintro e w3 ⟨rfl, G3, e3, hcase⟩
  have E3 := Lib.hid (E2.out.trans (e3.mono fun t _ h => .inr h))
  have PP3 := Lib.hid (PP2.out.ext e3 (fun h => absurd h.1 (by decide)) (fun h => absurd h.1 (by decide)) (fun h => absurd h.1 (by decide)) (fun h => absurd h.1 (by decide)))
  clear HO e3
  rcases hcase with ⟨hk, hm⟩ | ⟨hk, ao, c, hc⟩
  · obtain ⟨S', A', hY', hS', hA'⟩ := hm.ex
    have y4 := hY'.c 4 _ rfl
    have HM := Lib.hid hm
    have hd : decide (k = 3) = false := by simp; omega
    clear hm hY' hS' hA'
    go_wp2_with fail
    refine (c_MOver y4).mono ?_
    rintro e w' ⟨rfl, rfl⟩
    go_wp2_with fail
    go_ret
    exact ⟨(by rw [hd]; first | done | rfl), G3, E3.out, PP3.out, fun _ => HM.out⟩
  · have hd : decide (k = 3) = true := by simp; omega
    go_wp2_with fail
    refine (c_MOver hc).mono ?_
    rintro e w' ⟨rfl, rfl⟩
    go_wp2_with fail
    go_ret
    exact ⟨(by rw [hd]; first | done | rfl), G3, E3.out, PP3.out, fun h => by omega⟩
end
section
open Go.RowKit Go.Shelf
set_option linter.unusedVariables false

def swCs (l : Value) (wd bt : Int) : List Value := [l, .int .u64 wd, .int .i64 bt]
/-- A Swap that is to store. -/
structure SwAt (W : World) (G : Om) (Z : Nat) (wd bt : Int) : Prop where
  ex : ∃ L, Ob W G 14 Z (swCs (.slice (some ⟨L, 0, none⟩) 1 1) wd bt) ∧ Ob W G 15 L [.int .i64 1]
theorem SwAt.ext {S : Nat → Prop} {O O' : Om} {w w' : World} {Z : Nat} {wd bt : Int} (h : SwAt w O Z wd bt) (e : Ext S O w O' w') (h1 : ¬ S 14) (h2 : ¬ S 15) : SwAt w' O' Z wd bt := by
  obtain ⟨L, a, b⟩ := h.ex
  exact ⟨L, a.ext e h1, b.ext e h2⟩
def SZ (t : Nat) : Prop := 14 ≤ t ∧ t ≤ 15
set_option maxHeartbeats 2000000 in
set_option maxRecDepth 100000 in
theorem c_NewSwap (v : Int) {w : World} {O : Om} (hhi : ∀ j, O j ≠ 0 → j < w.heap.size) (v0 : 0 ≤ v) (v1 : v < 18446744073709551616) (hn : plNow v ≠ 0) :
    Calls Tryz.prog 42 #[.int .u64 v] w fun e w' => ∃ Z, RP SZ w O (.pointer (some ⟨Z, 0, none⟩)) (fun W G => SwAt W G Z (plWord (plNow v) 0) (plNow v)) e w' := by
  obtain ⟨o, ho⟩ : ∃ o, o = plOld v := ⟨_, rfl⟩
  obtain ⟨n, hno⟩ : ∃ n, n = plNow v := ⟨_, rfl⟩
  have hA := c_As v w v0 v1
  rw [← ho, ← hno] at hA
  rw [← hno] at hn
  rw [← hno]
  have dn : (n == 0) = false := by simp [hn]
  obtain ⟨wd, hwd⟩ : ∃ wd, wd = plWord n 0 := ⟨_, rfl⟩
  have HW := Lib.hid hwd
  obtain ⟨O1, e1, l1, -⟩ := alloc_ob hhi 15 #[.int .i64 1] 172 w.heap.size rfl
  obtain ⟨O2, e2, z2, k2⟩ := alloc_ob e1.hi 14 (swCs (.slice (some ⟨w.heap.size, 0, none⟩) 1 1) wd n).toArray 171 (w.heap.size + 1) (by simp)
  have L2 := k2 _ _ _ l1
  have E2 : Ext SZ O w O2 _ := (e1.mono fun t _ h => by subst h; exact ⟨by decide, by decide⟩).trans (e2.mono fun t _ h => by subst h; exact ⟨by decide, by decide⟩)
  have HE := Lib.hid (And.intro E2 (And.intro z2 L2))
  rw [← hwd]
  clear ho hno hhi hn hwd e1 l1 e2 z2 k2 L2 E2
  go_enter Tryz.func42, Tryz.ntmps42
  go_wp2_with fail
  refine hA.mono ?_
  rintro e w' ⟨rfl, rfl⟩
  go_wp2_with fail
  refine (c_Word n 0 _).mono ?_
  rintro e w' ⟨rfl, rfl⟩
  rw [← HW.out]
  go_wp2_with fail
  go_ret
  exact ⟨w.heap.size + 1, rfl, O2, HE.out.1, ⟨w.heap.size, HE.out.2.1, HE.out.2.2⟩⟩
theorem c_SwOver {Z : Nat} {ao : Option Addr} {n c : Nat} {w : World} (h : w.cell? ⟨Z, 0, none⟩ = some (.slice ao n c)) : Calls Tryz.prog 80 #[.pointer (some ⟨Z, 0, none⟩)] w fun e w' => e = .returned (.bool (n == 0)) ∧ w = w' := by
  go_enter Tryz.func80, Tryz.ntmps80
  go_wp2
  go_ret
  exact ⟨ret_bool (by rw [Bool.eq_iff_iff]; simp), rfl⟩
theorem c_kind (w : World) : Calls Tryz.prog 244 #[.agg #[]] w fun e w' => e = .returned (.int .u8 5) ∧ Below w.heap.size w w' := by
  go_enter Tryz.func244, Tryz.ntmps244
  go_wp2
  go_ret
  exact ⟨rfl, (Below.refl _ _).alloc (Nat.le_refl _) _⟩
theorem mKind : ∀ W, (method 454 173 (.agg #[]) "nestbox/grows.kind").run Tryz.prog W = .ok (244, .agg #[]) W := fun W => by kernel_rfl
set_option maxHeartbeats 4000000 in
set_option maxRecDepth 100000 in
theorem c_swStep {Z : Nat} {wd bt : Int} {w : World} {O : Om} {B : Wb} {f : Cf} {s : AW} (hP : PW w O B f s) (hZ : SwAt w O Z wd bt) (hhi : ∀ j, O j ≠ 0 → j < w.heap.size) (d0 : 0 ≤ wd) (d1 : wd < 18446744073709551616) (n0 : 0 ≤ s.n) (n1 : s.n ≤ 4611686018427387904) :
    Calls Tryz.prog 81 #[.pointer (some ⟨Z, 0, none⟩), .pointer (some ⟨B.p, 0, none⟩)] w (RP (SX 14 15) w O (.tuple #[]) fun W G => PW W G B f (awNote 5 0 0 0 0 bt (awStore 2 wd s)) ∧ ∃ ao c, W.cell? ⟨Z, 0, none⟩ = some (.slice ao 0 c)) := by
  obtain ⟨L, hz, hl⟩ := hZ.ex
  have HM : Hid (Me 14 15 w O w O B f s 14 Z (swCs (.slice (some ⟨L, 0, none⟩) 1 1) wd bt)) := Lib.hid (Me.start hhi hP hz)
  have p0 := hP.wo.c0
  have z0 := hz.c 0 _ rfl
  have z1 := hz.c 1 _ rfl
  have z2 := hz.c 2 _ rfl
  have fz := hz.f 0
  have l0 := hl.c 0 _ rfl
  have hmk := mKind
  have hKK : ∀ args W, (callFunc 244 args).run Tryz.prog W = .ok (.enter 244 args) W := enters_of Tryz.func244 (by kernel_rfl) rfl
  clear hP hZ hz hl hhi
  go_enter Tryz.func81, Tryz.ntmps81
  go_wp2_with fail
  go_region_held3 (fun w' => w'.cell? ⟨B.p, 0, none⟩ = some (.pointer (some ⟨B.c, 0, none⟩)) ∧ w'.cell? ⟨Z, 1, none⟩ = some (.int .u64 wd)) (go_keep)
    ((go_at_call 27
      refine (c_StoreP 2 wd (w := w.drew) HM.out.drew.p HM.out.drew.e.hi (by decide) (by decide) d0 d1 n0 n1).mono ?_
      rintro e w1 ⟨rfl, G1, e1, P1⟩
      have M1 := Lib.hid (HM.out.drew.world (by decide) e1 P1)
      have p01 := M1.out.p.wo.c0
      have z01 := M1.out.t.c 0 _ rfl
      have z11 := M1.out.t.c 1 _ rfl
      have z21 := M1.out.t.c 2 _ rfl
      clear e1 P1))
  all_goals
    clear p0 z0 z1 z2 fz l0
    go_wp2_with fail
    obtain ⟨W, hW⟩ : ∃ W, W = w1.alloc (.cells #[] 173) := ⟨_, rfl⟩
    have MW : Hid (Me 14 15 w O W G1 B f (awStore 2 wd s) 14 Z (swCs (.slice (some ⟨L, 0, none⟩) 1 1) wd bt)) := Lib.hid (by rw [hW]; exact M1.out.below ((Below.refl _ _).alloc (Nat.le_refl _) _))
    have z2W := MW.out.t.c 2 _ rfl
    rw [← hW]
    clear p01 z01 z11 z21 hW
    go_region_held3 (fun w' => w'.cell? ⟨Z, 2, none⟩ = some (.int .i64 bt)) (go_keep)
      ((first
        | (go_at_call 244
           refine (c_kind W.drew).mono ?_
           rintro e w2 ⟨rfl, hb2⟩
           have M2 := Lib.hid (MW.out.drew.below hb2)
           have z2' := M2.out.t.c 2 _ rfl
           clear hb2)
        | (go_at_call 110
           refine (c_WNote 5 0 0 0 0 bt (w := w2) M2.out.p M2.out.e.hi (by decide) (by decide)).mono ?_
           rintro e w3 ⟨rfl, G3, e3, P3⟩
           have M3 := Lib.hid (M2.out.world (by decide) e3 P3)
           have z03 := M3.out.t.c 0 _ rfl
           have z23 := M3.out.t.c 2 _ rfl
           have f03 := M3.out.t.f 0
           clear e3 P3)))
    all_goals
      go_wp2_with fail
      go_end0
      have M4 := M3.out.set (by decide) (by decide) (by decide) 0 (.slice (some ⟨L, 0, none⟩) 0 0) (by simp [swCs])
      exact ⟨rfl, G3, M4.e, M4.p, _, _, M4.t.c 0 _ rfl⟩
theorem c_SwStep {Z : Nat} {wd bt : Int} {w : World} {O : Om} {B : Wb} {f : Cf} {s : AW} (hP : PW w O B f s) (hZ : SwAt w O Z wd bt) (hhi : ∀ j, O j ≠ 0 → j < w.heap.size) (d0 : 0 ≤ wd) (d1 : wd < 18446744073709551616) (n0 : 0 ≤ s.n) (n1 : s.n ≤ 4611686018427387904) :
    Calls Tryz.prog 43 #[.pointer (some ⟨Z, 0, none⟩), .pointer (some ⟨B.p, 0, none⟩)] w (RP (SX 14 15) w O (.bool true) fun W G => PW W G B f (awNote 5 0 0 0 0 bt (awStore 2 wd s))) := by
  have z0 : ∃ L, w.cell? ⟨Z, 0, none⟩ = some (.slice (some ⟨L, 0, none⟩) 1 1) := by
    obtain ⟨L, hz, hl⟩ := hZ.ex
    exact ⟨L, hz.c 0 _ rfl⟩
  obtain ⟨L, z0⟩ := z0
  have HT := Lib.hid (c_swStep hP hZ hhi d0 d1 n0 n1)
  clear hP hZ hhi
  go_enter Tryz.func43, Tryz.ntmps43
  go_wp2_with fail
  refine (c_SwOver z0).mono ?_
  rintro e w' ⟨rfl, rfl⟩
  go_wp2_with fail
  refine HT.out.mono ?_
  rintro e w2 ⟨rfl, G2, e2, P2, ao, c, hc⟩
  have E2 := Lib.hid e2
  have PP2 := Lib.hid P2
  clear HT e2 P2 z0
  go_wp2_with fail
  refine (c_SwOver hc).mono ?_
  rintro e w' ⟨rfl, rfl⟩
  go_wp2_with fail
  go_ret
  exact ⟨rfl, G2, E2.out, PP2.out⟩
end
end Go.Proofs.YtkamcgcpfnkodaaGreat
