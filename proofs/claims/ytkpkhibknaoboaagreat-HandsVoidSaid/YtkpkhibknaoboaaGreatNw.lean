/- Contracts that other seats of ours hold too (taken by sub.py). -/
import Derived.Test.YtkpkhibknaoboaaGreatNtNL
import Derived.Test.YtkpkhibknaoboaaGreatMem
import Derived.Test.YtkpkhibknaoboaaGreatOw
import Derived.Laws.AppendOwnNone
import Derived.Deep.RegionHeld3
import Derived.Outline
import Derived.Deep.DeepCutAuto
import Derived.Deep.RegionLaw
import Derived.BigRegion
namespace Go.Proofs.YtkpkhibknaoboaaGreat
set_option linter.unusedSimpArgs false
open Go.RowKit
set_option linter.unusedVariables false
theorem c_Ntnotes (h : Nat) (v : Value) (w : World) (hc : w.cell? ⟨h, 0, none⟩ = some v) :
    Calls Tryz.prog 111 #[.pointer (some ⟨h, 0, none⟩)] w fun e w' => e = .returned v ∧ w = w' := by
  go_enter Tryz.func111, Tryz.ntmps111
  go_wp2
  go_ret
  exact ⟨rfl, rfl⟩
theorem c_NtCount (h : Nat) (ao : Option Addr) (n c : Nat) (w : World) (hc : w.cell? ⟨h, 0, none⟩ = some (.slice ao n c)) :
    Calls Tryz.prog 52 #[.pointer (some ⟨h, 0, none⟩)] w fun e w' => e = .returned (.int .i64 n) ∧ w = w' := by
  go_enter Tryz.func52, Tryz.ntmps52
  go_wp2_with (go_at_call 111; refine (c_Ntnotes h _ _ hc).mono ?_; rintro e w' ⟨rfl, rfl⟩)
  go_ret
  exact ⟨rfl, rfl⟩
theorem infoNt : (Tryz.prog.info? 73).map (fun i => (i.zero, i.size, i.bytes)) = some (some (.agg #[.int .i64 0, .int .i64 0, .int .u8 0, .int .i64 0, .int .i64 0, .int .i64 0, .int .i64 0, .int .i64 0]), 8, 64) := by kernel_rfl
theorem ntbelow_drewN {B : Nat} {a w : World} (h : Below B a w) (n : Nat) : Below B a (w.drewN n) := ⟨h.os, h.tape, h.output, h.size, h.block⟩
theorem ntkeepF {w : World} {o : Obj} {h j : Nat} (hl : h < w.heap.size) (hf : w.frozen? ⟨h, j, none⟩ = false) : (w.alloc o).drew.frozen? ⟨h, j, none⟩ = false :=
  ((((Below.refl w.heap.size w).alloc (Nat.le_refl _) o).drew).frozen (p := ⟨h, j, none⟩) hl).trans hf
def ntObj (n : Nt) : Obj := .cells #[.int .i64 n.step, .int .i64 n.thread, .int .u8 n.kind, .int .i64 n.ref, .int .i64 n.bits, .int .i64 n.bucket, .int .i64 n.slot, .int .i64 n.value] 73
theorem add_end {w W w1 : World} {o : Obj} {h gg cap : Nat} {v : Value} {l : List Nt} {n : Nt} (he : ntErr l n = 0) (hB : Wrote (NLset h v) w W) (hlW : h < W.heap.size) (hap : v.ownBlock ≠ some h)
    (hown : w1.ownsRow 0 73 8 (.slice (some ⟨gg, 0, none⟩) (l.length + 1) cap) (l.length + 1) (rowOf ntc l ++ ntc n)) (hg : (W.alloc o).drew.grownBy w1 v.ownBlock) (hat : v.ownBlock = some gg ∨ gg = W.heap.size + 1)
    (hh1 : w1.cell? ⟨h, 0, none⟩ = some v) (hh2 : w1.frozen? ⟨h, 0, none⟩ = false) :
    ∃ v', NL (w1.setCell ⟨h, 0, none⟩ (.slice (some ⟨gg, 0, none⟩) (l.length + 1) cap)) 73 ntc h v' (ntAdd l n) ∧ (∀ k, v'.ownBlock = some k → v.ownBlock = some k ∨ w.heap.size ≤ k) ∧ Wrote (NLset h v) w (w1.setCell ⟨h, 0, none⟩ (.slice (some ⟨gg, 0, none⟩) (l.length + 1) cap)) := by
  have hgh : gg ≠ h := by
    rcases hat with e | e
    · intro he; subst he; exact hap e
    · omega
  have hw1 : Wrote (NLset h v) w w1 := ((hB.alloc o).drew).grown hg fun k hk _ => .inr hk
  have hz : W.heap.size + 1 ≤ w1.heap.size := by have := hg.size; simpa using this
  have hs : ∀ u, Wrote (fun k => k = h) w1 (w1.setCell ⟨h, 0, none⟩ u) := fun u => Wrote.setCell (S := fun k => k = h) (Wrote.refl _ _) (p := ⟨h, 0, none⟩) (fun _ => rfl) u
  refine ⟨_, ⟨World.cell?_setCell_same _ _ _ hh1, (World.frozen?_setCell _ _ _ _).trans hh2, by simp; omega, ?_, ?_⟩, ?_, hw1.setCell (p := ⟨h, 0, none⟩) (fun _ => .inl rfl) _⟩
  · intro e; cases e; exact hgh rfl
  · rw [ntAdd_ok he, rowOf_snoc, List.length_append]
    exact (hs _).own hown fun k hk e => by cases hk; exact hgh e
  · intro k hk
    cases hk
    rcases hat with e | e
    · exact .inl e
    · right; have := hB.size; show w.heap.size ≤ gg; omega
set_option maxHeartbeats 1000000 in
set_option maxRecDepth 100000 in
theorem c_NtAdd (n : Nt) (h : Nat) (v : Value) (l : List Nt) (w : World) (hl : NL w 73 ntc h v l) (k0 : 0 ≤ n.kind) (k1 : n.kind ≤ 255) :
    Calls Tryz.prog 242 #[.pointer (some ⟨h, 0, none⟩), .agg #[.int .i64 n.step, .int .i64 n.thread, .int .u8 n.kind, .int .i64 n.ref, .int .i64 n.bits, .int .i64 n.bucket, .int .i64 n.slot, .int .i64 n.value]] w fun e w' =>
      e = .returned (.int .i64 (ntErr l n)) ∧ ∃ v', NL w' 73 ntc h v' (ntAdd l n) ∧ (∀ k, v'.ownBlock = some k → v.ownBlock = some k ∨ w.heap.size ≤ k) ∧ Wrote (NLset h v) w w' := by
  have hlt := hl.lt
  have hc := hl.head
  have hfz := hl.free
  have hap := hl.apart
  have hown := hl.own
  obtain ⟨ao, cp, rfl, hcp, hm⟩ := (Arr.of_own hl.own).shape
  have hm' : l.length ≤ 9223372036854775807 := by unfold maxLen at hm; omega
  have hne : ¬ h = w.heap.size := by omega
  have HL := Lib.hid hl
  clear hl
  go_enter Tryz.func242, Tryz.ntmps242
  go_wp2_with (go_at_call 52; refine (c_NtCount h ao l.length cp _ ((((Below.refl _ _).alloc (Nat.le_refl _) _).cell (p := ⟨h, 0, none⟩) hlt).trans hc)).mono ?_; rintro e w' ⟨rfl, rfl⟩)
  go_cut [11] (fun s wx => s = .bool (ntBad l n) ∧ ∃ nq, wx = (w.alloc (ntObj n)).drewN nq)
  case first =>
    by_cases h0 : n.kind = 0
    · have hB : ntBad l n = true := by unfold ntBad; simp [h0]
      have e0 : (n.kind == 0) = true := by simp [h0]
      have HB := Lib.hid hB
      clear h0 hB
      go_quiet (fail)
      go_wp2
      go_meet
      exact ⟨by rw [HB.out], _, rfl⟩
    · have e0 : (n.kind == 0) = false := by simp [h0]
      clear h0
      by_cases h9 : 9 < n.kind
      · have hB : ntBad l n = true := by unfold ntBad; simp [h9]
        have e9 : decide (9 < n.kind) = true := by simp [h9]
        have HB := Lib.hid hB
        clear hB
        go_quiet (fail)
        go_wp2
        go_meet
        exact ⟨by rw [HB.out], _, rfl⟩
      · have e9 : decide (9 < n.kind) = false := by simp; omega
        have hk0 : ¬ n.kind = 0 := by simpa using e0
        have hB : ntBad l n = ntLow l n := by unfold ntBad; rw [decide_eq_false (by omega)]; rfl
        have HB := Lib.hid hB
        clear hB hk0
        by_cases hz : l.length = 0
        · have ez : decide (0 < l.length) = false := by simp [hz]
          have hB : ntLow l n = false := by rw [List.eq_nil_of_length_eq_zero hz]; rfl
          have HB2 := Lib.hid hB
          clear hB hz
          go_quiet (fail)
          go_wp2
          go_meet
          exact ⟨by rw [HB.out, HB2.out], _, rfl⟩
        · have ez : decide (0 < l.length) = true := by simp; omega
          have hB := ntLow_get n (show 0 < l.length by omega)
          obtain ⟨b, o, c', he, -, -, hb, hx⟩ := (Arr.of_own hown).open (show 0 < l.length by omega) (by omega)
          cases he
          have hi0 : (0 : Int) ≤ (l.length : Int) - 1 := by omega
          have hi1 : (l.length : Int) - 1 < (l.length : Int) := by omega
          obtain ⟨m, hmm⟩ : ∃ m, m = l[l.length - 1] := ⟨_, rfl⟩
          have g0 := nt_cells ntc_len hx (l.length - 1) (by omega) 0 (by omega) (u := .int .i64 m.step) (by rw [hmm]; rfl)
          rw [Nat.add_zero] at g0
          have hbn : ¬ b = w.heap.size := by omega
          rw [← hmm] at hB
          have HB2 := Lib.hid hB
          clear hx hB hmm hz hown
          go_quiet (fail)
          go_wp2
          go_meet
          exact ⟨by rw [HB.out, HB2.out], _, rfl⟩
  case rest =>
    obtain ⟨rfl, nq, rfl⟩ := hcut
    cases hB : ntBad l n
    · have HB := Lib.hid hB
      by_cases hfull : 1048576 ≤ l.length
      · have hd : decide ((1048576 : Int) ≤ (l.length : Int)) = true := by simp only [decide_eq_true_eq]; omega
        have HF := Lib.hid hfull
        clear hown hfull
        go_wp2
        have hfull := HF.out
        go_ret
        exact ⟨ret_int (ntErr_full HB.out hfull).symm, _, by rw [ntAdd_no (by rw [ntErr_full HB.out hfull]; omega)]; exact HL.out.wrote ((Wrote.refl _ _).alloc _ |>.drewN nq) (fun _ _ hf => hf), fun k hk => .inl hk, ((Wrote.refl _ _).alloc _).drewN nq⟩
      · obtain ⟨i0, hi, hz0, hz1, hz2⟩ := info_parts infoNt
        have HE := Lib.hid (ntErr_ok HB.out hfull)
        obtain ⟨W, hW⟩ : ∃ W, W = (w.alloc (ntObj n)).drewN nq := ⟨_, rfl⟩
        have hlW : h < W.heap.size := by rw [hW]; simp; omega
        have hB : Wrote (NLset h (.slice ao l.length cp)) w W := by rw [hW]; exact ((Wrote.refl _ _).alloc _).drewN nq
        have hbel : Below w.heap.size w W := by rw [hW]; exact ntbelow_drewN ((Below.refl _ _).alloc (Nat.le_refl _) _) _
        have hcW : W.cell? ⟨h, 0, none⟩ = some (.slice ao l.length cp) := (hbel.cell (p := ⟨h, 0, none⟩) hlt).trans hc
        have hfW : W.frozen? ⟨h, 0, none⟩ = false := (hbel.frozen (p := ⟨h, 0, none⟩) hlt).trans hfz
        have hownW : W.ownsRow 0 73 8 (.slice ao l.length cp) l.length (rowOf ntc l) := by rw [hW]; exact ownsRow_below hown (ntbelow_drewN ((Below.refl _ _).alloc (Nat.le_refl _) _) _)
        obtain ⟨B, hBB⟩ : ∃ B, B = w.heap.size := ⟨_, rfl⟩
        rw [← hBB]
        have hcell : ∀ j u, (ntc n)[j]? = some u → W.cell? ⟨B, j, none⟩ = some u := by
          intro j u hu
          rw [hW, hBB]
          have : (w.alloc (ntObj n)).cell? ⟨w.heap.size, j, none⟩ = some u := by
            unfold World.cell? ntObj
            rw [heap_alloc_new]
            simpa [ntc] using hu
          exact this
        have b0 : W.cell? ⟨B, 0, none⟩ = some (.int .i64 n.step) := hcell 0 _ rfl
        have b1 : W.cell? ⟨B, 1, none⟩ = some (.int .i64 n.thread) := hcell 1 _ rfl
        have b2 : W.cell? ⟨B, 2, none⟩ = some (.int .u8 n.kind) := hcell 2 _ rfl
        have b3 : W.cell? ⟨B, 3, none⟩ = some (.int .i64 n.ref) := hcell 3 _ rfl
        have b4 : W.cell? ⟨B, 4, none⟩ = some (.int .i64 n.bits) := hcell 4 _ rfl
        have b5 : W.cell? ⟨B, 5, none⟩ = some (.int .i64 n.bucket) := hcell 5 _ rfl
        have b6 : W.cell? ⟨B, 6, none⟩ = some (.int .i64 n.slot) := hcell 6 _ rfl
        have b7 : W.cell? ⟨B, 7, none⟩ = some (.int .i64 n.value) := hcell 7 _ rfl
        have hBW : B < W.heap.size := by rw [hBB, hW]; simp
        have hBo : (Value.slice ao l.length cp).ownBlock ≠ some B := fun he => by have := (hown.lt _ he).2; omega
        have hd : decide ((1048576 : Int) ≤ (l.length : Int)) = false := by simp only [decide_eq_false_iff_not]; omega
        have HF := Lib.hid hfull
        clear hfull
        have hfA : ∀ o, (W.alloc o).frozen? ⟨h, 0, none⟩ = false := fun o => (((Below.refl W.heap.size W).alloc (Nat.le_refl _) o).frozen (p := ⟨h, 0, none⟩) hlW).trans hfW
        have HW := Lib.hid hW
        have HBB := Lib.hid hBB
        clear hBB
        rw [← hW]
        clear hcell hW hc hfz hown hbel
        go_wp2
        go_region_law ((refine step_append_lies _ (by rfl) _ _ _ (by rfl) 0 73 i0 _ 8 64 Tryz.underlying69 hi hz0 hz1 hz2 rfl (by omega) (.slice ao l.length cp) l.length (rowOf ntc l) (by rfl) ((hownW.alloc _).drew) ⟨W.heap.size, 0, none⟩ 1 1 (ntc n) (by rfl) (by rfl) (World.news_of_block (cs := (ntc n).toArray) (t := 73) (fr := (0, 0)) (heap_alloc_new W _)) (by simp [Value.oneCell', ntc]) (by omega) (by have := HF.out; unfold maxLen; omega) (by have := HF.out; omega) (by simp) (W.heap.size + 1) (by simp) ?_; intro gg cap w1 hown1 hgrow hat hlt1; have hh1 : w1.cell? ⟨h, 0, none⟩ = some (.slice ao l.length cp) := (hgrow.cell_far _ (by simp; omega) (Ne.symm hap)).trans ((((Below.refl W.heap.size W).alloc (Nat.le_refl _) _).cell (p := ⟨h, 0, none⟩) hlW).trans hcW); have hh2 : w1.frozen? ⟨h, 0, none⟩ = false := (hgrow.frozen_far _ (by simp; omega) (Ne.symm hap)).trans (hfA _)))
        all_goals
          go_wp2
          go_ret
          exact ⟨ret_int HE.out.symm, add_end HE.out hB hlW hap hown1 hgrow hat hh1 hh2⟩
    · have HB := Lib.hid hB
      clear hown
      go_wp2
      go_ret
      exact ⟨ret_int (ntErr_bad HB.out).symm, _, by rw [ntAdd_no (by rw [ntErr_bad HB.out]; omega)]; exact HL.out.wrote ((Wrote.refl _ _).alloc _ |>.drewN nq) (fun _ _ hf => hf), fun k hk => .inl hk, ((Wrote.refl _ _).alloc _).drewN nq⟩
/-- A note is taken, by owners. -/
theorem c_NoAdd (n : Nt) {w : World} {O : Om} {t np : Nat} {l : List Nt} (h : No w O t np l) (ht : t ≠ 0) (hhi : ∀ j, O j ≠ 0 → j < w.heap.size) (k0 : 0 ≤ n.kind) (k1 : n.kind ≤ 255) :
    Calls Tryz.prog 242 #[.pointer (some ⟨np, 0, none⟩), .agg #[.int .i64 n.step, .int .i64 n.thread, .int .u8 n.kind, .int .i64 n.ref, .int .i64 n.bits, .int .i64 n.bucket, .int .i64 n.slot, .int .i64 n.value]] w
      (RP (fun j => j = t) w O (.int .i64 (ntErr l n)) fun W G => No W G t np (ntAdd l n)) := by
  classical
  obtain ⟨v, hl, hO⟩ := h.ex
  refine (c_NtAdd n np v l w hl k0 k1).mono ?_
  rintro e w' ⟨rfl, v', hl', hv', hw⟩
  refine ⟨rfl, fun j => if NLset np v' j ∧ O j = 0 then t else O j, ⟨fun j hj => ?_, fun j hj => ?_, fun j hj hn => ?_, ?_⟩, ⟨v', hl', fun k hk => ?_⟩⟩
  · show (if NLset np v' j ∧ O j = 0 then t else O j) = O j
    by_cases hc : NLset np v' j ∧ O j = 0
    · exfalso
      have hold : NLset np v j := by
        rcases hc.1 with h1 | h1
        · exact .inl h1
        · rcases hv' j h1 with h2 | h2
          · exact .inr h2
          · omega
      rw [hO j hold] at hc
      exact ht hc.2
    · rw [if_neg hc]
  · by_cases hc : NLset np v' j
    · exact hl'.lts j hc
    · have hj2 : (if NLset np v' j ∧ O j = 0 then t else O j) ≠ 0 := hj
      rw [if_neg (fun h => hc h.1)] at hj2
      exact Nat.lt_of_lt_of_le (hhi j hj2) hw.size
  · show (if NLset np v' j ∧ O j = 0 then t else O j) = t
    have hn2 : (if NLset np v' j ∧ O j = 0 then t else O j) ≠ 0 := hn
    by_cases hc : NLset np v' j ∧ O j = 0
    · rw [if_pos hc]
    · rw [if_neg hc] at hn2
      have := hhi j hn2
      omega
  · exact hw.mono fun j hj hs => ⟨hO j hs, by rw [hO j hs]; exact ht⟩
  · show (if NLset np v' k ∧ O k = 0 then t else O k) = t
    by_cases hz : O k = 0
    · rw [if_pos ⟨hk, hz⟩]
    · rw [if_neg (fun h => hz h.2)]
      rcases hk with h1 | h1
      · exact hO k (.inl h1)
      · rcases hv' k h1 with h2 | h2
        · exact hO k (.inr h2)
        · exact absurd (hhi k hz) (by omega)
end Go.Proofs.YtkpkhibknaoboaaGreat
