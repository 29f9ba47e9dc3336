/- Layer 9: contracts of the document's list. -/
import Derived.Test.YtcgjopjjmgpobaaNtMore
namespace Go.Proofs.Ytcgjopjjmgpobaa
open Go.RowKit
set_option linter.unusedVariables false

theorem infoRn : (Try.prog.info? 70).map (fun i => (i.zero, i.size, i.bytes)) = some (some (.agg #[.int .i64 0, .int .i64 0, .int .i64 0, .int .i64 0, .int .i64 0, .int .i64 0, .int .i64 0, .int .i64 0]), 8, 64) := by kernel_rfl
def rnObj (n : Nt) : Obj := .cells #[.int .i64 n.step, .int .i64 n.thread, .int .i64 n.kind, .int .i64 n.ref, .int .i64 n.bits, .int .i64 n.bucket, .int .i64 n.slot, .int .i64 n.value] 70
theorem radd_end {w W w1 : World} {o : Obj} {h gg cap : Nat} {v : Value} {l : List Nt} {n : Nt} (he : ntErr l n = 0) (hB : Wrote (NLset h v) w W) (hlW : h < W.heap.size) (hap : v.ownBlock ≠ some h)
    (hown : w1.ownsRow 0 70 8 (.slice (some ⟨gg, 0, none⟩) (l.length + 1) cap) (l.length + 1) (rowOf ntr l ++ ntr n)) (hg : (W.alloc o).drew.grownBy w1 v.ownBlock) (hat : v.ownBlock = some gg ∨ gg = W.heap.size + 1)
    (hh1 : w1.cell? ⟨h, 0, none⟩ = some v) (hh2 : w1.frozen? ⟨h, 0, none⟩ = false) :
    ∃ v', NL (w1.setCell ⟨h, 0, none⟩ (.slice (some ⟨gg, 0, none⟩) (l.length + 1) cap)) 70 ntr h v' (ntAdd l n) ∧ (∀ k, v'.ownBlock = some k → v.ownBlock = some k ∨ w.heap.size ≤ k) ∧ Wrote (NLset h v) w (w1.setCell ⟨h, 0, none⟩ (.slice (some ⟨gg, 0, none⟩) (l.length + 1) cap)) := by
  have hgh : gg ≠ h := by
    rcases hat with e | e
    · intro he; subst he; exact hap e
    · omega
  have hw1 : Wrote (NLset h v) w w1 := ((hB.alloc o).drew).grown hg fun k hk _ => .inr hk
  have hz : W.heap.size + 1 ≤ w1.heap.size := by have := hg.size; simpa using this
  have hs : ∀ u, Wrote (fun k => k = h) w1 (w1.setCell ⟨h, 0, none⟩ u) := fun u => Wrote.setCell (S := fun k => k = h) (Wrote.refl _ _) (p := ⟨h, 0, none⟩) (fun _ => rfl) u
  refine ⟨_, ⟨World.cell?_setCell_same _ _ _ hh1, (World.frozen?_setCell _ _ _ _).trans hh2, by simp; omega, ?_, ?_⟩, ?_, hw1.setCell (p := ⟨h, 0, none⟩) (fun _ => .inl rfl) _⟩
  · intro e; cases e; exact hgh rfl
  · rw [ntAdd_ok he, rowOf_snoc, List.length_append]
    exact (hs _).own hown fun k hk e => by cases hk; exact hgh e
  · intro k hk
    cases hk
    rcases hat with e | e
    · exact .inl e
    · right; have := hB.size; show w.heap.size ≤ gg; omega
set_option maxHeartbeats 1000000 in
set_option maxRecDepth 100000 in
theorem c_rAdd (n : Nt) (h : Nat) (v : Value) (l : List Nt) (w : World) (hl : NL w 70 ntr h v l) (k0 : 0 ≤ n.kind) (k1 : n.kind ≤ 255) :
    Calls Try.prog 41 #[.pointer (some ⟨h, 0, none⟩), .agg #[.int .i64 n.step, .int .i64 n.thread, .int .i64 n.kind, .int .i64 n.ref, .int .i64 n.bits, .int .i64 n.bucket, .int .i64 n.slot, .int .i64 n.value]] w fun e w' =>
      e = .returned (.int .i64 (ntErr l n)) ∧ ∃ v', NL w' 70 ntr h v' (ntAdd l n) ∧ (∀ k, v'.ownBlock = some k → v.ownBlock = some k ∨ w.heap.size ≤ k) ∧ Wrote (NLset h v) w w' := by
  have hlt := hl.lt
  have hc := hl.head
  have hfz := hl.free
  have hap := hl.apart
  have hown := hl.own
  obtain ⟨ao, cp, rfl, hcp, hm⟩ := (Arr.of_own hl.own).shape
  have hm' : l.length ≤ 9223372036854775807 := by unfold maxLen at hm; omega
  have hne : ¬ h = w.heap.size := by omega
  have HL := Lib.hid hl
  have hcA := (((Below.refl w.heap.size w).alloc (Nat.le_refl _) (rnObj n)).cell (p := ⟨h, 0, none⟩) hlt).trans hc
  unfold rnObj at hcA
  clear hl
  by_cases hk1 : n.kind < 1
  · have HE := Lib.hid (show ntErr l n = 1 from ntErr_bad (by unfold ntBad; simp; omega))
    clear hown
    go_enter Try.func41, Try.ntmps41
    go_wp2
    go_ret
    exact ⟨ret_int HE.out.symm, _, by rw [ntAdd_no (by rw [HE.out]; omega)]; exact HL.out.wrote ((Wrote.refl _ _).alloc _) (fun _ _ hf => hf), fun k hk => .inl hk, (Wrote.refl _ _).alloc _⟩
  · by_cases hk9 : 9 < n.kind
    · have HE := Lib.hid (show ntErr l n = 1 from ntErr_bad (by unfold ntBad; simp; omega))
      clear hown
      go_enter Try.func41, Try.ntmps41
      go_wp2
      go_ret
      exact ⟨ret_int HE.out.symm, _, by rw [ntAdd_no (by rw [HE.out]; omega)]; exact HL.out.wrote ((Wrote.refl _ _).alloc _) (fun _ _ hf => hf), fun k hk => .inl hk, (Wrote.refl _ _).alloc _⟩
    · have hBL : ntBad l n = ntLow l n := by unfold ntBad; rw [decide_eq_false (by omega)]; rfl
      have HBL := Lib.hid hBL
      clear hBL
      go_enter Try.func41, Try.ntmps41
      go_upto_region 3 with fail
      go_cut [36] (fun s wx => s = .bool (ntLow l n) ∧ ∃ nq, wx = (w.alloc (rnObj n)).drewN nq)
      case first =>
        by_cases hz : l.length = 0
        · have ez : decide (0 < l.length) = false := by simp [hz]
          have hB : ntLow l n = false := by rw [List.eq_nil_of_length_eq_zero hz]; rfl
          have HB2 := Lib.hid hB
          clear hB hz
          go_quiet (fail)
          go_wp2
          go_meet
          exact ⟨by rw [HB2.out], _, rfl⟩
        · have ez : decide (0 < l.length) = true := by simp; omega
          have hB := ntLow_get n (show 0 < l.length by omega)
          obtain ⟨b, o, c', he, -, -, hb, hx⟩ := (Arr.of_own hown).open (show 0 < l.length by omega) (by omega)
          cases he
          have hi0 : (0 : Int) ≤ (l.length : Int) - 1 := by omega
          have hi1 : (l.length : Int) - 1 < (l.length : Int) := by omega
          obtain ⟨m, hmm⟩ : ∃ m, m = l[l.length - 1] := ⟨_, rfl⟩
          have g0 := nt_cells ntr_len hx (l.length - 1) (by omega) 0 (by omega) (u := .int .i64 m.step) (by rw [hmm]; rfl)
          rw [Nat.add_zero] at g0
          have hbn : ¬ b = w.heap.size := by omega
          rw [← hmm] at hB
          have HB2 := Lib.hid hB
          clear hx hB hmm hz hown
          go_quiet (fail)
          go_wp2
          go_meet
          exact ⟨by rw [HB2.out], _, rfl⟩
      case rest =>
        obtain ⟨rfl, nq, rfl⟩ := hcut
        cases hB : ntLow l n
        · have HB : Hid (ntBad l n = false) := by have := HBL.out; rw [hB] at this; exact this
          by_cases hfull : 1048576 ≤ l.length
          · have hd : decide ((1048576 : Int) ≤ (l.length : Int)) = true := by simp only [decide_eq_true_eq]; omega
            have HF := Lib.hid hfull
            have hcB : ((w.alloc (rnObj n)).drewN nq).cell? ⟨h, 0, none⟩ = some (.slice ao l.length cp) := hcA
            clear hown hfull
            go_wp2
            have hfull := HF.out
            go_ret
            exact ⟨ret_int (ntErr_full HB.out hfull).symm, _, by rw [ntAdd_no (by rw [ntErr_full HB.out hfull]; omega)]; exact HL.out.wrote ((Wrote.refl _ _).alloc _ |>.drewN nq) (fun _ _ hf => hf), fun k hk => .inl hk, ((Wrote.refl _ _).alloc _).drewN nq⟩
          · obtain ⟨i0, hi, hz0, hz1, hz2⟩ := info_parts infoRn
            have HE := Lib.hid (ntErr_ok HB.out hfull)
            obtain ⟨W, hW⟩ : ∃ W, W = (w.alloc (rnObj n)).drewN nq := ⟨_, rfl⟩
            have hlW : h < W.heap.size := by rw [hW]; simp; omega
            have hBw : Wrote (NLset h (.slice ao l.length cp)) w W := by rw [hW]; exact ((Wrote.refl _ _).alloc _).drewN nq
            have hbel : Below w.heap.size w W := by rw [hW]; exact below_drewN ((Below.refl _ _).alloc (Nat.le_refl _) _) _
            have hcW : W.cell? ⟨h, 0, none⟩ = some (.slice ao l.length cp) := (hbel.cell (p := ⟨h, 0, none⟩) hlt).trans hc
            have hfW : W.frozen? ⟨h, 0, none⟩ = false := (hbel.frozen (p := ⟨h, 0, none⟩) hlt).trans hfz
            have hownW : W.ownsRow 0 70 8 (.slice ao l.length cp) l.length (rowOf ntr l) := by rw [hW]; exact ownsRow_below hown (below_drewN ((Below.refl _ _).alloc (Nat.le_refl _) _) _)
            obtain ⟨B, hBB⟩ : ∃ B, B = w.heap.size := ⟨_, rfl⟩
            rw [← hBB]
            have hcell : ∀ j u, (ntr n)[j]? = some u → W.cell? ⟨B, j, none⟩ = some u := by
              intro j u hu
              rw [hW, hBB]
              have : (w.alloc (rnObj n)).cell? ⟨w.heap.size, j, none⟩ = some u := by
                unfold World.cell? rnObj
                rw [heap_alloc_new]
                simpa [ntr] using hu
              exact this
            have b0 : W.cell? ⟨B, 0, none⟩ = some (.int .i64 n.step) := hcell 0 _ rfl
            have b1 : W.cell? ⟨B, 1, none⟩ = some (.int .i64 n.thread) := hcell 1 _ rfl
            have b2 : W.cell? ⟨B, 2, none⟩ = some (.int .i64 n.kind) := hcell 2 _ rfl
            have b3 : W.cell? ⟨B, 3, none⟩ = some (.int .i64 n.ref) := hcell 3 _ rfl
            have b4 : W.cell? ⟨B, 4, none⟩ = some (.int .i64 n.bits) := hcell 4 _ rfl
            have b5 : W.cell? ⟨B, 5, none⟩ = some (.int .i64 n.bucket) := hcell 5 _ rfl
            have b6 : W.cell? ⟨B, 6, none⟩ = some (.int .i64 n.slot) := hcell 6 _ rfl
            have b7 : W.cell? ⟨B, 7, none⟩ = some (.int .i64 n.value) := hcell 7 _ rfl
            have hBW : B < W.heap.size := by rw [hBB, hW]; simp
            have hBo : (Value.slice ao l.length cp).ownBlock ≠ some B := fun he => by have := (hown.lt _ he).2; omega
            have hd : decide ((1048576 : Int) ≤ (l.length : Int)) = false := by simp only [decide_eq_false_iff_not]; omega
            have HF := Lib.hid hfull
            have hfA : ∀ o, (W.alloc o).frozen? ⟨h, 0, none⟩ = false := fun o => (((Below.refl W.heap.size W).alloc (Nat.le_refl _) o).frozen (p := ⟨h, 0, none⟩) hlW).trans hfW
            have HW := Lib.hid hW
            have HBB := Lib.hid hBB
            rw [← hW]
            clear hcell hW hc hfz hown hbel hcA hfull hBB
            go_wp2
            go_region_law ((refine step_append_lies _ (by rfl) _ _ _ (by rfl) 0 70 i0 _ 8 64 Try.underlying65 hi hz0 hz1 hz2 rfl (by omega) (.slice ao l.length cp) l.length (rowOf ntr l) (by rfl) ((hownW.alloc _).drew) ⟨W.heap.size, 0, none⟩ 1 1 (ntr n) (by rfl) (by rfl) (World.news_of_block (cs := (ntr n).toArray) (t := 70) (fr := (0, 0)) (heap_alloc_new W _)) (by simp [Value.oneCell', ntr]) (by omega) (by have := HF.out; unfold maxLen; omega) (by have := HF.out; omega) (by simp) (W.heap.size + 1) (by simp) ?_; intro gg cap w1 hown1 hgrow hat hlt1; have hh1 : w1.cell? ⟨h, 0, none⟩ = some (.slice ao l.length cp) := (hgrow.cell_far _ (by simp; omega) (Ne.symm hap)).trans ((((Below.refl W.heap.size W).alloc (Nat.le_refl _) _).cell (p := ⟨h, 0, none⟩) hlW).trans hcW); have hh2 : w1.frozen? ⟨h, 0, none⟩ = false := (hgrow.frozen_far _ (by simp; omega) (Ne.symm hap)).trans (hfA _)))
            all_goals
              go_wp2
              go_ret
              exact ⟨ret_int HE.out.symm, radd_end HE.out hBw hlW hap hown1 hgrow hat hh1 hh2⟩
        · have HB : Hid (ntBad l n = true) := by have := HBL.out; rw [hB] at this; exact this
          clear hown
          go_wp2
          go_ret
          exact ⟨ret_int (ntErr_bad HB.out).symm, _, by rw [ntAdd_no (by rw [ntErr_bad HB.out]; omega)]; exact HL.out.wrote ((Wrote.refl _ _).alloc _ |>.drewN nq) (fun _ _ hf => hf), fun k hk => .inl hk, ((Wrote.refl _ _).alloc _).drewN nq⟩
theorem c_Other (n : Nt) (w : World) (k0 : 0 ≤ n.kind) (k1 : n.kind ≤ 255) :
    Calls Try.prog 42 #[.agg #[.int .i64 n.step, .int .i64 n.thread, .int .u8 n.kind, .int .i64 n.ref, .int .i64 n.bits, .int .i64 n.bucket, .int .i64 n.slot, .int .i64 n.value]] w fun e w' => e = .returned (.agg #[.int .i64 n.step, .int .i64 n.thread, .int .i64 n.kind, .int .i64 n.ref, .int .i64 n.bits, .int .i64 n.bucket, .int .i64 n.slot, .int .i64 n.value]) ∧ Below w.heap.size w w' := by
  go_enter Try.func42, Try.ntmps42
  go_wp2
  exact bodyPost_ret (v := .agg #[.int .i64 n.step, .int .i64 n.thread, .int .i64 n.kind, .int .i64 n.ref, .int .i64 n.bits, .int .i64 n.bucket, .int .i64 n.slot, .int .i64 n.value]) (by simp [results, Try.results42, go_sem]) rfl ⟨rfl, ((Below.refl _ _).alloc (Nat.le_refl _) _).alloc (by simp) _⟩
end Go.Proofs.Ytcgjopjjmgpobaa
