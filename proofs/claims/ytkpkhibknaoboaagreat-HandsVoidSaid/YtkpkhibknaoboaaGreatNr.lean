/- Layers 9, 10: a note of the document's world. -/
import Derived.Test.YtkpkhibknaoboaaGreatNw
import Derived.Test.YtkpkhibknaoboaaGreatMd
import Derived.Test.YtkpkhibknaoboaaGreatArA
import Derived.Test.YtkpkhibknaoboaaGreatTn1
namespace Go.Proofs.YtkpkhibknaoboaaGreat
set_option linter.unusedSimpArgs false
open Go.RowKit
set_option linter.unusedVariables false

theorem infoRn : (Tryz.prog.info? 282).map (fun i => (i.zero, i.size, i.bytes)) = some (some (.agg #[.int .i64 0, .int .i64 0, .int .i64 0, .int .i64 0, .int .i64 0, .int .i64 0, .int .i64 0, .int .i64 0]), 8, 64) := by kernel_rfl
def rnObj (n : Nt) : Obj := .cells #[.int .i64 n.step, .int .i64 n.thread, .int .i64 n.kind, .int .i64 n.ref, .int .i64 n.bits, .int .i64 n.bucket, .int .i64 n.slot, .int .i64 n.value] 282
set_option maxHeartbeats 1000000 in
set_option maxRecDepth 100000 in
theorem c_r9Add (n : Nt) {w : World} {O : Om} {t h : Nat} {l : List Nt} (H : LH w O t 282 8 ntr h l) (ht : t ≠ 0) (hhi : ∀ j, O j ≠ 0 → j < w.heap.size) (k0 : 0 ≤ n.kind) (k1 : n.kind ≤ 255) :
    Calls Tryz.prog 226 #[.pointer (some ⟨h, 0, none⟩), .agg #[.int .i64 n.step, .int .i64 n.thread, .int .i64 n.kind, .int .i64 n.ref, .int .i64 n.bits, .int .i64 n.bucket, .int .i64 n.slot, .int .i64 n.value]] w (RP (fun j => j = t) w O (.int .i64 (ntErr l n)) fun W G => LH W G t 282 8 ntr h (ntAdd l n)) := by
  obtain ⟨v, h1, h2, h3⟩ := H.ex
  have hno : ∀ w', Below w.heap.size w w' → ntErr l n ≠ 0 → ∃ G, Ext (fun j => j = t) O w G w' ∧ LH w' G t 282 8 ntr h (ntAdd l n) := fun w' hb he => ⟨O, Ext.of_below hhi hb, by rw [ntAdd_no he]; exact H.ext (S := fun _ => False) (Ext.of_below hhi hb) id⟩
  have HN := Lib.hid hno
  have H1 := Lib.hid h1
  have H3 := Lib.hid h3
  have HH := Lib.hid hhi
  have hlt := h1.lt
  have hc := h1.c 0 _ rfl
  have hfz := h1.f 0
  have hap : v.ownBlock ≠ some h := fun e => (h3 h e).2 rfl
  have hown := h2
  obtain ⟨ao, cp, rfl, hcp, hm⟩ := (Arr.of_own h2).shape
  have hm' : l.length ≤ 9223372036854775807 := by unfold maxLen at hm; omega
  have hne : ¬ h = w.heap.size := by omega
  have hcA := (((Below.refl w.heap.size w).alloc (Nat.le_refl _) (rnObj n)).cell (p := ⟨h, 0, none⟩) hlt).trans hc
  unfold rnObj at hcA
  clear H h1 h2 h3 hno hhi
  by_cases hk1 : n.kind < 1
  · have HE := Lib.hid (show ntErr l n = 1 from ntErr_bad (by unfold ntBad; simp; omega))
    clear hown
    go_enter Tryz.func226, Tryz.ntmps226
    go_wp2
    go_ret
    exact ⟨ret_int HE.out.symm, HN.out _ ((Below.refl _ _).alloc (Nat.le_refl _) _) (by rw [HE.out]; omega)⟩
  · by_cases hk9 : 9 < n.kind
    · have HE := Lib.hid (show ntErr l n = 1 from ntErr_bad (by unfold ntBad; simp; omega))
      clear hown
      go_enter Tryz.func226, Tryz.ntmps226
      go_wp2
      go_ret
      exact ⟨ret_int HE.out.symm, HN.out _ ((Below.refl _ _).alloc (Nat.le_refl _) _) (by rw [HE.out]; omega)⟩
    · have hBL : ntBad l n = ntLow l n := by unfold ntBad; rw [decide_eq_false (by omega)]; rfl
      have HBL := Lib.hid hBL
      clear hBL
      go_enter Tryz.func226, Tryz.ntmps226
      go_upto_region 3 with fail
      go_cut [36] (fun s wx => s = .bool (ntLow l n) ∧ ∃ nq, wx = (w.alloc (rnObj n)).drewN nq)
      case first =>
        by_cases hz : l.length = 0
        · have ez : decide (0 < l.length) = false := by simp [hz]
          have hB : ntLow l n = false := by rw [List.eq_nil_of_length_eq_zero hz]; rfl
          have HB2 := Lib.hid hB
          clear hB hz
          go_quiet (fail)
          go_wp2
          go_meet
          exact ⟨by rw [HB2.out], _, rfl⟩
        · have ez : decide (0 < l.length) = true := by simp; omega
          have hB := ntLow_get n (show 0 < l.length by omega)
          obtain ⟨b, o, c', he, -, -, hb, hx⟩ := (Arr.of_own hown).open (show 0 < l.length by omega) (by omega)
          cases he
          have hi0 : (0 : Int) ≤ (l.length : Int) - 1 := by omega
          have hi1 : (l.length : Int) - 1 < (l.length : Int) := by omega
          obtain ⟨m, hmm⟩ : ∃ m, m = l[l.length - 1] := ⟨_, rfl⟩
          have g0 := nt_cells ntr_len hx (l.length - 1) (by omega) 0 (by omega) (u := .int .i64 m.step) (by rw [hmm]; rfl)
          rw [Nat.add_zero] at g0
          have hbn : ¬ b = w.heap.size := by omega
          rw [← hmm] at hB
          have HB2 := Lib.hid hB
          clear hx hB hmm hz hown
          go_quiet (fail)
          go_wp2
          go_meet
          exact ⟨by rw [HB2.out], _, rfl⟩
      case rest =>
        obtain ⟨rfl, nq, rfl⟩ := hcut
        cases hB : ntLow l n
        · have HB : Hid (ntBad l n = false) := by have := HBL.out; rw [hB] at this; exact this
          by_cases hfull : 1048576 ≤ l.length
          · have hd : decide ((1048576 : Int) ≤ (l.length : Int)) = true := by simp only [decide_eq_true_eq]; omega
            have HF := Lib.hid hfull
            have hcB : ((w.alloc (rnObj n)).drewN nq).cell? ⟨h, 0, none⟩ = some (.slice ao l.length cp) := hcA
            clear hown hfull
            go_wp2
            have hfull := HF.out
            go_ret
            exact ⟨ret_int (ntErr_full HB.out hfull).symm, HN.out _ (ntbelow_drewN ((Below.refl _ _).alloc (Nat.le_refl _) _) _) (by rw [ntErr_full HB.out hfull]; omega)⟩
          · obtain ⟨i0, hi, hz0, hz1, hz2⟩ := info_parts infoRn
            have HE := Lib.hid (ntErr_ok HB.out hfull)
            obtain ⟨W, hW⟩ : ∃ W, W = (w.alloc (rnObj n)).drewN nq := ⟨_, rfl⟩
            have hlW : h < W.heap.size := by rw [hW]; simp; omega
            have hbel : Below w.heap.size w W := by rw [hW]; exact ntbelow_drewN ((Below.refl _ _).alloc (Nat.le_refl _) _) _
            have EW := Lib.hid (Ext.of_below (S := fun j => j = t) HH.out hbel)
            have K1 := Lib.hid (H1.out.below hbel)
            have hcW : W.cell? ⟨h, 0, none⟩ = some (.slice ao l.length cp) := (hbel.cell (p := ⟨h, 0, none⟩) hlt).trans hc
            have hfW : W.frozen? ⟨h, 0, none⟩ = false := (hbel.frozen (p := ⟨h, 0, none⟩) hlt).trans hfz
            have hownW : W.ownsRow 0 282 8 (.slice ao l.length cp) l.length (rowOf ntr l) := by rw [hW]; exact ownsRow_below hown (ntbelow_drewN ((Below.refl _ _).alloc (Nat.le_refl _) _) _)
            obtain ⟨B, hBB⟩ : ∃ B, B = w.heap.size := ⟨_, rfl⟩
            rw [← hBB]
            have hcell : ∀ j u, (ntr n)[j]? = some u → W.cell? ⟨B, j, none⟩ = some u := by
              intro j u hu
              rw [hW, hBB]
              have : (w.alloc (rnObj n)).cell? ⟨w.heap.size, j, none⟩ = some u := by
                unfold World.cell? rnObj
                rw [heap_alloc_new]
                simpa [ntr] using hu
              exact this
            have b0 : W.cell? ⟨B, 0, none⟩ = some (.int .i64 n.step) := hcell 0 _ rfl
            have b1 : W.cell? ⟨B, 1, none⟩ = some (.int .i64 n.thread) := hcell 1 _ rfl
            have b2 : W.cell? ⟨B, 2, none⟩ = some (.int .i64 n.kind) := hcell 2 _ rfl
            have b3 : W.cell? ⟨B, 3, none⟩ = some (.int .i64 n.ref) := hcell 3 _ rfl
            have b4 : W.cell? ⟨B, 4, none⟩ = some (.int .i64 n.bits) := hcell 4 _ rfl
            have b5 : W.cell? ⟨B, 5, none⟩ = some (.int .i64 n.bucket) := hcell 5 _ rfl
            have b6 : W.cell? ⟨B, 6, none⟩ = some (.int .i64 n.slot) := hcell 6 _ rfl
            have b7 : W.cell? ⟨B, 7, none⟩ = some (.int .i64 n.value) := hcell 7 _ rfl
            have hBW : B < W.heap.size := by rw [hBB, hW]; simp
            have hBo : (Value.slice ao l.length cp).ownBlock ≠ some B := fun he => by have := (hown.lt _ he).2; omega
            have hd : decide ((1048576 : Int) ≤ (l.length : Int)) = false := by simp only [decide_eq_false_iff_not]; omega
            have HF := Lib.hid hfull
            have hfA : ∀ o, (W.alloc o).frozen? ⟨h, 0, none⟩ = false := fun o => (((Below.refl W.heap.size W).alloc (Nat.le_refl _) o).frozen (p := ⟨h, 0, none⟩) hlW).trans hfW
            have HW := Lib.hid hW
            have HBB := Lib.hid hBB
            rw [← hW]
            clear hcell hW hc hfz hown hbel hcA hfull hBB
            go_wp2
            go_region_law ((refine step_append_lies _ (by rfl) _ _ _ (by rfl) 0 282 i0 _ 8 64 Tryz.underlying277 hi hz0 hz1 hz2 rfl (by omega) (.slice ao l.length cp) l.length (rowOf ntr l) (by rfl) ((hownW.alloc _).drew) ⟨W.heap.size, 0, none⟩ 1 1 (ntr n) (by rfl) (by rfl) (World.news_of_block (cs := (ntr n).toArray) (t := 282) (fr := (0, 0)) (heap_alloc_new W _)) (by simp [Value.oneCell', ntr]) (by omega) (by have := HF.out; unfold maxLen; omega) (by have := HF.out; omega) (by simp) (W.heap.size + 1) (by simp) ?_; intro gg cap w1 hown1 hgrow hat hlt1; have hh1 : w1.cell? ⟨h, 0, none⟩ = some (.slice ao l.length cp) := (hgrow.cell_far _ (by simp; omega) (Ne.symm hap)).trans ((((Below.refl W.heap.size W).alloc (Nat.le_refl _) _).cell (p := ⟨h, 0, none⟩) hlW).trans hcW); have hh2 : w1.frozen? ⟨h, 0, none⟩ = false := (hgrow.frozen_far _ (by simp; omega) (Ne.symm hap)).trans (hfA _)))
            all_goals
              go_wp2
              go_ret
              obtain ⟨G, g1, g2⟩ := LH.snoc ht EW.out.hi K1.out hownW H3.out hown1 hgrow hat hlt1
              rw [← ntAdd_ok HE.out] at g2
              first
                | exact ⟨ret_int HE.out.symm, G, EW.out.trans g1, g2⟩
                | exact ⟨ret_int HE.out.symm, G, (EW.out.trans g1).drew, g2.ext (S := fun _ => False) (Ext.of_below g1.hi (drew_below _)) id⟩
        · have HB : Hid (ntBad l n = true) := by have := HBL.out; rw [hB] at this; exact this
          clear hown
          go_wp2
          go_ret
          exact ⟨ret_int (ntErr_bad HB.out).symm, HN.out _ (ntbelow_drewN ((Below.refl _ _).alloc (Nat.le_refl _) _) _) (by rw [ntErr_bad HB.out]; omega)⟩
theorem RW.notes {w w' : World} {O O' : Om} {B : Wb} {f : Cf} {s : AW} {m : Nat} {l : List Nt} (h : RW w O B f s m) (e : Ext (fun t => t = 8) O w O' w') (hc : LH w' O' 8 282 8 ntr B.np l) : RW w' O' B f ⟨s.M, s.n, s.la, s.tk, s.ho, s.it, l⟩ m :=
  ⟨(e.lo _ h.wo.lt).trans h.o, h.wo.wrote e.wr (fun k => absurd (show (5 : Nat) = 8 from by have := k.1; rwa [h.o] at this) (by decide)), h.ce.ext e (by decide), h.ar.ext e (by decide), hc⟩
set_option maxHeartbeats 2000000 in
set_option maxRecDepth 100000 in
theorem c_rwNote (k ref b q sl v : Int) {w : World} {O : Om} {B : Wb} {f : Cf} {s : AW} {m : Nat} (h : RW w O B f s m) (hhi : ∀ j, O j ≠ 0 → j < w.heap.size) (k0 : 0 ≤ k) (k1 : k ≤ 255) :
    Calls Tryz.prog 150 #[.pointer (some ⟨B.p, 0, none⟩), .int .i64 k, .int .i64 ref, .agg #[.int .i64 b, .int .i64 q, .int .i64 sl], .int .i64 v] w (RP SR w O (.tuple #[]) fun W G => RW W G B f (awNote k ref b q sl v s) m) := by
  have HP := Lib.hid h
  have HH := Lib.hid hhi
  clear h hhi
  go_enter Tryz.func150, Tryz.ntmps150
  go_wp2_with fail
  obtain ⟨W, hW⟩ : ∃ W, W = w.alloc (.cells #[.int .i64 b, .int .i64 q, .int .i64 sl] 56) := ⟨_, rfl⟩
  have y0 : W.cell? ⟨w.heap.size, 0, none⟩ = some (.int .i64 b) := by rw [hW]; simp
  have y1 : W.cell? ⟨w.heap.size, 1, none⟩ = some (.int .i64 q) := by rw [hW]; simp
  have y2 : W.cell? ⟨w.heap.size, 2, none⟩ = some (.int .i64 sl) := by rw [hW]; simp
  have hB : Below w.heap.size w W := by rw [hW]; exact (Below.refl _ _).alloc (Nat.le_refl _) _
  have E1 := Lib.hid (Ext.of_below (S := SR) HH.out hB)
  have P1 := Lib.hid (HP.out.below HH.out hB)
  have c2 := P1.out.wo.c2
  have ch := P1.out.wo.ho
  have hlt : w.heap.size < W.heap.size := by rw [hW]; simp
  have hO0 := Lib.hid (zero_own1 HH.out (Nat.le_refl w.heap.size))
  rw [← hW]
  clear hW hB
  go_region_held3 (fun w' => w'.cell? ⟨w.heap.size, 0, none⟩ = some (.int .i64 b) ∧ w'.cell? ⟨w.heap.size, 1, none⟩ = some (.int .i64 q) ∧ w'.cell? ⟨w.heap.size, 2, none⟩ = some (.int .i64 sl) ∧ w'.cell? ⟨B.p, 2, none⟩ = some (.pointer (some ⟨B.np, 0, none⟩)) ∧ w'.cell? ⟨B.p, 72, none⟩ = some (.int .i64 s.ho)) (go_keep)
    ((first
      | (go_at_call 154
         refine (c_rwSteps (P1.out.below E1.out.hi (drew_below W))).mono ?_
         rintro e w' ⟨rfl, rfl⟩)
      | (go_at_call 226
         refine (c_r9Add (w := W.drew) ⟨s.n, s.ho, k, ref, b, q, sl, v⟩ (P1.out.below E1.out.hi (drew_below W)).no (by decide) E1.out.drew.hi k0 k1).mono ?_
         rintro e w1 ⟨rfl, G, e1, no1⟩
         have Q1 := Lib.hid ((P1.out.below E1.out.hi (drew_below W)).notes e1 no1)
         have F1 := Lib.hid (E1.out.drew.trans (e1.mono fun t _ h => by subst h; exact ⟨by decide, by decide⟩))
         have x0 := (e1.cell (p := ⟨w.heap.size, 0, none⟩) hlt (by show ¬ (O w.heap.size = 8); rw [hO0.out]; decide)).trans y0
         have x1 := (e1.cell (p := ⟨w.heap.size, 1, none⟩) hlt (by show ¬ (O w.heap.size = 8); rw [hO0.out]; decide)).trans y1
         have x2 := (e1.cell (p := ⟨w.heap.size, 2, none⟩) hlt (by show ¬ (O w.heap.size = 8); rw [hO0.out]; decide)).trans y2
         have x3 := Q1.out.wo.c2
         have x4 := Q1.out.wo.ho
         clear e1 no1)))
  all_goals
    go_wp2_with fail
    go_end0
    exact ⟨rfl, G, F1.out, Q1.out⟩
end Go.Proofs.YtkpkhibknaoboaaGreat
