/- Layer 20: how often each item stands in a table (nestboxlaw20.at); a list that is counted; an empty bucket. Layer 20: an empty bucket (nestboxlaw20.empty); a list that is counted (count). Layer 20: how often each item is noted as dropped (nestboxlaw20.drops). Layer 20: what the laws' local variables hold. -/
import Derived.Test.YtfnmdafpdcgcmaaGreatZS
import Derived.Test.YtfnmdafpdcgcmaaGreatZY
import Derived.Test.YtfnmdafpdcgcmaaGreatZX
import Derived.Test.YtfnmdafpdcgcmaaGreatZ3
namespace Go.Proofs.YtfnmdafpdcgcmaaGreat
set_option linter.unusedSimpArgs false
section
set_option linter.unusedVariables false
set_option maxHeartbeats 8000000
set_option maxRecDepth 100000
open Go.RowKit Go.Shelf
def atI (nb : Int) (M : Int → Int) (n r : Nat) : Int := tC (gAt r) (tabOf M) nb n
theorem atI_bd (nb : Int) (M : Int → Int) : ∀ n r : Nat, 0 ≤ atI nb M n r ∧ atI nb M n r ≤ n
 | 0, _ => ⟨Int.le_refl _, Int.le_refl _⟩
 | n + 1, r => by
   have := atI_bd nb M n r
   show 0 ≤ atI nb M n r + gAt r _ ∧ atI nb M n r + gAt r _ ≤ _
   unfold gAt
   split <;> omega
theorem atI_skip {nb : Int} {M : Int → Int} {n : Nat} (h : ∀ r : Nat, r < 64 → ¬ (twTag (M (plAt nb n).tags) (plAt nb n).s > 0 ∧ M (plAt nb n).item = r)) : ir .i64 (atI nb M (n + 1)) 64 = ir .i64 (atI nb M n) 64 := by
 unfold ir
 refine List.map_congr_left fun j hj => ?_
 have hj := List.mem_range.1 hj
 rw [if_pos hj, if_pos hj]
 show Value.int .i64 (atI nb M n j + gAt j (tabOf M (plAt nb n))) = _
 unfold gAt tabOf
 rw [if_neg (h j hj)]
 congr 1
 omega
theorem c_at20 {w0 w : World} {G : Om} {B : Wb} {f : Cf} {s : AW} {nb : Int} {A : Nat} (L : LW w0 w G B f s) (b0 : 1 ≤ nb) (b1 : nb ≤ 12) (hA : (A : Int) = plSpots nb) (hA5 : A ≤ 500) :
 Calls Tryz.prog 16 #[.pointer (some ⟨B.p, 0, none⟩), .int .i64 nb] w fun e w' => e = .returned (.agg (ir .i64 (atI nb s.M A) 64).toArray) ∧ Below w.heap.size w w' := by
 have HL := Lib.hid L
 have HWD : Hid (∀ W, Calls Tryz.prog 11 #[.int .i64 nb, .int .i64 0] W fun e w' => e = .returned (.int .u64 nb) ∧ W = w') := Lib.hid fun W => by
  have h := c_Word nb 0 W
  rw [plWord0 b0 b1] at h
  exact h
 have HSP : Hid (∀ W, Calls Tryz.prog 43 #[.int .u64 nb] W fun e w' => e = .returned (.int .i64 (A : Int)) ∧ W = w') := Lib.hid fun W => by rw [hA]; exact c_Spots nb W (by omega) (by omega)
 have hlw := L.p.wo.lt
 have HAA := Lib.hid hA
 clear L hA
 go_enter Tryz.func16, Tryz.ntmps16
 go_upto_region 2 with fail
 generalize hW1 : World.alloc (World.alloc w _) _ = W1
 have hW2 : (w.alloc (.cells (List.replicate 64 (.int .i64 0)).toArray 45)).alloc (.cells (List.replicate 64 (.int .i64 0)).toArray 45) = W1 := hW1
 clear hW1
 have hb1 : Below w.heap.size w W1 := by rw [← hW2]; exact ((Below.refl _ _).alloc (Nat.le_refl _) _).alloc (by simp) _
 have h3 : W1.heap[w.heap.size + 1]? = some (.cells (ir .i64 (atI nb s.M 0) 64).toArray 45 (0, 0)) := by rw [← hW2, heap_alloc2_new, ir_zero .i64 (atI nb s.M 0) 64 (fun _ => rfl)]
 have h2 : W1.heap[w.heap.size]? = some (.cells (List.replicate 64 (.int .i64 0)).toArray 45 (0, 0)) := by rw [← hW2, heap_alloc2_old]
 obtain ⟨X4, hX4⟩ : ∃ X4, X4 = w.heap.size + 1 := ⟨_, rfl⟩
 rw [← hX4] at h3 ⊢
 obtain ⟨X2, hX2⟩ : ∃ X2, X2 = w.heap.size := ⟨_, rfl⟩
 have hx4 : w.heap.size ≤ X4 := by omega
 have hx2 : w.heap.size ≤ X2 := by omega
 have hne : X4 ≠ X2 := by omega
 rw [← hX2] at h2 ⊢
 have H4 := Lib.hid h3
 have H2 := Lib.hid h2
 have HB1 := Lib.hid hb1
 clear hW2 hX4 hX2 h3 h2 hb1
 go_wp2_with fail
 refine (HWD.out _).mono ?_
 rintro e w' ⟨rfl, rfl⟩
 clear HWD
 go_upto_region 4 with fail
 go_loopw [7] (fun iv wr => ∃ n : Nat, iv = .int .i64 n ∧ n ≤ A ∧ Below w.heap.size w wr ∧ wr.heap[X4]? = some (.cells (ir .i64 (atI nb s.M n) 64).toArray 45 (0, 0)) ∧ wr.heap[X2]? = some (.cells (List.replicate 64 (.int .i64 0)).toArray 45 (0, 0))) (fun iv _ => A - (intOf iv).toNat)
 case atStart => exact ⟨0, rfl, by omega, HB1.out, H4.out, H2.out⟩
 case round =>
  clear HB1 H4 H2
  obtain ⟨n, rfl, hn, hb, h4, h2⟩ := hrel
  have BR := Lib.hid hb
  have H4 := Lib.hid h4
  have H2 := Lib.hid h2
  have X4L : X4 < wr.heap.size := by
   rcases Nat.lt_or_ge X4 wr.heap.size with q | q
   · exact q
   · rw [Array.getElem?_eq_none q] at h4; cases h4
  have X2L : X2 < wr.heap.size := by
   rcases Nat.lt_or_ge X2 wr.heap.size with q | q
   · exact q
   · rw [Array.getElem?_eq_none q] at h2; cases h2
  clear hb h4 h2
  by_cases hn2 : n < A
  · have d5 : decide ((n : Int) < 512) = true := decide_eq_true (by omega)
    have dA : decide ((n : Int) < (A : Int)) = true := decide_eq_true (by omega)
    obtain ⟨p, hp⟩ : ∃ p, p = plAt nb n := ⟨_, rfl⟩
    have hpo : p.ok := by rw [hp]; exact plAt_ok _ _
    have HAT : Hid (∀ W, Calls Tryz.prog 44 #[.int .u64 nb, .int .i64 (n : Int)] W fun e w' => e = .returned (.agg #[.int .i64 p.b, .int .i64 p.q, .int .i64 p.s]) ∧ Below W.heap.size W w') := Lib.hid fun W => by rw [hp]; exact c_At nb n W (by omega) (by omega) (by omega) (by omega)
    have HPO := Lib.hid hpo
    have HPE := Lib.hid hp
    have LR := HL.out.below BR.out
    have hitb := LR.p.bd p.item
    have htgb := twTag_bd (s.M p.tags) p.s
    obtain ⟨tg, htg⟩ : ∃ tg, tg = twTag (s.M p.tags) p.s := ⟨_, rfl⟩
    obtain ⟨it, hit⟩ : ∃ it, it = s.M p.item := ⟨_, rfl⟩
    rw [← htg] at htgb
    rw [← hit] at hitb
    have HTG := Lib.hid htg
    have HIT := Lib.hid hit
    clear hp hpo LR htg hit
    go_wp2_with fail
    refine (HSP.out _).mono ?_
    rintro e w3 ⟨rfl, rfl⟩
    go_wp2_with fail
    refine (HAT.out _).mono ?_
    rintro e w4 ⟨rfl, hb4⟩
    have L4 := (HL.out.below BR.out).below hb4
    have HS := c_Slot p L4.p HPO.out L4.hi
    rw [← HTG.out, ← HIT.out] at HS
    have HS := Lib.hid HS
    have B4 := Lib.hid hb4
    clear hb4 L4 HAT
    go_wp2_with fail
    refine HS.out.mono ?_
    rintro e w6 ⟨rfl, hb6⟩
    have B6 : Hid (Below wr.heap.size wr w6) := Lib.hid (B4.out.trans (hb6.mono B4.out.size))
    clear hb6 HS B4
    have keep : Hid (∀ W, Below wr.heap.size wr W → W.heap[X4]? = some (.cells (ir .i64 (atI nb s.M n) 64).toArray 45 (0, 0)) ∧ W.heap[X2]? = some (.cells (List.replicate 64 (.int .i64 0)).toArray 45 (0, 0))) := Lib.hid fun W hb => ⟨(hb.block X4 X4L).trans H4.out, (hb.block X2 X2L).trans H2.out⟩
    by_cases ht : 0 < tg
    · have dt : decide ((0 : Int) < tg) = true := decide_eq_true ht
      by_cases h64 : it < 64
      · have d64 : decide (it < (64 : Int)) = true := decide_eq_true h64
        obtain ⟨r, hr⟩ : ∃ r : Nat, (r : Int) = it := ⟨it.toNat, by omega⟩
        have hr64 : r < 64 := by omega
        have HNX : Hid (atI nb s.M (n + 1) r = atI nb s.M n r + 1 ∧ ∀ j, j ≠ r → atI nb s.M (n + 1) j = atI nb s.M n j) := Lib.hid ⟨by
         show atI nb s.M n r + gAt r (tabOf s.M (plAt nb n)) = _
         unfold gAt tabOf
         rw [← HPE.out, ← HTG.out, ← HIT.out, if_pos ⟨ht, hr.symm⟩], fun j hj => by
         show atI nb s.M n j + gAt j (tabOf s.M (plAt nb n)) = _
         unfold gAt tabOf
         rw [← HPE.out, ← HTG.out, ← HIT.out, if_neg (by dsimp only; omega)]; omega⟩
        have hci := atI_bd nb s.M n r
        obtain ⟨cur, hcur⟩ : ∃ cur, cur = atI nb s.M n r := ⟨_, rfl⟩
        rw [← hcur] at hci
        have HCU := Lib.hid hcur
        have K11 := Lib.hid (keep.out w6 B6.out)
        have a0 := cell_of_blk (j := r) K11.out.1 (ir64_get (by omega))
        rw [← HCU.out] at a0
        have f0 := froz_of_blk r K11.out.1
        have hrb0 : (0 : Int) ≤ (r : Int) := by omega
        have hrb1 : (r : Int) < 64 := by omega
        have H4n : Hid ((w6.setCell ⟨X4, r, none⟩ (.int .i64 (cur + 1))).heap[X4]? = some (.cells (ir .i64 (atI nb s.M (n + 1)) 64).toArray 45 (0, 0))) := Lib.hid (by
         rw [blk_set K11.out.1, HCU.out, ir64_set (by omega) HNX.out.1 HNX.out.2])
        have H2n : Hid ((w6.setCell ⟨X4, r, none⟩ (.int .i64 (cur + 1))).heap[X2]? = some (.cells (List.replicate 64 (.int .i64 0)).toArray 45 (0, 0))) := Lib.hid (by
         rw [heap_setCell_other _ _ _ _ (by show X2 ≠ X4; exact Ne.symm hne)]; exact K11.out.2)
        have HBn : Hid (Below w.heap.size w (w6.setCell ⟨X4, r, none⟩ (.int .i64 (cur + 1)))) := Lib.hid ((BR.out.trans (B6.out.mono BR.out.size)).setCell (p := ⟨X4, r, none⟩) hx4 _)
        rw [← hr] at d64 ⊢
        clear hcur hr HTG HIT hitb ht h64
        go_wp2_with fail
        go_roundw
        case rel => exact ⟨n + 1, by go_num, by omega, HBn.out, H4n.out, H2n.out⟩
        case measure => simp [intOf]; omega
      · have d64 : decide (it < (64 : Int)) = false := decide_eq_false h64
        have HSK : Hid (ir .i64 (atI nb s.M (n + 1)) 64 = ir .i64 (atI nb s.M n) 64) := Lib.hid (atI_skip fun r hr e => by rw [← HPE.out, ← HIT.out] at e; omega)
        clear h64
        go_wp2_with fail
        go_roundw
        case rel => exact ⟨n + 1, by go_num, by omega, BR.out.trans (B6.out.mono BR.out.size), by rw [HSK.out]; exact (keep.out w6 B6.out).1, (keep.out w6 B6.out).2⟩
        case measure => simp [intOf]; omega
    · have dt : decide ((0 : Int) < tg) = false := decide_eq_false ht
      have HSK : Hid (ir .i64 (atI nb s.M (n + 1)) 64 = ir .i64 (atI nb s.M n) 64) := Lib.hid (atI_skip fun r hr e => by rw [← HPE.out, ← HTG.out] at e; omega)
      clear ht
      go_wp2_with fail
      go_roundw
      case rel => exact ⟨n + 1, by go_num, by omega, BR.out.trans (B6.out.mono BR.out.size), by rw [HSK.out]; exact (keep.out w6 B6.out).1, (keep.out w6 B6.out).2⟩
      case measure => simp [intOf]; omega
  · have hnA : n = A := by omega
    subst hnA
    have dA : decide ((n : Int) < (n : Int)) = false := decide_eq_false (by omega)
    have hsz := ir_size .i64 (atI nb s.M n) 64
    go_wp2_with fail
    refine (HSP.out _).mono ?_
    rintro e w3 ⟨rfl, rfl⟩
    go_wp2_with (first
     | (refine wpList_load_row rfl 45 _ rfl X4 rfl 45 _ (0, 0) _ H4.out Tryz.underlying45 rfl (by rw [hsz]; kernel_rfl) ?_)
     | (refine wpList_store_row rfl 45 _ _ rfl X2 (ir .i64 (atI nb s.M n) 64).toArray rfl rfl 45 _ H2.out (by rw [hsz]; kernel_rfl) (by rw [hsz]; simp) (ir_all _ _ _) ?_))
    have h2 := setRow_heap wr X2 _ (ir .i64 (atI nb s.M n) 64).toArray _ _ H2.out
    exact bodyPost_ret (v := .agg (ir .i64 (atI nb s.M n) 64).toArray) (results_cell_row Tryz.results16 _ _ X2 _ _ (0, 0) _ (by rfl) h2 Tryz.underlying45 rfl (by rw [hsz]; kernel_rfl)) rfl ⟨rfl, below_setRow BR.out hx2 _⟩
end
section
set_option linter.unusedVariables false
set_option maxHeartbeats 4000000
set_option maxRecDepth 100000
open Go.RowKit Go.Shelf
theorem c_empty20 {w0 w : World} {G : Om} {B : Wb} {f : Cf} {s : AW} {b q : Int} (L : LW w0 w G B f s) (b0 : 1 ≤ b) (b1 : b ≤ 12) (q0 : 0 ≤ q) (q1 : q < fnvSize b) (hz : ∀ k : Nat, k < 4 → twTag (s.M (plTags b q)) k = 0 ∧ s.M (plItem b q k) = 0) :
 Calls Tryz.prog 22 #[.pointer (some ⟨B.p, 0, none⟩), .agg #[.int .i64 b, .int .i64 q]] w fun e w' => e = .returned (.bool true) ∧ Below w.heap.size w w' := by
 have hb0 := (Below.refl w.heap.size w).alloc (Nat.le_refl _) (.cells #[.int .i64 b, .int .i64 q] 51)
 have v0 := cell_newA w #[.int .i64 b, .int .i64 q] 51 _ rfl 0 _ rfl
 have v1 := cell_newA w #[.int .i64 b, .int .i64 q] 51 _ rfl 1 _ rfl
 have hl : w.heap.size < (w.alloc (.cells #[.int .i64 b, .int .i64 q] 51)).heap.size := by simp
 have HL := Lib.hid L
 have HZ := Lib.hid hz
 clear L hz
 go_enter Tryz.func22, Tryz.ntmps22
 go_wp2_with fail
 obtain ⟨W1, hW1⟩ : ∃ W, W = w.alloc (.cells #[.int .i64 b, .int .i64 q] 51) := ⟨_, rfl⟩
 rw [← hW1] at hb0 v0 v1 hl ⊢
 have HB := Lib.hid hb0
 have V0 := Lib.hid v0
 have V1 := Lib.hid v1
 clear hW1 hb0 v0 v1
 obtain ⟨X, hX⟩ : ∃ X, X = w.heap.size := ⟨_, rfl⟩
 rw [← hX] at V0 V1 hl ⊢
 clear hX
 go_loopw [5] (fun iv wr => ∃ n : Nat, iv = .int .i64 n ∧ n ≤ 4 ∧ Below W1.heap.size W1 wr) (fun iv _ => 4 - (intOf iv).toNat)
 case atStart => exact ⟨0, rfl, by omega, Below.refl _ _⟩
 case round =>
  obtain ⟨n, rfl, hn, hb⟩ := hrel
  have BR := Lib.hid hb
  clear hb
  by_cases hn2 : n < 4
  · have v0 := (BR.out.cell (p := ⟨X, 0, none⟩) hl).trans V0.out
    have v1 := (BR.out.cell (p := ⟨X, 1, none⟩) hl).trans V1.out
    have L2 := (HL.out.below HB.out).below BR.out
    have HS := c_Slot ⟨b, q, n⟩ L2.p ⟨b0, b1, q0, q1, by dsimp only; omega, by dsimp only; omega⟩ L2.hi
    have h1 : twTag (s.M (⟨b, q, n⟩ : Spt).tags) (⟨b, q, n⟩ : Spt).s = 0 := (HZ.out n hn2).1
    have h2 : s.M (⟨b, q, n⟩ : Spt).item = 0 := (HZ.out n hn2).2
    rw [h1, h2] at HS
    have HS := Lib.hid HS
    clear L2 h1 h2
    go_wp2_with fail
    refine HS.out.mono ?_
    rintro e w6 ⟨rfl, hb6⟩
    have B6 := Lib.hid (BR.out.trans (hb6.mono BR.out.size))
    clear hb6 HS v0 v1
    go_wp2_with fail
    go_roundw
    case rel => exact ⟨n + 1, by go_num, by omega, B6.out⟩
    case measure => simp [intOf]; omega
  · have hn4 : n = 4 := by omega
    subst hn4
    go_wp2_with fail
    go_ret
    exact ⟨rfl, HB.out.trans (BR.out.mono HB.out.size)⟩
theorem c_count20 {w : World} (I : Nat → Int) (hI : ∀ i, 0 ≤ I i ∧ I i ≤ 100000) :
 Calls Tryz.prog 14 #[.agg (ir .i64 I 64).toArray] w fun e w' => e = .returned (.int .i64 (sumN I 64)) ∧ Below w.heap.size w w' := by
 obtain ⟨R, hR⟩ : ∃ R, R = (ir .i64 I 64).toArray := ⟨_, rfl⟩
 rw [← hR]
 have hsz : R.size = 64 := by rw [hR]; exact ir_size _ _ _
 have hb0 := (Below.refl w.heap.size w).alloc (Nat.le_refl _) (.cells R 45)
 have hl : w.heap.size < (w.alloc (.cells R 45)).heap.size := by simp
 have hx : Hid (∀ j : Nat, j < 64 → (w.alloc (.cells R 45)).cell? ⟨w.heap.size, j, none⟩ = some (.int .i64 (I j))) := Lib.hid fun j hj => cell_newA w _ _ _ rfl j _ (by rw [hR]; simpa using ir64_get hj)
 have HI := Lib.hid hI
 clear hR hI
 go_enter Tryz.func14, Tryz.ntmps14
 go_wp2_with fail
 obtain ⟨W1, hW1⟩ : ∃ W, W = w.alloc (.cells R 45) := ⟨_, rfl⟩
 rw [← hW1] at hb0 hl hx ⊢
 have HB := Lib.hid hb0
 obtain ⟨X, hX⟩ : ∃ X, X = w.heap.size := ⟨_, rfl⟩
 rw [← hX] at hx hl ⊢
 clear hX hW1 hb0 hsz
 have SB : Hid (∀ n : Nat, 0 ≤ sumN I n ∧ sumN I n ≤ 100000 * n) := Lib.hid fun n => by
  induction n with
  | zero => exact ⟨Int.le_refl _, Int.le_refl _⟩
  | succ n ih =>
    have := HI.out n
    show 0 ≤ sumN I n + I n ∧ sumN I n + I n ≤ _
    omega
 go_loopw [3, 4] (fun sv iv wr => ∃ n : Nat, iv = .int .i64 n ∧ sv = .int .i64 (sumN I n) ∧ n ≤ 64 ∧ wr = W1) (fun _ iv _ => 64 - (intOf iv).toNat)
 case atStart => exact ⟨0, rfl, rfl, by omega, rfl⟩
 case round =>
  obtain ⟨n, rfl, rfl, hn, rfl⟩ := hrel
  by_cases hn2 : n < 64
  · have a0 := hx.out n hn2
    have hs := SB.out n
    have hi := HI.out n
    have hnx : Hid (sumN I (n + 1) = sumN I n + I n) := Lib.hid rfl
    obtain ⟨S, hS⟩ : ∃ S, S = sumN I n := ⟨_, rfl⟩
    obtain ⟨J, hJ⟩ : ∃ J, J = I n := ⟨_, rfl⟩
    rw [← hS, ← hJ] at hnx
    rw [← hS] at hs ⊢
    rw [← hJ] at hi a0
    have hnb0 : (0 : Int) ≤ (n : Int) := by omega
    have hnb1 : (n : Int) < 64 := by omega
    clear hS hJ
    go_wp2_with fail
    go_roundw
    case rel => exact ⟨n + 1, by go_num, by rw [hnx.out], by omega, trivial⟩
    case measure => simp [intOf]; omega
  · have hn6 : n = 64 := by omega
    subst hn6
    go_wp2_with fail
    go_ret
    exact ⟨rfl, HB.out⟩
end
section
set_option linter.unusedVariables false
set_option maxHeartbeats 8000000
set_option maxRecDepth 100000
open Go.RowKit Go.Shelf
def ld64 (a : Addr) : Sem (Array Value) := loadCellsFrom a 0 64 #[]
@[go_sem ↓] theorem run_ld64 (P : Program) (a : Addr) (W : World) : Sem.run P (loadCellsFrom a 0 64 #[]) W = Sem.run P (ld64 a) W := rfl
@[go_sem ↓] theorem run_ld64' (P : Program) (a : Addr) (W : World) : Sem.run P (loadCells a 64) W = Sem.run P (ld64 a) W := rfl
def B64 (W : World) (b : Nat) (I : Nat → Int) : Prop := W.heap[b]? = some (.cells (ir .i64 I 64).toArray 45 (0, 0))
theorem B64.lt {W : World} {b : Nat} {I : Nat → Int} (h : B64 W b I) : b < W.heap.size := by
 rcases Nat.lt_or_ge b W.heap.size with q | q
 · exact q
 · unfold B64 at h; rw [Array.getElem?_eq_none q] at h; cases h
theorem B64.below {W W' : World} {b : Nat} {I : Nat → Int} (h : B64 W b I) (hb : Below W.heap.size W W') : B64 W' b I := (hb.block b h.lt).trans h
theorem B64.ld {W : World} {b : Nat} {I : Nat → Int} (h : B64 W b I) : (ld64 ⟨b, 0, none⟩).run Tryz.prog W = .ok (ir .i64 I 64).toArray W := by
 have := run_loadCells_list (P := Tryz.prog) (w := W) ⟨b, 0, none⟩ (ir .i64 I 64) (fun j v hv => by
  have hadd : (⟨b, 0, none⟩ : Addr).add j = ⟨b, j, none⟩ := by unfold Addr.add; split <;> simp_all
  rw [hadd]; exact cell_of_blk h hv)
 rw [ir_len] at this
 exact this
theorem ir_map (kd : IntKind) (I : Nat → Int) : ir kd I 64 = ((List.range 64).map I).map (Value.int kd) := by
 unfold ir
 rw [List.map_map]
 refine List.map_congr_left fun j hj => ?_
 have := List.mem_range.1 hj
 rw [if_pos this]; rfl
theorem eq_ir64i (I : Nat → Int) (W : World) : (Op.equalIn 10000 45 (.agg (ir .i64 I 64).toArray) (.agg (ir .i64 I 64).toArray)).run Tryz.prog W = .ok true W := by
 rw [ir_map, run_equalIn_ints W 9998 45 3 64 .i64 Tryz.underlying45 Tryz.underlying3 (fun w => by kernel_rfl) _ _ (by simp) (by simp)]
 simp
theorem ir64_congr {kd : IntKind} {I J : Nat → Int} (h : ∀ j, j < 64 → I j = J j) : ir kd I 64 = ir kd J 64 := by
 unfold ir
 refine List.map_congr_left fun j hj => ?_
 have := List.mem_range.1 hj
 rw [if_pos this, if_pos this, h j this]
theorem st64 {W : World} {b : Nat} {I J : Nat → Int} (h : B64 W b I) : (storeCells ⟨b, 0, none⟩ (ir .i64 J 64).toArray.toList 0).run Tryz.prog W = .ok () (W.setRow b (ir .i64 J 64).toArray) := by
 have := run_storeCells_from (P := Tryz.prog) b 45 (ir .i64 J 64).toArray.toList 0 (ir .i64 I 64).toArray W h (by simp [ir_len]) (fun v hv => (Array.all_eq_true_iff_forall_mem.1 (ir_all .i64 J 64)) v (by simpa using hv))
 simpa using this
theorem setRow_other (w : World) (b c : Nat) (cs : Array Value) (h : c ≠ b) : (w.setRow b cs).heap[c]? = w.heap[c]? := by
 simp only [World.setRow, Array.getElem?_modify]
 rw [if_neg (fun e => h e.symm)]
theorem drC_bd (k : Int) (l : List Nt) (r : Nat) : 0 ≤ drC k l r ∧ drC k l r ≤ l.length := by
 unfold drC
 have := List.countP_le_length (p := fun x : Nt => x.kind == k && x.ref == (r : Int)) (l := l)
 omega
theorem drC_more {k : Int} {l : List Nt} {n : Nat} (hn : n < l.length) (r : Nat) : drC k (l.take (n + 1)) r = drC k (l.take n) r + if l[n].kind = k ∧ l[n].ref = (r : Int) then 1 else 0 := by
 rw [List.take_succ_eq_append_getElem hn, drC_append, drC_one]
theorem b64_zero3 (w : World) : ∃ W, W = ((w.alloc (.cells (List.replicate 64 (.int .i64 0)).toArray 45)).alloc (.cells (List.replicate 64 (.int .i64 0)).toArray 45)).alloc (.cells (List.replicate 64 (.int .i64 0)).toArray 45) ∧
 B64 W w.heap.size (fun _ => 0) ∧ B64 W (w.heap.size + 1) (fun _ => 0) ∧ B64 W (w.heap.size + 1 + 1) (fun _ => 0) ∧ Below w.heap.size w W := by
 refine ⟨_, rfl, ?_, ?_, ?_, ?_⟩
 · unfold B64
   rw [ir_zero .i64 (fun _ => 0) 64 (fun _ => rfl)]
   have h := heap_alloc2_old w (.cells (List.replicate 64 (.int .i64 0)).toArray 45) (.cells (List.replicate 64 (.int .i64 0)).toArray 45)
   rw [← h]
   exact ((Below.refl _ _).alloc (Nat.le_refl _) _).block _ (by simp; omega)
 · unfold B64
   rw [ir_zero .i64 (fun _ => 0) 64 (fun _ => rfl)]
   have h := heap_alloc2_new w (.cells (List.replicate 64 (.int .i64 0)).toArray 45) (.cells (List.replicate 64 (.int .i64 0)).toArray 45)
   rw [← h]
   exact ((Below.refl _ _).alloc (Nat.le_refl _) _).block _ (by simp)
 · unfold B64
   rw [ir_zero .i64 (fun _ => 0) 64 (fun _ => rfl)]
   have h := heap_alloc2_new (w.alloc (.cells (List.replicate 64 (.int .i64 0)).toArray 45)) (.cells (List.replicate 64 (.int .i64 0)).toArray 45) (.cells (List.replicate 64 (.int .i64 0)).toArray 45)
   simpa using h
 · exact (((Below.refl _ _).alloc (Nat.le_refl _) _).alloc (by simp) _).alloc (by simp; omega) _
theorem c_drops {w0 w : World} {G : Om} {B : Wb} {f : Cf} {s : AW} (L : LW w0 w G B f s) (hd : DrOk s.nt) (hl : s.nt.length ≤ 1000000) :
 Calls Tryz.prog 23 #[.pointer (some ⟨B.p, 0, none⟩)] w fun e w' => e = .returned (.tuple #[.agg (ir .i64 (drC 1 s.nt) 64).toArray, .bool true]) ∧ Below w.heap.size w w' := by
 have HL := Lib.hid L
 have HD := Lib.hid hd
 clear L hd
 go_enter Tryz.func23, Tryz.ntmps23
 go_upto_region 2 with fail
 generalize hW1 : World.alloc (World.alloc (World.alloc w _) _) _ = W1
 obtain ⟨W2, hW2, hx2, hx4, hx5, hb1⟩ := b64_zero3 w
 have hW : W2 = W1 := hW2.trans hW1
 subst hW
 clear hW1 hW2
 obtain ⟨X5, hX5⟩ : ∃ X, X = w.heap.size + 1 + 1 := ⟨_, rfl⟩
 obtain ⟨X4, hX4⟩ : ∃ X, X = w.heap.size + 1 := ⟨_, rfl⟩
 obtain ⟨X2, hX2⟩ : ∃ X, X = w.heap.size := ⟨_, rfl⟩
 have h2l : w.heap.size ≤ X2 := by omega
 have h4l : w.heap.size ≤ X4 := by omega
 have h5l : w.heap.size ≤ X5 := by omega
 have n24 : X2 ≠ X4 := by omega
 have n25 : X2 ≠ X5 := by omega
 have n45 : X4 ≠ X5 := by omega
 rw [← hX5] at hx5 ⊢
 rw [← hX4] at hx4 ⊢
 rw [← hX2] at hx2 ⊢
 clear hX5 hX4 hX2
 have HB1 := Lib.hid hb1
 have Z2 := Lib.hid hx2
 have Z4 := Lib.hid hx4
 have Z5 := Lib.hid hx5
 have L1 := HL.out.below hb1
 have p2 := L1.p.wo.c2
 obtain ⟨vn, hn, -⟩ := L1.p.no.ex
 have HAL := Lib.hid (c_NtAll B.np vn s.nt W2 hn.head hn.lt (Arr.of_own hn.own) (by omega))
 clear hx2 hx4 hx5 hb1 L1 hn
 go_wp2_with fail
 refine HAL.out.mono ?_
 rintro e w3 ⟨⟨v', rfl, hA⟩, hb3⟩
 obtain ⟨an, rfl⟩ := hA.shape
 have Y2 := Z2
 have Y4 := Z4
 have Y5 := Z5
 have Z2 := Lib.hid (Z2.out.below hb3)
 have Z4 := Lib.hid (Z4.out.below hb3)
 have Z5 := Lib.hid (Z5.out.below hb3)
 have HB3 := Lib.hid (HB1.out.trans (hb3.mono HB1.out.size))
 have HAR := Lib.hid hA.arr
 have HFR := Lib.hid hA.fresh
 have s23 := hb3.size
 have x2s := Lib.hid (show X2 < W2.heap.size ∧ X4 < W2.heap.size ∧ X5 < W2.heap.size from ⟨Y2.out.lt, Y4.out.lt, Y5.out.lt⟩)
 have HAN : Hid (0 < s.nt.length → ∃ b o, an = some ⟨b, o, none⟩ ∧ W2.heap.size ≤ b ∧ b < w3.heap.size ∧ ∀ i (hi : i < s.nt.length), NtAt w3 b (o + i * 8) s.nt[i]) := Lib.hid fun h0 => by
  obtain ⟨b, o, c, he, -, -, hlt, hx⟩ := hA.arr.open h0 (by omega)
  cases he
  exact ⟨b, o, rfl, (hA.fresh ⟨b, o, none⟩ _ _ rfl).1, hlt, fun i hi => ntAt_row hx i hi⟩
 clear hA hb3 HAL p2 Y2 Y4 Y5
 go_upto_region 4 with fail
 go_loopw [7] (fun iv wr => ∃ n : Nat, iv = .int .i64 n ∧ n ≤ s.nt.length ∧ Below w.heap.size w wr ∧ B64 wr X2 (fun _ => 0) ∧ B64 wr X4 (drC 1 (s.nt.take n)) ∧ B64 wr X5 (drC 2 (s.nt.take n)) ∧ ∀ b, W2.heap.size ≤ b → b < w3.heap.size → wr.heap[b]? = w3.heap[b]?) (fun iv _ => s.nt.length - (intOf iv).toNat)
 case atStart => exact ⟨0, rfl, Nat.zero_le _, HB3.out, Z2.out, Z4.out, Z5.out, fun _ _ _ => rfl⟩
 case round =>
  clear HB3 Z2 Z4 Z5
  obtain ⟨n, rfl, hn, hb, h2, h4, h5, hfr⟩ := hrel
  have BR := Lib.hid hb
  have Z2 := Lib.hid h2
  have Z4 := Lib.hid h4
  have Z5 := Lib.hid h5
  have HFZ := Lib.hid hfr
  clear hb h2 h4 h5 hfr
  by_cases hn2 : n < s.nt.length
  · obtain ⟨A, o, rfl, hA1, hA2, hAt⟩ := HAN.out (by omega)
    obtain ⟨x, hx⟩ : ∃ x, x = s.nt[n] := ⟨_, rfl⟩
    have hc : ∀ j u, (ntc x)[j]? = some u → wr.cell? ⟨A, o + n * 8 + j, none⟩ = some u := fun j u hu => by
     have h := hAt n hn2 j u (by rw [← hx]; exact hu)
     have hf := HFZ.out A hA1 hA2
     unfold World.cell? at h ⊢
     simp only at h ⊢
     rw [hf]
     exact h
    have c2 := hc 2 _ rfl
    have c3 := hc 3 _ rfl
    have hxm : x ∈ s.nt := by rw [hx]; exact List.getElem_mem _
    have hrf := HD.out.ref x hxm
    obtain ⟨r, hr⟩ : ∃ r : Nat, (r : Int) = x.ref := ⟨x.ref.toNat, by omega⟩
    obtain ⟨kd, hkde⟩ : ∃ kd, kd = x.kind := ⟨_, rfl⟩
    have m1 : Hid (∀ q : Nat, drC 1 (s.nt.take (n + 1)) q = drC 1 (s.nt.take n) q + if kd = 1 ∧ (r : Int) = (q : Int) then 1 else 0) := Lib.hid fun q => by rw [drC_more hn2, ← hx, ← hr, ← hkde]
    have m2 : Hid (∀ q : Nat, drC 2 (s.nt.take (n + 1)) q = drC 2 (s.nt.take n) q + if kd = 2 ∧ (r : Int) = (q : Int) then 1 else 0) := Lib.hid fun q => by rw [drC_more hn2, ← hx, ← hr, ← hkde]
    rw [← hr] at c3 hrf
    rw [← hkde] at c2
    have hr64 : r < 64 := by omega
    have hnb0 : (0 : Int) ≤ (n : Int) := by omega
    have hnb1 : (n : Int) < (s.nt.length : Int) := by omega
    have hrb0 : (0 : Int) ≤ (r : Int) := by omega
    have hrb1 : (r : Int) < 64 := by omega
    have d1 : decide ((r : Int) < 0) = false := decide_eq_false (by omega)
    have d2 : decide ((63 : Int) < (r : Int)) = false := decide_eq_false (by omega)
    have hA4 : A ≠ X4 := by have := x2s.out; omega
    have hA5 : A ≠ X5 := by have := x2s.out; omega
    have hAl : Hid (∀ W : World, ∀ p : Addr, ∀ v, p.block = X4 ∨ p.block = X5 → (∀ b, W2.heap.size ≤ b → b < w3.heap.size → W.heap[b]? = w3.heap[b]?) → ∀ b, W2.heap.size ≤ b → b < w3.heap.size → (W.setCell p v).heap[b]? = w3.heap[b]?) := Lib.hid fun W p v hp hf b h1 h2 => by
     rw [heap_setCell_other _ _ _ _ (by have := x2s.out; rcases hp with e | e <;> omega)]
     exact hf b h1 h2
    have b1 := drC_bd 1 (s.nt.take n) r
    have b2 := drC_bd 2 (s.nt.take n) r
    have htl : (s.nt.take n).length ≤ 1000000 := by rw [List.length_take]; omega
    have hpre := HD.out.pre (n + 1) r
    obtain ⟨q1, hq1⟩ : ∃ q, q = drC 1 (s.nt.take n) r := ⟨_, rfl⟩
    obtain ⟨q2, hq2⟩ : ∃ q, q = drC 2 (s.nt.take n) r := ⟨_, rfl⟩
    have a4 := cell_of_blk (j := r) Z4.out (ir64_get hr64)
    have a5 := cell_of_blk (j := r) Z5.out (ir64_get hr64)
    have f4 := froz_of_blk r Z4.out
    have f5 := froz_of_blk r Z5.out
    rw [m1.out, m2.out] at hpre
    rw [← hq1] at a4 b1 hpre
    rw [← hq2] at a5 b2 hpre
    have Q1 := Lib.hid hq1
    have Q2 := Lib.hid hq2
    clear hc hx hxm hr hkde hq1 hq2 hAt hA1 hA2
    by_cases k1 : kd = 1
    · subst k1
      have H4 : Hid (B64 (wr.setCell ⟨X4, r, none⟩ (.int .i64 (q1 + 1))) X4 (drC 1 (s.nt.take (n + 1)))) := Lib.hid (by
       unfold B64
       rw [blk_set Z4.out, Q1.out, ir64_set hr64 (J := drC 1 (s.nt.take (n + 1))) (by rw [m1.out, if_pos ⟨rfl, rfl⟩]) (fun j hj => by rw [m1.out, if_neg (by omega)]; omega)])
      have H5 : Hid (B64 (wr.setCell ⟨X4, r, none⟩ (.int .i64 (q1 + 1))) X5 (drC 2 (s.nt.take (n + 1)))) := Lib.hid (by
       unfold B64
       rw [heap_setCell_other _ _ _ _ (by show X5 ≠ X4; exact n45.symm), ir64_congr (J := drC 2 (s.nt.take n)) (fun j hj => by rw [m2.out, if_neg (by omega)]; omega)]
       exact Z5.out)
      have H2 : Hid (B64 (wr.setCell ⟨X4, r, none⟩ (.int .i64 (q1 + 1))) X2 (fun _ => 0)) := Lib.hid (by
       unfold B64
       rw [heap_setCell_other _ _ _ _ (by show X2 ≠ X4; exact n24)]
       exact Z2.out)
      have HBn : Hid (Below w.heap.size w (wr.setCell ⟨X4, r, none⟩ (.int .i64 (q1 + 1)))) := Lib.hid (BR.out.setCell (p := ⟨X4, r, none⟩) h4l _)
      have HF := Lib.hid (hAl.out wr ⟨X4, r, none⟩ (.int .i64 (q1 + 1)) (.inl rfl) HFZ.out)
      clear a5 f5 hpre
      go_wp2_with fail
      go_roundw
      case rel => exact ⟨n + 1, by go_num, by omega, HBn.out, H2.out, H4.out, H5.out, HF.out⟩
      case measure => simp [intOf]; omega
    · have e1 : (kd == 1) = false := by simp [k1]
      by_cases k2 : kd = 2
      · subst k2
        have H5 : Hid (B64 (wr.setCell ⟨X5, r, none⟩ (.int .i64 (q2 + 1))) X5 (drC 2 (s.nt.take (n + 1)))) := Lib.hid (by
         unfold B64
         rw [blk_set Z5.out, Q2.out, ir64_set hr64 (J := drC 2 (s.nt.take (n + 1))) (by rw [m2.out, if_pos ⟨rfl, rfl⟩]) (fun j hj => by rw [m2.out, if_neg (by omega)]; omega)])
        have H4 : Hid (B64 (wr.setCell ⟨X5, r, none⟩ (.int .i64 (q2 + 1))) X4 (drC 1 (s.nt.take (n + 1)))) := Lib.hid (by
         unfold B64
         rw [heap_setCell_other _ _ _ _ (by show X4 ≠ X5; exact n45), ir64_congr (J := drC 1 (s.nt.take n)) (fun j hj => by rw [m1.out, if_neg (by omega)]; omega)]
         exact Z4.out)
        have H2 : Hid (B64 (wr.setCell ⟨X5, r, none⟩ (.int .i64 (q2 + 1))) X2 (fun _ => 0)) := Lib.hid (by
         unfold B64
         rw [heap_setCell_other _ _ _ _ (by show X2 ≠ X5; exact n25)]
         exact Z2.out)
        have HBn : Hid (Below w.heap.size w (wr.setCell ⟨X5, r, none⟩ (.int .i64 (q2 + 1)))) := Lib.hid (BR.out.setCell (p := ⟨X5, r, none⟩) h5l _)
        have HF := Lib.hid (hAl.out wr ⟨X5, r, none⟩ (.int .i64 (q2 + 1)) (.inr rfl) HFZ.out)
        have dq : decide (q1 < q2 + 1) = false := decide_eq_false (by
         rw [if_pos ⟨rfl, rfl⟩, if_neg (by omega)] at hpre
         omega)
        have n45' := n45.symm
        clear hpre
        go_wp2_with fail
        go_quiet (fail)
        go_wp2_with fail
        go_roundw
        case rel => exact ⟨n + 1, by go_num, by omega, HBn.out.trans ⟨rfl, rfl, rfl, Nat.le_refl _, fun _ _ => rfl⟩, H2.out, H4.out, H5.out, HF.out⟩
        case measure => simp [intOf]; omega
      · have e2 : (kd == 2) = false := by simp [k2]
        have H4 : Hid (B64 wr X4 (drC 1 (s.nt.take (n + 1)))) := Lib.hid (by
         unfold B64
         rw [ir64_congr (J := drC 1 (s.nt.take n)) (fun j hj => by rw [m1.out, if_neg (by omega)]; omega)]
         exact Z4.out)
        have H5 : Hid (B64 wr X5 (drC 2 (s.nt.take (n + 1)))) := Lib.hid (by
         unfold B64
         rw [ir64_congr (J := drC 2 (s.nt.take n)) (fun j hj => by rw [m2.out, if_neg (by omega)]; omega)]
         exact Z5.out)
        clear a4 a5 f4 f5 hpre
        go_wp2_with fail
        go_roundw
        case rel => exact ⟨n + 1, by go_num, by omega, BR.out, Z2.out, H4.out, H5.out, HFZ.out⟩
        case measure => simp [intOf]; omega
  · have hnA : n = s.nt.length := by omega
    subst hnA
    obtain ⟨RO, hRO⟩ : ∃ R, R = (ir .i64 (drC 1 s.nt) 64).toArray := ⟨_, rfl⟩
    have hRF : (ir .i64 (drC 2 s.nt) 64).toArray = RO := by rw [hRO, ir64_congr (J := drC 1 s.nt) (fun j _ => (HD.out.eq j).symm)]
    have k4 := Z4.out.below (drew_below wr)
    have k5 := Z5.out.below (drew_below wr)
    have k2 := Z2.out.below (drew_below wr)
    rw [List.take_length] at k4 k5
    have l4 := k4.ld
    have l5 := k5.ld
    have st := st64 (J := drC 1 s.nt) k2
    have k4r : B64 (wr.drew.setRow X2 (ir .i64 (drC 1 s.nt) 64).toArray) X4 (drC 1 s.nt) := (setRow_other wr.drew X2 X4 _ n24.symm).trans k4
    have k5r : B64 (wr.drew.setRow X2 (ir .i64 (drC 1 s.nt) 64).toArray) X5 (drC 2 s.nt) := (setRow_other wr.drew X2 X5 _ n25.symm).trans k5
    have m4 := k4r.ld
    have m5 := k5r.ld
    rw [hRF] at l5 m5
    rw [← hRO] at l4 st m4 m5
    clear k4 k5 k2 k4r k5r
    have eqT : ∀ W, (Op.equalIn 10000 45 (.agg RO) (.agg RO)).run Tryz.prog W = .ok true W := fun W => by rw [hRO]; exact eq_ir64i _ W
    have HRO := Lib.hid hRO
    have rsz : RO.size = 64 := by rw [hRO]; exact ir_size _ _ _
    clear hRO hRF
    go_wp2_with fail
    have h2r : (wr.drew.setRow X2 RO).heap[X2]? = some (.cells RO 45 (0, 0)) := setRow_heap wr.drew X2 _ RO _ _ Z2.out
    have hld := run_loadVar_row (P := Tryz.prog) (wr.drew.setRow X2 RO) X2 45 45 RO (0, 0) _ h2r Tryz.underlying45 rfl (by rw [rsz]; kernel_rfl)
    go_region
    all_goals go_wp2_with fail
    all_goals exact bodyPost_ret (v := .tuple #[.agg RO, .bool true]) (by simp [results, Tryz.results23, asAddr, hld, Act.put]) rfl ⟨by rw [HRO.out], below_setRow (BR.out.trans (drew_below wr |>.mono BR.out.size)) h2l _⟩
end
section
set_option linter.unusedVariables false
open Go.RowKit Go.Shelf
structure XB (X : Nat) (b q : Int) (W : World) (G : Om) : Prop where
 o : G X = 0
 lt : X < W.heap.size
 c0 : W.cell? ⟨X, 0, none⟩ = some (.int .i64 b)
 c1 : W.cell? ⟨X, 1, none⟩ = some (.int .i64 q)
theorem XB.below {X : Nat} {b q : Int} {W W' : World} {G : Om} (h : XB X b q W G) (hb : Below W.heap.size W W') : XB X b q W' G :=
 ⟨h.o, Nat.lt_of_lt_of_le h.lt hb.size, (hb.cell (p := ⟨X, 0, none⟩) h.lt).trans h.c0, (hb.cell (p := ⟨X, 1, none⟩) h.lt).trans h.c1⟩
theorem XB.ext {X : Nat} {b q : Int} {W W' : World} {G G' : Om} {S : Nat → Prop} (h : XB X b q W G) (e : Ext S G W G' W') (hs : ¬ S 0) : XB X b q W' G' :=
 ⟨(e.lo X h.lt).trans h.o, Nat.lt_of_lt_of_le h.lt e.size, (e.cell (p := ⟨X, 0, none⟩) h.lt (by rw [h.o]; exact hs)).trans h.c0, (e.cell (p := ⟨X, 1, none⟩) h.lt (by rw [h.o]; exact hs)).trans h.c1⟩
structure B6 (W : World) (G : Om) (b : Nat) (I : Nat → Int) : Prop where
 o : G b = 0
 h : B64 W b I
theorem B6.below {W W' : World} {G : Om} {b : Nat} {I : Nat → Int} (h : B6 W G b I) (hb : Below W.heap.size W W') : B6 W' G b I := ⟨h.o, h.h.below hb⟩
theorem B6.ext {S : Nat → Prop} {W W' : World} {G G' : Om} {b : Nat} {I : Nat → Int} (h : B6 W G b I) (e : Ext S G W G' W') (hs : ¬ S 0) : B6 W' G' b I :=
 ⟨(e.lo b h.h.lt).trans h.o, (e.wr.block b h.h.lt fun k => hs (by have := k.1; rwa [h.o] at this)).trans h.h⟩
theorem B6.row {W : World} {G : Om} {I : Nat → Int} {R : Array Value} (hR : R = (ir .i64 I 64).toArray) (hhi : ∀ j, G j ≠ 0 → j < W.heap.size) {W' : World} (hW : (W.alloc (.cells (List.replicate 64 (.int .i64 0)).toArray 45)).setRow W.heap.size R = W') :
 B6 W' G W.heap.size I ∧ Below W.heap.size W W' := by
 subst hW
 refine ⟨⟨?_, ?_⟩, below_setRow ((Below.refl _ _).alloc (Nat.le_refl _) _) (Nat.le_refl _) _⟩
 · by_cases q : G W.heap.size = 0
   · exact q
   · exact absurd (hhi _ q) (by omega)
 · unfold B64
   rw [← hR]
   exact setRow_heap _ W.heap.size _ R _ _ (heap_alloc_new W (.cells (List.replicate 64 (.int .i64 0)).toArray 45))
theorem itOf_ful {ks : List ByteArray} (h : ∀ k ∈ ks, k.size ≤ maxLen) (r : Int) : (itOf (ks.map fulIt) r).key.size ≤ maxLen := by
 unfold itOf
 split
 · cases e : (ks.map fulIt)[(r - 1).toNat]? with
   | none => show (0 : Nat) ≤ maxLen; unfold maxLen; omega
   | some x =>
     rw [List.getElem?_map] at e
     cases e2 : ks[(r - 1).toNat]? with
     | none => rw [e2] at e; cases e
     | some k =>
       rw [e2] at e
       cases e
       exact h k (List.mem_of_getElem? e2)
 · show (0 : Nat) ≤ maxLen; unfold maxLen; omega
theorem ir64_put {kd : IntKind} {I J : Nat → Int} {r : Nat} {v : Int} (hr : r < 64) (h : J r = v) (ho : ∀ j, j < 64 → j ≠ r → J j = I j) : (ir kd I 64).set r (.int kd v) = ir kd J 64 := by
 refine List.ext_getElem? fun i => ?_
 rw [List.getElem?_set, ir_len]
 by_cases hi : i < 64
 · rw [ir64_get hi, ir64_get hi]
   by_cases c : r = i
   · subst c; rw [if_pos rfl, if_pos hr, h]
   · rw [if_neg c, ho i hi (fun e => c e.symm)]
 · rw [List.getElem?_eq_none (by rw [ir_len]; omega), if_neg (by omega), List.getElem?_eq_none (by rw [ir_len]; omega)]
theorem B6.congr {W : World} {G : Om} {b : Nat} {I J : Nat → Int} (h : B6 W G b I) (e : ∀ j, j < 64 → J j = I j) : B6 W G b J := ⟨h.o, by unfold B64; rw [ir64_congr e]; exact h.h⟩
theorem B6.set {W : World} {G : Om} {b : Nat} {I J : Nat → Int} {r : Nat} {v : Int} (h : B6 W G b I) (hr : r < 64) (e : J r = v) (ho : ∀ j, j < 64 → j ≠ r → J j = I j) : B6 (W.setCell ⟨b, r, none⟩ (.int .i64 v)) G b J := ⟨h.o, by
 unfold B64
 rw [blk_set h.h, ir64_put hr e ho]⟩
theorem B6.cell {W : World} {G : Om} {b r : Nat} {I : Nat → Int} (h : B6 W G b I) (hr : r < 64) : W.cell? ⟨b, r, none⟩ = some (.int .i64 (I r)) := cell_of_blk h.h (ir64_get hr)
theorem B6.fro {W : World} {G : Om} {b : Nat} {I : Nat → Int} (h : B6 W G b I) (r : Nat) : W.frozen? ⟨b, r, none⟩ = false := froz_of_blk r h.h
theorem B6.lt {W : World} {G : Om} {b : Nat} {I : Nat → Int} (h : B6 W G b I) : b < W.heap.size := h.h.lt
end
end Go.Proofs.YtfnmdafpdcgcmaaGreat
