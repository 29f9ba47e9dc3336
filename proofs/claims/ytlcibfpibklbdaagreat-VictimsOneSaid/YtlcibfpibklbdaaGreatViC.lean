/- Contracts that other seats of ours hold too (taken by sub.py). Layer 24: the slots of a key's buckets, one by one. Layer 24: a new Victim; what it got. Layer 24: what a Victim got; its runs; the chapter's example in plain Lean. -/
import Derived.Test.YtlcibfpibklbdaaGreatBaA
import Derived.Test.YtlcibfpibklbdaaGreatFw4
import Derived.RangeFuncNested
import Derived.RangeFuncBound
import Derived.RangeFuncCalls
import Derived.RangeFuncLeaves
import Derived.WalkKit
import Derived.OwnWalkIn
import Derived.TacticsInMore
import Derived.LoopNIn
import Derived.LoopIn
import Derived.Test.YtlcibfpibklbdaaGreatViA
import Derived.RangeFuncBox
import Derived.Maps.AppendAt
import Derived.Shelf.Abstract
import Derived.RegionIn
import Derived.Shelf.RegionOpen
import Derived.Test.YtlcibfpibklbdaaGreatViB
import Derived.Test.YtlcibfpibklbdaaGreatBaH
namespace Go.Proofs.YtlcibfpibklbdaaGreat
set_option linter.unusedSimpArgs false
section
open Go.RowKit
set_option linter.unusedVariables false
end
section
open Go.RowKit Go.Shelf
set_option linter.unusedVariables false
attribute [local go_sem] Oper.semAt_some

def vcL (b a o : Int) : List Spt := vcSlots b a 0 ++ if a = o then [] else vcSlots b o 0
theorem vcL_len (b a o : Int) : (vcL b a o).length = if a = o then 4 else 8 := by
  unfold vcL
  rw [List.length_append, vcSlots_len]
  split
  · rfl
  · rw [vcSlots_len]
theorem vcL_lo (b a o : Int) (i : Nat) (h : i < 4) : (vcL b a o)[i]? = some ⟨b, a, i⟩ := by
  unfold vcL
  rw [List.getElem?_append_left (by rw [vcSlots_len]; omega)]
  have h : i = 0 ∨ i = 1 ∨ i = 2 ∨ i = 3 := by omega
  rcases h with rfl | rfl | rfl | rfl <;> rfl
theorem vcL_hi (b a o : Int) (i : Nat) (h : 4 ≤ i) (h8 : i < 8) (ha : a ≠ o) : (vcL b a o)[i]? = some ⟨b, o, ((i - 4 : Nat) : Int)⟩ := by
  unfold vcL
  rw [List.getElem?_append_right (by rw [vcSlots_len]; omega), if_neg ha, vcSlots_len]
  have h : i = 4 ∨ i = 5 ∨ i = 6 ∨ i = 7 := by omega
  rcases h with rfl | rfl | rfl | rfl <;> rfl
theorem vcL_take (b a o : Int) (i : Nat) (p : Spt) (h : (vcL b a o)[i]? = some p) : (vcL b a o).take (i + 1) = (vcL b a o).take i ++ [p] := by
  rw [List.take_add_one, h]; rfl
set_option maxHeartbeats 1000000 in
theorem c_spots (b h : Int) (w : World) : Calls Tryz.prog 96 #[.int .i64 b, .int .u64 h] w fun e w' => e = .returned (.func (.func 161) #[] #[.pointer (some ⟨w.heap.size + 1, 0, none⟩), .pointer (some ⟨w.heap.size, 0, none⟩)]) ∧ w' = (w.alloc (.cells #[.int .i64 b] 3)).alloc (.cells #[.int .u64 h] 27) := by
  go_enter Tryz.func96, Tryz.ntmps96
  go_wp2_with fail
  go_ret
  exact ⟨rfl, rfl⟩
set_option maxHeartbeats 4000000 in
set_option maxRecDepth 100000 in
theorem c_spots1 (b h : Int) (b0 : -9223372036854775808 ≤ b) (b1 : b ≤ 9223372036854775807) (h0 : 0 ≤ h) (h1 : h < 18446744073709551616) (hb : vcTab b) (Bh Bb n0 : Nat) (w : World) (lh : Bh < w.heap.size) (lb : Bb < w.heap.size) (ln : n0 ≤ w.heap.size) (ch : w.cell? ⟨Bh, 0, none⟩ = some (.int .u64 h)) (cb : w.cell? ⟨Bb, 0, none⟩ = some (.int .i64 b)) :
    SeqStopsK Fence.wide 5 Tryz.prog 161 #[.pointer (some ⟨Bh, 0, none⟩), .pointer (some ⟨Bb, 0, none⟩)] (fun x : Spt => #[sptV x]) (fun A B => Below n0 A B ∧ B.cell? ⟨Bb, 0, none⟩ = A.cell? ⟨Bb, 0, none⟩) (fun xs => xs = vcL b (fnvBucket h b) (fnvOther (fnvBucket h b) (fnvTag h) b)) (fun _ => True) 8 w := by
  intro l J Jx W hW hJ hJx hY hJ0
  have ch2 := (hW.cell (p := ⟨Bh, 0, none⟩) lh).trans ch
  have cb2 := (hW.cell (p := ⟨Bb, 0, none⟩) lb).trans cb
  have HB := Lib.hid (fun W => c_fBucket h b W h0 h1 b0 b1)
  have HT := Lib.hid (fun W => c_fTag h W h0 h1)
  have ht := fnvTag_bd h h0 h1
  have hbk := fnvBucket_bd (h := h) hb.1 hb.2
  have hsz := fnvSize_bd b
  have HO := Lib.hid (fun W => c_fOther (fnvBucket h b) (fnvTag h) b W (by omega) (by omega) (by omega) (by omega) b0 b1)
  obtain ⟨bk, hbk2⟩ : ∃ x, x = fnvBucket h b := ⟨_, rfl⟩
  rw [← hbk2] at HB HO ⊢
  obtain ⟨tg, htg⟩ : ∃ x, x = fnvTag h := ⟨_, rfl⟩
  rw [← htg] at HT HO ⊢
  obtain ⟨ot, hot⟩ : ∃ x, x = fnvOther bk tg b := ⟨_, rfl⟩
  rw [← hot] at HO ⊢
  have HH := Lib.hid (And.intro hW (And.intro lb (And.intro hY (And.intro cb hJ))))
  clear ht hbk hsz hbk2 htg hot hW ch cb lh hY h0 h1 b0 b1 hb
  refine callsIn_of_wp Tryz.func161 rfl trivial ?_ rfl
  simp only [Tryz.ntmps161, List.size_toArray, List.length_cons, List.length_nil, Nat.reduceAdd, Nat.reduceSub, Array.replicate_succ, Array.replicate_zero, List.push_toArray, List.append_toArray, List.nil_append, List.cons_append]
  refine wpIn_wide.2 ?_
  go_wp2_with fail
  refine (HB.out _).mono ?_
  rintro e w' ⟨rfl, rfl⟩
  go_upto_region 1 with fail
  go_quiet ((first | (go_at_call 92; exact quietS (HT.out _)) | (go_at_call 91; exact quietS (HO.out _))))
  go_upto_region 2 with fail
  obtain ⟨W1, hW1⟩ : ∃ W1, W1 = W.drewN nq := ⟨_, rfl⟩
  have hJ1 : J [] W1 := by rw [hW1]; exact hJ [] W _ none hJ0 ⟨rfl, rfl, rfl, Nat.le_refl _, fun _ _ _ => rfl⟩ (fun r e => by cases e)
  have hB1 : W1.cell? ⟨Bb, 0, none⟩ = some (.int .i64 b) := by rw [hW1]; exact cb2
  have hS1 : W.heap.size ≤ W1.heap.size := by rw [hW1]; exact Nat.le_refl _
  have HJ1 := Lib.hid (And.intro hJ1 (And.intro hB1 hS1))
  rw [← hW1]
  clear hW1 hJ1 hB1 hS1 hJ0 hJ ch2 cb2
  go_wp2_with fail
  refine (wpIn_wide (n := 5)).1 ?_
  obtain ⟨F, hF⟩ : ∃ F, F = Fence.wide := ⟨_, rfl⟩
  rw [← hF] at HH ⊢
  have hFr : F.round = none := by rw [hF]; rfl
  clear hF
  gi_loopw [16] (fun v wr => ∃ i : Nat, v = .int .i64 i ∧ i ≤ 8 ∧ (4 < i → bk ≠ ot) ∧ J ((vcL b bk ot).take i) wr ∧ wr.cell? ⟨Bb, 0, none⟩ = some (.int .i64 b) ∧ W.heap.size ≤ wr.heap.size) (fun v _ => 8 - (intOf v).toNat)
  case atStart => exact ⟨0, rfl, by omega, by omega, HJ1.out.1, HJ1.out.2.1, HJ1.out.2.2⟩
  case round =>
    clear HJ1
    obtain ⟨i, rfl, hi, hn, hJr, hBr, hSr⟩ := hrel
    have cb := hBr
    have hbn : ¬ Bb = wr.heap.size := by have := HH.out.2.1; have := HH.out.1.size; omega
    have hbn2 : ¬ wr.heap.size = Bb := fun h => hbn h.symm
    have hbl : Bb < wr.heap.size := by have := HH.out.2.1; have := HH.out.1.size; omega
    by_cases h8 : i = 8
    · subst h8
      have ha : bk ≠ ot := hn (by omega)
      have ht : (vcL b bk ot).take 8 = vcL b bk ot := List.take_of_length_le (by rw [vcL_len, if_neg ha]; omega)
      rw [ht] at hJr
      have HJr := Lib.hid hJr
      clear hJr
      gi_wp2
      go_end0
      exact ⟨⟨_, rfl⟩, .inl ⟨_, rfl, HJr.out⟩⟩
    by_cases hend : i = 4 ∧ bk = ot
    · obtain ⟨rfl, rfl⟩ := hend
      have ht : (vcL b bk bk).take 4 = vcL b bk bk := List.take_of_length_le (by rw [vcL_len, if_pos rfl]; omega)
      rw [ht] at hJr
      have HJr := Lib.hid hJr
      clear hJr
      gi_wp2
      refine ⟨fun _ h => (by cases h), ?_⟩
      gi_wp2
      try go_wp2_with fail
      refine bodyPost_ret (results_none rfl _ _ _) rfl ?_
      exact ⟨⟨_, rfl⟩, .inl ⟨_, rfl, HH.out.2.2.2.2 _ _ _ none HJr.out (World.grownBy_alloc _ _ none) (fun r e => by cases e)⟩⟩
    have hne : 4 ≤ i → bk ≠ ot := fun h4 e => by
      by_cases h44 : i = 4
      · exact hend ⟨h44, e⟩
      · exact hn (by omega) e
    obtain ⟨q, hq⟩ : ∃ q, q = if i < 4 then bk else ot := ⟨_, rfl⟩
    obtain ⟨si, hsi⟩ : ∃ si : Int, si = if i < 4 then (i : Int) else ((i - 4 : Nat) : Int) := ⟨_, rfl⟩
    have hg : (vcL b bk ot)[i]? = some ⟨b, q, si⟩ := by
      rw [hq, hsi]
      by_cases c : i < 4
      · rw [if_pos c, if_pos c]; exact vcL_lo _ _ _ _ c
      · rw [if_neg c, if_neg c]; exact vcL_hi _ _ _ _ (by omega) (by omega) (hne (by omega))
    have hJ2 := HH.out.2.2.2.2 _ wr (wr.alloc (.cells #[.int .i64 b, .int .i64 q, .int .i64 si] 45)) none hJr (World.grownBy_alloc _ _ none) (fun r e => by cases e)
    obtain ⟨fn, tmps, assign, body, hy, hR⟩ := HH.out.2.2.1 ((vcL b bk ot).take i) ⟨b, q, si⟩ _ hJ2 (by rw [List.length_take]; omega)
    dsimp only [sptV] at hy
    have htk := vcL_take b bk ot i _ hg
    rw [← htk] at hR
    have HRR := Lib.hid hR
    have hcA := ((Below.refl wr.heap.size wr).alloc (Nat.le_refl _) (.cells #[.int .i64 b, .int .i64 q, .int .i64 si] 45)).cell (p := ⟨Bb, 0, none⟩) hbl
    have HT2 := Lib.hid (And.intro (hcA.trans hBr) (And.intro hSr hne))
    have hc : i = 0 ∨ i = 1 ∨ i = 2 ∨ i = 3 ∨ i = 4 ∨ i = 5 ∨ i = 6 ∨ i = 7 := by omega
    clear hR htk hg hJ2 hJr hBr hSr hn hend hcA
    rcases hc with rfl | rfl | rfl | rfl | rfl | rfl | rfl | rfl
    all_goals
      first
      | rw [if_pos (by decide)] at hq
      | rw [if_neg (by decide)] at hq
      simp at hsi
      subst hq hsi
      first
      | have dne : (q == bk) = false := (beq_eq_false_iff_ne.2 fun e => hne (by decide) e.symm)
      | skip
      clear hne
      gi_wp2
      refine HRR.out.mono ?_
      rintro e W3 (⟨rfl, hJ3, hk3⟩ | ⟨rfl, hJx3⟩)
      · have H3 := Lib.hid (And.intro hJ3 hk3)
        clear hJ3 hk3
        gi_wp2
        go_roundw
        case rel => exact ⟨_, rfl, by decide, fun h => (by first | exact HT2.out.2.2 (by decide) | (exfalso; revert h; decide)), H3.out.1, H3.out.2.2.trans HT2.out.1, by have h1 := H3.out.2.1.size; have h2 := HT2.out.2.1; rw [World.size_alloc] at h1; omega⟩
        case measure => decide
      · have H3 := Lib.hid hJx3
        clear hJx3
        gi_wp2
        try go_wp2_with fail
        refine bodyPost_ret (results_none rfl _ _ _) rfl ?_
        exact ⟨⟨_, rfl⟩, .inr ⟨_, trivial, H3.out⟩⟩
end
section
open Go.RowKit Go.Shelf
set_option linter.unusedVariables false
attribute [local go_sem] Oper.semAt_some
attribute [-go_sem] Builtin.append_

theorem infoSpt : (Tryz.prog.info? 45).map (fun i => (i.zero, i.size, i.bytes)) = some (some (.agg #[.int .i64 0, .int .i64 0, .int .i64 0]), 3, 24) := by kernel_rfl
theorem blk_kept {W W' : World} {row : Option Nat} {B : Nat} {o : Obj} (h : W.heap[B]? = some o) (hc : o.isCells = true) (hg : W.grownBy W' row) (hr : ∀ r, row = some r → ∃ o : Obj, W.heap[r]? = some o ∧ o.isCells = false) : W'.heap[B]? = some o :=
  (hg.block B (Array.getElem?_eq_some_iff.1 h).1 (fun e => by obtain ⟨o', h1, h2⟩ := hr B e.symm; rw [h] at h1; cases h1; rw [hc] at h2; cases h2)).trans h
/-- The Victim's block while its slots are collected. -/
def VXO (v : Value) : Obj := .cells #[v, .nilFunc, .int .i64 0, .bool false] 148 (0, 0)
/-- Between two rounds. -/
structure VI (w : World) (N : Nat) (pre : List Spt) (W : World) : Prop where
  ex : ∃ v, W.heap[N]? = some (VXO v) ∧ W.ownsRow (N + 4) 45 3 v pre.length (pre.flatMap sptc)
  bx : W.heap[N + 1]? = some (.cells #[.pointer (some ⟨N, 0, none⟩)] 80 (0, 0))
  sz : N + 4 ≤ W.heap.size
  bel : Below w.heap.size w W
theorem VI.own {w : World} {N B : Nat} (hN : w.heap.size ≤ N) (hB : N ≤ B) : OwnFrom B (fun (pre : List Spt) W => VI w N pre W) := by
  rintro pre W W' row ⟨⟨v, h1, h2⟩, h3, h4, h5⟩ hg hr
  have hr2 := fun r e => (hr r e).2
  refine ⟨⟨v, blk_kept h1 rfl hg hr2, h2.kept hg ?_⟩, blk_kept h3 rfl hg hr2, Nat.le_trans h4 hg.size, h5.grown hg h5.size (fun k e => by have := (hr k e).1; omega)⟩
  rcases h2.2 with ⟨rfl, _⟩ | ⟨g, cap, cur, rfl, _, hgb, _⟩
  · exact .inl rfl
  · refine .inr fun e' => ?_
    obtain ⟨o, ho, hc⟩ := hr2 g (by simpa [Value.ownBlock] using e'.symm)
    rw [hgb] at ho; cases ho; cases hc
theorem heap_set0 (W : World) (B : Nat) (c : Value) (cs : List Value) (ty : TypeId) (v : Value) (h : W.heap[B]? = some (.cells (c :: cs).toArray ty (0, 0))) : (W.setCell ⟨B, 0, none⟩ v).heap[B]? = some (.cells (v :: cs).toArray ty (0, 0)) := by
  obtain ⟨hlt, hk⟩ := Array.getElem?_eq_some_iff.1 h
  show (W.heap.modify B _)[B]? = _
  rw [Array.getElem?_eq_getElem (by rw [Array.size_modify]; exact hlt), Array.getElem_modify_self, hk]
  rfl
theorem VI.appended {w W w1 : World} {N : Nat} {pre : List Spt} {x : Spt} {v v' : Value} {tmp : Obj} (hI : VI w N pre W) (hN : w.heap.size ≤ N) (hv : W.heap[N]? = some (VXO v)) (hrow : W.ownsRow (N + 4) 45 3 v pre.length (pre.flatMap sptc)) (hown : w1.ownsRow (N + 4) 45 3 v' (pre.length + 1) (pre.flatMap sptc ++ sptc x)) (hg : (W.alloc tmp).grownBy w1 v.ownBlock) :
    w1.heap[N]? = some (VXO v) ∧ w1.heap[N + 1]? = W.heap[N + 1]? ∧ VI w N (pre ++ [x]) (w1.setCell ⟨N, 0, none⟩ v') ∧ KeepsOthers W (w1.setCell ⟨N, 0, none⟩ v') ∧ Below w.heap.size W (w1.setCell ⟨N, 0, none⟩ v') ∧ (w1.setCell ⟨N, 0, none⟩ v').cell? ⟨N + 1 + 1, 0, none⟩ = W.cell? ⟨N + 1 + 1, 0, none⟩ := by
  have hne : ∀ j, j < N + 4 → some j ≠ v.ownBlock := by
    intro j hj e'
    rcases hrow.2 with ⟨rfl, _⟩ | ⟨g, cap, cur, rfl, hb, _, _⟩
    · simp [Value.ownBlock] at e'
    · obtain rfl : j = g := by simpa [Value.ownBlock] using e'
      omega
  have hne' : v'.ownBlock ≠ some N := by
    intro e'
    obtain ⟨g, cap, rfl⟩ := ownsRow_succ hown
    rcases hown.2 with ⟨h0, _⟩ | ⟨g2, cap2, cur, h2, hb, _, _⟩
    · cases h0
    · cases h2
      obtain rfl : g = N := by simpa [Value.ownBlock] using e'
      omega
  have hk : ∀ j, j < N + 4 → w1.heap[j]? = W.heap[j]? := fun j hj =>
    (hg.block j (by have := hI.sz; simp; omega) (hne j hj)).trans (Below.heap_alloc W tmp j (by have := hI.sz; omega))
  have h1 : w1.heap[N]? = some (VXO v) := (hk N (by omega)).trans hv
  have hs : W.heap.size ≤ w1.heap.size := by have := hg.size; simp at this; omega
  have hko : KeepsOthers W (w1.setCell ⟨N, 0, none⟩ v') := by
    refine ((KeepsOthers.alloc W tmp).trans (KeepsOthers.of_grownBy hg fun j o ej hj => ?_)).trans (KeepsOthers.setCell _ _ _)
    rcases (hrow.alloc tmp).2 with ⟨rfl, _⟩ | ⟨g, cap, cur, rfl, _, hgb, _⟩
    · simp [Value.ownBlock] at ej
    · obtain rfl : g = j := by simpa [Value.ownBlock] using ej
      rw [hgb] at hj; cases hj; rfl
  have hbl : Below w.heap.size W (w1.setCell ⟨N, 0, none⟩ v') := by
    refine (((Below.refl w.heap.size W).alloc (by have := hI.sz; omega) tmp).grown hg (by have := hI.sz; simp; omega) fun j ej => ?_).setCell (p := ⟨N, 0, none⟩) hN v'
    by_cases hj : j < N + 4
    · exact absurd ej.symm (hne j hj)
    · omega
  refine ⟨h1, hk (N + 1) (by omega), ⟨⟨v', heap_set0 w1 N v _ _ v' h1, ?_⟩, ?_, ?_, hI.bel.trans hbl⟩, hko, hbl, ?_⟩
  · rw [List.length_append, List.flatMap_append]
    exact (by simpa using hown.kept (grownBy_setCell' w1 N v') (.inr hne') : (w1.setCell ⟨N, 0, none⟩ v').ownsRow (N + 4) 45 3 v' (pre.length + 1) (pre.flatMap sptc ++ [x].flatMap sptc))
  · exact (Below.heap_setCell _ _ _ (N + 1) (by simp)).trans ((hk (N + 1) (by omega)).trans hI.bx)
  · have := hI.sz; simp; omega
  · exact World.cell?_of_block ((Below.heap_setCell _ _ _ (N + 1 + 1) (by simp; omega)).trans (hk (N + 1 + 1) (by omega)))
theorem blk_ob {W : World} {O : Om} {k g : Nat} {cur : Array Value} {e : TypeId} (h : W.heap[g]? = some (.cells cur e (0, 0))) (ho : O g = k) : Ob W O k g cur.toList :=
  ⟨ho, (Array.getElem?_eq_some_iff.1 h).1, fun j u hu => by simp [World.cell?, h]; simpa using hu, fun j => by simp [World.frozen?, h]⟩
theorem Ext.putNew {S : Nat → Prop} {O O' : Om} {w w' : World} {D : Nat} {o : Obj} (e : Ext S O w O' w') (hD : w.heap.size ≤ D) : Ext S O w O' (w'.putObj D o) :=
  ⟨e.lo, fun i hi => by simpa using e.hi i hi, e.nw, ⟨e.wr.os, e.wr.tape, e.wr.output, by simpa using e.wr.size, fun i hi hs => (World.putObj_heap_other (by omega)).trans (e.wr.block i hi hs)⟩⟩
theorem Ob.put {O : Om} {w : World} {g b D : Nat} {cs : List Value} {o : Obj} (h : Ob w O g b cs) (hz : O D = 0) (hg : g ≠ 0) : Ob (w.putObj D o) O g b cs := by
  have hb : b ≠ D := fun e => hg (by rw [← h.o, e]; exact hz)
  have hk : (w.putObj D o).heap[b]? = w.heap[b]? := World.putObj_heap_other hb
  exact ⟨h.o, by simpa using h.lt, fun j u hu => (World.cell?_of_block hk).trans (h.c j u hu), fun j => (World.frozen?_of_block hk).trans (h.f j)⟩
theorem VLeft.put {O : Om} {w : World} {g D : Nat} {lv : Value} {l : List Spt} {o : Obj} (h : VLeft w O g lv l) (hz : O D = 0) (hg : g ≠ 0) : VLeft (w.putObj D o) O g lv l := by
  obtain ⟨A, j, cap, cs, h1, h2, h3, h4, h5⟩ := h.ex
  exact ⟨A, j, cap, cs, h1, h2, h3, h4.put hz hg, h5⟩
theorem VLeft.claim' {O O2 : Om} {w : World} {g b : Nat} {lv : Value} {l : List Spt} (h : VLeft w O g lv l) (hz : O b = 0) (hg : g ≠ 0) (hO : ∀ j, j ≠ b → O2 j = O j) : VLeft w O2 g lv l := by
  obtain ⟨A, j, cap, cs, h1, h2, h3, h4, h5⟩ := h.ex
  exact ⟨A, j, cap, cs, h1, h2, h3, h4.claim hz hg hO, h5⟩
/-- The collected slots, owned. -/
theorem VI.owned {w W : World} {O : Om} {k N : Nat} {xs : List Spt} (hI : VI w N xs W) (hN : N = w.heap.size) (hhi : ∀ j, O j ≠ 0 → j < w.heap.size) (hk : 10 ≤ k) (hx : xs ≠ []) :
    ∃ (v : Value) (G : Om), Ext (fun t => k ≤ t ∧ t ≤ k + 14) O w G W ∧ Ob W G k N (vcCs v .nilFunc 0 false) ∧ VLeft W G (k + 1) v xs ∧ ∀ j, w.heap.size ≤ j → G j = 0 ∨ j = N ∨ (W.heap[j]? ≠ none ∧ ∃ cur ty, W.heap[j]? = some (.cells cur ty (0, 0)) ∧ N + 4 ≤ j) := by
  obtain ⟨v, hv, hrow⟩ := hI.ex
  have hs := hI.sz
  have E0 : Ext (fun t => k ≤ t ∧ t ≤ k + 14) O w O W := Ext.of_below hhi hI.bel
  have z0 : O N = 0 := nob_of hhi (by omega)
  obtain ⟨G1, e1, g1, hO1⟩ := E0.claim (b := N) (g := k) (by omega) (by omega) z0 ⟨Nat.le_refl _, by omega⟩
  have hxl : 0 < xs.length := List.length_pos_iff.2 hx
  rcases hrow.2 with ⟨_, h0⟩ | ⟨g, cap, cur, rfl, hb, hg, hn, hm, hcs, htk⟩
  · omega
  have hgl := (Array.getElem?_eq_some_iff.1 hg).1
  have zg : G1 g = 0 := (hO1 g (by omega)).trans (nob_of hhi (by omega))
  obtain ⟨G2, e2, g2, hO2⟩ := e1.claim (b := g) (g := k + 1) (by omega) hgl zg ⟨by omega, by omega⟩
  have hX : Ob W G1 k N (vcCs (.slice (some ⟨g, 0, none⟩) xs.length cap) .nilFunc 0 false) := blk_ob (cur := #[.slice (some ⟨g, 0, none⟩) xs.length cap, .nilFunc, .int .i64 0, .bool false]) hv g1
  refine ⟨_, G2, e2, hX.claim zg (by omega) hO2, ⟨g, 0, cap, cur.toList, rfl, hn, hm, blk_ob hg g2, ?_⟩, fun j hj => ?_⟩
  · rw [List.drop_zero, Nat.zero_add, ← htk, Nat.mul_comm 3]
    exact (List.take_append_drop _ _).symm
  · by_cases hjg : j = g
    · subst hjg
      exact .inr (.inr ⟨by rw [hg]; simp, cur, _, hg, hb⟩)
    · by_cases hjn : j = N
      · exact .inr (.inl hjn)
      · exact .inl ((hO2 j hjg).trans ((hO1 j hjn).trans (nob_of hhi hj)))
section
variable {w : World} {O : Om} {k : Nat}
set_option maxHeartbeats 4000000 in
set_option maxRecDepth 100000 in
theorem c_NewVictim (b h : Int) (b0 : -9223372036854775808 ≤ b) (b1 : b ≤ 9223372036854775807) (h0 : 0 ≤ h) (h1 : h < 18446744073709551616) (hk : 10 ≤ k) (hhi : ∀ j, O j ≠ 0 → j < w.heap.size) :
    Calls Tryz.prog 41 #[.int .i64 b, .int .u64 h] w fun e w' => ∃ X, RP (fun t => k ≤ t ∧ t ≤ k + 14) w O (.pointer (some ⟨X, 0, none⟩)) (fun W G => VcAt W G k X (vcNew b h)) e w' := by
  obtain ⟨z, hz⟩ : ∃ z, z = vcNew b h := ⟨_, rfl⟩
  rw [← hz]
  unfold vcNew at hz
  have HS := Lib.hid (fun W => c_Size b W b0 b1)
  by_cases hb : vcTab b
  · rw [if_pos hb] at hz
    have hs := fnvSize_pos hb.1 hb.2
    have hd : decide (0 < fnvSize b) = true := by simp; omega
    have HSt := Lib.hid (c_spots1 b h b0 b1 h0 h1 hb)
    have HZ := Lib.hid hz
    have HH := Lib.hid hhi
    have HBb := Lib.hid hb
    clear hs hz hhi b0 b1 h0 h1 hb
    refine (callsIn_wide (n := 6)).1 ?_
    refine callsIn_of_wp_marks Tryz.func41 rfl trivial ?_ rfl
    simp only [Tryz.ntmps41, List.size_toArray, List.length_cons, List.length_nil, Nat.reduceAdd, Nat.reduceSub, Array.replicate_succ, Array.replicate_zero, List.push_toArray, List.append_toArray, List.nil_append, List.cons_append]
    refine wpIn_wide.2 ?_
    go_wp2_with fail
    refine (HS.out _).mono ?_
    rintro e w' ⟨rfl, rfl⟩
    go_wp2_with fail
    refine (c_spots b h _).mono ?_
    rintro e w' ⟨rfl, rfl⟩
    go_wp2_with fail
    obtain ⟨W0, hW0⟩ : ∃ W0, W0 = (((w.alloc (VXO (.slice none 0 0))).alloc (.cells #[.pointer (some ⟨w.heap.size, 0, none⟩)] 80)).alloc (.cells #[.int .i64 b] 3)).alloc (.cells #[.int .u64 h] 27) := ⟨_, rfl⟩
    have hsz : W0.heap.size = w.heap.size + 4 := by rw [hW0]; simp
    have B0 : Below w.heap.size w W0 := by rw [hW0]; (repeat (first | (with_reducible exact Below.refl _ _) | (with_reducible refine Below.drew ?_) | (with_reducible refine Below.alloc ?_ (by first | exact Nat.le_refl _ | simp; done | (simp; omega)) _)))
    have x0 : W0.heap[w.heap.size]? = some (VXO (.slice none 0 0)) := by
      rw [hW0]
      exact (Below.heap_alloc _ _ _ (by first | (simp; done) | (simp; omega))).trans ((Below.heap_alloc _ _ _ (by first | (simp; done) | (simp; omega))).trans ((Below.heap_alloc _ _ _ (by first | (simp; done) | (simp; omega))).trans (World.alloc_heap_new w _)))
    have x1 : W0.heap[w.heap.size + 1]? = some (.cells #[.pointer (some ⟨w.heap.size, 0, none⟩)] 80 (0, 0)) := by
      rw [hW0]
      have := World.alloc_heap_new (w.alloc (VXO (.slice none 0 0))) (.cells #[.pointer (some ⟨w.heap.size, 0, none⟩)] 80)
      rw [World.size_alloc] at this
      exact (Below.heap_alloc _ _ _ (by first | (simp; done) | (simp; omega))).trans ((Below.heap_alloc _ _ _ (by first | (simp; done) | (simp; omega))).trans this)
    have I0 : VI w w.heap.size [] W0 := ⟨⟨.slice none 0 0, x0, World.ownsRow_nil _ _ _ _⟩, x1, by omega, B0⟩
    have ch : W0.cell? ⟨w.heap.size + 1 + 1 + 1, 0, none⟩ = some (.int .u64 h) := by rw [hW0]; exact cell_newA _ #[.int .u64 h] _ _ (by simp) 0 _ rfl
    have cb : W0.cell? ⟨w.heap.size + 1 + 1, 0, none⟩ = some (.int .i64 b) := by rw [hW0]; exact (((Below.refl _ _).alloc (Nat.le_refl _) _).cell (p := ⟨w.heap.size + 1 + 1, 0, none⟩) (by simp)).trans (cell_newA _ #[.int .i64 b] _ _ (by simp) 0 _ rfl)
    have hW0' := hW0.symm
    unfold VXO at hW0'
    rw [hW0']
    clear hW0 hW0' x0 x1
    refine (wpIn_wide (n := 6)).1 ?_
    refine wpIn_rangeFunc_ownH (F := Fence.wide) (n := 6) rfl (by decide) (gf := 161) (lb := #[.pointer (some ⟨w.heap.size + 1 + 1 + 1, 0, none⟩), .pointer (some ⟨w.heap.size + 1 + 1, 0, none⟩)]) rfl trivial (enters_of Tryz.func161 (by kernel_rfl) rfl)
      (HSt.out (w.heap.size + 1 + 1 + 1) (w.heap.size + 1 + 1) w.heap.size W0 (by omega) (by omega) (by omega) ch cb) (fun h k => ⟨h.1.trans k.1, k.2.trans h.2⟩)
      (fun W l o o' hl ho hc hw => ⟨belowK_b (w := W0) (by omega) W l o o' hl ho hc hw, World.cell?_of_block (World.putObj_heap_other (fun e => by dsimp only at e; omega))⟩) (Below.refl _ _) (fun _ => rfl)
      (fun pre W => VI w w.heap.size pre W) (fun _ _ _ => False) (VI.own (Nat.le_refl _) (by omega)) (fun _ _ _ _ _ hs _ _ => hs) I0
      (fun x a' W => ∃ Bs, w.heap.size + 4 ≤ Bs ∧ W.heap[Bs]? = some (.cells #[.int .i64 x.b, .int .i64 x.q, .int .i64 x.s] 45 (0, 0)) ∧ a' = { tmps := #[.int .i64 b, .int .u64 h, undef, undef, .pointer none, .pointer (some ⟨w.heap.size + 1, 0, none⟩), .pointer (some ⟨Bs, 0, none⟩), .agg #[.slice none 0 0, .nilFunc, .int .i64 0, .bool false], .pointer (some ⟨w.heap.size, 0, none⟩), .int .i64 b, .int .i64 (fnvSize b), .bool true, .int .i64 b, .int .u64 h, .func (.func 161) #[] #[.pointer (some ⟨w.heap.size + 1 + 1 + 1, 0, none⟩), .pointer (some ⟨w.heap.size + 1 + 1, 0, none⟩)], sptV x, undef, undef, undef, undef, undef, undef, undef, undef, undef, undef, undef, undef, undef], defers := [] })
      (fun x a' => by rintro _ W W' row ⟨Bs, g1, g2, g3⟩ hg hr; exact ⟨Bs, g1, blk_kept g2 rfl hg (fun r e => (hr r e).2), g3⟩) ?assign ?body ?done ?stop
    case assign =>
      rintro l pre x W K hI hK
      have hs := hI.sz
      have hn : ¬ w.heap.size + 1 + 1 = W.heap.size := by omega
      have hc := ((Below.refl W.heap.size W).alloc (Nat.le_refl _) (.cells #[.int .i64 x.b, .int .i64 x.q, .int .i64 x.s] 45)).cell (p := ⟨w.heap.size + 1 + 1, 0, none⟩) (by show w.heap.size + 1 + 1 < _; omega)
      dsimp only [sptV]
      gi_wp2
      exact hK _ _ ((KeepsOthers.alloc _ _).from _) ⟨(Below.refl _ W).alloc (by omega) _, hc⟩ ((VI.own (Nat.le_refl _) (by omega : w.heap.size ≤ W0.heap.size)).alloc _ hI) ⟨W.heap.size, hs, World.alloc_heap_new _ _, rfl⟩
    case body =>
      rintro l pre x a' W hl ⟨r, hr⟩ hI ⟨Bs, hB1, hB2, rfl⟩ hlt
      obtain ⟨i0, hi, hz0, hz1, hz2⟩ := info_parts infoSpt
      obtain ⟨v, hv, hrow⟩ := hI.ex
      have hmx : Tryz.prog.follows .mixedOrders = true := by kernel_rfl
      have hs := hI.sz
      have c0 : W.cell? ⟨w.heap.size, 0, none⟩ = some v := by simp [World.cell?, hv, VXO]
      have f0 : W.frozen? ⟨w.heap.size, 0, none⟩ = false := by simp [World.frozen?, hv, VXO]
      have cx : W.cell? ⟨w.heap.size + 1, 0, none⟩ = some (.pointer (some ⟨w.heap.size, 0, none⟩)) := by simp [World.cell?, hI.bx]
      have s0 : W.cell? ⟨Bs, 0, none⟩ = some (.int .i64 x.b) := by simp [World.cell?, hB2]
      have s1 : W.cell? ⟨Bs, 1, none⟩ = some (.int .i64 x.q) := by simp [World.cell?, hB2]
      have s2 : W.cell? ⟨Bs, 2, none⟩ = some (.int .i64 x.s) := by simp [World.cell?, hB2]
      have l0 : w.heap.size < W.heap.size := by omega
      have l1 : w.heap.size + 1 < W.heap.size := by omega
      have l2 : Bs < W.heap.size := (Array.getElem?_eq_some_iff.1 hB2).1
      have hN1 : ¬ w.heap.size = W.heap.size := by omega
      have hN2 : ¬ w.heap.size + 1 = W.heap.size := by omega
      have hN3 : ¬ Bs = W.heap.size := by omega
      have cxA : (W.alloc (.cells #[.int .i64 x.b, .int .i64 x.q, .int .i64 x.s] 45)).cell? ⟨w.heap.size + 1, 0, none⟩ = some (.pointer (some ⟨w.heap.size, 0, none⟩)) := (((Below.refl W.heap.size W).alloc (Nat.le_refl _) _).cell (p := ⟨w.heap.size + 1, 0, none⟩) l1).trans cx
      have c0A : (W.alloc (.cells #[.int .i64 x.b, .int .i64 x.q, .int .i64 x.s] 45)).cell? ⟨w.heap.size, 0, none⟩ = some v := (((Below.refl W.heap.size W).alloc (Nat.le_refl _) _).cell (p := ⟨w.heap.size, 0, none⟩) l0).trans c0
      obtain ⟨v', w1, hrun, hown', hgrow, -⟩ := run_append_own (P := Tryz.prog) (w := (W.alloc (.cells #[.int .i64 x.b, .int .i64 x.q, .int .i64 x.s] 45)).drew) (w.heap.size + 4) 75 75 45 i0 (.agg #[.int .i64 0, .int .i64 0, .int .i64 0]) 3 24 Tryz.underlying75 hi hz0 hz1 hz2 rfl (by decide) v pre.length (pre.flatMap sptc) ((hrow.alloc _).kept (row := none) ⟨rfl, rfl, rfl, Nat.le_refl _, fun _ _ _ => rfl⟩ (by rcases hrow.2 with ⟨rfl, _⟩ | ⟨g, cap, cur, rfl, _, _, _⟩; exact .inl rfl; exact .inr (by simp [Value.ownBlock]))) ⟨W.heap.size, 0, none⟩ 1 1 [.int .i64 x.b, .int .i64 x.q, .int .i64 x.s] rfl (by intro j u hu; rw [Addr.add_lit, Nat.zero_add]; exact cell_newA W #[.int .i64 x.b, .int .i64 x.q, .int .i64 x.s] 45 _ rfl j u (by simpa using hu)) (by simp [Value.oneCell']) (by unfold maxLen; omega) (by omega) (by simp; omega)
      obtain ⟨g', cap', rfl⟩ := ownsRow_succ hown'
      have hgd := hgrow
      obtain ⟨ha1, ha6, ha2, ha3, ha4, ha5⟩ := hI.appended (Nat.le_refl _) hv hrow hown' (tmp := .cells #[.int .i64 x.b, .int .i64 x.q, .int .i64 x.s] 45) ⟨hgd.os, hgd.tape, hgd.output, hgd.size, hgd.block⟩
      have hc1 : w1.cell? ⟨w.heap.size, 0, none⟩ = some v := by simp [World.cell?, ha1, VXO]
      have hf1 : w1.frozen? ⟨w.heap.size, 0, none⟩ = false := by simp [World.frozen?, ha1, VXO]
      have cx1 : w1.cell? ⟨w.heap.size + 1, 0, none⟩ = some (.pointer (some ⟨w.heap.size, 0, none⟩)) := by simp [World.cell?, ha6, hI.bx]
      have HA := Lib.hid (And.intro ha2 (And.intro ha3 (And.intro ha4 ha5)))
      clear hown' hgrow hgd ha1 ha2 ha3 ha4 ha5 ha6 hrow hv hI
      gi_wp2
      gi_region_with_o (fail)
      all_goals
        gi_wp2
        exact ⟨HA.out.2.1.from _, ⟨HA.out.2.2.1, HA.out.2.2.2⟩, HA.out.1⟩
    case done =>
      rintro D xs W hD rfl hI hK
      have hs := hI.sz
      have hp : (⟨b, fnvBucket h b, 0⟩ : Spt).ok := by
        have e1 := fnvBucket_bd (h := h) HBb.out.1 HBb.out.2
        exact ⟨HBb.out.1, HBb.out.2, e1.1, e1.2, by dsimp only; omega, by dsimp only; omega⟩
      have hzv : vcLeft z = vcL b (fnvBucket h b) (fnvOther (fnvBucket h b) (fnvTag h) b) := by rw [HZ.out]; rfl
      have hzp : z.p = ⟨b, fnvBucket h b, 0⟩ := by rw [HZ.out]
      obtain ⟨ls, hls, -⟩ := vcLeft_cons (z := z) (by rw [hzp]; exact hp)
      have hne : vcL b (fnvBucket h b) (fnvOther (fnvBucket h b) (fnvTag h) b) ≠ [] := by rw [← hzv, hls]; exact List.cons_ne_nil _ _
      obtain ⟨v, G, eG, xG, vG, zG⟩ := hI.owned rfl HH.out hk hne
      rw [← hzv] at vG
      have zB : G (w.heap.size + 1) = 0 := by
        rcases zG (w.heap.size + 1) (by omega) with g | g | ⟨_, cur, ty, _, g⟩
        · exact g
        · omega
        · omega
      have zD : G D = 0 := by
        rcases zG D (by omega) with g | g | ⟨_, cur, ty, g, _⟩
        · exact g
        · subst g; have := hI.ex; obtain ⟨v, hv, _⟩ := this; rw [hK] at hv; cases hv
        · rw [hK] at g; cases g
      have hDl := (Array.getElem?_eq_some_iff.1 hK).1
      have cx : W.cell? ⟨w.heap.size + 1, 0, none⟩ = some (.pointer (some ⟨w.heap.size, 0, none⟩)) := by simp [World.cell?, hI.bx]
      have HL := Lib.hid (c_Vlook (k := k) v .nilFunc 0 false z.p ls xG (by rw [← hls]; exact vG) hk eG.hi)
      have HG := Lib.hid (And.intro eG (And.intro vG (And.intro zB (And.intro zD (And.intro hDl (And.intro hK (And.intro hD (And.intro hs hsz))))))))
      clear hI eG xG vG zG zB zD hDl hK hD hls hne hzv hzp hp
      go_wp2_with fail
      refine HL.out.mono ?_
      rintro e W5 ⟨bs, bx, rfl, G5, e5, x5, s5, y5⟩
      have cx5 := (e5.cell (p := ⟨w.heap.size + 1, 0, none⟩) (by have := HG.out.2.2.2.2.2.2.2.1; show w.heap.size + 1 < _; omega) (by show ¬ (G (w.heap.size + 1) = k ∨ G (w.heap.size + 1) = k + 2 ∨ G (w.heap.size + 1) = k + 3); rw [HG.out.2.2.1]; omega)).trans cx
      have hK5 : W5.heap[D]? = some (.deferred (some [])) := (e5.wr.block D HG.out.2.2.2.2.1 (fun g => g.2 HG.out.2.2.2.1)).trans HG.out.2.2.2.2.2.1
      have zD5 : G5 D = 0 := (e5.lo D HG.out.2.2.2.2.1).trans HG.out.2.2.2.1
      have H5 := Lib.hid (And.intro (HG.out.1.trans (e5.mono (T := fun t => k ≤ t ∧ t ≤ k + 14) fun t _ ht => ⟨by omega, by omega⟩)) (And.intro x5 (And.intro s5 (And.intro y5 (And.intro (HG.out.2.1.ext e5 (by omega)) (And.intro hK5 zD5))))))
      clear e5 x5 s5 y5 cx hK5 zD5 HL
      go_wp2_with fail
      refine ⟨by simp, .inl ⟨_, _, rfl, run_takeDeferred H5.out.2.2.2.2.2.1, ?_⟩⟩
      have hDw : w.heap.size ≤ D := by have := HG.out.2.2.2.2.2.2.1; have := HG.out.2.2.2.2.2.2.2.2; omega
      have hz1 : z.ln = 1 := by rw [HZ.out]
      refine ⟨_, results_tmp rfl _ _ _, w.heap.size, rfl, G5, H5.out.1.putNew hDw, v, LOOKV bs bx, ?_, fun _ => H5.out.2.2.2.2.1.put H5.out.2.2.2.2.2.2 (by omega), fun g => ?_, ⟨fun g => by omega, fun _ => ⟨bs, bx, rfl, H5.out.2.2.1.put H5.out.2.2.2.2.2.2 (by omega), H5.out.2.2.2.1.put H5.out.2.2.2.2.2.2 (by omega)⟩, fun g => by omega, fun g => by omega, fun g => by omega⟩⟩
      · have := H5.out.2.1.put (D := D) (o := .deferred none) H5.out.2.2.2.2.2.2 (by omega)
        rw [HZ.out]
        exact this
      · rw [HZ.out] at g; cases g
    case stop =>
      rintro D c pre W _ _ hx _
      exact hx.elim
  · rw [if_neg hb] at hz
    have hs : fnvSize b = 0 := fnvSize_out (by unfold vcTab at hb; omega)
    rw [hs] at HS
    obtain ⟨G, e2, x2, -⟩ := alloc_ob hhi k (vcCs (.slice none 0 0) .nilFunc 0 false).toArray 148 w.heap.size rfl
    have HE := Lib.hid (And.intro e2 x2)
    have HZ := Lib.hid hz
    clear e2 x2 hz hhi hb hs
    go_enter Tryz.func41, Tryz.ntmps41
    go_wp2_with fail
    refine (HS.out _).mono ?_
    rintro e w' ⟨rfl, rfl⟩
    go_wp2_with fail
    go_ret
    rw [HZ.out]
    have hb := (Below.refl (w.alloc (.cells (vcCs (.slice none 0 0) .nilFunc 0 false).toArray 148)).heap.size (w.alloc (.cells (vcCs (.slice none 0 0) .nilFunc 0 false).toArray 148))).alloc (Nat.le_refl _) (.cells #[.pointer (some ⟨w.heap.size, 0, none⟩)] 80)
    exact ⟨w.heap.size, rfl, G, (HE.out.1.mono fun t _ ht => ⟨by omega, by omega⟩).below hb, .slice none 0 0, .nilFunc, HE.out.2.below hb, fun g => absurd rfl g, fun g => absurd g (by dsimp only; decide), ⟨fun _ => rfl, fun g => absurd g (by dsimp only; decide), fun g => absurd g (by dsimp only; decide), fun g => absurd g (by dsimp only; decide), fun g => absurd g (by dsimp only; decide)⟩⟩
end
end
section
open Go.RowKit Go.Shelf
set_option linter.unusedVariables false

theorem m_VcOver (a : Addr) (w : World) : (method 519 80 (.pointer (some a)) "Over").run Tryz.prog w = .ok (47, .pointer (some a)) w := by kernel_rfl
theorem m_VcStep (a : Addr) (w : World) : (method 519 80 (.pointer (some a)) "Step").run Tryz.prog w = .ok (68, .pointer (some a)) w := by kernel_rfl
theorem vcStep_n (z : AW × Vcm) : (vcStep z).1.n ≤ z.1.n + 1 ∧ z.1.n ≤ (vcStep z).1.n := by
  obtain ⟨s, z⟩ := z
  by_cases h : 0 ≤ z.ln ∧ z.ln ≤ 7
  · have a := vcStep_aw s z h.1 h.2
    exact ⟨a.n1, a.n0⟩
  · have e : vcStep (s, z) = (s, z) := by
      unfold vcStep
      dsimp only
      rw [if_neg (by omega), if_neg (by omega), if_neg (by omega), if_neg (by omega), if_neg (by omega), if_neg (by omega), if_neg (by omega)]
    rw [e]
    exact ⟨by dsimp only; omega, Int.le_refl _⟩
section
variable {X : Nat} {w : World} {O : Om} {B : Wb} {f : Cf} {s : AW} {k : Nat}
set_option maxHeartbeats 2000000 in
set_option maxRecDepth 100000 in
theorem c_VcGot {z : Vcm} (hX : VcAt w O k X z) :
    Calls Tryz.prog 42 #[.pointer (some ⟨X, 0, none⟩)] w fun e w' => e = .returned (.tuple #[sptV (vcGot z).1, .bool (vcGot z).2]) ∧ Below w.heap.size w w' := by
  obtain ⟨lv, dv, hx, -, hI, -⟩ := hX.ex
  have x0 := hx.c 0 _ rfl
  have x3 := hx.c 3 _ rfl
  have hl := hx.lt
  obtain ⟨ln, p, last, ref, mw, is, o⟩ := z
  dsimp only at x3 hI
  clear hX hx
  have hne : ¬ X = w.heap.size := by omega
  have hne2 : ¬ w.heap.size = X := by omega
  cases is with
  | true =>
    rw [show vcGot ⟨ln, p, last, ref, mw, true, o⟩ = (p, true) from rfl]
    obtain ⟨l, hL⟩ := hI rfl
    obtain ⟨A, j, cap, cs, rfl, hcap, hmx, hA, a0, a1, a2, -⟩ := hL.head
    have hAl := hA.lt
    have hne3 : ¬ A = w.heap.size := by omega
    have hne4 : ¬ w.heap.size = A := by omega
    have i0 : (0 : Int) < (l.length : Int) + 1 := by omega
    unfold sptV
    dsimp only
    obtain ⟨pb, hpb⟩ : ∃ z, z = p.b := ⟨_, rfl⟩
    obtain ⟨pq, hpq⟩ : ∃ z, z = p.q := ⟨_, rfl⟩
    obtain ⟨ps, hps⟩ : ∃ z, z = p.s := ⟨_, rfl⟩
    rw [← hpb] at a0
    rw [← hpq] at a1
    rw [← hps] at a2
    rw [← hpb, ← hpq, ← hps]
    clear hpb hpq hps hL hA hI
    go_enter Tryz.func42, Tryz.ntmps42
    go_wp2_with fail
    exact bodyPost_ret (v := .tuple #[.agg #[.int .i64 pb, .int .i64 pq, .int .i64 ps], .bool true]) (by simp [results, Tryz.results42, go_sem]) rfl ⟨rfl, by first | exact (Below.refl _ _).alloc (Nat.le_refl _) _ | exact ((((Below.refl _ _).alloc (Nat.le_refl _) _).setCell (p := ⟨w.heap.size, 0, none⟩) (Nat.le_refl _) _).setCell (p := ⟨w.heap.size, 1, none⟩) (Nat.le_refl _) _).setCell (p := ⟨w.heap.size, 2, none⟩) (Nat.le_refl _) _⟩
  | false =>
    rw [show vcGot ⟨ln, p, last, ref, mw, false, o⟩ = (⟨0, 0, 0⟩, false) from rfl]
    unfold sptV
    dsimp only
    clear hI x0
    go_enter Tryz.func42, Tryz.ntmps42
    go_wp2_with fail
    exact bodyPost_ret (v := .tuple #[.agg #[.int .i64 0, .int .i64 0, .int .i64 0], .bool false]) (by simp [results, Tryz.results42, go_sem]) rfl ⟨rfl, by first | exact (Below.refl _ _).alloc (Nat.le_refl _) _ | exact ((((Below.refl _ _).alloc (Nat.le_refl _) _).setCell (p := ⟨w.heap.size, 0, none⟩) (Nat.le_refl _) _).setCell (p := ⟨w.heap.size, 1, none⟩) (Nat.le_refl _) _).setCell (p := ⟨w.heap.size, 2, none⟩) (Nat.le_refl _) _⟩
theorem c_VcRun (X : Nat) (z : Vcm) (m : Nat) (hP : PW w O B f s) (hX : VcAt w O k X z) (hz : VcOk z) (hk : 10 ≤ k) (hhi : ∀ j, O j ≠ 0 → j < w.heap.size) (n0 : 0 ≤ s.n) (n1 : s.n + m ≤ 4611686018427387904) :
    Calls Tryz.prog 21 #[.pointer (some ⟨B.p, 0, none⟩), .iface 80 (.pointer (some ⟨X, 0, none⟩)), .int .i64 m] w (RP (SX k (k + 14)) w O (.int .i64 (runN vcOver vcStep m (s, z)).1) fun W G => PW W G B f (runN vcOver vcStep m (s, z)).2.1 ∧ VcAt W G k X (runN vcOver vcStep m (s, z)).2.2 ∧ VcOk (runN vcOver vcStep m (s, z)).2.2) := by
  refine (c_RunG vcOver vcStep (SX k (k + 14)) (fun W G z => PW W G B f z.1 ∧ VcAt W G k X z.2 ∧ VcOk z.2) B.p X 80 47 68 (m_VcOver _) (m_VcStep _)
    (run_enter Tryz.func47 (by kernel_rfl) (by kernel_rfl)) (run_enter Tryz.func68 (by kernel_rfl) (by kernel_rfl)) ?_ ?_ vcStep_n w O m (s, z) ⟨hP, hX, hz⟩ hhi n0 n1).mono ?_
  · rintro W G ⟨s1, y⟩ ⟨h1, h2, h3⟩
    exact c_VcOver h2 h3
  · rintro W G ⟨s1, y⟩ ⟨h1, h2, h3⟩ ho hh q0 q1
    refine (c_VcStep h1 h2 h3 hk hh q0 q1).mono ?_
    intro e w' hp2
    exact ⟨_, RP.mono hp2 (fun _ _ h => h) fun W1 G1 h => ⟨h.1, h.2, vcStep_ok h1.bd h3⟩⟩
  · intro e w' hp2
    exact hp2
end
/-- The chapter's example. -/
def lvH : Int := 216172782113783809
def lv1 : Nat × (AW × Vcm) := runN vcOver vcStep 9 (aw0 2, vcNew 2 lvH)
def lvA : Nat → AW
  | 0 => lv1.2.1
  | i + 1 => if i < 2 then awStore (plRef ((i : Int) + 1)) 1 (runN ptOver (fun z => putStep ⟨2, 1, i⟩ 9 ((i : Int) + 1) z.1 z.2) 9 (lvA i, ⟨0, 0⟩)).2.1 else (runN ptOver (fun z => putStep ⟨2, 1, i⟩ 9 ((i : Int) + 1) z.1 z.2) 9 (lvA i, ⟨0, 0⟩)).2.1
def lv2 : Nat × (AW × Vcm) := runN vcOver vcStep 99 (lvA 4, vcNew 2 lvH)
theorem spt_eq {g : Spt × Bool} {a b c : Int} {d : Bool} (h1 : g.1.b = a) (h2 : g.1.q = b) (h3 : g.1.s = c) (h4 : g.2 = d) : g = (⟨a, b, c⟩, d) := by
  obtain ⟨⟨x, y, z⟩, u⟩ := g
  dsimp only at h1 h2 h3 h4
  subst h1 h2 h3 h4
  rfl
theorem lv_f : lv1.1 = 1 ∧ vcGot lv1.2.2 = (⟨2, 1, 0⟩, true) ∧ lv2.1 = 14 ∧ vcGot lv2.2.2 = (⟨2, 1, 2⟩, true) ∧ lv2.2.1.M (plRef 1) = 2 ∧ lv2.2.1.M (plRef 2) = 2 :=
  ⟨by decide +kernel, spt_eq (by decide +kernel) (by decide +kernel) (by decide +kernel) (by decide +kernel), by decide +kernel, spt_eq (by decide +kernel) (by decide +kernel) (by decide +kernel) (by decide +kernel), by decide +kernel, by decide +kernel⟩
theorem lv_nt : lv2.2.1.nt.map (fun n => (n.kind, n.ref)) = [(1, 3)] := by decide +kernel
theorem lv_n : (0 ≤ lv1.2.1.n ∧ lv1.2.1.n ≤ 1000) ∧ (∀ i, i < 5 → 0 ≤ (lvA i).n ∧ (lvA i).n ≤ 1000) ∧ (0 ≤ lv2.2.1.n ∧ lv2.2.1.n ≤ 1000) := by decide +kernel
end
end Go.Proofs.YtlcibfpibklbdaaGreat
