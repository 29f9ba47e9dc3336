/- Layer 6: contracts of At; the document's records. -/
import Derived.Test.YtijifjiehldcaaaGreatAr
import Derived.Test.YtijifjiehldcaaaGreatRn
import Derived.Deep.RegionLaw
import Derived.Deep.DeepCutAuto
import Derived.Outline
namespace Go.Proofs.YtijifjiehldcaaaGreat
set_option linter.unusedSimpArgs false
open Go.RowKit
set_option linter.unusedVariables false

theorem below_set6 {B : Nat} {a w : World} (h : Below B a w) {b : Nat} (hb : B ≤ b) (v0 v1 v2 v3 v4 v5 : Value) : Below B a (set6 w b 0 v0 v1 v2 v3 v4 v5) := by
  unfold set6
  exact (((((h.setCell (p := ⟨b, 0, none⟩) hb v0).setCell (p := ⟨b, 0 + 1, none⟩) hb v1).setCell (p := ⟨b, 0 + 2, none⟩) hb v2).setCell (p := ⟨b, 0 + 3, none⟩) hb v3).setCell (p := ⟨b, 0 + 4, none⟩) hb v4).setCell (p := ⟨b, 0 + 5, none⟩) hb v5
set_option maxHeartbeats 2000000 in
set_option maxRecDepth 100000 in
theorem c_IAt_no (r : Int) {w : World} {O : Om} {t ip : Nat} {l : List It} (h : Ar w O t ip l) (hl : l.length ≤ 1000000) (hr : ¬ (1 ≤ r ∧ r ≤ l.length)) :
    Calls Tryz.prog 58 #[.pointer (some ⟨ip, 0, none⟩), .int .i64 r] w fun e w' => e = .returned (.tuple #[.agg #[.string ⟨#[]⟩, .string ⟨#[]⟩, .int .u32 0, .int .u64 0, .int .i64 0, .int .i64 0], .bool false]) ∧ Below w.heap.size w w' := by
  obtain ⟨v, bl, hC, h1, h2⟩ := h.core
  have q1 := ((Below.refl w.heap.size w).alloc (Nat.le_refl _) (.cells #[.string ⟨#[]⟩, .string ⟨#[]⟩, .int .u32 0, .int .u64 0, .int .i64 0, .int .i64 0] 75)).cell (p := ⟨ip, 1, none⟩) hC.lt
  rw [hC.c1] at q1
  have hCt : ∀ W : World, W.cell? ⟨ip, 1, none⟩ = some (.int .i64 l.length) → Calls Tryz.prog 54 #[.pointer (some ⟨ip, 0, none⟩)] W fun e w' => e = .returned (.int .i64 l.length) ∧ W = w' := by
    intro W hW
    go_enter Tryz.func54, Tryz.ntmps54
    go_wp2
    go_ret
    exact ⟨rfl, rfl⟩
  have HCt := Lib.hid (hCt _ q1)
  clear hCt h hC h1 h2
  by_cases hr1 : r < 1
  · have e1 : decide (r < 1) = true := by simp [hr1]
    clear hr HCt
    go_enter Tryz.func58, Tryz.ntmps58
    go_wp2
    exact bodyPost_ret (v := .tuple #[.agg #[.string ⟨#[]⟩, .string ⟨#[]⟩, .int .u32 0, .int .u64 0, .int .i64 0, .int .i64 0], .bool false]) (by simp [results, Tryz.results58, go_sem]) rfl ⟨rfl, by first | exact (Below.refl _ _).alloc (Nat.le_refl _) _ | exact below_set6 ((Below.refl _ _).alloc (Nat.le_refl _) _) (Nat.le_refl _) _ _ _ _ _ _⟩
  · have e1 : decide (r < 1) = false := by simp; omega
    have e2 : decide ((l.length : Int) < r) = true := by simp; omega
    clear hr
    go_enter Tryz.func58, Tryz.ntmps58
    go_wp2_with fail
    refine (HCt.out).mono ?_
    rintro e w' ⟨rfl, rfl⟩
    go_wp2
    exact bodyPost_ret (v := .tuple #[.agg #[.string ⟨#[]⟩, .string ⟨#[]⟩, .int .u32 0, .int .u64 0, .int .i64 0, .int .i64 0], .bool false]) (by simp [results, Tryz.results58, go_sem]) rfl ⟨rfl, by first | exact (Below.refl _ _).alloc (Nat.le_refl _) _ | exact below_set6 ((Below.refl _ _).alloc (Nat.le_refl _) _) (Nat.le_refl _) _ _ _ _ _ _⟩
set_option maxHeartbeats 2000000 in
set_option maxRecDepth 100000 in
theorem c_IAt_yes (r : Int) (k : Nat) (x : It) {w : World} {O : Om} {t ip : Nat} {l : List It} (h : Ar w O t ip l) (hl : l.length ≤ 1000000) (hk : l[k]? = some x) (hr : r = k + 1) :
    Calls Tryz.prog 58 #[.pointer (some ⟨ip, 0, none⟩), .int .i64 r] w fun e w' => e = .returned (.tuple #[.agg #[.string x.key, .string x.val, .int .u32 x.fl, .int .u64 x.id, .int .i64 x.dies, .int .i64 x.gen], .bool true]) ∧ Below w.heap.size w w' := by
  obtain ⟨v, bl, hC0, h1, h2⟩ := h.core
  have hkl := (List.getElem?_eq_some_iff.1 hk).1
  have hb0 : Below w.heap.size w (w.alloc (.cells #[.string ⟨#[]⟩, .string ⟨#[]⟩, .int .u32 0, .int .u64 0, .int .i64 0, .int .i64 0] 75)) := (Below.refl _ _).alloc (Nat.le_refl _) _
  have hC := hC0.below hb0
  have q1 := hC.c1
  have hCt : ∀ W : World, W.cell? ⟨ip, 1, none⟩ = some (.int .i64 l.length) → Calls Tryz.prog 54 #[.pointer (some ⟨ip, 0, none⟩)] W fun e w' => e = .returned (.int .i64 l.length) ∧ W = w' := by
    intro W hW
    go_enter Tryz.func54, Tryz.ntmps54
    go_wp2
    go_ret
    exact ⟨rfl, rfl⟩
  have HCt := Lib.hid (hCt _ q1)
  have e1 : decide (r < 1) = false := by simp; omega
  have e2 : decide ((l.length : Int) < r) = false := by simp; omega
  have hbk : k / 64 < bl.length := by omega
  have HPL := Lib.hid (c_place ip k v bl _ hC.c0 (Arr.of_own hC.row) (by omega) (by omega))
  obtain ⟨b, hb⟩ : ∃ b, b = bl[k / 64] := ⟨_, rfl⟩
  rw [← hb] at HPL
  have hbm : bl[k / 64]? = some b := by rw [hb, List.getElem?_eq_getElem hbk]
  have hx := hC.it k x b hk hbm
  have hm6 : 6 * (k % 64) = k % 64 * 6 := Nat.mul_comm _ _
  rw [hm6] at hx
  have x0 := hx 0 _ rfl
  have x1 := hx 1 _ rfl
  have x2 := hx 2 _ rfl
  have x3 := hx 3 _ rfl
  have x4 := hx 4 _ rfl
  have x5 := hx 5 _ rfl
  have hrk : r - 1 = (k : Int) := by omega
  have hr9 : 1 ≤ r ∧ r ≤ 1000001 := by omega
  obtain ⟨kk, hkk⟩ : ∃ kk, kk = k % 64 * 6 := ⟨_, rfl⟩
  rw [← hkk] at HPL x0 x1 x2 x3 x4 x5
  rw [Nat.add_zero] at x0
  clear hCt h hC hC0 h1 h2 hx hm6 hb hbm hbk hkk hb0
  subst hr
  clear hrk
  go_enter Tryz.func58, Tryz.ntmps58
  go_wp2_with fail
  refine (HCt.out).mono ?_
  rintro e w' ⟨rfl, rfl⟩
  go_wp2_with fail
  refine (HPL.out).mono ?_
  rintro e w' ⟨rfl, rfl⟩
  go_wp2
  exact bodyPost_ret (v := .tuple #[.agg #[.string x.key, .string x.val, .int .u32 x.fl, .int .u64 x.id, .int .i64 x.dies, .int .i64 x.gen], .bool true]) (by simp [results, Tryz.results58, go_sem]) rfl ⟨rfl, by first | exact (Below.refl _ _).alloc (Nat.le_refl _) _ | exact below_set6 ((Below.refl _ _).alloc (Nat.le_refl _) _) (Nat.le_refl _) _ _ _ _ _ _⟩
/-- A list has one element more. -/
theorem LH.snoc {α : Type} {W w1 : World} {O : Om} {t h g cap size : Nat} {E : TypeId} {f : α → List Value} {l : List α} {x : α} {v : Value} {o : Obj} (ht : t ≠ 0) (hhi : ∀ j, O j ≠ 0 → j < W.heap.size) (hO : Ob W O t h [v]) (hr : W.ownsRow 0 E size v l.length (rowOf f l)) (hv : ∀ k, v.ownBlock = some k → O k = t ∧ k ≠ h)
    (own : w1.ownsRow 0 E size (.slice (some ⟨g, 0, none⟩) (l.length + 1) cap) (l.length + 1) (rowOf f l ++ f x)) (hg : (W.alloc o).drew.grownBy w1 v.ownBlock) (hat : v.ownBlock = some g ∨ g = W.heap.size + 1) (hgl : g < w1.heap.size) :
    ∃ O', Ext (fun j => j = t) O W O' (w1.setCell ⟨h, 0, none⟩ (.slice (some ⟨g, 0, none⟩) (l.length + 1) cap)) ∧ LH (w1.setCell ⟨h, 0, none⟩ (.slice (some ⟨g, 0, none⟩) (l.length + 1) cap)) O' t E size f h (l ++ [x]) := by
  have hw : Wrote (fun k => v.ownBlock = some k) W w1 := (((Wrote.refl _ _).alloc o).drew).grown hg fun k hk _ => hk
  have hvo : ∀ k, v.ownBlock = some k → k < W.heap.size := fun k hk => (hr.lt k hk).2
  have hvh : v.ownBlock ≠ some h := fun e => (hv h e).2 rfl
  have hlt := hO.lt
  have hgh : g ≠ h := by
    rcases hat with e | e
    · exact (hv g e).2
    · omega
  have hs := hw.size
  obtain ⟨G, hG⟩ : ∃ G : Om, ∀ j, G j = if j = g then t else O j := ⟨_, fun _ => rfl⟩
  have gold : ∀ j, j < W.heap.size → G j = O j := fun j hj => by
    rw [hG]
    by_cases e : j = g
    · rw [if_pos e]
      rcases hat with e2 | e2
      · subst e; exact ((hv j e2).1).symm
      · omega
    · rw [if_neg e]
  obtain ⟨W3, hW3⟩ : ∃ W3, W3 = w1.setCell ⟨h, 0, none⟩ (.slice (some ⟨g, 0, none⟩) (l.length + 1) cap) := ⟨_, rfl⟩
  have z3 : W3.heap.size = w1.heap.size := by rw [hW3]; simp
  have h3 : Wrote (fun k => k = h) w1 W3 := by rw [hW3]; exact Wrote.setCell (S := fun k => k = h) (Wrote.refl _ _) (p := ⟨h, 0, none⟩) (fun _ => rfl) _
  rw [← hW3]
  refine ⟨G, ⟨gold, fun j hj => ?_, fun j hj hn => ?_, ?_⟩, .slice (some ⟨g, 0, none⟩) (l.length + 1) cap, ⟨(gold h hlt).trans hO.o, by omega, fun j u hu => ?_, fun j => ?_⟩, ?_, fun k hk => ?_⟩
  · rw [hG] at hj
    by_cases e : j = g
    · omega
    · rw [if_neg e] at hj; have := hhi j hj; omega
  · rw [hG] at hn ⊢
    by_cases e : j = g
    · rw [if_pos e]
    · rw [if_neg e] at hn; have := hhi j hn; omega
  · refine (hw.mono (T := fun k => O k = t ∧ O k ≠ 0) fun k _ hk => ⟨(hv k hk).1, by rw [(hv k hk).1]; exact ht⟩).trans h3 fun n _ e => ?_
    subst e; exact ⟨hO.o, by rw [hO.o]; exact ht⟩
  · match j, hu with
    | 0, hu =>
      cases hu
      rw [hW3]
      exact World.cell?_setCell_same _ _ _ ((hw.cell (p := ⟨h, 0, none⟩) hlt hvh).trans (hO.c 0 _ rfl))
  · rw [hW3, World.frozen?_setCell]
    exact (hw.frozen (p := ⟨h, j, none⟩) hlt hvh).trans (hO.f j)
  · rw [rowOf_snoc, List.length_append]
    exact h3.own own fun k hk e => by cases hk; exact hgh e
  · cases hk
    exact ⟨by rw [hG, if_pos rfl], hgh⟩
theorem infoIt : (Tryz.prog.info? 75).map (fun i => (i.zero, i.size, i.bytes)) = some (some (.agg #[.string ⟨#[]⟩, .string ⟨#[]⟩, .int .u32 0, .int .u64 0, .int .i64 0, .int .i64 0]), 6, 64) := by kernel_rfl
set_option maxHeartbeats 2000000 in
set_option maxRecDepth 100000 in
theorem c_r6Add (x : It) {w : World} {O : Om} {t h : Nat} {l : List It} (H : LH w O t 75 6 itc h l) (ht : t ≠ 0) (hl : l.length ≤ 1000000) (hhi : ∀ j, O j ≠ 0 → j < w.heap.size) :
    Calls Tryz.prog 91 #[.pointer (some ⟨h, 0, none⟩), .agg #[.string x.key, .string x.val, .int .u32 x.fl, .int .u64 x.id, .int .i64 x.dies, .int .i64 x.gen]] w (RP (fun j => j = t) w O (.tuple #[.int .i64 ((l.length : Int) + 1), .int .i64 0]) fun W G => LH W G t 75 6 itc h (l ++ [x])) := by
  obtain ⟨v, h1, h2, h3⟩ := H.ex
  obtain ⟨i0, hi, hz0, hz1, hz2⟩ := info_parts infoIt
  obtain ⟨ao, cp, rfl, hcp, hm⟩ := (Arr.of_own h2).shape
  have hB : Below w.heap.size w (w.alloc (.cells #[.string x.key, .string x.val, .int .u32 x.fl, .int .u64 x.id, .int .i64 x.dies, .int .i64 x.gen] 75)) := (Below.refl _ _).alloc (Nat.le_refl _) _
  obtain ⟨W, hW⟩ : ∃ W, W = w.alloc (.cells #[.string x.key, .string x.val, .int .u32 x.fl, .int .u64 x.id, .int .i64 x.dies, .int .i64 x.gen] 75) := ⟨_, rfl⟩
  have hs : W.heap.size = w.heap.size + 1 := by rw [hW]; simp
  have hx : ∀ j u, (itc x)[j]? = some u → W.cell? ⟨w.heap.size, j, none⟩ = some u := fun j u hu => by rw [hW]; exact cell_newA w #[.string x.key, .string x.val, .int .u32 x.fl, .int .u64 x.id, .int .i64 x.dies, .int .i64 x.gen] _ _ rfl j u (by simpa [itc] using hu)
  rw [← hW] at hB
  have k1 := h1.below hB
  have k2 := ownsRow_below h2 hB
  have q0 := k1.c 0 _ rfl
  have qf := k1.f 0
  have hhl := k1.lt
  have hl9 : l.length ≤ 9223372036854775807 := by omega
  have hfull : decide ((1048576 : Int) ≤ (l.length : Int)) = false := by simp; omega
  have x0 := hx 0 _ rfl
  have x1 := hx 1 _ rfl
  have x2 := hx 2 _ rfl
  have x3 := hx 3 _ rfl
  have x4 := hx 4 _ rfl
  have x5 := hx 5 _ rfl
  have EW := Lib.hid (Ext.of_below (S := fun j => j = t) hhi hB)
  have K1 := Lib.hid k1
  have K2 := Lib.hid k2
  have H3 := Lib.hid h3
  have HW := Lib.hid hW
  have hwl : w.heap.size < W.heap.size := by omega
  have hne : ¬ h = W.heap.size := by omega
  have HF := Lib.hid hl
  clear H h1 h2 h3 k1 k2 hB hhi hx hs hl
  go_enter Tryz.func91, Tryz.ntmps91
  go_upto_region 1 with (fail)
  rw [← hW]
  clear hW
  go_wp2_with fail
  go_region_law
    ((refine step_append_lies _ (by rfl) _ _ _ (by rfl) 0 75 i0 _ 6 64 Tryz.underlying24 hi hz0 hz1 hz2 rfl (by omega) (.slice ao l.length cp) l.length (rowOf itc l) (by rfl) ((K2.out.alloc _).drew) ⟨W.heap.size, 0, none⟩ 1 1 (itc x) (by rfl) (by rfl) (World.news_of_block (cs := (itc x).toArray) (t := 75) (fr := (0, 0)) (heap_alloc_new W _)) (by simp [Value.oneCell', itc]) (by omega) (by have := HF.out; unfold maxLen; omega) (by have := HF.out; omega) (by simp) (W.heap.size + 1) (by simp) ?_
      intro gg cap w1 hown1 hgrow hat hlt1
      have hvh : (Value.slice ao l.length cp).ownBlock ≠ some h := fun e => (H3.out h e).2 rfl
      have hh1 : w1.cell? ⟨h, 0, none⟩ = some (.slice ao l.length cp) := (hgrow.cell_far _ (by simp; omega) (Ne.symm hvh)).trans ((((Below.refl W.heap.size W).alloc (Nat.le_refl _) _).cell (p := ⟨h, 0, none⟩) hhl).trans q0)
      have hh2 : w1.frozen? ⟨h, 0, none⟩ = false := (hgrow.frozen_far _ (by simp; omega) (Ne.symm hvh)).trans ((((Below.refl W.heap.size W).alloc (Nat.le_refl _) _).frozen (p := ⟨h, 0, none⟩) hhl).trans qf)))
  all_goals
    go_wp2
    go_ret2
    obtain ⟨G, g1, g2⟩ := LH.snoc ht EW.out.hi K1.out K2.out H3.out hown1 hgrow hat hlt1
    first
      | exact ⟨rfl, G, EW.out.trans g1, g2⟩
      | exact ⟨rfl, G, (EW.out.trans g1).drew, g2.ext (S := fun _ => False) (Ext.of_below g1.hi (drew_below _)) id⟩
theorem c_r6Count {w : World} {O : Om} {t h : Nat} {l : List It} (H : LH w O t 75 6 itc h l) :
    Calls Tryz.prog 55 #[.pointer (some ⟨h, 0, none⟩)] w fun e w' => e = .returned (.int .i64 l.length) ∧ w = w' := by
  obtain ⟨v, h1, h2, h3⟩ := H.ex
  obtain ⟨ao, cp, rfl, hcp, hm⟩ := (Arr.of_own h2).shape
  have q0 := h1.c 0 _ rfl
  clear H h1 h2 h3
  go_enter Tryz.func55, Tryz.ntmps55
  go_wp2
  go_ret
  exact ⟨rfl, rfl⟩
theorem it_cells {w : World} {b o : Nat} {L : List It} (h : ∀ j u, (rowOf itc L)[j]? = some u → w.cell? ⟨b, o + j, none⟩ = some u) (i : Nat) (x : It) (hi : L[i]? = some x) (j : Nat) (u : Value) (hu : (itc x)[j]? = some u) : w.cell? ⟨b, o + (i * 6 + j), none⟩ = some u := by
  have hil := (List.getElem?_eq_some_iff.1 hi).1
  have hx := (List.getElem?_eq_some_iff.1 hi).2
  have hj : j < 6 := by have := (List.getElem?_eq_some_iff.1 hu).1; rwa [itc_len] at this
  exact h _ _ ((rowOf_get itc_len L i j hil hj).trans (by rw [hx]; exact hu))
set_option maxHeartbeats 2000000 in
set_option maxRecDepth 100000 in
theorem c_r6At_yes (r : Int) (k : Nat) (x : It) {w : World} {O : Om} {t h : Nat} {l : List It} (H : LH w O t 75 6 itc h l) (hl : l.length ≤ 1000000) (hk : l[k]? = some x) (hr : r = k + 1) :
    Calls Tryz.prog 59 #[.pointer (some ⟨h, 0, none⟩), .int .i64 r] w fun e w' => e = .returned (.tuple #[.agg #[.string x.key, .string x.val, .int .u32 x.fl, .int .u64 x.id, .int .i64 x.dies, .int .i64 x.gen], .bool true]) ∧ Below w.heap.size w w' := by
  obtain ⟨v, h1, h2, h3⟩ := H.ex
  have hkl := (List.getElem?_eq_some_iff.1 hk).1
  have hb0 : Below w.heap.size w (w.alloc (.cells #[.string ⟨#[]⟩, .string ⟨#[]⟩, .int .u32 0, .int .u64 0, .int .i64 0, .int .i64 0] 75)) := (Below.refl _ _).alloc (Nat.le_refl _) _
  obtain ⟨b, o, cp, rfl, hcp, hcm, hlt, hx⟩ := (Arr.below (Arr.of_own h2) hb0).open (by omega) (by omega)
  have q0 := (h1.below hb0).c 0 _ rfl
  have x0 := it_cells hx k x hk 0 _ rfl
  have x1 := it_cells hx k x hk 1 _ rfl
  have x2 := it_cells hx k x hk 2 _ rfl
  have x3 := it_cells hx k x hk 3 _ rfl
  have x4 := it_cells hx k x hk 4 _ rfl
  have x5 := it_cells hx k x hk 5 _ rfl
  simp only [← Nat.add_assoc, Nat.add_zero] at x0 x1 x2 x3 x4 x5
  have e1 : decide (r < 1) = false := by simp; omega
  have e2 : decide ((l.length : Int) < r) = false := by simp; omega
  have hr9 : 1 ≤ r ∧ r ≤ 1000001 := by omega
  clear H h1 h2 h3 hx hb0
  subst hr
  go_enter Tryz.func59, Tryz.ntmps59
  go_wp2
  exact bodyPost_ret (v := .tuple #[.agg #[.string x.key, .string x.val, .int .u32 x.fl, .int .u64 x.id, .int .i64 x.dies, .int .i64 x.gen], .bool true]) (by simp [results, Tryz.results59, go_sem]) rfl ⟨rfl, by first | exact (Below.refl _ _).alloc (Nat.le_refl _) _ | exact below_set6 ((Below.refl _ _).alloc (Nat.le_refl _) _) (Nat.le_refl _) _ _ _ _ _ _⟩
set_option maxHeartbeats 2000000 in
set_option maxRecDepth 100000 in
theorem c_r6At_no (r : Int) {w : World} {O : Om} {t h : Nat} {l : List It} (H : LH w O t 75 6 itc h l) (hl : l.length ≤ 1000000) (hr : ¬ (1 ≤ r ∧ r ≤ l.length)) :
    Calls Tryz.prog 59 #[.pointer (some ⟨h, 0, none⟩), .int .i64 r] w fun e w' => e = .returned (.tuple #[.agg #[.string ⟨#[]⟩, .string ⟨#[]⟩, .int .u32 0, .int .u64 0, .int .i64 0, .int .i64 0], .bool false]) ∧ Below w.heap.size w w' := by
  obtain ⟨v, h1, h2, h3⟩ := H.ex
  have hb0 : Below w.heap.size w (w.alloc (.cells #[.string ⟨#[]⟩, .string ⟨#[]⟩, .int .u32 0, .int .u64 0, .int .i64 0, .int .i64 0] 75)) := (Below.refl _ _).alloc (Nat.le_refl _) _
  obtain ⟨ao, cp, rfl, hcp, hm⟩ := (Arr.of_own h2).shape
  have q0 := (h1.below hb0).c 0 _ rfl
  clear H h1 h2 h3 hb0
  by_cases hr1 : r < 1
  · have e1 : decide (r < 1) = true := by simp [hr1]
    clear hr
    go_enter Tryz.func59, Tryz.ntmps59
    go_wp2
    exact bodyPost_ret (v := .tuple #[.agg #[.string ⟨#[]⟩, .string ⟨#[]⟩, .int .u32 0, .int .u64 0, .int .i64 0, .int .i64 0], .bool false]) (by simp [results, Tryz.results59, go_sem]) rfl ⟨rfl, by first | exact (Below.refl _ _).alloc (Nat.le_refl _) _ | exact below_set6 ((Below.refl _ _).alloc (Nat.le_refl _) _) (Nat.le_refl _) _ _ _ _ _ _⟩
  · have e1 : decide (r < 1) = false := by simp; omega
    have e2 : decide ((l.length : Int) < r) = true := by simp; omega
    clear hr
    go_enter Tryz.func59, Tryz.ntmps59
    go_wp2
    exact bodyPost_ret (v := .tuple #[.agg #[.string ⟨#[]⟩, .string ⟨#[]⟩, .int .u32 0, .int .u64 0, .int .i64 0, .int .i64 0], .bool false]) (by simp [results, Tryz.results59, go_sem]) rfl ⟨rfl, by first | exact (Below.refl _ _).alloc (Nat.le_refl _) _ | exact below_set6 ((Below.refl _ _).alloc (Nat.le_refl _) _) (Nat.le_refl _) _ _ _ _ _ _⟩
end Go.Proofs.YtijifjiehldcaaaGreat
