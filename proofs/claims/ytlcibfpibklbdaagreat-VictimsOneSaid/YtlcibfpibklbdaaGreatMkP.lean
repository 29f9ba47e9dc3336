/- Layer 23, plain: a filled table with marks and a hand. -/
import Derived.Test.YtlcibfpibklbdaaGreatHnF
import Derived.Test.YtlcibfpibklbdaaGreatFuP
namespace Go.Proofs.YtlcibfpibklbdaaGreat
set_option linter.unusedSimpArgs false
set_option linter.unusedVariables false
open Go.RowKit
/-- Words with marks: k of them are laid. -/
def mkM (M : Int → Int) (ml : List Int) : Nat → Int → Int
  | 0 => M
  | k + 1 => upd (mkM M ml k) (plRef ((k : Int) + 1)) (ml.getD k 0)
theorem mkM_low {M : Int → Int} {ml : List Int} (k : Nat) (a : Int) (ha : a ≤ 4294967296) : mkM M ml k a = M a := by
  induction k with
  | zero => rfl
  | succ k ih =>
    have := plRef_bd (r := (k : Int) + 1) (by omega)
    unfold mkM
    rw [upd_other _ (by omega), ih]
theorem mkM_ref {M : Int → Int} {ml : List Int} (k r : Nat) : mkM M ml k (plRef ((r : Int) + 1)) = if r < k then ml.getD r 0 else M (plRef ((r : Int) + 1)) := by
  induction k with
  | zero => rfl
  | succ k ih =>
    unfold mkM
    by_cases e : r = k
    · subst e; rw [upd_same, if_pos (by omega)]
    · rw [upd_other _ (fun q => e (by have := plRef_inj (by omega) (by omega) q; omega)), ih]
      by_cases c : r < k
      · rw [if_pos c, if_pos (by omega)]
      · rw [if_neg c, if_neg (by omega)]
structure MkS (b : Int) (ks : List ByteArray) (ml : List Int) (hand : Int) (s : AW) : Prop where
  b0 : 1 ≤ b
  b1 : b ≤ 3
  wd : s.M 2 = b
  slot : ∀ p : Spt, p.ok → p.b = b → FilAt b ks s.M p
  inj : ∀ p q : Spt, p.ok → q.ok → p.b = b → q.b = b → s.M p.item = s.M q.item → s.M p.item ≠ 0 → p = q
  hd : s.M 4 = hand
  c6 : s.M 6 = 0
  ver : ∀ p : Spt, p.ok → s.M p.ver = 0
  mr : ∀ r : Nat, s.M (plRef ((r : Int) + 1)) = ml.getD r 0
  nt : s.nt = []
  n0 : 0 ≤ s.n
  n1 : s.n ≤ 1100
theorem MkS.of {b hand : Int} {ks : List ByteArray} {ml : List Int} {s s' : AW} (h : FulS b ks s) (hM : s'.M = upd (mkM s.M ml ml.length) 4 hand) (hnt : s'.nt = s.nt) (hn : s'.n = s.n + ml.length + 1) (hl : ml.length ≤ 40) : MkS b ks ml hand s' := by
  have hb0 := h.fil.b0
  have hb1 := h.fil.b1
  have hsz := fnvSize_bd b
  have lo : ∀ a, a ≤ 4294967296 → a ≠ 4 → s'.M a = s.M a := fun a h1 h2 => by rw [hM, upd_other _ h2, mkM_low _ _ h1]
  have hp1 : ∀ p : Spt, p.ok → s'.M p.tags = s.M p.tags ∧ s'.M p.item = s.M p.item := fun p hp => by
    have h1 := hp.tags
    have h2 := hp.item
    exact ⟨lo _ (by omega) (by omega), lo _ (by omega) (by omega)⟩
  refine ⟨hb0, hb1, ?_, fun p hp hpb => ?_, fun p q hp hq h1 h2 => ?_, ?_, ?_, fun p hp => ?_, fun r => ?_, by rw [hnt, h.nt], ?_, ?_⟩
  · rw [lo 2 (by decide) (by decide)]; exact h.fil.wd
  · unfold FilAt
    rw [(hp1 p hp).1, (hp1 p hp).2]
    exact h.fil.slot p hp hpb
  · rw [(hp1 p hp).2, (hp1 q hq).2]
    exact h.fil.inj p q hp hq h1 h2
  · rw [hM, upd_same]
  · rw [lo 6 (by decide) (by decide)]; exact h.fil.oth 6 (by decide) (by omega)
  · have := hp.ver
    rw [lo _ (by omega) (by omega)]; exact h.fil.oth _ (by omega) (by omega)
  · have h1 := plRef_bd (r := (r : Int) + 1) (by omega)
    rw [hM, upd_other _ (by omega), mkM_ref]
    split
    · rfl
    · rename_i hc
      rw [h.fil.oth _ (by omega) (Or.inr (by omega)), List.getD_eq_getElem?_getD, List.getElem?_eq_none (by omega)]
      rfl
  · rw [hn]; have := h.n0; omega
  · rw [hn]; have := h.n1; omega
section
variable {b hand : Int} {ks : List ByteArray} {ml : List Int} {s : AW}
theorem MkS.item (h : MkS b ks ml hand s) (hk : ks.length ≤ 40) (t : Int) : 0 ≤ s.M (plAt b t).item ∧ s.M (plAt b t).item ≤ 40 := by
  rcases h.slot _ (plAt_ok b t) (plAt_b h.b0 h.b1 t) with ⟨-, h2⟩ | ⟨r, k, h1, h2, -, -⟩
  · omega
  · have := (List.getElem?_eq_some_iff.1 h1).1; omega
theorem plAt_fr {b fr : Int} (b0 : 1 ≤ b) (b1 : b ≤ 3) (f0 : 0 ≤ fr) (f1 : fr < plSpots b) {n m : Nat} (hn : (n : Int) < plSpots b) (hm : (m : Int) < plSpots b) (h : plAt b (fr + n) = plAt b (fr + m)) : n = m := by
  have q2 := plAt_inj b0 b1 h
  have : ∀ x : Int, 0 ≤ x → x < 2 * plSpots b → x % plSpots b = if x < plSpots b then x else x - plSpots b := fun x x0 x1 => by
    split
    · exact Int.emod_eq_of_lt x0 (by assumption)
    · rw [← Int.sub_emod_right]; exact Int.emod_eq_of_lt (by omega) (by omega)
  rw [this _ (by omega) (by omega), this _ (by omega) (by omega)] at q2
  split at q2 <;> split at q2 <;> omega
theorem MkS.hf (h : MkS b ks ml hand s) (hk : ks.length ≤ 40) (hml : ∀ z ∈ ml, 0 ≤ z ∧ z ≤ 255) : HfI b (hand % plSpots b) s.M := by
  have hsp := plSpots_3 h.b0 h.b1
  refine ⟨h.b0, h.b1, h.wd, by rw [h.hd], h.item hk, fun n m hn hm e hz => ?_, fun r hr => ?_⟩
  · refine plAt_fr (fr := hand % plSpots b) h.b0 h.b1 (Int.emod_nonneg _ (by omega)) (Int.emod_lt_of_pos _ (by omega)) hn hm ?_
    exact h.inj _ _ (plAt_ok b _) (plAt_ok b _) (plAt_b h.b0 h.b1 _) (plAt_b h.b0 h.b1 _) e hz
  · have e := h.mr (r - 1).toNat
    rw [show (((r - 1).toNat : Nat) : Int) + 1 = r by omega] at e
    rw [e]
    rcases Nat.lt_or_ge (r - 1).toNat ml.length with c | c
    · rw [List.getD_eq_getElem?_getD, List.getElem?_eq_getElem c]; exact hml _ (List.getElem_mem _)
    · rw [List.getD_eq_getElem?_getD, List.getElem?_eq_none c]; show (0 : Int) ≤ 0 ∧ (0 : Int) ≤ 255; decide
theorem MkS.ht (h : MkS b ks [] hand s) (hk : ks.length ≤ 40) : HtI b (hand % plSpots b) s 0 0 := by
  have hsp := plSpots_3 h.b0 h.b1
  refine ⟨h.b0, h.b1, h.wd, fun j hj => by omega, h.item hk, fun r hr => ?_, ⟨0, Nat.le_refl _, ?_⟩, by rw [h.c6]; rfl, by rw [h.nt]; rfl, Nat.le_refl _, by rw [h.nt]; intro x hx; cases hx⟩
  · have e := h.mr (r - 1).toNat
    rw [show (((r - 1).toNat : Nat) : Int) + 1 = r by omega] at e
    rw [e]; rfl
  · rw [h.hd, show hand % plSpots b + ((0 : Nat) : Int) = hand % plSpots b by omega, Int.emod_emod_of_dvd _ (Int.dvd_refl _)]
end
end Go.Proofs.YtlcibfpibklbdaaGreat
