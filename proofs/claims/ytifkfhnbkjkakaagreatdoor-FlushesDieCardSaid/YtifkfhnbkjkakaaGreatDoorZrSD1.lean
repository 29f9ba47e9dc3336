/- Layer 25, plain: what StoresAgain's world holds. Layer 14, plain: where a key is, in one table. -/
import Derived.Test.YtifkfhnbkjkakaaGreatDoorZrSH
import Derived.Test.YtifkfhnbkjkakaaGreatDoorZrSC
namespace Go.Proofs.YtifkfhnbkjkakaaGreatDoor
set_option linter.unusedSimpArgs false
set_option linter.unusedVariables false
section
section
variable {b : Int} {k : ByteArray} {s : AW} {p : Spt} {T : Tab} {n j : Nat} {x : It}
theorem aw0_sti (hbd : Bd (aw0 b).M) (b0 : 1 ≤ b) (b1 : b ≤ 11) (c : Clm) {g : Int} (hg : 0 < g) : StI c g b (aw0 b) stNew := by
 have hb := fnvBucket_bd (h := kyH c.key) b0 (by omega : b ≤ 12)
 have hM : ∀ a, a ≠ 2 → (aw0 b).M a = 0 := fun a h => by show upd (fun _ => 0) 2 (plWord b 0) a = 0; rw [upd_other _ h]
 have htg : 4096 ≤ plTags b (fnvBucket (kyH c.key) b) := (show (⟨b, fnvBucket (kyH c.key) b, 0⟩ : Spt).ok from ⟨b0, by dsimp only; omega, hb.1, hb.2, by dsimp only; omega, by dsimp only; omega⟩).tags.1
 refine StI.new hbd (by show 0 < 1000000; decide) b0 b1 ?_ ⟨by rw [hM 6 (by decide)]; exact hg, by rw [hM _ (by omega)]; decide⟩
 show upd (fun _ => 0) 2 (plWord b 0) 2 = b
 rw [upd_same]
 unfold plWord
 omega
theorem StI.goodR {c : Clm} {g : Int} {t : Nat} {mo : Int} : ∀ {M : Nat} {s : AW} {z : Stm} {m : Nat} {s' : AW} {z' : Stm}, StI c g b s z → runN stOver (stStep t c mo) M (s, z) = (m, s', z') → stOver z' = true → goodN stOver (stStep t c mo) (fun y => stPre c g y.1 y.2) M (s, z) = true
 | 0, s, z, m, s', z', h, hr, ho => by
   have e : (0, (s, z)) = (m, s', z') := hr
   have e2 : z = z' := congrArg (fun x : Nat × (AW × Stm) => x.2.2) e
   unfold goodN
   rw [e2]
   exact ho
 | M + 1, s, z, m, s', z', h, hr, ho => by
   unfold goodN
   cases hov : stOver z with
   | true => rfl
   | false =>
     rw [runN_on M (s, z) hov] at hr
     have e2 : (runN stOver (stStep t c mo) M (stStep t c mo (s, z))).2 = (s', z') := congrArg (fun x : Nat × (AW × Stm) => x.2) hr
     have hg := StI.goodR (h.step t mo) (show runN stOver (stStep t c mo) M ((stStep t c mo (s, z)).1, (stStep t c mo (s, z)).2) = ((runN stOver (stStep t c mo) M (stStep t c mo (s, z))).1, s', z') from by
      show runN stOver (stStep t c mo) M (stStep t c mo (s, z)) = _
      rw [← e2]) ho
     rw [show stPre c g (s, z).1 (s, z).2 = true from h.pre]
     have hg : goodN stOver (stStep t c mo) (fun y => stPre c g y.1 y.2) M (stStep t c mo (s, z)) = true := hg
     rw [hg, Bool.true_and, Bool.or_true]
end
end
section
section
variable {b : Int} {k : ByteArray} {s : AW} {p : Spt} {T : Tab} {r : Int}
theorem atS_o (S : Sw b s T) (A : Stand1 b s.it T k p r) (q sl : Int) (q0 : 0 ≤ q) (q1 : q < fnvSize b) (s0 : 0 ≤ sl) (s1 : sl ≤ 3) : atS k s b q sl = if q = p.q ∧ sl = p.s then [r] else [] := by
 have hok : (⟨b, q, sl⟩ : Spt).ok := ⟨S.b0, by have := S.b1; dsimp only; omega, q0, q1, s0, s1⟩
 have ht : twTag (s.M (plTags b q)) sl = (T ⟨b, q, sl⟩).1 := S.rep.tg ⟨b, q, sl⟩ hok
 have hi : s.M (plItem b q sl) = (T ⟨b, q, sl⟩).2 := S.rep.it ⟨b, q, sl⟩ hok
 unfold atS
 rw [ht, hi]
 by_cases c : q = p.q ∧ sl = p.s
 · have e : (⟨b, q, sl⟩ : Spt) = p := by
    obtain ⟨c1, c2⟩ := c
    have := A.tb
    cases p
    dsimp only at c1 c2 this
    rw [c1, c2, this]
   rw [e, (A.at S).1, A.rf, if_pos ⟨rfl, A.hit⟩, if_pos c]
 · rw [if_neg c, if_neg]
   rintro ⟨-, h2⟩
   have g : Stand1 b s.it T k ⟨b, q, sl⟩ (T ⟨b, q, sl⟩).2 := ⟨hok, rfl, rfl, h2⟩
   have := S.one _ _ _ _ _ g A
   exact c ⟨congrArg Spt.q this, congrArg Spt.s this⟩
theorem atP_o (S : Sw b s T) (A : Stand1 b s.it T k p r) (q : Int) (q0 : 0 ≤ q) (q1 : q < fnvSize b) : atP k s (b, q) 4 = if q = p.q then [r] else [] := by
 have e : atP k s (b, q) 4 = atS k s b q 0 ++ (atS k s b q 1 ++ (atS k s b q 2 ++ (atS k s b q 3 ++ []))) := rfl
 rw [e, atS_o S A q 0 q0 q1 (by decide) (by decide), atS_o S A q 1 q0 q1 (by decide) (by decide), atS_o S A q 2 q0 q1 (by decide) (by decide), atS_o S A q 3 q0 q1 (by decide) (by decide)]
 by_cases c : q = p.q
 · have h0 := A.ok.s0
   have h1 := A.ok.s1
   rw [if_pos c]
   have hs : p.s = 0 ∨ p.s = 1 ∨ p.s = 2 ∨ p.s = 3 := by omega
   rcases hs with e | e | e | e <;> simp [c, e]
 · rw [if_neg c, if_neg (fun e => c e.1), if_neg (fun e => c e.1), if_neg (fun e => c e.1), if_neg (fun e => c e.1)]
   rfl
theorem atL_o (S : Sw b s T) (A : Stand1 b s.it T k p r) : atL k s = [r] := by
 have hb0 := S.b0
 have hb1 := S.b1
 have hk := kyH_bd k
 have hbk := fnvBucket_bd (h := kyH k) hb0 (by omega : b ≤ 12)
 have hpq := (A.at S).2
 rw [plPair_in hb0 (by omega)] at hpq
 have hpl : ∀ q ∈ plPlaces (kyH k) b, 0 ≤ q.2 ∧ q.2 < fnvSize q.1 := fun q hq => (plPlaces_bd hk.1 hk.2 hq).2.2
 have e : plPlaces (kyH k) b = plAdd (plAdd [] (b, fnvBucket (kyH k) b)) (b, fnvOther (fnvBucket (kyH k) b) (fnvTag (kyH k)) b) := by
  unfold plPlaces plOnce
  rw [plNow_one hb0 (by omega), plOld_one hb0 (by omega), plPair_out (b := 0) (by omega), List.append_nil, plPair_in hb0 (by omega)]
  rfl
 unfold atL
 rw [S.wd]
 have hq : p.q = fnvBucket (kyH k) b ∨ p.q = fnvOther (fnvBucket (kyH k) b) (fnvTag (kyH k)) b := by
  simp only [List.mem_cons, List.not_mem_nil, or_false, Prod.mk.injEq, true_and] at hpq
  exact hpq
 obtain ⟨bk, hbk'⟩ : ∃ x, x = fnvBucket (kyH k) b := ⟨_, rfl⟩
 obtain ⟨ot, hot⟩ : ∃ x, x = fnvOther bk (fnvTag (kyH k)) b := ⟨_, rfl⟩
 rw [← hbk', ← hot] at e hq
 by_cases ho : ot = bk
 · have e2 : plPlaces (kyH k) b = [(b, bk)] := by
    rw [e, ho]
    show (if (b, bk) ∈ [(b, bk)] then [(b, bk)] else _) = _
    rw [if_pos (List.mem_cons_self ..)]
   have hb := hpl (b, bk) (by rw [e2]; exact List.mem_cons_self ..)
   rw [e2, List.flatMap_cons, List.flatMap_nil, List.append_nil, atP_o S A bk hb.1 hb.2, if_pos]
   rcases hq with h | h
   · exact h.symm
   · rw [h, ho]
 · have e2 : plPlaces (kyH k) b = [(b, bk), (b, ot)] := by
    rw [e]
    show (if (b, ot) ∈ [(b, bk)] then [(b, bk)] else [(b, bk)] ++ [(b, ot)]) = _
    rw [if_neg]
    · rfl
    · intro h
      have h := List.mem_singleton.1 h
      exact ho (congrArg Prod.snd h)
   have hb := hpl (b, bk) (by rw [e2]; exact List.mem_cons_self ..)
   have hc := hpl (b, ot) (by rw [e2]; exact List.mem_cons_of_mem _ (List.mem_cons_self ..))
   rw [e2, List.flatMap_cons, List.flatMap_cons, List.flatMap_nil, List.append_nil, atP_o S A bk hb.1 hb.2, atP_o S A ot hc.1 hc.2]
   rcases hq with h | h
   · rw [if_pos h.symm, if_neg (fun x => ho (x.trans h)), List.append_nil]
   · rw [if_neg (fun x => ho (h.symm.trans x.symm)), if_pos h.symm]
     rfl
theorem atS_no (S : Sw b s T) (A : ∀ p r, ¬ Stand1 b s.it T k p r) (q sl : Int) (q0 : 0 ≤ q) (q1 : q < fnvSize b) (s0 : 0 ≤ sl) (s1 : sl ≤ 3) : atS k s b q sl = [] := by
 have hok : (⟨b, q, sl⟩ : Spt).ok := ⟨S.b0, by have := S.b1; dsimp only; omega, q0, q1, s0, s1⟩
 have ht : twTag (s.M (plTags b q)) sl = (T ⟨b, q, sl⟩).1 := S.rep.tg ⟨b, q, sl⟩ hok
 have hi : s.M (plItem b q sl) = (T ⟨b, q, sl⟩).2 := S.rep.it ⟨b, q, sl⟩ hok
 unfold atS
 rw [ht, hi, if_neg]
 rintro ⟨-, h2⟩
 exact A ⟨b, q, sl⟩ (T ⟨b, q, sl⟩).2 ⟨hok, rfl, rfl, h2⟩
theorem atP_no (S : Sw b s T) (A : ∀ p r, ¬ Stand1 b s.it T k p r) (q : Int) (q0 : 0 ≤ q) (q1 : q < fnvSize b) : atP k s (b, q) 4 = [] := by
 have e : atP k s (b, q) 4 = atS k s b q 0 ++ (atS k s b q 1 ++ (atS k s b q 2 ++ (atS k s b q 3 ++ []))) := rfl
 rw [e, atS_no S A q 0 q0 q1 (by decide) (by decide), atS_no S A q 1 q0 q1 (by decide) (by decide), atS_no S A q 2 q0 q1 (by decide) (by decide), atS_no S A q 3 q0 q1 (by decide) (by decide)]
 rfl
theorem atL_no (S : Sw b s T) (A : ∀ p r, ¬ Stand1 b s.it T k p r) : atL k s = [] := by
 have hb0 := S.b0
 have hb1 := S.b1
 have hk := kyH_bd k
 have hpl : ∀ q ∈ plPlaces (kyH k) b, 0 ≤ q.2 ∧ q.2 < fnvSize q.1 := fun q hq => (plPlaces_bd hk.1 hk.2 hq).2.2
 have e : plPlaces (kyH k) b = plAdd (plAdd [] (b, fnvBucket (kyH k) b)) (b, fnvOther (fnvBucket (kyH k) b) (fnvTag (kyH k)) b) := by
  unfold plPlaces plOnce
  rw [plNow_one hb0 (by omega), plOld_one hb0 (by omega), plPair_out (b := 0) (by omega), List.append_nil, plPair_in hb0 (by omega)]
  rfl
 unfold atL
 rw [S.wd]
 obtain ⟨bk, hbk'⟩ : ∃ x, x = fnvBucket (kyH k) b := ⟨_, rfl⟩
 obtain ⟨ot, hot⟩ : ∃ x, x = fnvOther bk (fnvTag (kyH k)) b := ⟨_, rfl⟩
 rw [← hbk', ← hot] at e
 have hfst : ∀ q ∈ plPlaces (kyH k) b, q.1 = b := fun q hq => by
  rw [e] at hq
  have hq : q ∈ (if (b, ot) ∈ [(b, bk)] then [(b, bk)] else [(b, bk)] ++ [(b, ot)]) := hq
  split at hq
  · rw [List.mem_singleton] at hq; rw [hq]
  · simp only [List.mem_append, List.mem_singleton] at hq
    rcases hq with rfl | rfl <;> rfl
 rw [List.flatMap_eq_nil_iff]
 rintro ⟨b', q⟩ hq
 have h1 := hfst _ hq
 have h2 := hpl _ hq
 dsimp only at h1
 subst h1
 exact atP_no S A q h2.1 h2.2
end
end
end Go.Proofs.YtifkfhnbkjkakaaGreatDoor
