/- Layer 25, plain: what StoresAgain's world holds. -/
import Derived.Test.YthpedifjclofoaaGreatSB
import Derived.Test.YthpedifjclofoaaGreatSC
namespace Go.Proofs.YthpedifjclofoaaGreat
set_option linter.unusedSimpArgs false
set_option linter.unusedVariables false
theorem twFree_ge {w j : Int} (h0 : 0 ≤ j) (h1 : j ≤ 3) (h : twTag w j = 0) : 0 ≤ twFree w := by
  by_cases c : 0 ≤ twFree w
  · exact c
  · exact absurd h (twFree_neg (by omega) h0 h1)
section
variable {b : Int} {k : ByteArray} {s : AW} {p : Spt} {T : Tab} {n j : Nat} {x : It}
theorem ag_room (H : AgS b k s p T n x j) (q : Int) (q0 : 0 ≤ q) (q1 : q < fnvSize b) : 0 ≤ twFree (s.M (plTags b q)) := by
  obtain ⟨sl, hsl⟩ : ∃ sl : Int, sl = if p.s = 0 then 1 else 0 := ⟨_, rfl⟩
  have h0 : 0 ≤ sl ∧ sl ≤ 3 ∧ sl ≠ p.s := by
    rw [hsl]
    split
    · rename_i h; exact ⟨by decide, by decide, by rw [h]; decide⟩
    · rename_i h; exact ⟨by decide, by decide, fun e => h e.symm⟩
  have hok : (⟨b, q, sl⟩ : Spt).ok := ⟨H.sw.b0, by have := H.sw.b1; dsimp only; omega, q0, q1, h0.1, h0.2.1⟩
  have hT : (T ⟨b, q, sl⟩).1 = 0 := by
    rcases H.sw.sl ⟨b, q, sl⟩ hok rfl with e | ⟨l, r, g, -, -⟩
    · rw [e]
    · have hl := H.only l _ r g
      subst hl
      have := H.sw.one _ _ _ _ _ g H.std
      exact absurd (congrArg Spt.s this) h0.2.2
  have ht := H.sw.rep.tg ⟨b, q, sl⟩ hok
  rw [hT] at ht
  exact twFree_ge h0.1 h0.2.1 ht
theorem ag_sti (H : AgS b k s p T n x j) (hbd : Bd s.M) (c : Clm) {g : Int} (hg : 1 < g) (hn : n < 1000000) : StI c g b s stNew := by
  have hb := fnvBucket_bd (h := kyH c.key) H.sw.b0 (by have := H.sw.b1; omega)
  exact StI.new hbd (by rw [H.len]; exact hn) H.sw.b0 H.sw.b1 H.sw.wd ⟨by rw [H.cnt]; exact hg, ag_room H _ hb.1 hb.2⟩
theorem aw0_sti (hbd : Bd (aw0 b).M) (b0 : 1 ≤ b) (b1 : b ≤ 11) (c : Clm) {g : Int} (hg : 0 < g) : StI c g b (aw0 b) stNew := by
  have hb := fnvBucket_bd (h := kyH c.key) b0 (by omega : b ≤ 12)
  have hM : ∀ a, a ≠ 2 → (aw0 b).M a = 0 := fun a h => by show upd (fun _ => 0) 2 (plWord b 0) a = 0; rw [upd_other _ h]
  have htg : 4096 ≤ plTags b (fnvBucket (kyH c.key) b) := (show (⟨b, fnvBucket (kyH c.key) b, 0⟩ : Spt).ok from ⟨b0, by dsimp only; omega, hb.1, hb.2, by dsimp only; omega, by dsimp only; omega⟩).tags.1
  refine StI.new hbd (by show 0 < 1000000; decide) b0 b1 ?_ ⟨by rw [hM 6 (by decide)]; exact hg, by rw [hM _ (by omega)]; decide⟩
  show upd (fun _ => 0) 2 (plWord b 0) 2 = b
  rw [upd_same]
  unfold plWord
  omega
theorem StI.goodR {c : Clm} {g : Int} {t : Nat} {mo : Int} : ∀ {M : Nat} {s : AW} {z : Stm} {m : Nat} {s' : AW} {z' : Stm}, StI c g b s z → runN stOver (stStep t c mo) M (s, z) = (m, s', z') → stOver z' = true → goodN stOver (stStep t c mo) (fun y => stPre c g y.1 y.2) M (s, z) = true
  | 0, s, z, m, s', z', h, hr, ho => by
    have e : (0, (s, z)) = (m, s', z') := hr
    have e2 : z = z' := congrArg (fun x : Nat × (AW × Stm) => x.2.2) e
    unfold goodN
    rw [e2]
    exact ho
  | M + 1, s, z, m, s', z', h, hr, ho => by
    unfold goodN
    cases hov : stOver z with
    | true => rfl
    | false =>
      rw [runN_on M (s, z) hov] at hr
      have e2 : (runN stOver (stStep t c mo) M (stStep t c mo (s, z))).2 = (s', z') := congrArg (fun x : Nat × (AW × Stm) => x.2) hr
      have hg := StI.goodR (h.step t mo) (show runN stOver (stStep t c mo) M ((stStep t c mo (s, z)).1, (stStep t c mo (s, z)).2) = ((runN stOver (stStep t c mo) M (stStep t c mo (s, z))).1, s', z') from by
        show runN stOver (stStep t c mo) M (stStep t c mo (s, z)) = _
        rw [← e2]) ho
      rw [show stPre c g (s, z).1 (s, z).2 = true from h.pre]
      have hg : goodN stOver (stStep t c mo) (fun y => stPre c g y.1 y.2) M (stStep t c mo (s, z)) = true := hg
      rw [hg, Bool.true_and, Bool.or_true]
theorem atS_one (H : AgS b k s p T n x j) (q sl : Int) (q0 : 0 ≤ q) (q1 : q < fnvSize b) (s0 : 0 ≤ sl) (s1 : sl ≤ 3) : atS k s b q sl = if q = p.q ∧ sl = p.s then [(n : Int)] else [] := by
  have hok : (⟨b, q, sl⟩ : Spt).ok := ⟨H.sw.b0, by have := H.sw.b1; dsimp only; omega, q0, q1, s0, s1⟩
  have ht : twTag (s.M (plTags b q)) sl = (T ⟨b, q, sl⟩).1 := H.sw.rep.tg ⟨b, q, sl⟩ hok
  have hi : s.M (plItem b q sl) = (T ⟨b, q, sl⟩).2 := H.sw.rep.it ⟨b, q, sl⟩ hok
  unfold atS
  rw [ht, hi]
  by_cases c : q = p.q ∧ sl = p.s
  · have e : (⟨b, q, sl⟩ : Spt) = p := by
      obtain ⟨c1, c2⟩ := c
      have := H.std.tb
      cases p
      dsimp only at c1 c2 this
      rw [c1, c2, this]
    rw [e, (H.std.at H.sw).1, H.std.rf, if_pos ⟨rfl, H.std.hit⟩, if_pos c]
  · rw [if_neg c, if_neg]
    rintro ⟨-, h2⟩
    have g : Stand1 b s.it T k ⟨b, q, sl⟩ (T ⟨b, q, sl⟩).2 := ⟨hok, rfl, rfl, h2⟩
    have := H.sw.one _ _ _ _ _ g H.std
    exact c ⟨congrArg Spt.q this, congrArg Spt.s this⟩
theorem atP_one (H : AgS b k s p T n x j) (q : Int) (q0 : 0 ≤ q) (q1 : q < fnvSize b) : atP k s (b, q) 4 = if q = p.q then [(n : Int)] else [] := by
  have e : atP k s (b, q) 4 = atS k s b q 0 ++ (atS k s b q 1 ++ (atS k s b q 2 ++ (atS k s b q 3 ++ []))) := rfl
  rw [e, atS_one H q 0 q0 q1 (by decide) (by decide), atS_one H q 1 q0 q1 (by decide) (by decide), atS_one H q 2 q0 q1 (by decide) (by decide), atS_one H q 3 q0 q1 (by decide) (by decide)]
  by_cases c : q = p.q
  · have h0 := H.std.ok.s0
    have h1 := H.std.ok.s1
    rw [if_pos c]
    have hs : p.s = 0 ∨ p.s = 1 ∨ p.s = 2 ∨ p.s = 3 := by omega
    rcases hs with e | e | e | e <;> simp [c, e]
  · rw [if_neg c, if_neg (fun e => c e.1), if_neg (fun e => c e.1), if_neg (fun e => c e.1), if_neg (fun e => c e.1)]
    rfl
theorem atL_one (H : AgS b k s p T n x j) : atL k s = [(n : Int)] := by
  have hb0 := H.sw.b0
  have hb1 := H.sw.b1
  have hk := kyH_bd k
  have hbk := fnvBucket_bd (h := kyH k) hb0 (by omega : b ≤ 12)
  have hpq := (H.std.at H.sw).2
  rw [plPair_in hb0 (by omega)] at hpq
  have hpl : ∀ q ∈ plPlaces (kyH k) b, 0 ≤ q.2 ∧ q.2 < fnvSize q.1 := fun q hq => (plPlaces_bd hk.1 hk.2 hq).2.2
  have e : plPlaces (kyH k) b = plAdd (plAdd [] (b, fnvBucket (kyH k) b)) (b, fnvOther (fnvBucket (kyH k) b) (fnvTag (kyH k)) b) := by
    unfold plPlaces plOnce
    rw [plNow_one hb0 (by omega), plOld_one hb0 (by omega), plPair_out (b := 0) (by omega), List.append_nil, plPair_in hb0 (by omega)]
    rfl
  unfold atL
  rw [H.sw.wd]
  have hq : p.q = fnvBucket (kyH k) b ∨ p.q = fnvOther (fnvBucket (kyH k) b) (fnvTag (kyH k)) b := by
    simp only [List.mem_cons, List.not_mem_nil, or_false, Prod.mk.injEq, true_and] at hpq
    exact hpq
  obtain ⟨bk, hbk'⟩ : ∃ x, x = fnvBucket (kyH k) b := ⟨_, rfl⟩
  obtain ⟨ot, hot⟩ : ∃ x, x = fnvOther bk (fnvTag (kyH k)) b := ⟨_, rfl⟩
  rw [← hbk', ← hot] at e hq
  by_cases ho : ot = bk
  · have e2 : plPlaces (kyH k) b = [(b, bk)] := by
      rw [e, ho]
      show (if (b, bk) ∈ [(b, bk)] then [(b, bk)] else _) = _
      rw [if_pos (List.mem_cons_self ..)]
    have hb := hpl (b, bk) (by rw [e2]; exact List.mem_cons_self ..)
    rw [e2, List.flatMap_cons, List.flatMap_nil, List.append_nil, atP_one H bk hb.1 hb.2, if_pos]
    rcases hq with h | h
    · exact h.symm
    · rw [h, ho]
  · have e2 : plPlaces (kyH k) b = [(b, bk), (b, ot)] := by
      rw [e]
      show (if (b, ot) ∈ [(b, bk)] then [(b, bk)] else [(b, bk)] ++ [(b, ot)]) = _
      rw [if_neg]
      · rfl
      · intro h
        have h := List.mem_singleton.1 h
        exact ho (congrArg Prod.snd h)
    have hb := hpl (b, bk) (by rw [e2]; exact List.mem_cons_self ..)
    have hc := hpl (b, ot) (by rw [e2]; exact List.mem_cons_of_mem _ (List.mem_cons_self ..))
    rw [e2, List.flatMap_cons, List.flatMap_cons, List.flatMap_nil, List.append_nil, atP_one H bk hb.1 hb.2, atP_one H ot hc.1 hc.2]
    rcases hq with h | h
    · rw [if_pos h.symm, if_neg (fun x => ho (x.trans h)), List.append_nil]
    · rw [if_neg (fun x => ho (h.symm.trans x.symm)), if_pos h.symm]
      rfl
end
end Go.Proofs.YthpedifjclofoaaGreat
