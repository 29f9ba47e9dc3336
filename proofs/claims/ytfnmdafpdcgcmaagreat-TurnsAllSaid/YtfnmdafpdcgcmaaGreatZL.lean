/- A table that is filled, plain: each slot is empty, or has an item of a key whose place it is, under its tag; no item stands twice. Layer 23, plain: an Evict by itself, in a table that does not grow. Contracts that other seats of ours hold too (taken by sub.py). Layer 13: nestboxlaw13.Slot. Layer 13: Lay: an item is laid at a slot of one of its key's places, if that slot is free. Layer 23, plain: hands one behind the other, in a table whose items nobody marked. -/
import Derived.Test.YtfnmdafpdcgcmaaGreatZH
import Derived.Test.YtfnmdafpdcgcmaaGreatZ1
import Derived.Deep.RegionWith
import Derived.Laws.AppendOwnNone
import Derived.BigQuiet
import Derived.Deep.QuietTactic
namespace Go.Proofs.YtfnmdafpdcgcmaaGreat
set_option linter.unusedSimpArgs false
section
set_option linter.unusedVariables false
open Go.RowKit
theorem twTag_with {w s t u : Int} (w0 : 0 ≤ w) (s0 : 0 ≤ s) (s1 : s ≤ 3) (t0 : 0 ≤ t) (t1 : t ≤ 255) (u0 : 0 ≤ u) (u1 : u ≤ 3) : twTag (twWith w s t) u = if u = s then t else twTag w u := by
 have hw : twWith w s t = w - twTag w s * twUnit s + t * twUnit s := by unfold twWith; rw [if_pos ⟨s0, s1, t0, t1⟩]
 rw [hw]
 have cs : s = 0 ∨ s = 1 ∨ s = 2 ∨ s = 3 := by omega
 have cu : u = 0 ∨ u = 1 ∨ u = 2 ∨ u = 3 := by omega
 rcases cs with rfl | rfl | rfl | rfl <;> rcases cu with rfl | rfl | rfl | rfl <;> simp only [twTag0, twTag1, twTag2, twTag3, twU0, twU1, twU2, twU3] <;> simp <;> omega
theorem twWith_32 {w s t : Int} (w0 : 0 ≤ w) (w1 : w < 4294967296) (s0 : 0 ≤ s) (s1 : s ≤ 3) (t0 : 0 ≤ t) (t1 : t ≤ 255) : 0 ≤ twWith w s t ∧ twWith w s t < 4294967296 := by
 have hw : twWith w s t = w - twTag w s * twUnit s + t * twUnit s := by unfold twWith; rw [if_pos ⟨s0, s1, t0, t1⟩]
 rw [hw]
 have cs : s = 0 ∨ s = 1 ∨ s = 2 ∨ s = 3 := by omega
 rcases cs with rfl | rfl | rfl | rfl <;> simp only [twTag0, twTag1, twTag2, twTag3, twU0, twU1, twU2, twU3] <;> omega
theorem Spt.tags_ne {p q : Spt} (hp : p.ok) (hq : q.ok) (hb : p.b = q.b) (h : p.q ≠ q.q) : p.tags ≠ q.tags := by
 have h1 := hp.tags.2.2
 have h2 := hq.tags.2.2
 rw [hb] at h1
 omega
theorem Spt.item_ne_tags {p q : Spt} (hp : p.ok) (hq : q.ok) (hb : p.b = q.b) : p.item ≠ q.tags := by
 have h1 := hp.tags.2.2
 have h2 := hq.tags.2.2
 have h3 := hp.item.2.2
 have := hp.s0
 have := hp.s1
 rw [hb] at h1
 omega
theorem Spt.item_inj {p q : Spt} (hp : p.ok) (hq : q.ok) (hb : p.b = q.b) (h : p.item = q.item) : p = q := by
 have h1 := hp.tags.2.2
 have h2 := hq.tags.2.2
 have h3 := hp.item.2.2
 have h4 := hq.item.2.2
 have := hp.s0
 have := hp.s1
 have := hq.s0
 have := hq.s1
 rw [hb] at h1
 obtain ⟨a, b, c⟩ := p
 obtain ⟨a', b', c'⟩ := q
 dsimp only at *
 subst hb
 have : b = b' := by omega
 have : c = c' := by omega
 subst this
 simp_all
def fulIt (k : ByteArray) : It := ⟨k, ⟨#[]⟩, 0, 0, -1, 0⟩
def keyH (k : ByteArray) : Int := fnvHash k.data.toList
def FilAt (b : Int) (ks : List ByteArray) (M : Int → Int) (p : Spt) : Prop :=
 (twTag (M p.tags) p.s = 0 ∧ M p.item = 0) ∨ ∃ (r : Nat) (k : ByteArray), ks[r]? = some k ∧ M p.item = (r : Int) + 1 ∧ twTag (M p.tags) p.s = fnvTag (keyH k) ∧ (b, p.q) ∈ plPair (keyH k) b
structure Fil (b : Int) (ks : List ByteArray) (M : Int → Int) : Prop where
 b0 : 1 ≤ b
 b1 : b ≤ 3
 wd : M 2 = b
 slot : ∀ p : Spt, p.ok → p.b = b → FilAt b ks M p
 word : ∀ p : Spt, p.ok → p.b = b → 0 ≤ M p.tags ∧ M p.tags < 4294967296
 inj : ∀ p q : Spt, p.ok → q.ok → p.b = b → q.b = b → M p.item = M q.item → M p.item ≠ 0 → p = q
 oth : ∀ a, a ≠ 2 → (a < 4096 + 8 * fnvSize b ∨ 4096 + 16 * fnvSize b ≤ a) → M a = 0
theorem Fil.start {b : Int} (ks : List ByteArray) (b0 : 1 ≤ b) (b1 : b ≤ 3) : Fil b ks (aw0 b).M := by
 have hz : ∀ a, a ≠ 2 → (aw0 b).M a = 0 := fun a h => by unfold aw0; dsimp only; rw [upd_other _ h]
 refine ⟨b0, b1, ?_, fun p hp hb => .inl ⟨?_, hz _ (by have := hp.item; omega)⟩, fun p hp hb => ?_, fun p q hp hq h1 h2 h3 h4 => absurd (hz _ (by have := hp.item; omega)) h4, fun a h _ => hz a h⟩
 · unfold aw0; dsimp only; rw [upd_same, plWord0 b0 (by omega)]
 · rw [hz _ (by have := hp.tags; omega)]
   have := hp.s0
   have := hp.s1
   have cs : p.s = 0 ∨ p.s = 1 ∨ p.s = 2 ∨ p.s = 3 := by omega
   rcases cs with h | h | h | h <;> rw [h] <;> decide
 · rw [hz _ (by have := hp.tags; omega)]; decide
theorem fnvTag_key (k : ByteArray) : 1 ≤ fnvTag (keyH k) ∧ fnvTag (keyH k) ≤ 255 := fnvTag_bd _ (fnvHash_bd _).1 (fnvHash_bd _).2
def putM (M : Int → Int) (p : Spt) (tag ref : Int) : Int → Int := upd (upd M p.item ref) p.tags (twWith (M p.tags) p.s tag)
theorem putM_tags {M : Int → Int} {p : Spt} {tag ref : Int} : putM M p tag ref p.tags = twWith (M p.tags) p.s tag := by unfold putM; rw [upd_same]
theorem putM_item {M : Int → Int} {p : Spt} {tag ref : Int} (hp : p.ok) : putM M p tag ref p.item = ref := by
 unfold putM; rw [upd_other _ (Spt.item_ne_tags hp hp rfl), upd_same]
theorem putM_oth {M : Int → Int} {p : Spt} {tag ref : Int} {a : Int} (h1 : a ≠ p.tags) (h2 : a ≠ p.item) : putM M p tag ref a = M a := by unfold putM; rw [upd_other _ h1, upd_other _ h2]
theorem Fil.put {b : Int} {ks : List ByteArray} {M : Int → Int} (h : Fil b ks M) {p : Spt} (hp : p.ok) (hb : p.b = b) {r : Nat} {k : ByteArray} (hk : ks[r]? = some k) (hin : (b, p.q) ∈ plPair (keyH k) b)
 (hfr : twTag (M p.tags) p.s = 0) (hno : ∀ q : Spt, q.ok → q.b = b → M q.item ≠ (r : Int) + 1) : Fil b ks (putM M p (fnvTag (keyH k)) ((r : Int) + 1)) := by
 have ht := fnvTag_key k
 have hpt := hp.tags
 have hpi := hp.item
 have hq1 := hp.q1
 have hq0 := hp.q0
 have hs0 := hp.s0
 have hs1 := hp.s1
 rw [hb] at hq1
 rw [hb] at hpt
 have hw := h.word p hp hb
 have key : ∀ q : Spt, q.ok → q.b = b → q ≠ p → twTag (putM M p (fnvTag (keyH k)) ((r : Int) + 1) q.tags) q.s = twTag (M q.tags) q.s ∧ putM M p (fnvTag (keyH k)) ((r : Int) + 1) q.item = M q.item := by
  intro q hq hqb hne
  refine ⟨?_, putM_oth (Spt.item_ne_tags hq hp (by rw [hqb, hb])) fun e => hne (Spt.item_inj hq hp (by rw [hqb, hb]) e)⟩
  by_cases e : q.q = p.q
  · have et : q.tags = p.tags := by unfold Spt.tags; rw [e, hqb, hb]
    rw [et, putM_tags, twTag_with hw.1 hs0 hs1 (by omega) ht.2 hq.s0 hq.s1, if_neg]
    intro es
    apply hne
    obtain ⟨x, y, z⟩ := q
    obtain ⟨x', y', z'⟩ := p
    dsimp only at *
    simp_all
  · rw [putM_oth (Spt.tags_ne hq hp (by rw [hqb, hb]) e) (fun x => Spt.item_ne_tags hp hq (by rw [hqb, hb]) x.symm)]
 refine ⟨h.b0, h.b1, ?_, fun q hq hqb => ?_, fun q hq hqb => ?_, fun q q' hq hq' hqb hqb' => ?_, fun a ha h2 => ?_⟩
 · rw [putM_oth (by omega) (by omega)]; exact h.wd
 · by_cases e : q = p
   · subst e
     refine .inr ⟨r, k, hk, putM_item hq, ?_, hin⟩
     rw [putM_tags, twTag_with hw.1 hs0 hs1 (by omega) ht.2 hs0 hs1, if_pos rfl]
   · obtain ⟨k1, k2⟩ := key q hq hqb e
     rcases h.slot q hq hqb with g | ⟨r', k', g1, g2, g3, g4⟩
     · exact .inl ⟨by rw [k1]; exact g.1, by rw [k2]; exact g.2⟩
     · exact .inr ⟨r', k', g1, by rw [k2]; exact g2, by rw [k1]; exact g3, g4⟩
 · by_cases e : q.tags = p.tags
   · rw [e, putM_tags]; exact twWith_32 hw.1 hw.2 hs0 hs1 (by omega) ht.2
   · rw [putM_oth e (fun x => Spt.item_ne_tags hp hq (by rw [hqb, hb]) x.symm)]; exact h.word q hq hqb
 · by_cases e : q = p
   · by_cases e' : q' = p
     · intro _ _; rw [e, e']
     · rw [e, putM_item hp, (key q' hq' hqb' e').2]
       intro g _
       exact absurd g.symm (hno q' hq' hqb')
   · rw [(key q hq hqb e).2]
     by_cases e' : q' = p
     · rw [e', putM_item hp]
       intro g _
       exact absurd g (hno q hq hqb)
     · rw [(key q' hq' hqb' e').2]
       exact h.inj q q' hq hq' hqb hqb'
 · rw [putM_oth (by omega) (by omega)]; exact h.oth a ha h2
theorem put_run (p : Spt) (tag ref : Int) (s : AW) (hp : p.ok) : runN ptOver (fun z => putStep p tag ref z.1 z.2) 9 (s, ⟨0, 0⟩) = (3, ⟨putM s.M p tag ref, s.n + 3, ⟨2, p.tags, s.M p.tags, twWith (s.M p.tags) p.s tag⟩, s.tk, s.ho, s.it, s.nt⟩, ⟨3, s.M p.tags⟩) := by
 have e : upd s.M p.item ref p.tags = s.M p.tags := upd_other _ fun x => Spt.item_ne_tags hp hp rfl x.symm
 have h1 : putStep p tag ref s ⟨0, 0⟩ = (awStore p.item ref s, ⟨1, 0⟩) := by unfold putStep; rw [if_pos rfl]
 have h2 : putStep p tag ref (awStore p.item ref s) ⟨1, 0⟩ = (awLoad p.tags (awStore p.item ref s), ⟨2, s.M p.tags⟩) := by
  unfold putStep; rw [if_neg (by decide), if_pos rfl]; unfold awStore; dsimp only; rw [e]
 have h3 : putStep p tag ref (awLoad p.tags (awStore p.item ref s)) ⟨2, s.M p.tags⟩ = (awStore p.tags (twWith (s.M p.tags) p.s tag) (awLoad p.tags (awStore p.item ref s)), ⟨3, s.M p.tags⟩) := by
  unfold putStep; rw [if_neg (by dsimp only; omega), if_neg (by dsimp only; omega), if_pos rfl]
 rw [runN_on _ _ rfl, runN_on _ _ (by show ptOver (putStep p tag ref s ⟨0, 0⟩).2 = false; rw [h1]; rfl)]
 try dsimp only
 rw [h1]
 try dsimp only
 rw [h2]
 try dsimp only
 rw [runN_on _ _ rfl]
 try dsimp only
 rw [h3, runN_over _ _ rfl]
 unfold awStore awLoad putM
 try dsimp only
 rw [e]
 refine Prod.ext (by rfl) (Prod.ext ?_ rfl)
 show AW.mk _ _ _ _ _ _ _ = AW.mk _ _ _ _ _ _ _
 congr 1
 omega
end
section
set_option linter.unusedVariables false
open Go.RowKit
def Gos {Y : Type} (over : Y → Bool) (step : AW × Y → AW × Y) : Nat → AW × Y → AW × Y → Prop
 | 0, z, z' => z' = z
 | c + 1, z, z' => over z.2 = false ∧ Gos over step c (step z) z'
section
variable {Y : Type} {over : Y → Bool} {step : AW × Y → AW × Y}
theorem Gos.trans : ∀ {c d : Nat} {z z1 z2 : AW × Y}, Gos over step c z z1 → Gos over step d z1 z2 → Gos over step (c + d) z z2
 | 0, d, z, z1, z2, h, k => by rw [Nat.zero_add]; rw [show z1 = z from h] at k; exact k
 | c + 1, d, z, z1, z2, h, k => by rw [Nat.add_right_comm]; exact ⟨h.1, Gos.trans h.2 k⟩
theorem Gos.one {z z1 : AW × Y} (h : over z.2 = false) (e : step z = z1) : Gos over step 1 z z1 := ⟨h, e.symm⟩
theorem Gos.run : ∀ {c : Nat} {z z1 : AW × Y} {m : Nat}, Gos over step c z z1 → c ≤ m → runN over step m z = (c + (runN over step (m - c) z1).1, (runN over step (m - c) z1).2)
 | 0, z, z1, m, h, _ => by rw [show z1 = z from h, Nat.sub_zero, Nat.zero_add]
 | c + 1, z, z1, 0, h, hm => by omega
 | c + 1, z, z1, m + 1, h, hm => by
   rw [runN_on m z h.1, Gos.run h.2 (by omega), Nat.add_sub_add_right]
   dsimp only
   rw [Nat.add_right_comm]
theorem Gos.fin {c : Nat} {z z1 : AW × Y} {m : Nat} (h : Gos over step c z z1) (hm : c ≤ m) (ho : over z1.2 = true) : runN over step m z = (c, z1) := by
 rw [h.run hm, runN_over _ _ ho]; rfl
end
theorem ntAdd_fine {l : List Nt} {x : Nt} (k0 : 1 ≤ x.kind) (k1 : x.kind ≤ 9) (hl : l.length < 1048576) (hs : ∀ m ∈ l, m.step ≤ x.step) : ntAdd l x = l ++ [x] := by
 refine ntAdd_ok ?_
 have h1 : ntLow l x = false := by
  unfold ntLow
  cases h : l.getLast? with
  | none => rfl
  | some m =>
    have := hs m (List.mem_of_getLast? h)
    simp; omega
 unfold ntErr ntBad
 rw [h1, Bool.or_false, if_neg (by simp; omega), if_neg (by omega)]
theorem runN_n {Y : Type} {over : Y → Bool} {step : AW × Y → AW × Y} (hst : ∀ z, (step z).1.n ≤ z.1.n + 1 ∧ z.1.n ≤ (step z).1.n) (m : Nat) : ∀ z, z.1.n ≤ (runN over step m z).2.1.n ∧ (runN over step m z).2.1.n ≤ z.1.n + (runN over step m z).1 := by
 induction m with
 | zero => intro z; exact ⟨Int.le_refl _, by show z.1.n ≤ z.1.n + ((0 : Nat) : Int); omega⟩
 | succ m ih =>
   intro z
   by_cases h : over z.2 = true
   · rw [runN_over _ _ h]; exact ⟨Int.le_refl _, by show z.1.n ≤ z.1.n + ((0 : Nat) : Int); omega⟩
   · rw [runN_on _ _ (by simpa using h)]
     have h1 := ih (step z)
     have h2 := hst z
     dsimp only
     omega
end
section
set_option linter.unusedVariables false
open Go.RowKit
set_option maxRecDepth 100000
set_option maxHeartbeats 4000000
theorem c_once1 (p q : Int × Int) (c : Nat) (w : World) (h0 : w.cell? ⟨c, 0, none⟩ = some (.int .i64 p.1)) (h1 : w.cell? ⟨c, 1, none⟩ = some (.int .i64 p.2)) (hc : c < w.heap.size) :
 Calls Tryz.prog 80 #[.agg #[.int .i64 q.1, .int .i64 q.2], .pointer (some ⟨c, 0, none⟩)] w fun e w' => e = .returned (.bool (decide (q = p))) ∧ Below w.heap.size w w' := by
 go_enter Tryz.func80, Tryz.ntmps80
 go_wp2
 all_goals (go_ret; exact ⟨ret_bool (by simp [Prod.ext_iff, *]), (Below.refl _ _).alloc (Nat.le_refl _) _⟩)
theorem c_IndexFunc (l : List (Int × Int)) (p : Int × Int) (v : Value) (c : Nat) (w : World) (hv : Arr w v l.length 2 (rowOf plc l)) (h0 : w.cell? ⟨c, 0, none⟩ = some (.int .i64 p.1)) (h1 : w.cell? ⟨c, 1, none⟩ = some (.int .i64 p.2)) (hc : c < w.heap.size) :
 Calls Tryz.prog 86 #[v, .func (.func 80) #[] #[.pointer (some ⟨c, 0, none⟩)]] w fun e w' => (∃ i : Int, e = .returned (.int .i64 i) ∧ decide (0 ≤ i) = decide (p ∈ l)) ∧ Below w.heap.size w w' := by
 by_cases hn : 0 < l.length
 · obtain ⟨b, o, cp, rfl, hcp, hm, hb, hx⟩ := hv.open hn (by omega)
   have hcells := plc_cells hx
   clear hx hv
   have hlen : l.length ≤ 9223372036854775807 := by unfold maxLen at hm; omega
   go_enter Tryz.func86, Tryz.ntmps86
   go_wp2
   go_loopw [5, 8] (fun z i wr => ∃ k : Nat, k ≤ l.length ∧ i = .int .i64 k ∧ (∀ j, (hj : j < l.length) → j < k → l[j] ≠ p) ∧ Below w.heap.size w wr)
    (fun _ i _ => l.length - (intOf i).toNat)
   case atStart => exact ⟨0, Nat.zero_le _, rfl, fun j _ hj => absurd hj (by omega), Below.refl _ _⟩
   case round =>
    obtain ⟨k, hk, rfl, hno, hbel⟩ := hrel
    by_cases hk2 : k < l.length
    · obtain ⟨q, hq⟩ : ∃ q, q = l[k] := ⟨_, rfl⟩
      have q0 := (hbel.cell (p := ⟨b, o + k * 2, none⟩) hb).trans (hcells k hk2).1
      have q1 := (hbel.cell (p := ⟨b, o + k * 2 + 1, none⟩) hb).trans (hcells k hk2).2
      rw [← hq] at q0 q1
      have Hq := Lib.hid hq
      have Hno := Lib.hid hno
      have g0 := (hbel.cell (p := ⟨c, 0, none⟩) hc).trans h0
      have g1 := (hbel.cell (p := ⟨c, 1, none⟩) hc).trans h1
      have gc := Nat.lt_of_lt_of_le hc hbel.size
      clear hcells h0 h1 hq hno
      go_wp2_with (go_at_call 80; refine (c_once1 p q _ _ g0 g1 gc).mono ?_; rintro e w1 ⟨rfl, hb1⟩)
      · have hqp : q = p := by assumption
        go_ret
        exact ⟨⟨k, rfl, by rw [decide_eq_decide]; exact ⟨fun _ => by rw [← hqp, Hq.out]; exact List.getElem_mem _, fun _ => by omega⟩⟩, hbel.trans (hb1.mono hbel.size)⟩
      · have hqp : ¬ q = p := by assumption
        go_roundw
        case rel => exact ⟨k + 1, by omega, by go_num, no_more Hq.out Hno.out hqp, hbel.trans (hb1.mono hbel.size)⟩
        case measure => simp [intOf]; omega
    · clear hcells
      go_wp2
      go_ret
      exact ⟨⟨-1, rfl, by rw [decide_eq_decide]; refine ⟨fun h => absurd h (by omega), fun h => ?_⟩; obtain ⟨j, hj, rfl⟩ := List.getElem_of_mem h; exact absurd rfl (hno j hj (by omega))⟩, hbel⟩
 · obtain ⟨ao, cp, rfl, hcp, hm⟩ := hv.shape
   have hl : l.length = 0 := by omega
   have hl' : l = [] := List.eq_nil_of_length_eq_zero hl
   subst hl'
   go_enter Tryz.func86, Tryz.ntmps86
   go_wp2
   refine wp_loop_rounds 1 ?_
   rw [rounds_succ]
   go_wp2
   go_ret
   exact ⟨⟨-1, rfl, by simp⟩, Below.refl _ _⟩
theorem c_ContainsFunc (l : List (Int × Int)) (p : Int × Int) (v : Value) (c : Nat) (w : World) (hv : Arr w v l.length 2 (rowOf plc l)) (h0 : w.cell? ⟨c, 0, none⟩ = some (.int .i64 p.1)) (h1 : w.cell? ⟨c, 1, none⟩ = some (.int .i64 p.2)) (hc : c < w.heap.size) :
 Calls Tryz.prog 79 #[v, .func (.func 80) #[] #[.pointer (some ⟨c, 0, none⟩)]] w fun e w' => e = .returned (.bool (decide (p ∈ l))) ∧ Below w.heap.size w w' := by
 go_enter Tryz.func79, Tryz.ntmps79
 go_wp2_with (go_at_call 86; refine (c_IndexFunc l p v c _ hv h0 h1 hc).mono ?_; rintro e w1 ⟨⟨i, rfl, hi⟩, hb1⟩)
 go_ret
 exact ⟨ret_bool (by first | exact hi | rfl), hb1⟩
theorem c_Clip (ao : Option Addr) (n c : Nat) (w : World) (hn : n ≤ c) (hc : c ≤ maxLen) (ha : ao = none → c = 0) :
 Calls Tryz.prog 81 #[.slice ao n c] w fun e w' => e = .returned (.slice ao n n) ∧ w = w' := by
 unfold maxLen at hc
 cases ao with
 | none =>
   obtain rfl := ha rfl
   obtain rfl : n = 0 := by omega
   go_enter Tryz.func81, Tryz.ntmps81
   go_wp2
   go_ret
   exact ⟨rfl, rfl⟩
 | some a =>
   go_enter Tryz.func81, Tryz.ntmps81
   go_wp2
   go_ret
   exact ⟨rfl, rfl⟩
theorem plOnce_take (l : List (Int × Int)) (k : Nat) (hk : k < l.length) : plOnce (l.take (k + 1)) = plAdd (plOnce (l.take k)) l[k] := by
 rw [List.take_succ_eq_append_getElem hk, plOnce_snoc]
def Fresh (w : World) (B : Nat) (v : Value) : Prop := ∀ a n c, v = .slice (some a) n c → B ≤ a.block ∧ ∃ o, a = ⟨a.block, o, none⟩ ∧ ∀ j, w.frozen? ⟨a.block, j, none⟩ = false
theorem c_once (l : List (Int × Int)) (v : Value) (w : World) (hv : Arr w v l.length 2 (rowOf plc l)) (hl : l.length ≤ 1000) :
 Calls Tryz.prog 66 #[v] w fun e w' => (∃ v', e = .returned v' ∧ Arr w' v' (plOnce l).length 2 (rowOf plc (plOnce l)) ∧ Fresh w' w.heap.size v' ∧ ∃ ao, v' = .slice ao (plOnce l).length (plOnce l).length) ∧ Below w.heap.size w w' := by
 obtain ⟨i0, hi, hz0, hz1, hz2⟩ := info_parts infoPl
 obtain ⟨ao, cp, rfl, hcp, hm⟩ := hv.shape
 go_enter Tryz.func66, Tryz.ntmps66
 go_wp2
 go_loopw [2, 7] (fun vo i wr => ∃ k : Nat, k ≤ l.length ∧ i = .int .i64 k ∧ wr.ownsRow w.heap.size 51 2 vo (plOnce (l.take k)).length (rowOf plc (plOnce (l.take k))) ∧ Below w.heap.size w wr)
  (fun _ i _ => l.length - (intOf i).toNat)
 case atStart => exact ⟨0, Nat.zero_le _, rfl, World.ownsRow_nil _ _ _ _, Below.refl _ _⟩
 case round =>
  obtain ⟨k, hk, rfl, hown, hbel⟩ := hrel
  by_cases hk2 : k < l.length
  · obtain ⟨b, o, c', he, hcp, hm, hb, hx⟩ := hv.open (by omega) (by omega)
    cases he
    have hcells := plc_cells hx k hk2
    obtain ⟨q, hq⟩ : ∃ q, q = l[k] := ⟨_, rfl⟩
    rw [← hq] at hcells
    have q0 := (hbel.cell (p := ⟨b, o + k * 2, none⟩) hb).trans hcells.1
    have q1 := (hbel.cell (p := ⟨b, o + k * 2 + 1, none⟩) hb).trans hcells.2
    have HD := Lib.hid (plOnce_take l k hk2)
    have hlen := plOnce_len (l.take k)
    rw [List.length_take] at hlen
    have hlen2 : (plOnce (l.take k)).length ≤ 1000 := by omega
    obtain ⟨D, hD⟩ : ∃ D, D = plOnce (l.take k) := ⟨_, rfl⟩
    rw [← hD] at hown hlen2
    have HD2 := Lib.hid hD
    have Hq := Lib.hid hq
    clear hx hv hcells hq hlen hD
    have hsz : w.heap.size ≤ wr.heap.size := hbel.size
    go_wp2_with (first | (go_at_call 79; refine (c_ContainsFunc D q u2 _ _ ((Arr.of_own hown).below (by repeat (first | (with_reducible exact Below.refl _ _) | (with_reducible refine below_alloc ?_ _) | (with_reducible refine below_setCell ?_ (by simp) _ _)))) (by simp) (by simp) (by simp)).mono ?_; rintro e w1 ⟨rfl, hb1⟩; have d0 : w1.cell? ⟨wr.heap.size, 0, none⟩ = some (.int .i64 q.1) := (hb1.cell (p := ⟨wr.heap.size, 0, none⟩) (by simp)).trans (by simp); have d1 : w1.cell? ⟨wr.heap.size, 1, none⟩ = some (.int .i64 q.2) := (hb1.cell (p := ⟨wr.heap.size, 1, none⟩) (by simp)).trans (by simp); have hown1 := ownsRow_below (hown.alloc _) hb1; have hbel1 : Below w.heap.size w w1 := (hbel.alloc hbel.size _).trans (hb1.mono (by simp; omega)); clear hb1) | (at_builtin; refine append_one _ rfl _ _ 106 rfl w.heap.size 51 i0 (.agg #[.int .i64 0, .int .i64 0]) 2 16 Tryz.underlying106 hi hz0 hz1 hz2 rfl (by decide) (by decide) _ _ _ rfl hown1 [.int .i64 q.1, .int .i64 q.2] _ rfl rfl (by simp [Value.oneCell']) (by omega) hbel1.size ?_; intro g cap w2 hown2 hgr2; have hbel2 := below_grown hbel1 hbel1.size hown1 hgr2; clear hgr2))
    · have hin : ¬ q ∈ D := by have h : (!decide (q ∈ D)) = true := by assumption
                               simpa using h
      have E : plOnce (l.take (k + 1)) = D ++ [q] := by rw [HD.out, ← HD2.out, ← Hq.out]; unfold plAdd; rw [if_neg hin]
      go_roundw
      case rel => exact ⟨k + 1, by omega, by go_num, by rw [E, rowOf_snoc, List.length_append]; exact hown2, hbel2⟩
      case measure => simp [intOf]; omega
    · have hin : q ∈ D := by have h : (!decide (q ∈ D)) = false := by assumption
                             simpa using h
      have E : plOnce (l.take (k + 1)) = D := by rw [HD.out, ← HD2.out, ← Hq.out]; unfold plAdd; rw [if_pos hin]
      go_roundw
      case rel => exact ⟨k + 1, by omega, by go_num, by rw [E]; exact hown1, hbel1⟩
      case measure => simp [intOf]; omega
  · obtain rfl : k = l.length := by omega
    rw [List.take_length] at hown
    clear hv
    have hA := Arr.of_own hown
    rcases hown.2 with ⟨rfl, h0⟩ | ⟨g, cap, cur, rfl, hbg, hgg, hnc, hcm, _⟩
    · clear hown
      go_wp2_with (go_at_call 81; refine (c_Clip none 0 0 _ (Nat.le_refl _) (by unfold maxLen; omega) (fun _ => rfl)).mono ?_; rintro e w1 ⟨rfl, rfl⟩)
      go_ret
      exact ⟨⟨.slice none 0 0, rfl, hA, (fun a n c h => by cases h), none, by rw [h0]⟩, hbel⟩
    · have hfz := hown.frozenAt
      have hA2 := hA.clip
      clear hown hgg hA
      go_wp2_with (go_at_call 81; refine (c_Clip _ _ _ _ hnc hcm (fun h => by cases h)).mono ?_; rintro e w1 ⟨rfl, rfl⟩)
      go_ret
      exact ⟨⟨_, rfl, hA2, fun a n c h => (by cases h; exact ⟨hbg, 0, rfl, hfz⟩), _, rfl⟩, hbel⟩
theorem c_pair_in (h b : Int) (w : World) (h0 : 0 ≤ h) (h1 : h < 18446744073709551616) (b0 : 1 ≤ b) (b1 : b ≤ 12) :
 Calls Tryz.prog 67 #[.int .u64 h, .int .i64 b] w fun e w' => e = .returned (.slice (some ⟨w.heap.size, 0, none⟩) 2 2) ∧ w' = w.alloc (.cells (rowOf plc (plPair h b)).toArray 51) := by
 have ht := fnvTag_bd h h0 h1
 have hbk := fnvBucket_bd (h := h) b0 b1
 have hsz := fnvSize_bd b
 have hot := fnvOther_bd (k := fnvBucket h b) (t := fnvTag h) (b := b) (by omega)
 rw [plPair_in b0 b1]
 go_enter Tryz.func67, Tryz.ntmps67
 go_wp2_with (first | (go_at_call 38; refine (c_fBucket _ _ _ h0 h1 (by omega) (by omega)).mono ?_; rintro e w' ⟨rfl, rfl⟩) | (go_at_call 37; refine (c_fTag _ _ h0 h1).mono ?_; rintro e w' ⟨rfl, rfl⟩) | (go_at_call 82; refine (c_fOther _ _ _ _ (by omega) (by omega) (by omega) (by omega) (by omega) (by omega)).mono ?_; rintro e w' ⟨rfl, rfl⟩))
 go_ret
 exact ⟨rfl, rfl⟩
theorem c_pair_out (h b : Int) (w : World) (h0 : 0 ≤ h) (h1 : h < 18446744073709551616) (hb : b = 0) :
 Calls Tryz.prog 67 #[.int .u64 h, .int .i64 b] w fun e w' => e = .returned (.slice none 0 0) ∧ w' = w := by
 have hbk := fnvBucket_out (h := h) (b := b) (by omega)
 go_enter Tryz.func67, Tryz.ntmps67
 go_wp2_with (first | (go_at_call 38; refine (c_fBucket _ _ _ h0 h1 (by omega) (by omega)).mono ?_; rintro e w' ⟨rfl, rfl⟩))
 go_ret
 exact ⟨rfl, rfl⟩
theorem c_once' (l : List (Int × Int)) (n : Nat) (hn : l.length = n) (v : Value) (w : World) (hv : Arr w v n 2 (rowOf plc l)) (hl : n ≤ 1000) :
 Calls Tryz.prog 66 #[v] w fun e w' => (∃ v', e = .returned v' ∧ Arr w' v' (plOnce l).length 2 (rowOf plc (plOnce l)) ∧ Fresh w' w.heap.size v' ∧ ∃ ao, v' = .slice ao (plOnce l).length (plOnce l).length) ∧ Below w.heap.size w w' := by
 subst hn
 exact c_once l v w hv hl
theorem plPair_len (h b : Int) (b0 : 1 ≤ b) (b1 : b ≤ 12) : (plPair h b).length = 2 := by rw [plPair_in b0 b1]; rfl
theorem plPair_own (w : World) (h b : Int) (b0 : 1 ≤ b) (b1 : b ≤ 12) (base : Nat) (hb : base ≤ w.heap.size) (e : TypeId) :
 (w.alloc (.cells (rowOf plc (plPair h b)).toArray e)).ownsRow base e 2 (.slice (some ⟨w.heap.size, 0, none⟩) 2 2) 2 (rowOf plc (plPair h b)) := by
 have := World.ownsRow_lit (base := base) (e := e) (size := 2) w (rowOf plc (plPair h b)).toArray 2 hb (by unfold maxLen; omega) (by simp [rowOf_len plc_len, plPair_len h b b0 b1])
 simpa using this
theorem c_Places (h x : Int) (w : World) (h0 : 0 ≤ h) (h1 : h < 18446744073709551616) (x0 : 0 ≤ x) (x1 : x < 18446744073709551616) :
 Calls Tryz.prog 46 #[.int .u64 h, .int .u64 x] w fun e w' => (∃ v', e = .returned v' ∧ Arr w' v' (plPlaces h x).length 2 (rowOf plc (plPlaces h x)) ∧ Fresh w' w.heap.size v' ∧ ∃ ao, v' = .slice ao (plPlaces h x).length (plPlaces h x).length) ∧ Below w.heap.size w w' := by
 obtain ⟨i0, hi, hz0, hz1, hz2⟩ := info_parts infoPl
 have ho := plOld_bd x
 have hl1 := plPair_len h (plOld x) ho.1 ho.2
 have hown := plPair_own w h (plOld x) ho.1 ho.2 w.heap.size (Nat.le_refl _) 51
 have hB : Below w.heap.size w (w.alloc (.cells (rowOf plc (plPair h (plOld x))).toArray 51)) := (Below.refl _ _).alloc (Nat.le_refl _) _
 rcases plNow_cases x with c | ⟨c, c12⟩
 · have e1 : plPlaces h x = plOnce (plPair h (plOld x)) := by unfold plPlaces; rw [plPair_out (b := plNow x) (by omega), List.append_nil]
   have hC := c_once' (plPair h (plOld x)) 2 hl1 _ _ (Arr.of_own hown) (by omega)
   rw [e1]
   clear e1
   go_enter Tryz.func46, Tryz.ntmps46
   go_wp2_with (first | (go_at_call 9; refine (c_As _ _ x0 x1).mono ?_; rintro e w' ⟨rfl, rfl⟩) | (go_at_call_of 67 (plOld x); refine (c_pair_in h (plOld x) _ h0 h1 (by omega) (by omega)).mono ?_; rintro e w' ⟨rfl, rfl⟩) | (go_at_call 67; refine (c_pair_out h 0 _ h0 h1 rfl).mono ?_; rintro e w' ⟨rfl, rfl⟩) | (at_builtin; refine wpList_append_own_none rfl _ _ 106 rfl w.heap.size 51 i0 2 Tryz.underlying106 hi _ _ _ rfl hown rfl ?_) | (go_at_call 66; refine hC.mono ?_; rintro e w2 ⟨⟨v, rfl, hv⟩, hb⟩))
   go_ret
   exact ⟨⟨v, rfl, hv.1, (fun a n c h => ⟨Nat.le_trans hB.size (hv.2.1 a n c h).1, (hv.2.1 a n c h).2⟩), hv.2.2⟩, hB.trans (hb.mono hB.size)⟩
 · have ho2 : 1 ≤ plNow x ∧ plNow x ≤ 12 := by omega
   have hl2 := plPair_len h (plNow x) ho2.1 ho2.2
   clear c c12
   go_enter Tryz.func46, Tryz.ntmps46
   go_wp2_with (first | (go_at_call 9; refine (c_As _ _ x0 x1).mono ?_; rintro e w' ⟨rfl, rfl⟩) | (go_at_call_of 67 (plNow x); refine (c_pair_in h (plNow x) _ h0 h1 (by omega) (by omega)).mono ?_; rintro e w' ⟨rfl, rfl⟩) | (go_at_call 67; refine (c_pair_in h (plOld x) _ h0 h1 (by omega) (by omega)).mono ?_; rintro e w' ⟨rfl, rfl⟩) | (at_builtin; refine wpList_append_own _ rfl _ _ 106 rfl w.heap.size 51 i0 (.agg #[.int .i64 0, .int .i64 0]) 2 16 Tryz.underlying106 hi hz0 hz1 hz2 rfl (by decide) _ _ _ rfl (hown.alloc _) ⟨w.heap.size + 1, 0, none⟩ 2 2 (rowOf plc (plPair h (plNow x))) rfl (by rw [rowOf_len plc_len, hl2]) (alloc_cells _ _ _ _ (by simp)) (plc_one _) (by unfold maxLen; omega) (by omega) (by simp; omega) ?_; intro v1 w1 hown1 hgr1 _; have hB1 := below_grown (hB.alloc hB.size _) (by simp; omega) (hown.alloc _) hgr1; have hC := c_once' (plPair h (plOld x) ++ plPair h (plNow x)) 4 (by rw [List.length_append, hl1, hl2]) v1 w1 (Arr.of_own (by rw [rowOf_append]; exact hown1)) (by omega); clear hgr1 hown1) | (go_at_call 66; refine hC.mono ?_; rintro e w2 ⟨⟨v, rfl, hv⟩, hb⟩))
   go_ret
   exact ⟨⟨v, rfl, hv.1, (fun a n c h => ⟨Nat.le_trans hB1.size (hv.2.1 a n c h).1, (hv.2.1 a n c h).2⟩), hv.2.2⟩, hB1.trans (hb.mono hB1.size)⟩
end
section
set_option linter.unusedVariables false
set_option maxHeartbeats 2000000
set_option maxRecDepth 100000
open Go.RowKit Go.Shelf
section
variable {w : World} {O : Om} {B : Wb} {f : Cf} {s : AW} {k : Nat}
theorem c_Slot (p : Spt) (hP : PW w O B f s) (hp : p.ok) (hhi : ∀ j, O j ≠ 0 → j < w.heap.size) :
 Calls Tryz.prog 17 #[.pointer (some ⟨B.p, 0, none⟩), .agg #[.int .i64 p.b, .int .i64 p.q, .int .i64 p.s]] w fun e w' => e = .returned (.tuple #[.int .i64 (twTag (s.M p.tags) p.s), .int .u64 (s.M p.item)]) ∧ Below w.heap.size w w' := by
 have hit := hp.item
 have htg := hp.tags
 have hq2 := hp.q2
 have hs0 := hp.s0
 have hs1 := hp.s1
 have HI := Lib.hid (fun W => c_Item p.b p.q p.s W (by have := hp.b0; omega) (by have := hp.b1; omega) (by have := hp.q0; omega) (by omega) (by omega) (by omega))
 have HT := Lib.hid (fun W => c_Tags p.b p.q W (by have := hp.b0; omega) (by have := hp.b1; omega) (by have := hp.q0; omega) (by omega))
 have HPI := Lib.hid (fun (W : World) (h : Below w.heap.size w W) => c_Peek p.item (hP.below hhi h).ce (by omega) (by omega))
 have HPT := Lib.hid (fun (W : World) (h : Below w.heap.size w W) => c_Peek p.tags (hP.below hhi h).ce (by omega) (by omega))
 have hbt := hP.bd p.tags
 have HTG := Lib.hid (fun W => c_TwTag (s.M p.tags) p.s W hbt.1 hbt.2 hs0 hs1)
 have hia2 : plItem p.b p.q p.s = p.item := rfl
 have hta2 : plTags p.b p.q = p.tags := rfl
 rw [hia2] at HI
 rw [hta2] at HT
 obtain ⟨ia, hia⟩ : ∃ ia, ia = p.item := ⟨_, rfl⟩
 obtain ⟨ta, hta⟩ : ∃ ta, ta = p.tags := ⟨_, rfl⟩
 rw [← hia] at HI HPI
 rw [← hta] at HT HPT HTG
 rw [← hia, ← hta]
 obtain ⟨b, hb⟩ : ∃ z, z = p.b := ⟨_, rfl⟩
 obtain ⟨q, hq⟩ : ∃ z, z = p.q := ⟨_, rfl⟩
 obtain ⟨sl, hs⟩ : ∃ z, z = p.s := ⟨_, rfl⟩
 rw [← hb, ← hq, ← hs] at HI
 rw [← hb, ← hq] at HT
 rw [← hs] at HTG
 rw [← hb, ← hq, ← hs]
 have p0 := hP.wo.c0
 have pl := hP.wo.lt
 obtain ⟨M, hM⟩ : ∃ M, M = s.M := ⟨_, rfl⟩
 rw [← hM] at HPT HTG HPI ⊢
 obtain ⟨tt, htt⟩ : ∃ z, z = twTag (M ta) sl := ⟨_, rfl⟩
 rw [← htt] at HTG ⊢
 clear hP hhi hp hit htg hq2 hs0 hs1 hbt hia2 hta2 hia hta hb hq hs hM htt
 go_enter Tryz.func17, Tryz.ntmps17
 go_wp2_with fail
 obtain ⟨W, hW⟩ : ∃ W, W = w.alloc (.cells #[.int .i64 b, .int .i64 q, .int .i64 sl] 56) := ⟨_, rfl⟩
 have hB : Below w.heap.size w W := by rw [hW]; exact (Below.refl _ _).alloc (Nat.le_refl _) _
 have y0 : W.cell? ⟨w.heap.size, 0, none⟩ = some (.int .i64 b) := by rw [hW]; simp
 have y1 : W.cell? ⟨w.heap.size, 1, none⟩ = some (.int .i64 q) := by rw [hW]; simp
 have y2 : W.cell? ⟨w.heap.size, 2, none⟩ = some (.int .i64 sl) := by rw [hW]; simp
 have hl : w.heap.size < W.heap.size := by rw [hW]; simp
 have p1 := (hB.cell (p := ⟨B.p, 0, none⟩) pl).trans p0
 have pl1 : B.p < W.heap.size := Nat.lt_of_lt_of_le pl hB.size
 have HPX : Hid (∀ x, x = ta ∨ x = ia → ∀ e : Later W, Calls Tryz.prog 10 #[.pointer (some ⟨B.c, 0, none⟩), .int .u64 x] (via W e) fun e_1 w' => e_1 = .returned (.int .u64 (M x)) ∧ via W e = w') := Lib.hid (by
  rintro x (rfl | rfl) e
  · exact HPT.out (via W e) (hB.trans ((via_below W e).mono hB.size))
  · exact HPI.out (via W e) (hB.trans ((via_below W e).mono hB.size)))
 have HB := Lib.hid hB
 rw [← hW]
 clear hW hB p0 pl HPI HPT
 refine wp_region_via (by kernel_rfl) (by kernel_rfl) ?_
 repeat (go_big_quiet_step ((first
  | (go_at_call 25; exact viaB (HT.out _))
  | (go_at_call 48; exact viaB (HI.out _))
  | (go_at_call 47; exact viaB (HTG.out _))
  | (go_at_call 10; exact viaS (HPX.out _ (by first | exact .inl rfl | exact .inr rfl) _)))))
 refine wpQuiet_nil ?_
 rintro _ ⟨e, rfl⟩
 go_wp2_with fail
 exact bodyPost_ret (v := .tuple #[.int .i64 tt, .int .u64 (M ia)]) (by simp [results, Tryz.results17, go_sem]) rfl ⟨rfl, HB.out.trans ((via_below W e).mono HB.out.size)⟩
end
end
section
set_option linter.unusedVariables false
set_option maxHeartbeats 8000000
set_option maxRecDepth 100000
open Go.RowKit Go.Shelf
def LayPost (b : Int) (s : AW) (r : Nat) (key : ByteArray) (t : Bool) (s' : AW) : Prop :=
 (t = false → s' = s) ∧ (t = true → ∃ p : Spt, p.ok ∧ p.b = b ∧ (b, p.q) ∈ plPair (keyH key) b ∧ twTag (s.M p.tags) p.s = 0 ∧
   s' = ⟨putM s.M p (fnvTag (keyH key)) ((r : Int) + 1), s.n + 3, ⟨2, p.tags, s.M p.tags, twWith (s.M p.tags) p.s (fnvTag (keyH key))⟩, s.tk, s.ho, s.it, s.nt⟩)
theorem plOld_one {b : Int} (h0 : 1 ≤ b) (h1 : b ≤ 12) : plOld b = b := by unfold plOld; rw [if_pos (by omega)]; omega
theorem plNow_one {b : Int} (h0 : 1 ≤ b) (h1 : b ≤ 12) : plNow b = 0 := by unfold plNow; rw [plOld_one h0 h1, if_neg (by omega)]
theorem plPlaces_one {h b : Int} (h0 : 1 ≤ b) (h1 : b ≤ 12) (p : Int × Int) : p ∈ plPlaces h b ↔ p ∈ plPair h b := by
 unfold plPlaces
 rw [plNow_one h0 h1, plOld_one h0 h1, plOnce_mem, plPair_out (b := 0) (by omega), List.append_nil]
section
variable {w : World} {O : Om} {B : Wb} {f : Cf} {s : AW} {k : Nat}
theorem c_Lay {b : Int} {ks : List ByteArray} {key : ByteArray} (r : Nat) (pl sl : Int) (hP : PW w O B f s) (hF : Fil b ks s.M) (hit : s.it = ks.map fulIt) (hl : ks.length ≤ 40) (hr : ks[r]? = some key) (hz : key.size ≤ maxLen)
 (p0 : 0 ≤ pl) (p1 : pl ≤ 255) (s0 : 0 ≤ sl) (s1 : sl ≤ 255) (hk : 10 ≤ k) (hhi : ∀ j, O j ≠ 0 → j < w.heap.size) (n0 : 0 ≤ s.n) (n1 : s.n ≤ 1000000) (r1 : (r : Int) + 1 ≤ 40) :
 Calls Tryz.prog 39 #[.pointer (some ⟨B.p, 0, none⟩), .int .i64 ((r : Int) + 1), .int .u8 pl, .int .u8 sl] w fun e w' => ∃ t s', RP (SX k k) w O (.bool t) (fun W G => PW W G B f s') e w' ∧ LayPost b s r key t s' := by
 have hb0 := hF.b0
 have hb1 := hF.b1
 have q0 := hP.wo.c0
 have q1 := hP.wo.c1
 have hpl := hP.wo.lt
 have hi' : s.it[r]? = some (fulIt key) := by rw [hit, List.getElem?_map, hr]; rfl
 have hll : s.it.length ≤ 1000000 := by rw [hit, List.length_map]; omega
 have HA := Lib.hid (c_IAt_yes ((r : Int) + 1) r (fulIt key) hP.ar hll hi' rfl)
 have HH := Lib.hid (fun W => c_Hash key W hz)
 have hbd := fnvHash_bd key.data.toList
 have HTG := Lib.hid (fun W => c_fTag (fnvHash key.data.toList) W hbd.1 hbd.2)
 have htg := fnvTag_key key
 unfold keyH at htg
 have HPK := Lib.hid (fun (W : World) (h : Below w.heap.size w W) => c_Peek 2 (hP.below hhi h).ce (by decide) (by decide))
 rw [hF.wd] at HPK
 have HPL := Lib.hid (fun W => c_Places (fnvHash key.data.toList) b W hbd.1 hbd.2 (by omega) (by omega))
 have PP := Lib.hid hP
 have FF := Lib.hid hF
 have HHI := Lib.hid hhi
 have hmem : ∀ p ∈ plPlaces (fnvHash key.data.toList) b, p ∈ plPair (fnvHash key.data.toList) b := fun p hp => (plPlaces_one (by omega) (by omega) p).1 hp
 have hpp : ∀ p ∈ plPlaces (fnvHash key.data.toList) b, p.1 = b ∧ 0 ≤ p.2 ∧ p.2 < fnvSize b := fun p hp => by
  have h1 := plPlaces_bd hbd.1 hbd.2 hp
  have h2 := hmem p hp
  rw [plPair_in (by omega) (by omega)] at h2
  have : p.1 = b := by
   rcases List.mem_cons.1 h2 with h | h
   · rw [h]
   · rw [List.mem_singleton.1 h]
  rw [this] at h1
  exact ⟨this, h1.2.2⟩
 have hpos := plPlaces_pos (fnvHash key.data.toList) b
 have hle := plPlaces_le (fnvHash key.data.toList) b
 have hKH : keyH key = fnvHash key.data.toList := rfl
 rw [show LayPost b s r key = LayPost b s r key from rfl]
 obtain ⟨h, hh⟩ : ∃ h, h = fnvHash key.data.toList := ⟨_, rfl⟩
 rw [← hh] at HH HTG HPL hmem hpp hpos hle hKH hbd htg
 obtain ⟨L, hL⟩ : ∃ L, L = plPlaces h b := ⟨_, rfl⟩
 rw [← hL] at HPL hmem hpp hpos hle
 have HKH := Lib.hid hKH
 have HM := Lib.hid hmem
 have HPP := Lib.hid hpp
 have HBD := Lib.hid hbd
 have HTB := Lib.hid htg
 clear hP hF hhi hr hi' hll hh hL hmem hpp hKH hbd htg hit hz
 go_enter Tryz.func39, Tryz.ntmps39
 go_wp2_with fail
 refine HA.out.mono ?_
 rintro e w1 ⟨rfl, hb1'⟩
 unfold fulIt
 dsimp only
 go_upto_region 2 with fail
 obtain ⟨w2, hw2⟩ : ∃ W, W = w1.alloc (.cells #[.string key, .string ⟨#[]⟩, .int .u32 0, .int .u64 0, .int .i64 (-1), .int .i64 0] 83) := ⟨_, rfl⟩
 have hb2 : Below w.heap.size w w2 := by rw [hw2]; exact hb1'.alloc hb1'.size _
 have x0 : w2.cell? ⟨w1.heap.size, 0, none⟩ = some (.string key) := by rw [hw2]; simp
 rw [← hw2]
 obtain ⟨N, hN⟩ : ∃ N, N = w1.heap.size := ⟨_, rfl⟩
 rw [← hN] at x0 ⊢
 have B2 := Lib.hid hb2
 clear hw2 hN hb1' hb2 HA q1
 go_wp2_with fail
 refine (HH.out _).mono ?_
 rintro e w3 ⟨rfl, hw3⟩
 have hb3 : Below w.heap.size w w3 := by rw [← hw3]; exact B2.out.alloc B2.out.size _
 have B3 := Lib.hid hb3
 have q03 := (hb3.cell (p := ⟨B.p, 0, none⟩) hpl).trans q0
 clear hw3 hb3 B2 x0 q0
 go_wp2_with fail
 refine (HPK.out _ B3.out).mono ?_
 rintro e w' ⟨rfl, rfl⟩
 go_wp2_with fail
 refine (HPL.out _).mono ?_
 rintro e w4 ⟨⟨v, rfl, hA, -, ao, hv⟩, hb4⟩
 obtain ⟨A, o, cp, he, -, -, hlt, hx⟩ := hA.open (by omega) (by omega)
 rw [he] at hv ⊢
 have hb4' : Below w.heap.size w w4 := B3.out.trans (hb4.mono B3.out.size)
 obtain ⟨i, hi⟩ : ∃ i : Nat, (i : Int) = pl % (L.length : Int) := ⟨(pl % (L.length : Int)).toNat, Int.toNat_of_nonneg (Int.emod_nonneg _ (by omega))⟩
 have hiL : i < L.length := by have := Int.emod_lt_of_pos pl (show 0 < (L.length : Int) by omega); omega
 obtain ⟨x, hxe⟩ : ∃ x, x = L[i] := ⟨_, rfl⟩
 have hr : ∀ j, j < 2 → (rowOf plc L)[i * 2 + j]? = (plc x)[j]? := fun j hj => by rw [hxe]; exact rowOf_get plc_len L i j hiL hj
 have v0 : w4.cell? ⟨A, o + i * 2, none⟩ = some (.int .i64 x.1) := hx _ _ (hr 0 (by omega))
 have v1 : w4.cell? ⟨A, o + i * 2 + 1, none⟩ = some (.int .i64 x.2) := hx _ _ (hr 1 (by omega))
 have hxm := HPP.out x (by rw [hxe]; exact List.getElem_mem _)
 have hxp := HM.out x (by rw [hxe]; exact List.getElem_mem _)
 have B4 := Lib.hid hb4'
 have XE := Lib.hid hxe
 have XM := Lib.hid hxm
 have XP := Lib.hid hxp
 have HX := Lib.hid hx
 have d4 : decide ((L.length : Int) = 0) = false := decide_eq_false (by omega)
 clear hA hb4 hb4' he hv hxe hxm hxp hx hr q03 B3 HPL HPK
 have hi2 : pl % (L.length : Int) = i := hi.symm
 clear hi
 go_upto_region 7 with fail
 obtain ⟨pb, pq⟩ := x
 obtain ⟨ps, hps⟩ : ∃ ps, ps = sl % 4 := ⟨_, rfl⟩
 rw [← hps]
 have hpok : (⟨pb, pq, ps⟩ : Spt).ok := ⟨by show 1 ≤ pb; have := XM.out.1; dsimp only at this; omega, by show pb ≤ 12; have := XM.out.1; dsimp only at this; omega, XM.out.2.1, by have := XM.out.2.2; have h2 := XM.out.1; dsimp only at this h2 ⊢; rw [h2]; exact this, by show 0 ≤ ps; omega, by show ps ≤ 3; omega⟩
 have E4 := Lib.hid (Ext.of_below (S := SX k k) HHI.out B4.out)
 obtain ⟨e5, t5⟩ := alloc_nbH (S := SX k k) E4.out.hi #[.int .i64 pb, .int .i64 pq, .int .i64 ps] 56 w4.heap.size rfl
 have hb5 := B4.out.trans (((Below.refl w4.heap.size w4).alloc (Nat.le_refl _) (.cells #[.int .i64 pb, .int .i64 pq, .int .i64 ps] 56)).mono B4.out.size)
 obtain ⟨w5, hw5⟩ : ∃ W, W = w4.alloc (.cells #[.int .i64 pb, .int .i64 pq, .int .i64 ps] 56) := ⟨_, rfl⟩
 rw [← hw5] at e5 t5 hb5 ⊢
 obtain ⟨N5, hN5⟩ : ∃ N, N = w4.heap.size := ⟨_, rfl⟩
 rw [← hN5] at t5 ⊢
 have P5 := Lib.hid (PP.out.below HHI.out hb5)
 have E5 := Lib.hid (E4.out.trans e5)
 have T5 := Lib.hid t5
 have POK := Lib.hid hpok
 have HSL := Lib.hid (c_Slot (p := ⟨pb, pq, ps⟩) P5.out hpok E5.out.hi)
 have y0 := t5.c 0 _ rfl
 have y1 := t5.c 1 _ rfl
 have y2 := t5.c 2 _ rfl
 have PS := Lib.hid hps
 clear hw5 hN5 e5 t5 hb5 hps hpok E4 v0 v1 hi2 d4 HX B4
 go_wp2_with fail
 refine HSL.out.mono ?_
 rintro e w6 ⟨rfl, hb6⟩
 have P6 := Lib.hid (P5.out.below E5.out.hi hb6)
 have E6 := Lib.hid (E5.out.trans (Ext.of_below (S := SX k k) E5.out.hi hb6))
 have T6 := Lib.hid (T5.out.below hb6)
 have z0 := T6.out.c 0 _ rfl
 have z1 := T6.out.c 1 _ rfl
 have z2 := T6.out.c 2 _ rfl
 clear hb6 y0 y1 y2 HSL P5 E5 T5
 obtain ⟨tt, htt⟩ : ∃ tt, tt = twTag (s.M (⟨pb, pq, ps⟩ : Spt).tags) ps := ⟨_, rfl⟩
 obtain ⟨ti, hti⟩ : ∃ ti, ti = s.M (⟨pb, pq, ps⟩ : Spt).item := ⟨_, rfl⟩
 have h9 : twTag (s.M (⟨pb, pq, ps⟩ : Spt).tags) (⟨pb, pq, ps⟩ : Spt).s = twTag (s.M (⟨pb, pq, ps⟩ : Spt).tags) ps := rfl
 rw [← htt, ← hti]
 have TT := Lib.hid htt
 clear h9 htt hti
 by_cases hz : tt = 0
 · subst hz
   have hbw : Below w6.heap.size w6 w6.drew := drew_below w6
   have P9 := Lib.hid (P6.out.below E6.out.hi hbw)
   have E9 := Lib.hid (E6.out.trans (Ext.of_below (S := SX k k) E6.out.hi hbw))
   have T9 := Lib.hid (T6.out.below hbw)
   have HNP := Lib.hid (c_NewPut (k := k) (p := ⟨pb, pq, ps⟩) (tg := fnvTag h) (rf := (r : Int) + 1) (w := w6.drew) (O := O) POK.out E9.out.hi HTB.out.1 HTB.out.2 (by omega) (by omega))
   have HR3 := Lib.hid (put_run ⟨pb, pq, ps⟩ (fnvTag h) ((r : Int) + 1) s POK.out)
   clear hbw
   go_upto_region 8 with fail
   go_region_held3 (fun w' => w'.cell? ⟨N5, 0, none⟩ = some (.int .i64 pb) ∧ w'.cell? ⟨N5, 1, none⟩ = some (.int .i64 pq) ∧ w'.cell? ⟨N5, 2, none⟩ = some (.int .i64 ps)) (go_keep)
    ((first
      | (go_at_call 37
         refine (HTG.out _).mono ?_
         rintro e w' ⟨rfl, rfl⟩)
      | (go_at_call 36
         refine HNP.out.mono ?_
         rintro e wa ⟨U, rfl, Oa, ea, ua⟩
         have PA := P9.out.ext ea (by omega) (by omega) (by omega) (by omega)
         have EA := Lib.hid (E9.out.trans (ea.mono (T := SX k k) fun t _ h => by rw [h]; exact SX.self))
         have TA := Lib.hid (T9.out.ext ea (by omega))
         have ta0 := TA.out.c 0 _ rfl
         have ta1 := TA.out.c 1 _ rfl
         have ta2 := TA.out.c 2 _ rfl
         have HR := c_PuRun (k := k) U ⟨pb, pq, ps⟩ (fnvTag h) ((r : Int) + 1) 9 PA ua POK.out hk EA.out.hi n0 (by omega) HTB.out.1 HTB.out.2 (by omega) (by omega)
         rw [HR3.out] at HR
         have HR := Lib.hid HR
         clear ea ua PA)
      | (go_at_call 19
         refine HR.out.mono ?_
         rintro e wb ⟨rfl, Ob', eb, PB⟩
         have EB := Lib.hid (EA.out.trans eb)
         have TB := Lib.hid (TA.out.ext eb (fun h => by unfold SX at h; omega))
         have PB := Lib.hid PB
         have tb0 := TB.out.c 0 _ rfl
         have tb1 := TB.out.c 1 _ rfl
         have tb2 := TB.out.c 2 _ rfl
         clear eb)))
   all_goals
    go_wp2_with fail
    go_ret
    refine ⟨true, _, ⟨rfl, Ob', EB.out, PB.out⟩, fun h => (by cases h), fun _ => ⟨⟨pb, pq, ps⟩, POK.out, XM.out.1, ?_, TT.out.symm, ?_⟩⟩
    · have h1 := XP.out
      have h2 : pb = b := XM.out.1
      rw [h2] at h1
      rw [HKH.out]
      exact h1
    · rw [HKH.out]
 · have dz : decide (tt = 0) = false := decide_eq_false hz
   have dz2 : (tt == 0) = false := by simpa using hz
   go_upto_region 8 with fail
   go_quiet (fail)
   go_wp2_with fail
   go_ret
   exact ⟨false, s, ⟨rfl, O, E6.out.trans (Ext.of_below E6.out.hi (below_drewN (Below.refl _ _) _)), P6.out.below E6.out.hi (below_drewN (Below.refl _ _) _)⟩, fun _ => rfl, fun h => by cases h⟩
end
end
section
set_option linter.unusedVariables false
open Go.RowKit
theorem plSpots_one {b : Int} (b0 : 1 ≤ b) (b1 : b ≤ 12) : plSpots b = 4 * fnvSize b := by
 have h1 : plOld b = b := by unfold plOld; rw [if_pos (by omega)]; omega
 have h2 : plNow b = 0 := by unfold plNow; rw [if_neg (by omega)]
 unfold plSpots
 rw [h1, h2]
 have : fnvSize 0 = 0 := by decide
 omega
end
end Go.Proofs.YtfnmdafpdcgcmaaGreat
