/- Layer 25, plain: what a Store's steps want stays so, in a world of one table with room. Layer 26, plain: what a Change's steps want stays so, in a world of one table. -/
import Derived.Test.YtifkfhnbkjkakaaGreatDoorZrSG
import Derived.Test.YtifkfhnbkjkakaaGreatDoorZrSeY
namespace Go.Proofs.YtifkfhnbkjkakaaGreatDoor
set_option linter.unusedSimpArgs false
set_option linter.unusedVariables false
section
structure FdI (z : Fdm) : Prop where
 all : ∀ x ∈ z.left, flB x = true
 sh : z.left = [.tb] ∨ ∀ x ∈ z.left, notTb x = true
 w : flW z.left ≤ 24
 ref : z.ref = 0
theorem flW_len (l : List Fl) : l.length ≤ flW l := by
 induction l with
 | nil => exact Nat.zero_le _
 | cons a l ih =>
   rw [flW_cons, List.length_cons]
   have : 1 ≤ a.w := by
    cases a with
    | tb => exact (by decide : 1 ≤ 20)
    | tg _ _ => exact (by decide : 1 ≤ 6)
    | im _ _ _ => exact (by decide : 1 ≤ 1)
   omega
theorem FdI.b {z : Fdm} (h : FdI z) : fdB z = true := by
 unfold fdB
 have hl := flW_len z.left
 have hw := h.w
 have h1 : z.left.all flB = true := List.all_eq_true.2 h.all
 have h3 : decide (z.left.length ≤ 40) = true := decide_eq_true (by omega)
 have h4 : decide (z.ref = 0) = true := decide_eq_true h.ref
 rw [h1, h3, h4, Bool.true_and, Bool.true_or, Bool.and_true, Bool.and_true]
 rcases h.sh with e | e
 · rw [e]
 · split
   · rfl
   · exact List.all_eq_true.2 e
theorem fdI_new : FdI fdNew := ⟨fun x hx => by
 have : x = .tb := by simpa [fdNew] using hx
 rw [this]; rfl, .inl rfl, by decide, rfl⟩
theorem FdI.step {z : Fdm} (h : FdI z) (key : ByteArray) (s : AW) (hne : z.left ≠ []) :
 ((fdStep key (s, z)).2.left ≠ [] → FdI (fdStep key (s, z)).2) ∧ ((fdStep key (s, z)).2.ref = 0 ∨ (spB (fdStep key (s, z)).2.p = true ∧ 1 ≤ (fdStep key (s, z)).2.ref ∧ (fdStep key (s, z)).2.ref ≤ s.it.length)) ∧ (fdStep key (s, z)).1.M = s.M ∧ (fdStep key (s, z)).1.it = s.it := by
 obtain ⟨left, word, p, ref⟩ := z
 obtain ⟨ha, hs, hw, hr⟩ := h
 dsimp only at ha hs hw hr hne
 subst hr
 cases left with
 | nil => exact absurd rfl hne
 | cons a r =>
   have har : ∀ x ∈ r, flB x = true := fun x hx => ha x (List.mem_cons_of_mem _ hx)
   rw [flW_cons] at hw
   cases a with
   | tb =>
     have hr0 : r = [] := by
      rcases hs with e | e
      · exact (List.cons.inj e).2
      · exact absurd (e .tb (List.mem_cons_self ..)) (by decide)
     subst hr0
     refine ⟨fun _ => ⟨fun x hx => ?_, .inr fun x hx => ?_, ?_, rfl⟩, .inl rfl, rfl, rfl⟩
     · have hx : x ∈ [] ++ (plPlaces (kyH key) (s.M 2)).map fun p => Fl.tg p.1 p.2 := hx
       rw [List.nil_append] at hx
       obtain ⟨q, hq, rfl⟩ := List.mem_map.1 hx
       have := plPlaces_bd (kyH_bd key).1 (kyH_bd key).2 hq
       exact decide_eq_true ⟨⟨this.1, this.2.1⟩, this.2.2.1, this.2.2.2⟩
     · have hx : x ∈ [] ++ (plPlaces (kyH key) (s.M 2)).map fun p => Fl.tg p.1 p.2 := hx
       rw [List.nil_append] at hx
       obtain ⟨q, hq, rfl⟩ := List.mem_map.1 hx
       rfl
     · show flW ([] ++ (plPlaces (kyH key) (s.M 2)).map fun p => Fl.tg p.1 p.2) ≤ 24
       rw [List.nil_append]
       have hl := plPlaces_le (kyH key) (s.M 2)
       have : ∀ l : List (Int × Int), flW (l.map fun p => .tg p.1 p.2) = 6 * l.length := by
        intro l
        induction l with
        | nil => rfl
        | cons a l ih => rw [List.map_cons, flW_cons, ih, List.length_cons]; show 6 + _ = _; omega
       rw [this]
       omega
   | tg b q =>
     have hw : 6 + flW r ≤ 24 := hw
     have hnt : ∀ x ∈ r, notTb x = true := fun x hx => by
      rcases hs with e | e
      · exact absurd (List.cons.inj e).1 (by intro h; cases h)
      · exact e x (List.mem_cons_of_mem _ hx)
     have hb := of_decide_eq_true (p := (1 ≤ b ∧ b ≤ 12) ∧ 0 ≤ q ∧ q < fnvSize b) (ha _ (List.mem_cons_self ..))
     have hlen := twHas_len (s.M (plTags b q)) (fnvTag (kyH key))
     refine ⟨fun _ => ⟨fun x hx => ?_, .inr fun x hx => ?_, ?_, rfl⟩, .inl rfl, rfl, rfl⟩
     · have hx : x ∈ (twHas (s.M (plTags b q)) (fnvTag (kyH key))).map (.im b q) ++ r := hx
       rcases List.mem_append.1 hx with h | h
       · obtain ⟨u, hu, rfl⟩ := List.mem_map.1 h
         rw [twHas_mem] at hu
         exact decide_eq_true ⟨hb.1.1, hb.1.2, hb.2.1, hb.2.2, hu.1.1, hu.1.2⟩
       · exact har x h
     · have hx : x ∈ (twHas (s.M (plTags b q)) (fnvTag (kyH key))).map (.im b q) ++ r := hx
       rcases List.mem_append.1 hx with h | h
       · obtain ⟨u, hu, rfl⟩ := List.mem_map.1 h
         rfl
       · exact hnt x h
     · show flW ((twHas (s.M (plTags b q)) (fnvTag (kyH key))).map (.im b q) ++ r) ≤ 24
       rw [flW_app, flW_im]
       omega
   | im b q u =>
     have hw : 1 + flW r ≤ 24 := hw
     have hnt : ∀ x ∈ r, notTb x = true := fun x hx => by
      rcases hs with e | e
      · exact absurd (List.cons.inj e).1 (by intro h; cases h)
      · exact e x (List.mem_cons_of_mem _ hx)
     have hsp : spB ⟨b, q, u⟩ = true := ha _ (List.mem_cons_self ..)
     by_cases hh : fdHit s.it (s.M (plItem b q u)) key = true
     · have e : fdStep key (s, ⟨.im b q u :: r, word, p, 0⟩) = (awLoad (plItem b q u) s, ⟨[], word, ⟨b, q, u⟩, s.M (plItem b q u)⟩) := by
        unfold fdStep
        dsimp only
        rw [if_pos hh]
       rw [e]
       refine ⟨fun h => absurd rfl h, .inr ⟨hsp, fdHit_pos hh, ?_⟩, rfl, rfl⟩
       have h0 := fdHit_pos hh
       show s.M (plItem b q u) ≤ _
       unfold fdHit at hh
       simp only [Bool.and_eq_true, decide_eq_true_eq] at hh
       cases e2 : s.it[(s.M (plItem b q u) - 1).toNat]? with
       | none => rw [e2] at hh; exact absurd hh.2 Bool.false_ne_true
       | some x =>
         obtain ⟨hl, -⟩ := List.getElem?_eq_some_iff.1 e2
         omega
     · have e : fdStep key (s, ⟨.im b q u :: r, word, p, 0⟩) = (awLoad (plItem b q u) s, ⟨r, word, p, 0⟩) := by
        unfold fdStep
        dsimp only
        rw [if_neg hh]
       rw [e]
       exact ⟨fun _ => ⟨har, .inr hnt, by show flW r ≤ 24; omega, rfl⟩, .inl rfl, rfl, rfl⟩
def StRo (c : Clm) (g b : Int) (s : AW) : Prop := s.M 6 < g ∧ 0 ≤ twFree (s.M (plTags b (fnvBucket (kyH c.key) b)))
def StIL (c : Clm) (g b : Int) (s : AW) (z : Stm) : Nat → Prop
 | 0 => True
 | 1 => s.it.length < 1000000 ∧ StRo c g b s ∧ (z.tk.ln = 1 ∨ z.tk.ln = 2)
 | 2 => s.it.length < 1000000 ∧ StRo c g b s
 | 3 => s.it.length < 1000000 ∧ StRo c g b s ∧ FdI z.fd ∧ z.fd.left ≠ []
 | 4 => s.it.length < 1000000 ∧ z.ml = stVer z.p ∧ spB z.p = true ∧ 1 ≤ z.ref ∧ z.ref ≤ s.it.length
 | 5 => s.it.length < 1000000 ∧ spB z.p = true ∧ 1 ≤ z.ref ∧ z.ref ≤ s.it.length
 | 6 => s.it.length < 1000000 ∧ spB z.p = true ∧ 0 ≤ z.ep ∧ z.ep ≤ 18446744073709551615
 | 7 => spB z.p = true ∧ 0 ≤ z.ref ∧ z.ref ≤ 9223372036854775807
 | 8 => z.ml = stVer z.p ∧ spB z.p = true
 | 9 => True
 | 10 => True
 | 11 => s.it.length < 1000000 ∧ StRo c g b s
 | 12 => s.it.length < 1000000 ∧ StRo c g b s
 | 13 => s.it.length < 1000000 ∧ z.rm.ln = 1 ∧ z.rm.b = b ∧ z.rm.a = fnvBucket (kyH c.key) b ∧ 0 ≤ twFree (s.M (plTags b (fnvBucket (kyH c.key) b)))
 | 14 => s.it.length < 1000000 ∧ z.ml = stVer z.p ∧ spB z.p = true
 | 15 => s.it.length < 1000000 ∧ spB z.p = true
 | 16 => s.it.length < 1000000 ∧ spB z.p = true ∧ 0 ≤ z.ep ∧ z.ep ≤ 18446744073709551615
 | 17 => spB z.p = true ∧ (z.pu.ln = 0 ∨ z.pu.ln = 1 ∨ z.pu.ln = 2) ∧ (0 ≤ z.pu.w ∧ z.pu.w < 18446744073709551616) ∧ 1 ≤ z.ref ∧ z.ref ≤ 9223372036854775807
 | 18 => spB z.p = true
 | _ => True
structure StI (c : Clm) (g b : Int) (s : AW) (z : Stm) : Prop where
 bd : Bd s.M
 il : s.it.length ≤ 1000000
 b0 : 1 ≤ b
 b1 : b ≤ 11
 wd : s.M 2 = b
 l : StIL c g b s z z.ln
theorem mlB_ver {p : Spt} (h : spB p = true) : mlB (stVer p) = true := by
 have h : 64 ≤ plVersion p.b p.q ∧ plVersion p.b p.q < 128 := (spB_ok h).ver
 unfold stVer mlB
 exact decide_eq_true ⟨by omega, by omega, by decide⟩
theorem StI.pre {c : Clm} {g b : Int} {s : AW} {z : Stm} (h : StI c g b s z) : stPre c g s z = true := by
 obtain ⟨bd, il, b0, b1, wd, l⟩ := h
 obtain ⟨ln, tk, fd, ml, rm, pu, p, ref, id, an, nu, ep, pt⟩ := z
 dsimp only at l
 unfold stPre
 rw [decide_eq_true (by omega : s.it.length ≤ 1000000), Bool.true_and]
 dsimp only
 have hnow : plNow (s.M 2) = 0 := by rw [wd]; exact plNow_one b0 (by omega)
 match ln, l with
 | 0, l => rfl
 | 1, l => exact decide_eq_true l.2.2
 | 2, l => exact decide_eq_true hnow
 | 3, l =>
   have h1 := l.2.2.1.step c.key s l.2.2.2
   show (fdB fd && (!fd.left.isEmpty && (decide ((fdStep c.key (s, fd)).2.ref ≤ 0) || spB (fdStep c.key (s, fd)).2.p))) = true
   have h2 : fd.left.isEmpty = false := by
    cases e : fd.left with
    | nil => exact absurd e l.2.2.2
    | cons => rfl
   rw [show fdB fd = true from l.2.2.1.b, h2]
   rcases h1.2.1 with e | e
   · have e : (fdStep c.key (s, fd)).2.ref = 0 := e
     rw [e]; rfl
   · have e : spB (fdStep c.key (s, fd)).2.p = true := e.1
     rw [e, Bool.or_true]; rfl
 | 4, l => rw [show ml = stVer p from l.2.1]; exact mlB_ver l.2.2.1
 | 5, l =>
   show (decide (1 ≤ ref ∧ ref ≤ s.it.length) && spB p) = true
   rw [show spB p = true from l.2.1, decide_eq_true l.2.2]; rfl
 | 6, l => exact decide_eq_true l.2.2
 | 7, l =>
   show (spB p && decide (0 ≤ ref ∧ ref ≤ 9223372036854775807)) = true
   rw [show spB p = true from l.1, decide_eq_true l.2]; rfl
 | 8, l => rw [show ml = stVer p from l.1]; exact mlB_ver l.2
 | 9, l => rfl
 | 10, l => rfl
 | 11, l => exact decide_eq_true l.2.1
 | 12, l => exact decide_eq_true hnow
 | 13, l =>
   obtain ⟨-, e1, e2, e3, e4⟩ := l
   dsimp only at e1 e2 e3
   have hb := fnvBucket_bd (h := kyH c.key) b0 (by omega : b ≤ 12)
   exact decide_eq_true ⟨e1, by rw [e2]; exact ⟨b0, by omega⟩, by rw [e2, e3]; exact hb, by rw [e2, e3]; exact e4⟩
 | 14, l => rw [show ml = stVer p from l.2.1]; exact mlB_ver l.2.2
 | 15, l => rfl
 | 16, l =>
   show (decide (0 ≤ ep ∧ ep ≤ 18446744073709551615) && spB p) = true
   rw [show spB p = true from l.2.1, decide_eq_true l.2.2]; rfl
 | 17, l =>
   show (spB p && decide (pu.ln < 3 ∧ 0 ≤ pu.w ∧ pu.w < 18446744073709551616 ∧ 1 ≤ ref ∧ ref ≤ 9223372036854775807)) = true
   have h17 := l.2.1
   dsimp only at h17
   rw [show spB p = true from l.1, decide_eq_true ⟨by omega, l.2.2.1.1, l.2.2.1.2, l.2.2.2⟩]; rfl
 | 18, l => exact l
 | n + 19, l => rfl
section
variable {c : Clm} {g b : Int} {s s' : AW} {z z' : Stm}
theorem StI.q (h : StI c g b s z) (hM : s'.M = s.M) (hi : s'.it = s.it) (hl : StIL c g b s' z' z'.ln) : StI c g b s' z' :=
 ⟨by rw [hM]; exact h.bd, by rw [hi]; exact h.il, h.b0, h.b1, by rw [hM]; exact h.wd, hl⟩
theorem StI.u (h : StI c g b s z) {a v : Int} (hM : s'.M = upd s.M a v) (v0 : 0 ≤ v) (v1 : v < 18446744073709551616) (ha : a ≠ 2) (hi : s'.it.length ≤ 1000000) (hl : StIL c g b s' z' z'.ln) : StI c g b s' z' :=
 ⟨by rw [hM]; exact h.bd.upd a v0 v1, hi, h.b0, h.b1, by rw [hM, upd_other _ (fun e => ha e.symm)]; exact h.wd, hl⟩
theorem StRo.same (h : StRo c g b s) (hM : s'.M = s.M) : StRo c g b s' := by unfold StRo at h ⊢; rw [hM]; exact h
theorem StI.step (h : StI c g b s z) (t : Nat) (mo : Int) : StI c g b (stStep t c mo (s, z)).1 (stStep t c mo (s, z)).2 := by
 have h0 := h
 obtain ⟨bd, il, b0, b1, wd, l⟩ := h
 obtain ⟨ln, tk, fd, ml, rm, pu, p, ref, id, an, nu, ep, pt⟩ := z
 dsimp only at l
 have hk := kyH_bd c.key
 have hbk := fnvBucket_bd (h := kyH c.key) b0 (by omega : b ≤ 12)
 have htg : 4096 ≤ plTags b (fnvBucket (kyH c.key) b) := (show (⟨b, fnvBucket (kyH c.key) b, 0⟩ : Spt).ok from ⟨b0, by dsimp only; omega, hbk.1, hbk.2, by dsimp only; omega, by dsimp only; omega⟩).tags.1
 have mm : ∀ x : Int, 0 ≤ x % 18446744073709551616 ∧ x % 18446744073709551616 < 18446744073709551616 := fun x => ⟨Int.emod_nonneg _ (by decide), Int.emod_lt_of_pos _ (by decide)⟩
 match ln, l, h0 with
 | 0, l, h0 => exact h0
 | 1, l, h0 =>
   obtain ⟨l1, l2, l3⟩ := l
   rcases l3 with e | e
   · have e1 : stStep t c mo (s, ⟨1, tk, fd, ml, rm, pu, p, ref, id, an, nu, ep, pt⟩) = (awDraw t s, ⟨1, ⟨2, s.M 0, true⟩, fd, ml, rm, pu, p, ref, id, an, nu, ep, pt⟩) := by
      have : tkStep t s tk = (awDraw t s, ⟨2, s.M 0, true⟩) := by unfold tkStep; rw [if_pos e]
      show ((tkStep t s tk).1, _) = _
      rw [this]
      rfl
     rw [e1]
     refine h0.u (a := 0) (v := (s.M 0 + 1) % 18446744073709551616) rfl (mm _).1 (mm _).2 (by decide) il ⟨l1, ?_, .inr rfl⟩
     unfold StRo at l2 ⊢
     show upd s.M 0 ((s.M 0 + 1) % 18446744073709551616) 6 < g ∧ 0 ≤ twFree (upd s.M 0 ((s.M 0 + 1) % 18446744073709551616) (plTags b (fnvBucket (kyH c.key) b)))
     rw [upd_other _ (by decide), upd_other _ (by omega)]
     exact l2
   · by_cases hs : (s.M 1 == tk.tick) = true
     · have e1 : stStep t c mo (s, ⟨1, tk, fd, ml, rm, pu, p, ref, id, an, nu, ep, pt⟩) = (awServed t (awLoad 1 s), ⟨2, ⟨0, tk.tick, tk.dr⟩, fd, ml, rm, pu, p, ref, id, an, nu, ep, pt⟩) := by
        have : tkStep t s tk = (awServed t (awLoad 1 s), ⟨0, tk.tick, tk.dr⟩) := by
         have e : tk.ln = 2 := e
         unfold tkStep; rw [if_neg (by rw [e]; decide), if_pos e, if_pos hs]
        show ((tkStep t s tk).1, _) = _
        rw [this]
        rfl
       rw [e1]
       exact h0.q rfl rfl ⟨l1, l2.same rfl⟩
     · have e1 : stStep t c mo (s, ⟨1, tk, fd, ml, rm, pu, p, ref, id, an, nu, ep, pt⟩) = (awLoad 1 s, ⟨1, tk, fd, ml, rm, pu, p, ref, id, an, nu, ep, pt⟩) := by
        have e : tk.ln = 2 := e
        have : tkStep t s tk = (awLoad 1 s, tk) := by unfold tkStep; rw [if_neg (by rw [e]; decide), if_pos e, if_neg hs]
        show ((tkStep t s tk).1, ({ (⟨1, tk, fd, ml, rm, pu, p, ref, id, an, nu, ep, pt⟩ : Stm) with tk := (tkStep t s tk).2, ln := if (tkStep t s tk).2.ln = 0 then 2 else 1 } : Stm)) = _
        rw [this]
        dsimp only
        rw [if_neg (by rw [e]; decide)]
       rw [e1]
       exact h0.q rfl rfl ⟨l1, l2.same rfl, .inr e⟩
 | 2, l, h0 => exact h0.q rfl rfl ⟨l.1, l.2.same rfl, fdI_new, List.cons_ne_nil _ _⟩
 | 3, l, h0 =>
   obtain ⟨l1, l2, l3, l4⟩ := l
   obtain ⟨f1, f2, f3, f4⟩ := l3.step c.key s l4
   dsimp only at f1 f2 f3 f4
   rw [stStep_3 t c mo s _ rfl]
   dsimp only
   by_cases hf : (fdStep c.key (s, fd)).2.left = []
   · rw [if_pos hf]
     unfold stFound
     by_cases hr : 0 < (fdStep c.key (s, fd)).2.ref
     · rw [if_pos hr]
       rcases f2 with e | ⟨e1, e2, e3⟩
       · omega
       · exact h0.q f3 f4 ⟨by rw [f4]; exact l1, rfl, e1, e2, by rw [f4]; exact e3⟩
     · rw [if_neg hr]
       by_cases hv : c.verb = 5 ∨ c.verb = 6
       · refine h0.q f3 f4 ?_
         dsimp only
         rw [if_pos hv]
         trivial
       · refine h0.q f3 f4 ?_
         dsimp only
         rw [if_neg hv]
         exact ⟨by rw [f4]; exact l1, l2.same f3⟩
   · rw [if_neg hf]
     exact h0.q f3 f4 ⟨by rw [f4]; exact l1, l2.same f3, f1 hf, hf⟩
 | 4, l, h0 =>
   obtain ⟨l1, l2, l3, l4, l5⟩ := l
   obtain rfl : ml = stVer p := l2
   exact h0.u (a := plVersion p.b p.q) (v := (s.M (plVersion p.b p.q) + 1) % 18446744073709551616) rfl (mm _).1 (mm _).2 (by have h : 64 ≤ plVersion p.b p.q ∧ _ := (spB_ok l3).ver; omega) il ⟨l1, l3, l4, l5⟩
 | 5, l, h0 =>
   obtain ⟨l1, l3, l4, l5⟩ := l
   have e1 : stStep t c mo (s, ⟨5, tk, fd, ml, rm, pu, p, ref, id, an, nu, ep, pt⟩) = (awLoad 8 s, match stDecide c (itAt s.it ref) (s.M 8) with
    | some k => ⟨8, tk, fd, stVer p, rm, pu, p, ref, id, k, 0, s.M 8, s.n + 1⟩
    | none => ⟨6, tk, fd, ml, rm, pu, p, ref, id, an, nu, s.M 8, s.n + 1⟩) := rfl
   rw [e1]
   have hb8 := bd 8
   cases stDecide c (itAt s.it ref) (s.M 8) with
   | some k => exact h0.q rfl rfl ⟨rfl, l3⟩
   | none => exact h0.q rfl rfl ⟨l1, l3, hb8.1, by dsimp only; omega⟩
 | 6, l, h0 =>
   obtain ⟨l1, l3, l4, l5⟩ := l
   refine h0.u (a := 7) (v := (s.M 7 + 1) % 18446744073709551616) rfl (mm _).1 (mm _).2 (by decide) ?_ ⟨l3, ?_, ?_⟩
   · show (s.it ++ [_]).length ≤ 1000000
     rw [List.length_append, List.length_singleton]
     omega
   · show (0 : Int) ≤ s.it.length + 1
     omega
   · show (s.it.length : Int) + 1 ≤ _
     omega
 | 7, l, h0 => exact h0.u (a := p.item) (v := ref) rfl l.2.1 (by have := l.2.2; dsimp only at this; omega) (by have := (spB_ok l.1).item; have h : 4096 ≤ p.item ∧ _ := this; omega) il ⟨rfl, l.1⟩
 | 8, l, h0 =>
   obtain ⟨l2, l3⟩ := l
   obtain rfl : ml = stVer p := l2
   exact h0.u (a := plVersion p.b p.q) (v := (s.M (plVersion p.b p.q) + 1) % 18446744073709551616) rfl (mm _).1 (mm _).2 (by have h : 64 ≤ plVersion p.b p.q ∧ _ := (spB_ok l3).ver; omega) il trivial
 | 9, l, h0 => exact h0.u (a := 1) (v := (s.M 1 + 1) % 18446744073709551616) rfl (mm _).1 (mm _).2 (by decide) il trivial
 | 10, l, h0 => exact h0.q rfl rfl trivial
 | 11, l, h0 => exact h0.q rfl rfl ⟨l.1, l.2.same rfl⟩
 | 12, l, h0 =>
   refine h0.q rfl rfl ?_
   have e : rmNew (plOld (s.M 2)) (kyH c.key) = ⟨1, b, fnvBucket (kyH c.key) b, fnvOther (fnvBucket (kyH c.key) b) (fnvTag (kyH c.key)) b, wy0, ho0, sp20, false⟩ := by
    rw [wd, plOld_one b0 (by omega)]
    unfold rmNew
    rw [if_pos ⟨b0, by omega⟩]
   show s.it.length < 1000000 ∧ (rmNew (plOld (s.M 2)) (kyH c.key)).ln = 1 ∧ (rmNew (plOld (s.M 2)) (kyH c.key)).b = b ∧ (rmNew (plOld (s.M 2)) (kyH c.key)).a = _ ∧ _
   rw [e]
   exact ⟨l.1, rfl, rfl, rfl, l.2.2⟩
 | 13, l, h0 =>
   obtain ⟨l1, e1, e2, e3, e4⟩ := l
   obtain ⟨rl, rb, ra, rc, rw_, rh, rp, ri⟩ := rm
   dsimp only at e1 e2 e3
   subst e1 e2 e3
   have hs : rmStep mo (s, ⟨1, rb, fnvBucket (kyH c.key) rb, rc, rw_, rh, rp, ri⟩) = (awLoad (plTags rb (fnvBucket (kyH c.key) rb)) s, rmIn ⟨1, rb, fnvBucket (kyH c.key) rb, rc, rw_, rh, rp, ri⟩ ⟨rb, fnvBucket (kyH c.key) rb, twFree (s.M (plTags rb (fnvBucket (kyH c.key) rb)))⟩) := by
    unfold rmStep rmTg
    dsimp only
    rw [if_pos rfl, if_pos e4]
   have e : stStep t c mo (s, ⟨13, tk, fd, ml, ⟨1, rb, fnvBucket (kyH c.key) rb, rc, rw_, rh, rp, ri⟩, pu, p, ref, id, an, nu, ep, pt⟩) = (awLoad (plTags rb (fnvBucket (kyH c.key) rb)) s, ⟨14, tk, fd, stVer ⟨rb, fnvBucket (kyH c.key) rb, twFree (s.M (plTags rb (fnvBucket (kyH c.key) rb)))⟩, rmIn ⟨1, rb, fnvBucket (kyH c.key) rb, rc, rw_, rh, rp, ri⟩ ⟨rb, fnvBucket (kyH c.key) rb, twFree (s.M (plTags rb (fnvBucket (kyH c.key) rb)))⟩, pu, ⟨rb, fnvBucket (kyH c.key) rb, twFree (s.M (plTags rb (fnvBucket (kyH c.key) rb)))⟩, ref, id, an, nu, ep, pt⟩) := by
    show (let y := rmStep mo (s, ⟨1, rb, fnvBucket (kyH c.key) rb, rc, rw_, rh, rp, ri⟩); (y.1, if y.2.ln = 0 then (⟨14, tk, fd, stVer y.2.p, y.2, pu, y.2.p, ref, id, an, nu, ep, pt⟩ : Stm) else ⟨13, tk, fd, ml, y.2, pu, p, ref, id, an, nu, ep, pt⟩)) = _
    rw [hs]
    rfl
   rw [e]
   have hfb := twFree_bd (s.M (plTags rb (fnvBucket (kyH c.key) rb)))
   exact h0.q rfl rfl ⟨l1, rfl, decide_eq_true ⟨b0, by dsimp only; omega, hbk.1, hbk.2, e4, hfb.2⟩⟩
 | 14, l, h0 =>
   obtain ⟨l1, l2, l3⟩ := l
   obtain rfl : ml = stVer p := l2
   exact h0.u (a := plVersion p.b p.q) (v := (s.M (plVersion p.b p.q) + 1) % 18446744073709551616) rfl (mm _).1 (mm _).2 (by have h : 64 ≤ plVersion p.b p.q ∧ _ := (spB_ok l3).ver; omega) il ⟨l1, l3⟩
 | 15, l, h0 =>
   have hb8 := bd 8
   exact h0.q rfl rfl ⟨l.1, l.2, hb8.1, by show s.M 8 ≤ _; omega⟩
 | 16, l, h0 =>
   obtain ⟨l1, l3, l4, l5⟩ := l
   refine h0.u (a := 7) (v := (s.M 7 + 1) % 18446744073709551616) rfl (mm _).1 (mm _).2 (by decide) ?_ ⟨l3, .inl rfl, ⟨Int.le_refl _, by show (0 : Int) < 18446744073709551616; decide⟩, ?_, ?_⟩
   · show (s.it ++ [_]).length ≤ 1000000
     rw [List.length_append, List.length_singleton]
     omega
   · show (1 : Int) ≤ s.it.length + 1
     omega
   · show (s.it.length : Int) + 1 ≤ _
     omega
 | 17, l, h0 =>
   obtain ⟨l1, l2, l3, l4, l5⟩ := l
   obtain ⟨pl, pw⟩ := pu
   dsimp only at l2 l3 l4 l5
   have hp := spB_ok l1
   have hpi : 4096 ≤ p.item := hp.item.1
   have hpt : 4096 ≤ p.tags := hp.tags.1
   rcases l2 with rfl | rfl | rfl
   · exact h0.u (a := p.item) (v := ref) rfl (by omega) (by omega) (by omega) il ⟨l1, .inr (.inl rfl), l3, l4, l5⟩
   · exact h0.q rfl rfl ⟨l1, .inr (.inr rfl), bd _, l4, l5⟩
   · have hw := twWith_bd (s := p.s) (t := fnvTag (kyH c.key)) l3.1 l3.2
     exact h0.u (a := p.tags) (v := twWith pw p.s (fnvTag (kyH c.key))) rfl hw.1 hw.2 (by omega) il l1
 | 18, l, h0 => exact h0.u (a := 6) (v := (s.M 6 + 1) % 18446744073709551616) rfl (mm _).1 (mm _).2 (by decide) il ⟨rfl, l⟩
 | n + 19, l, h0 => exact h0
theorem StI.good {t : Nat} {mo : Int} : ∀ {n : Nat} {s : AW} {z : Stm} {s' : AW} {z' : Stm}, StI c g b s z → Gos stOver (stStep t c mo) n (s, z) (s', z') → stOver z' = true → goodN stOver (stStep t c mo) (fun y => stPre c g y.1 y.2) n (s, z) = true
 | 0, s, z, s', z', h, hg, ho => by
   have e : (s', z') = (s, z) := hg
   unfold goodN
   rw [← e]
   exact ho
 | n + 1, s, z, s', z', h, hg, ho => by
   obtain ⟨h1, h2⟩ := hg
   unfold goodN
   rw [show stPre c g (s, z).1 (s, z).2 = true from h.pre, StI.good (h.step t mo) h2 ho, Bool.true_and, Bool.or_true]
theorem StI.new (h : Bd s.M) (hi : s.it.length < 1000000) (b0 : 1 ≤ b) (b1 : b ≤ 11) (hw : s.M 2 = b) (hr : StRo c g b s) : StI c g b s stNew :=
 ⟨h, Nat.le_of_lt hi, b0, b1, hw, hi, hr, .inl rfl⟩
end
end
section
def chPre (c : Clm) (s : AW) (z : Chm) : Bool := decide (s.it.length ≤ 1000000) && match z.ln with
 | 1 => decide (z.tk.ln = 1 ∨ z.tk.ln = 2)
 | 2 => decide (plNow (s.M 2) = 0)
 | 3 => fdB z.fd && (!z.fd.left.isEmpty && ((decide ((fdStep c.key (s, z.fd)).2.ref = 0) || (spB (fdStep c.key (s, z.fd)).2.p && decide (1 ≤ (fdStep c.key (s, z.fd)).2.ref ∧ (fdStep c.key (s, z.fd)).2.ref ≤ 1000000)))))
 | 4 => mlB z.ml
 | 5 => decide (1 ≤ z.ref ∧ z.ref ≤ s.it.length) && (spB z.p && decide (s.it.length < 1000000))
 | 6 => spB z.p && decide (z.o.ln < 3 ∧ 0 ≤ z.o.w ∧ z.o.w < 18446744073709551616)
 | 7 => spB z.p
 | 8 => mlB z.ml
 | 11 => spB z.p && decide (0 ≤ z.ref ∧ z.ref ≤ 9223372036854775807)
 | 12 => decide (s.it.length < 1000000)
 | _ => true
def ChIL (s : AW) (z : Chm) : Nat → Prop
 | 0 => True
 | 1 => s.it.length < 1000000 ∧ (z.tk.ln = 1 ∨ z.tk.ln = 2)
 | 2 => s.it.length < 1000000
 | 3 => s.it.length < 1000000 ∧ FdI z.fd ∧ z.fd.left ≠ []
 | 4 => s.it.length < 1000000 ∧ z.ml = stVer z.p ∧ spB z.p = true ∧ 1 ≤ z.ref ∧ z.ref ≤ s.it.length
 | 5 => s.it.length < 1000000 ∧ spB z.p = true ∧ 1 ≤ z.ref ∧ z.ref ≤ s.it.length
 | 6 => spB z.p = true ∧ (z.o.ln = 0 ∨ z.o.ln = 1 ∨ z.o.ln = 2) ∧ (0 ≤ z.o.w ∧ z.o.w < 18446744073709551616)
 | 7 => spB z.p = true
 | 8 => z.ml = stVer z.p ∧ spB z.p = true
 | 9 => True
 | 10 => True
 | 11 => spB z.p = true ∧ 0 ≤ z.ref ∧ z.ref ≤ 9223372036854775807
 | 12 => s.it.length < 1000000 ∧ spB z.p = true
 | _ => True
structure ChI (c : Clm) (b : Int) (s : AW) (z : Chm) : Prop where
 bd : Bd s.M
 il : s.it.length ≤ 1000000
 b0 : 1 ≤ b
 b1 : b ≤ 11
 wd : s.M 2 = b
 l : ChIL s z z.ln
theorem ChI.pre {c : Clm} {b : Int} {s : AW} {z : Chm} (h : ChI c b s z) : chPre c s z = true := by
 obtain ⟨bd, il, b0, b1, wd, l⟩ := h
 obtain ⟨ln, tk, fd, ml, o, p, ref, r, an, nu, ep, pt, ka, kn⟩ := z
 dsimp only at l
 unfold chPre
 rw [decide_eq_true (by omega : s.it.length ≤ 1000000), Bool.true_and]
 dsimp only
 have hnow : plNow (s.M 2) = 0 := by rw [wd]; exact plNow_one b0 (by omega)
 match ln, l with
 | 0, l => rfl
 | 1, l => exact decide_eq_true l.2
 | 2, l => exact decide_eq_true hnow
 | 3, l =>
   have h1 := l.2.1.step c.key s l.2.2
   show (fdB fd && (!fd.left.isEmpty && ((decide ((fdStep c.key (s, fd)).2.ref = 0) || (spB (fdStep c.key (s, fd)).2.p && decide (1 ≤ (fdStep c.key (s, fd)).2.ref ∧ (fdStep c.key (s, fd)).2.ref ≤ 1000000)))))) = true
   have h2 : fd.left.isEmpty = false := by
    cases e : fd.left with
    | nil => exact absurd e l.2.2
    | cons => rfl
   rw [show fdB fd = true from l.2.1.b, h2]
   rcases h1.2.1 with e | ⟨e, e1, e2⟩
   · have e : (fdStep c.key (s, fd)).2.ref = 0 := e
     rw [e]; rfl
   · have e : spB (fdStep c.key (s, fd)).2.p = true := e
     have e1 : 1 ≤ (fdStep c.key (s, fd)).2.ref := e1
     have e2 : (fdStep c.key (s, fd)).2.ref ≤ s.it.length := e2
     rw [e, decide_eq_true (show 1 ≤ (fdStep c.key (s, fd)).2.ref ∧ (fdStep c.key (s, fd)).2.ref ≤ 1000000 by omega)]; simp only [Bool.true_and, Bool.and_true, Bool.or_true, Bool.not_false, Bool.and_self]
 | 4, l => rw [show ml = stVer p from l.2.1]; exact mlB_ver l.2.2.1
 | 5, l =>
   show (decide (1 ≤ ref ∧ ref ≤ s.it.length) && (spB p && decide (s.it.length < 1000000))) = true
   rw [show spB p = true from l.2.1, decide_eq_true l.2.2, decide_eq_true l.1]; rfl
 | 6, l =>
   show (spB p && decide (o.ln < 3 ∧ 0 ≤ o.w ∧ o.w < 18446744073709551616)) = true
   have h6 := l.2.1
   dsimp only at h6
   rw [show spB p = true from l.1, decide_eq_true ⟨by omega, l.2.2.1, l.2.2.2⟩]; rfl
 | 7, l => exact l
 | 8, l => rw [show ml = stVer p from l.1]; exact mlB_ver l.2
 | 9, l => rfl
 | 10, l => rfl
 | 11, l =>
   show (spB p && decide (0 ≤ ref ∧ ref ≤ 9223372036854775807)) = true
   rw [show spB p = true from l.1, decide_eq_true l.2]; rfl
 | 12, l => exact decide_eq_true l.1
 | n + 13, l => rfl
section
variable {c : Clm} {b : Int} {s s' : AW} {z z' : Chm}
theorem ChI.q (h : ChI c b s z) (hM : s'.M = s.M) (hi : s'.it = s.it) (hl : ChIL s' z' z'.ln) : ChI c b s' z' :=
 ⟨by rw [hM]; exact h.bd, by rw [hi]; exact h.il, h.b0, h.b1, by rw [hM]; exact h.wd, hl⟩
theorem ChI.u (h : ChI c b s z) {a v : Int} (hM : s'.M = upd s.M a v) (v0 : 0 ≤ v) (v1 : v < 18446744073709551616) (ha : a ≠ 2) (hi : s'.it.length ≤ 1000000) (hl : ChIL s' z' z'.ln) : ChI c b s' z' :=
 ⟨by rw [hM]; exact h.bd.upd a v0 v1, hi, h.b0, h.b1, by rw [hM, upd_other _ (fun e => ha e.symm)]; exact h.wd, hl⟩
theorem ChI.step (h : ChI c b s z) (t : Nat) : ChI c b (chStep t c (s, z)).1 (chStep t c (s, z)).2 := by
 have h0 := h
 obtain ⟨bd, il, b0, b1, wd, l⟩ := h
 obtain ⟨ln, tk, fd, ml, o, p, ref, r, an, nu, ep, pt, ka, kn⟩ := z
 dsimp only at l
 have mm : ∀ x : Int, 0 ≤ x % 18446744073709551616 ∧ x % 18446744073709551616 < 18446744073709551616 := fun x => ⟨Int.emod_nonneg _ (by decide), Int.emod_lt_of_pos _ (by decide)⟩
 match ln, l, h0 with
 | 0, l, h0 => exact h0
 | 1, l, h0 =>
   obtain ⟨l1, l3⟩ := l
   rcases l3 with e | e
   · have e1 : chStep t c (s, ⟨1, tk, fd, ml, o, p, ref, r, an, nu, ep, pt, ka, kn⟩) = (awDraw t s, ⟨1, ⟨2, s.M 0, true⟩, fd, ml, o, p, ref, r, an, nu, ep, pt, ka, kn⟩) := by
      have : tkStep t s tk = (awDraw t s, ⟨2, s.M 0, true⟩) := by unfold tkStep; rw [if_pos e]
      show ((tkStep t s tk).1, _) = _
      rw [this]
      rfl
     rw [e1]
     exact h0.u (a := 0) (v := (s.M 0 + 1) % 18446744073709551616) rfl (mm _).1 (mm _).2 (by decide) il ⟨l1, .inr rfl⟩
   · by_cases hs : (s.M 1 == tk.tick) = true
     · have e1 : chStep t c (s, ⟨1, tk, fd, ml, o, p, ref, r, an, nu, ep, pt, ka, kn⟩) = (awServed t (awLoad 1 s), ⟨2, ⟨0, tk.tick, tk.dr⟩, fd, ml, o, p, ref, r, an, nu, ep, pt, ka, kn⟩) := by
        have : tkStep t s tk = (awServed t (awLoad 1 s), ⟨0, tk.tick, tk.dr⟩) := by
         have e : tk.ln = 2 := e
         unfold tkStep; rw [if_neg (by rw [e]; decide), if_pos e, if_pos hs]
        show ((tkStep t s tk).1, _) = _
        rw [this]
        rfl
       rw [e1]
       exact h0.q rfl rfl l1
     · have e1 : chStep t c (s, ⟨1, tk, fd, ml, o, p, ref, r, an, nu, ep, pt, ka, kn⟩) = (awLoad 1 s, ⟨1, tk, fd, ml, o, p, ref, r, an, nu, ep, pt, ka, kn⟩) := by
        have e : tk.ln = 2 := e
        have : tkStep t s tk = (awLoad 1 s, tk) := by unfold tkStep; rw [if_neg (by rw [e]; decide), if_pos e, if_neg hs]
        show ((tkStep t s tk).1, ({ (⟨1, tk, fd, ml, o, p, ref, r, an, nu, ep, pt, ka, kn⟩ : Chm) with tk := (tkStep t s tk).2, ln := if (tkStep t s tk).2.ln = 0 then 2 else 1 } : Chm)) = _
        rw [this]
        dsimp only
        rw [if_neg (by rw [e]; decide)]
       rw [e1]
       exact h0.q rfl rfl ⟨l1, .inr e⟩
 | 2, l, h0 => exact h0.q rfl rfl ⟨l, fdI_new, List.cons_ne_nil _ _⟩
 | 3, l, h0 =>
   obtain ⟨l1, l3, l4⟩ := l
   obtain ⟨f1, f2, f3, f4⟩ := l3.step c.key s l4
   dsimp only at f1 f2 f3 f4
   rw [chStep_3 t c s _ rfl]
   dsimp only
   by_cases hf : (fdStep c.key (s, fd)).2.left = []
   · rw [if_pos hf]
     unfold chFd
     by_cases hr : 0 < (fdStep c.key (s, fd)).2.ref
     · rw [if_pos hr]
       rcases f2 with e | ⟨e1, e2, e3⟩
       · omega
       · exact h0.q f3 f4 ⟨by rw [f4]; exact l1, rfl, e1, e2, by rw [f4]; exact e3⟩
     · rw [if_neg hr]
       exact h0.q f3 f4 trivial
   · rw [if_neg hf]
     exact h0.q f3 f4 ⟨by rw [f4]; exact l1, f1 hf, hf⟩
 | 4, l, h0 =>
   obtain ⟨l1, l2, l3, l4, l5⟩ := l
   obtain rfl : ml = stVer p := l2
   exact h0.u (a := plVersion p.b p.q) (v := (s.M (plVersion p.b p.q) + 1) % 18446744073709551616) rfl (mm _).1 (mm _).2 (by have h : 64 ≤ plVersion p.b p.q ∧ _ := (spB_ok l3).ver; omega) il ⟨l1, l3, l4, l5⟩
 | 5, l, h0 =>
   obtain ⟨l1, l3, l4, l5⟩ := l
   show ChI c b (chFound c (itAt s.it ref) (awLoad 8 s) ⟨5, tk, fd, ml, o, p, ref, r, an, nu, s.M 8, s.n + 1, ka, kn⟩).1 (chFound c (itAt s.it ref) (awLoad 8 s) ⟨5, tk, fd, ml, o, p, ref, r, an, nu, s.M 8, s.n + 1, ka, kn⟩).2
   obtain ⟨x, hx⟩ : ∃ x, x = itAt s.it ref := ⟨_, rfl⟩
   rw [← hx]
   unfold chFound
   by_cases c1 : epAlive x.dies x.gen (s.M 8) = false
   · rw [if_pos c1]
     exact h0.q rfl rfl ⟨rfl, l3⟩
   · rw [if_neg c1]
     by_cases c2 : c.verb = 7
     · rw [if_pos c2]
       exact h0.q rfl rfl ⟨l3, .inl rfl, Int.le_refl _, by show (0 : Int) < 18446744073709551616; decide⟩
     · rw [if_neg c2]
       by_cases c3 : c.verb = 8
       · rw [if_pos c3]
         refine ⟨bd, ?_, b0, b1, wd, ?_⟩
         · show (s.it ++ [_]).length ≤ 1000000
           rw [List.length_append, List.length_singleton]
           omega
         · refine ⟨l3, ?_, ?_⟩
           · show (0 : Int) ≤ s.it.length + 1
             omega
           · show (s.it.length : Int) + 1 ≤ _
             omega
       · rw [if_neg c3]
         cases nuParse x.val with
         | none => exact h0.q rfl rfl ⟨rfl, l3⟩
         | some u => exact h0.q rfl rfl ⟨l1, l3⟩
 | 6, l, h0 =>
   obtain ⟨l1, l2, l3⟩ := l
   obtain ⟨ol, ow⟩ := o
   dsimp only at l2 l3
   have hp := spB_ok l1
   have hpi : 4096 ≤ p.item := hp.item.1
   have hpt : 4096 ≤ p.tags := hp.tags.1
   rcases l2 with rfl | rfl | rfl
   · exact h0.q rfl rfl ⟨l1, .inr (.inl rfl), bd _⟩
   · have hw := twWith_bd (s := p.s) (t := 0) l3.1 l3.2
     exact h0.u (a := p.tags) (v := twWith ow p.s 0) rfl hw.1 hw.2 (by omega) il ⟨l1, .inr (.inr rfl), l3⟩
   · exact h0.u (a := p.item) (v := 0) rfl (Int.le_refl _) (by decide) (by omega) il l1
 | 7, l, h0 => exact h0.u (a := 6) (v := (s.M 6 + 18446744073709551615) % 18446744073709551616) rfl (mm _).1 (mm _).2 (by decide) il ⟨rfl, l⟩
 | 8, l, h0 =>
   obtain ⟨l2, l3⟩ := l
   obtain rfl : ml = stVer p := l2
   exact h0.u (a := plVersion p.b p.q) (v := (s.M (plVersion p.b p.q) + 1) % 18446744073709551616) rfl (mm _).1 (mm _).2 (by have h : 64 ≤ plVersion p.b p.q ∧ _ := (spB_ok l3).ver; omega) il trivial
 | 9, l, h0 => exact h0.u (a := 1) (v := (s.M 1 + 1) % 18446744073709551616) rfl (mm _).1 (mm _).2 (by decide) il trivial
 | 10, l, h0 => exact h0.q rfl rfl trivial
 | 11, l, h0 => exact h0.u (a := p.item) (v := ref) rfl l.2.1 (by have := l.2.2; dsimp only at this; omega) (by have := (spB_ok l.1).item; have h : 4096 ≤ p.item ∧ _ := this; omega) il ⟨rfl, l.1⟩
 | 12, l, h0 =>
   obtain ⟨l1, l3⟩ := l
   refine h0.u (a := 7) (v := (s.M 7 + 1) % 18446744073709551616) rfl (mm _).1 (mm _).2 (by decide) ?_ ⟨l3, ?_, ?_⟩
   · show (s.it ++ [_]).length ≤ 1000000
     rw [List.length_append, List.length_singleton]
     omega
   · show (0 : Int) ≤ s.it.length + 1
     omega
   · show (s.it.length : Int) + 1 ≤ _
     omega
 | n + 13, l, h0 => exact h0
theorem ChI.new (h : Bd s.M) (hi : s.it.length < 1000000) (b0 : 1 ≤ b) (b1 : b ≤ 11) (hw : s.M 2 = b) : ChI c b s chNew :=
 ⟨h, Nat.le_of_lt hi, b0, b1, hw, hi, .inl rfl⟩
theorem ChI.goodR {t : Nat} : ∀ {M : Nat} {s : AW} {z : Chm} {m : Nat} {s' : AW} {z' : Chm}, ChI c b s z → runN chOver (chStep t c) M (s, z) = (m, s', z') → chOver z' = true → goodN chOver (chStep t c) (fun y => chPre c y.1 y.2) M (s, z) = true
 | 0, s, z, m, s', z', h, hr, ho => by
   have e : (0, (s, z)) = (m, s', z') := hr
   have e2 : z = z' := congrArg (fun x : Nat × (AW × Chm) => x.2.2) e
   unfold goodN
   rw [e2]
   exact ho
 | M + 1, s, z, m, s', z', h, hr, ho => by
   unfold goodN
   cases hov : chOver z with
   | true => rfl
   | false =>
     rw [runN_on M (s, z) hov] at hr
     have e2 : (runN chOver (chStep t c) M (chStep t c (s, z))).2 = (s', z') := congrArg (fun x : Nat × (AW × Chm) => x.2) hr
     have hg := ChI.goodR (h.step t) (show runN chOver (chStep t c) M ((chStep t c (s, z)).1, (chStep t c (s, z)).2) = ((runN chOver (chStep t c) M (chStep t c (s, z))).1, s', z') from by
      show runN chOver (chStep t c) M (chStep t c (s, z)) = _
      rw [← e2]) ho
     rw [show chPre c (s, z).1 (s, z).2 = true from h.pre]
     have hg : goodN chOver (chStep t c) (fun y => chPre c y.1 y.2) M (chStep t c (s, z)) = true := hg
     rw [hg, Bool.true_and, Bool.or_true]
end
end
end Go.Proofs.YtifkfhnbkjkakaaGreatDoor
