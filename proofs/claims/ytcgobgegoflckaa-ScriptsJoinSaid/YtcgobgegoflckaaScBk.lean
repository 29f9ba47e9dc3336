/- Layer 33: ScriptsBack. -/
import Derived.Test.YtcgobgegoflckaaScBkC
namespace Go.Proofs.Ytcgobgegoflckaa
open Go.RowKit
set_option linter.unusedVariables false

theorem bs_say {c : Cm} (h : csMay c = true) (hb : Bs c.bytes) : Bs (csSay c) := by
  obtain ⟨k, n, b⟩ := c
  simp [csMay] at h
  intro z hz
  unfold csSay at hz
  dsimp only at hz hb
  rcases h with (⟨⟨rfl, h1, h2⟩, h3⟩ | ⟨⟨rfl, h1, h2⟩, h3⟩) | ⟨⟨rfl, rfl⟩, h3⟩
  · simp at hz
    rcases hz with rfl | rfl | hz
    · omega
    · omega
    · exact hb z hz
  · simp at hz; omega
  · simp at hz; omega
theorem bs_print {l : List Cm} (h : ∀ c ∈ l, csMay c = true) (hb : ∀ c ∈ l, Bs c.bytes) : Bs (csPrint l) := by
  intro z hz
  unfold csPrint at hz
  obtain ⟨c, hc, hz⟩ := List.mem_flatMap.1 hz
  exact bs_say (h c hc) (hb c hc) z hz
theorem csParse_prints (l : List Cm) (h : ∀ c ∈ l, csMay c = true) : csParse (csPrint l) = l := by
  have := csParse_print l h []
  rwa [List.append_nil, csParse_nil, List.append_nil] at this
theorem csMay_kind {c : Cm} (h : csMay c = true) : 0 ≤ c.kind ∧ c.kind ≤ 255 := by
  unfold csMay at h
  simp at h
  omega
theorem csMay_len {c : Cm} (h : csMay c = true) : c.bytes.length ≤ 255 := by
  unfold csMay at h
  simp at h
  rcases h with (h | h) | h
  · exact h.2
  · rw [h.2]; simp
  · rw [h.2]; simp
theorem all_mem {L : List (Cm × Value)} (h : (L.all fun p => csMay p.1) = true) : ∀ c ∈ L.map Prod.fst, csMay c = true := by
  intro c hc
  obtain ⟨p, hp, rfl⟩ := List.mem_map.1 hc
  exact List.all_eq_true.1 h p hp
theorem bs_parse : ∀ (k : Nat) (l : List Int), l.length ≤ k → Bs l → ∀ c ∈ csParse l, Bs c.bytes := by
  intro k
  induction k with
  | zero =>
    intro l h _ c hc
    obtain rfl := List.eq_nil_of_length_eq_zero (Nat.le_zero.1 h)
    rw [csParse_nil] at hc; cases hc
  | succ k ih =>
    intro l h hB c hc
    match l, h with
    | [], _ => rw [csParse_nil] at hc; cases hc
    | n :: r, h =>
      simp only [List.length_cons] at h
      have hr : Bs r := fun z hz => hB z (by simp [hz])
      by_cases h1 : 192 ≤ n
      · rw [csParse_tick h1] at hc
        rcases List.mem_cons.1 hc with rfl | hc
        · intro z hz; cases hz
        · exact ih r (by omega) hr c hc
      · by_cases h2 : 64 ≤ n
        · rw [csParse_pick h2 (by omega)] at hc
          rcases List.mem_cons.1 hc with rfl | hc
          · intro z hz; cases hz
          · exact ih r (by omega) hr c hc
        · match r, h with
          | [], _ =>
            rw [csParse_last (by omega)] at hc
            simp at hc
            subst hc
            intro z hz; cases hz
          | m :: r', h =>
            rw [csParse_feed (by omega)] at hc
            rcases List.mem_cons.1 hc with rfl | hc
            · intro z hz; exact hr z (by simp [List.mem_of_mem_take hz])
            · exact ih (r'.drop m.toNat) (by simp at h ⊢; omega) (fun z hz => hr z (by simp [List.mem_of_mem_drop hz])) c hc
/-- What is known of commands that were parsed. -/
theorem parsed {l : List Int} {M : List (Cm × Value)} (hB : Bs l) (h : M.map Prod.fst = csParse l) : (∀ p ∈ M, csMay p.1 = true) ∧ (M.all fun p => csMay p.1) = true ∧ M.length ≤ l.length ∧ (csPrint (M.map Prod.fst)).length ≤ l.length + 1 ∧ Bs (csPrint (M.map Prod.fst)) ∧ csParse (csPrint (M.map Prod.fst)) = M.map Prod.fst ∧ (∀ p ∈ M, 0 ≤ p.1.kind ∧ p.1.kind ≤ 255) ∧ (∀ p ∈ M, p.1.bytes.length ≤ 1000000) := by
  have h1 : ∀ p ∈ M, csMay p.1 = true := fun p hp => csParse_may l.length l (Nat.le_refl _) hB p.1 (h ▸ List.mem_map_of_mem hp)
  have h2 : ∀ c ∈ M.map Prod.fst, csMay c = true := by rw [h]; exact csParse_may l.length l (Nat.le_refl _) hB
  have h3 := csParse_len l.length l (Nat.le_refl _)
  have h4 := csPrint_len l.length l (Nat.le_refl _) hB
  rw [← h] at h3 h4
  refine ⟨h1, List.all_eq_true.2 h1, by rwa [List.length_map] at h3, h4, bs_print h2 (by rw [h]; exact bs_parse l.length l (Nat.le_refl _) hB), csParse_prints _ h2, fun p hp => csMay_kind (h1 p hp), fun p hp => by have := csMay_len (h1 p hp); omega⟩
set_option maxHeartbeats 4000000 in
set_option maxRecDepth 100000 in
/-- From the second Parse on. -/
theorem w_ScriptsBack (v : Value) (L : List (Cm × Value)) (v1 : Value) (l : List Int) (w : World) (hg : ∀ q ∈ L, CmGood w q) (hv : Arr w v L.length 3 (rowOf cmc L)) (hB : ∀ z ∈ l, 0 ≤ z ∧ z ≤ 255) (hv1 : Arr w v1 l.length 1 (rowOf byc l)) :
    Calls Try.prog 5 #[v, v1] w fun e w' => e = .returned (.bool true) ∧ Below w.heap.size w w' := by
  obtain ⟨ao, cp, rfl, hcp, hm⟩ := hv.shape
  obtain ⟨ao1, cp1, rfl, hcp1, hm1⟩ := hv1.shape
  have hmx : L.length ≤ 9223372036854775807 := by unfold maxLen at hm; omega
  have hmx1 : l.length ≤ 9223372036854775807 := by unfold maxLen at hm1; omega
  have HG := Lib.hid hg
  have HV := Lib.hid hv
  have HV1 : Hid (BArr w (.slice ao1 l.length cp1) l) := Lib.hid hv1
  have HB : Hid (Bs l) := Lib.hid hB
  clear hg hv hv1 hB
  go_enter Try.func5, Try.ntmps5
  go_wp2
  go_loopw [5, 6, 7] (fun n al i wr => ∃ k : Nat, k ≤ L.length ∧ k ≤ 201 ∧ i = .int .i64 k ∧ n = .int .i64 (sm (L.take k) : Nat) ∧ al = .bool ((L.take k).all fun p => csMay p.1) ∧ Below w.heap.size w wr) (fun _ _ i _ => L.length - (intOf i).toNat)
  case atStart => exact ⟨0, Nat.zero_le _, by omega, rfl, rfl, rfl, Below.refl _ _⟩
  case round =>
    obtain ⟨k, hk, hk3, rfl, rfl, rfl, hbel⟩ := hrel
    have HBL := Lib.hid hbel
    clear hbel
    have hsm := sm_le (L.take k)
    rw [List.length_take] at hsm
    have hsm9 : sm (L.take k) ≤ 7000000 := by omega
    clear hsm
    by_cases hgo : k < L.length ∧ k ≤ 200
    · as_aux_lemma =>
      obtain ⟨hk2, hk4⟩ := hgo
      obtain ⟨b, o, c', he, -, -, hb, hx⟩ := HV.out.open (by omega) (by omega)
      cases he
      obtain ⟨x0, x1, x2⟩ := cm_cells hx k hk2
      have y0 := (HBL.out.cell (p := ⟨b, o + k * 3, none⟩) hb).trans x0
      have y1 := (HBL.out.cell (p := ⟨b, o + k * 3 + 1, none⟩) hb).trans x1
      have y2 := (HBL.out.cell (p := ⟨b, o + k * 3 + 2, none⟩) hb).trans x2
      have hby := (HG.out _ (List.getElem_mem hk2)).2.2.1
      have hsn := Lib.hid (sm_snoc L k hk2)
      have hal := Lib.hid (show ((L.take (k + 1)).all fun p => csMay p.1) = (((L.take k).all fun p => csMay p.1) && csMay L[k].1) by rw [List.take_succ_eq_append_getElem hk2, List.all_append]; simp)
      obtain ⟨q, hq⟩ : ∃ q, q = L[k] := ⟨_, rfl⟩
      rw [← hq] at y0 y1 y2 hby hsn hal
      obtain ⟨⟨kd, cn, bs⟩, bv⟩ := q
      dsimp only at y0 y1 y2 hby hsn hal
      obtain ⟨ba, bc, rfl, hbc, hbm⟩ := hby.shape
      have hbn : bs.length ≤ 9223372036854775807 := by unfold maxLen at hbm; omega
      have hmy := Lib.hid (csMay_eq ⟨kd, cn, bs⟩)
      obtain ⟨s, hs⟩ : ∃ s, s = sm (L.take k) := ⟨_, rfl⟩
      rw [← hs] at hsm9 hsn ⊢
      obtain ⟨al, hal2⟩ : ∃ al, al = ((L.take k).all fun p => csMay p.1) := ⟨_, rfl⟩
      rw [← hal2] at hal ⊢
      have hbl := HBL.out.size
      clear hx x0 x1 x2 hby hq hs hal2
      by_cases h3 : (bs.length : Int) ≤ 30000
      · have HS := Lib.hid (show ((sm (L.take (k + 1)) : Nat) : Int) = (s : Int) + (bs.length : Int) by rw [hsn.out]; omega)
        cases al with
        | true =>
          go_wp2_with fail
          refine (viaC (c_lmay kd cn _ _ _ _ (by assumption))).mono ?_
          rintro e w' ⟨rfl, m, rfl⟩
          go_wp2
          go_roundw
          case rel => exact ⟨k + 1, by omega, by omega, by go_num, by rw [HS.out], by rw [hal.out, hmy.out]; rfl, HBL.out.trans ((via_below _ m).mono hbl)⟩
          case measure => simp [intOf]; omega
        | false =>
          go_wp2
          go_roundw
          case rel => exact ⟨k + 1, by omega, by omega, by go_num, by rw [HS.out], by rw [hal.out]; rfl, HBL.out⟩
          case measure => simp [intOf]; omega
      · have HS := Lib.hid (show ((sm (L.take (k + 1)) : Nat) : Int) = (s : Int) + 30000 by rw [hsn.out]; omega)
        have h4 : 30000 ≤ (bs.length : Int) := by omega
        cases al with
        | true =>
          go_wp2_with fail
          refine (viaC (c_lmay kd cn _ _ _ _ (by assumption))).mono ?_
          rintro e w' ⟨rfl, m, rfl⟩
          go_wp2
          go_roundw
          case rel => exact ⟨k + 1, by omega, by omega, by go_num, by rw [HS.out], by rw [hal.out, hmy.out]; rfl, HBL.out.trans ((via_below _ m).mono hbl)⟩
          case measure => simp [intOf]; omega
        | false =>
          go_wp2
          go_roundw
          case rel => exact ⟨k + 1, by omega, by omega, by go_num, by rw [HS.out], by rw [hal.out]; rfl, HBL.out⟩
          case measure => simp [intOf]; omega
    · have hbl := HBL.out.size
      have hlives : Hid (∀ w' w'' : World, Below w.heap.size w w' → Below w'.heap.size w' w'' → Below w.heap.size w w'') := Lib.hid fun w' w'' h h2 => h.trans (h2.mono h.size)
      by_cases hbig : 200 < L.length
      · as_aux_lemma =>
        have e1 : decide ((200 : Int) < (L.length : Int)) = true := by simp; omega
        by_cases hkL : k < L.length
        · have hk5 : ¬ k ≤ 200 := by omega
          have e3 : decide ((k : Int) ≤ 200) = false := by simp; omega
          clear hgo
          go_wp2_with fail
          refine (c_lives33 _).mono ?_
          rintro e w' ⟨rfl, hb⟩
          have HE := Lib.hid (hlives.out _ _ HBL.out hb)
          clear hb
          go_wp2
          go_ret
          exact ⟨rfl, HE.out⟩
        · clear hgo
          go_wp2_with fail
          refine (c_lives33 _).mono ?_
          rintro e w' ⟨rfl, hb⟩
          have HE := Lib.hid (hlives.out _ _ HBL.out hb)
          clear hb
          go_wp2
          go_ret
          exact ⟨rfl, HE.out⟩
      · obtain rfl : k = L.length := by omega
        have e1 : decide ((200 : Int) < (L.length : Int)) = false := by simp; omega
        rw [List.take_length] at hsm9 ⊢
        by_cases hsum : 20000 < sm L ∨ 5000 < l.length
        · as_aux_lemma =>
          clear hgo
          by_cases hs2 : 20000 < sm L
          · have e2 : decide ((20000 : Int) < ((sm L : Nat) : Int)) = true := by simp; omega
            go_wp2_with fail
            refine (c_lives33 _).mono ?_
            rintro e w' ⟨rfl, hb⟩
            have HE := Lib.hid (hlives.out _ _ HBL.out hb)
            clear hb
            go_wp2
            go_ret
            exact ⟨rfl, HE.out⟩
          · have e2 : decide ((20000 : Int) < ((sm L : Nat) : Int)) = false := by simp; omega
            have e3 : decide ((5000 : Int) < (l.length : Int)) = true := by simp; omega
            go_wp2_with fail
            refine (c_lives33 _).mono ?_
            rintro e w' ⟨rfl, hb⟩
            have HE := Lib.hid (hlives.out _ _ HBL.out hb)
            clear hb
            go_wp2
            go_ret
            exact ⟨rfl, HE.out⟩
        · have e2 : decide ((20000 : Int) < ((sm L : Nat) : Int)) = false := by simp; omega
          have e3 : decide ((5000 : Int) < (l.length : Int)) = false := by simp; omega
          obtain ⟨hbl2, hpl⟩ := sm_all L (by omega)
          have HBB := Lib.hid hbl2
          have HPL := Lib.hid (show (csPrint (L.map Prod.fst)).length ≤ 1000000 by omega)
          have HBY : Hid (Byts wr L) := Lib.hid fun p hp => Arr.below (HG.out p hp).2.2.1 HBL.out
          have HLL := Lib.hid (show L.length ≤ 1000000 by omega)
          have Hl5 := Lib.hid (show l.length ≤ 5000 by omega)
          have HVR := Lib.hid (Arr.below HV.out HBL.out)
          have HV1R : Hid (BArr wr _ l) := Lib.hid (Arr.below HV1.out HBL.out)
          clear hgo hbl2 hpl hsum
          go_wp2_with fail
          refine (c_Print _ L wr HVR.out HBY.out HPL.out HLL.out).mono ?_
          rintro e w2 ⟨⟨va, rfl, hno, hyes⟩, hb2⟩
          have HB2 := Lib.hid (hlives.out _ _ HBL.out hb2)
          have HNO := Lib.hid hno
          have HYES := Lib.hid hyes
          obtain ⟨al, hal⟩ : ∃ al, al = (L.all fun p => csMay p.1) := ⟨_, rfl⟩
          have HAL := Lib.hid hal
          rw [← hal] at HNO HYES ⊢
          have hbw2 := Lib.hid hb2
          clear hno hyes hal hb2
          have hx : al = true → ∃ xs : List Int, xs = csPrint (L.map Prod.fst) ∧ BArr w2 va xs ∧ Bs xs ∧ xs.length ≤ 1000000 ∧ csParse xs = L.map Prod.fst := by
            intro h
            have h1 : ∀ c ∈ L.map Prod.fst, csMay c = true := all_mem (by rw [← HAL.out]; exact h)
            have h2 : ∀ c ∈ L.map Prod.fst, Bs c.bytes := fun c hc => by
              obtain ⟨p, hp, rfl⟩ := List.mem_map.1 hc
              exact (HG.out p hp).2.2.2
            exact ⟨_, rfl, (HYES.out h).1, bs_print h1 h2, HPL.out, csParse_prints _ h1⟩
          have HX := Lib.hid hx
          clear hx HYES
          have hcase : ∀ (P : Prop), (al = true → P) → (al = false → P) → P := fun P h1 h2 => by cases al; exact h2 rfl; exact h1 rfl
          refine hcase _ (fun hal => ?_) (fun hal => ?_)
          · clear hcase
            subst hal
            obtain ⟨xs, hxe, hxa, hxb, hxl, hxp⟩ := HX.out rfl
            obtain ⟨xo, xc, rfl, hxc, hxm⟩ := hxa.shape
            have hx9 : xs.length ≤ 9223372036854775807 := by omega
            have HXA := Lib.hid hxa
            have HXP := Lib.hid hxp
            have HPC := Lib.hid (c_Parse _ xs w2 hxa hxb hxl)
            clear hxe hxa hxb hxp HX
            go_wp2_with fail
            refine (HPC.out).mono ?_
            rintro e w3 ⟨⟨v3, M, rfl, hM, hC⟩, hb3⟩
            have HM := Lib.hid (hM.trans HXP.out)
            have HC := Lib.hid hC
            have hB3 := Lib.hid (hlives.out _ _ HB2.out hb3)
            have hb13 := Lib.hid (hbw2.out.trans (hb3.mono hbw2.out.size))
            clear hM hC hb3 HPC
            have hkk : ∀ p ∈ M, 0 ≤ p.1.kind ∧ p.1.kind ≤ 255 := fun p hp => csMay_kind (all_mem HAL.out.symm p.1 (HM.out ▸ List.mem_map_of_mem hp))
            have HAK := Lib.hid (c_alike v3 _ M L w3 HC.out.arr HC.out.byt hkk (Arr.below HVR.out hb13.out) (HBY.out.below hb13.out) HM.out HLL.out (fun p hp => by have := HBB.out p hp; omega) (fun p hp => (HG.out p hp).1))
            clear hkk
            go_wp2_with fail
            refine (HAK.out).mono ?_
            rintro e w4 ⟨rfl, hb4⟩
            have HB4 := Lib.hid (hlives.out _ _ hB3.out hb4)
            clear hb4 HAK hB3 hb13 HB2 hbw2 HNO HC HM HXA HXP HAL
            have HVQ : Hid (BArr w4 _ l) := Lib.hid (Arr.below HV1.out HB4.out)
            go_wp2_with fail
            refine (c_Parse _ l w4 HVQ.out HB.out (by have := Hl5.out; omega)).mono ?_
            rintro e w5 ⟨⟨v5, Q, rfl, hQ, hC5⟩, hb5⟩
            obtain ⟨q1, q2, q3, q4, q5, q6, q7, q8⟩ := parsed HB.out hQ
            have Q1 := Lib.hid q1
            have Q2 := Lib.hid q2
            have Q3 := Lib.hid q3
            have Q4 := Lib.hid q4
            have Q5 := Lib.hid q5
            have Q6 := Lib.hid q6
            have Q7 := Lib.hid q7
            have Q8 := Lib.hid q8
            have HC5 := Lib.hid hC5
            have HB5 := Lib.hid (hlives.out _ _ HB4.out hb5)
            clear hQ hC5 hb5 q1 q2 q3 q4 q5 q6 q7 q8 HVQ
            obtain ⟨qo, hqs⟩ := HC5.out.shape
            subst hqs
            have hq9 : Q.length ≤ 9223372036854775807 := by have := Hl5.out; have := Q3.out; omega
            have hqc : Q.length ≤ Q.length := Nat.le_refl _
            obtain ⟨wo, rfl⟩ : ∃ wo, wo = wr := ⟨_, rfl⟩
            go_wp2_with fail
            go_loopw [11] (fun i wx => ∃ k : Nat, k ≤ Q.length ∧ i = .int .i64 k ∧ Below w5.heap.size w5 wx) (fun i _ => Q.length - (intOf i).toNat)
            case atStart => exact ⟨0, Nat.zero_le _, rfl, Below.refl _ _⟩
            case round =>
              obtain ⟨k, hk, rfl, hbx⟩ := hrel
              have HBX := Lib.hid hbx
              clear hbx
              by_cases hk2 : k < Q.length
              · as_aux_lemma =>
                obtain ⟨b, o, c', he, -, -, hb, hx⟩ := HC5.out.arr.open (by omega) (by omega)
                cases he
                obtain ⟨x0, x1, x2⟩ := cm_cells hx k hk2
                have y0 := (HBX.out.cell (p := ⟨b, o + k * 3, none⟩) hb).trans x0
                have y1 := (HBX.out.cell (p := ⟨b, o + k * 3 + 1, none⟩) hb).trans x1
                have y2 := (HBX.out.cell (p := ⟨b, o + k * 3 + 2, none⟩) hb).trans x2
                have hmy := Q1.out _ (List.getElem_mem hk2)
                have hby := HC5.out.byt _ (List.getElem_mem hk2)
                have hbl5 := Q8.out _ (List.getElem_mem hk2)
                obtain ⟨q, hq⟩ : ∃ q, q = Q[k] := ⟨_, rfl⟩
                rw [← hq] at y0 y1 y2 hby hmy hbl5
                obtain ⟨⟨kd, cn, bs⟩, bv⟩ := q
                dsimp only at y0 y1 y2 hby hmy hbl5
                rw [csMay_eq] at hmy
                dsimp only at hmy
                obtain ⟨ba, bc, rfl, hbc, hbm⟩ := hby.shape
                have HMY := Lib.hid hmy
                have hbs9 : bs.length ≤ 9223372036854775807 := by omega
                have hbl6 := HBX.out.size
                clear hx x0 x1 x2 hby hq hmy hbl5
                go_wp2_with fail
                refine (viaC (c_lmay kd cn _ _ _ _ (by assumption))).mono ?_
                rintro e w' ⟨rfl, m, rfl⟩
                rw [HMY.out]
                go_wp2
                go_roundw
                case rel => exact ⟨k + 1, by omega, by go_num, HBX.out.trans ((via_below _ m).mono hbl6)⟩
                case measure => simp [intOf]; omega
              · obtain rfl : k = Q.length := by omega
                go_wp2_with fail
                refine (c_Print _ Q wr (Arr.below HC5.out.arr HBX.out) (HC5.out.byt.below HBX.out) (by have := Q4.out; have := Hl5.out; omega) (by have := Q3.out; have := Hl5.out; omega)).mono ?_
                rintro e w6 ⟨⟨v6, rfl, -, hyes6⟩, hb6⟩
                obtain ⟨hy6, -⟩ := hyes6 Q2.out
                rw [Q2.out]
                obtain ⟨ys, hys⟩ : ∃ ys, ys = csPrint (Q.map Prod.fst) := ⟨_, rfl⟩
                have R4 : Hid (ys.length ≤ l.length + 1) := Lib.hid (by rw [hys]; exact Q4.out)
                have R5 : Hid (Bs ys) := Lib.hid (by rw [hys]; exact Q5.out)
                have R6 : Hid (csParse ys = Q.map Prod.fst) := Lib.hid (by rw [hys]; exact Q6.out)
                have HY6 : Hid (BArr w6 v6 ys) := Lib.hid (by rw [hys]; exact hy6)
                have HB56 := Lib.hid (HBX.out.trans (hb6.mono HBX.out.size))
                have HB6 := Lib.hid (hlives.out _ _ HB5.out HB56.out)
                clear hys hy6 hyes6 hb6
                obtain ⟨yo, yc, rfl, hyc, hym⟩ := HY6.out.shape
                have g1 : decide ((Q.length : Int) ≤ (l.length : Int)) = true := by have := Q3.out; simp; omega
                have g2 : decide ((ys.length : Int) ≤ (l.length : Int) + 1) = true := by have := R4.out; simp; omega
                have g3 : Q.length ≤ l.length := Q3.out
                have g4 : (ys.length : Int) ≤ (l.length : Int) + 1 := by have := R4.out; omega
                have g5 : l.length ≤ 5000 := Hl5.out
                have HPC := Lib.hid (c_Parse _ ys w6 HY6.out R5.out (by have := R4.out; have := Hl5.out; omega))
                go_wp2_with fail
                refine (HPC.out).mono ?_
                rintro e w7 ⟨⟨v7, Z, rfl, hZ, hC7⟩, hb7⟩
                have HZ := Lib.hid (hZ.trans R6.out)
                have hzk : ∀ p ∈ Z, 0 ≤ p.1.kind ∧ p.1.kind ≤ 255 := fun p hp => by
                  have h1 : p.1 ∈ Q.map Prod.fst := HZ.out ▸ List.mem_map_of_mem hp
                  obtain ⟨q, hq, he⟩ := List.mem_map.1 h1
                  rw [← he]; exact Q7.out q hq
                have HB7 := Lib.hid (hlives.out _ _ HB6.out hb7)
                have HB57 := Lib.hid (HB56.out.trans (hb7.mono HB56.out.size))
                have HAK := Lib.hid (c_alike v7 _ Z Q w7 hC7.arr hC7.byt hzk (Arr.below HC5.out.arr HB57.out) (HC5.out.byt.below HB57.out) HZ.out (by have := Q3.out; have := Hl5.out; omega) Q8.out Q7.out)
                clear hZ hzk hC7 hb7 HPC
                go_wp2_with fail
                refine (HAK.out).mono ?_
                rintro e w8 ⟨rfl, hb8⟩
                have HB8 := Lib.hid (hlives.out _ _ HB7.out hb8)
                clear hb8
                go_wp2_with fail
                refine (c_lives33 _).mono ?_
                rintro e w9 ⟨rfl, hb9⟩
                have HB9 := Lib.hid (hlives.out _ _ HB8.out hb9)
                clear hb9
                go_wp2
                go_ret
                exact ⟨rfl, HB9.out⟩
          · subst hal
            have hva := HNO.out rfl
            subst hva
            have HVQ : Hid (BArr w2 _ l) := Lib.hid (Arr.below HV1.out HB2.out)
            go_wp2_with fail
            refine (c_Parse _ l w2 HVQ.out HB.out (by have := Hl5.out; omega)).mono ?_
            rintro e w5 ⟨⟨v5, Q, rfl, hQ, hC5⟩, hb5⟩
            obtain ⟨q1, q2, q3, q4, q5, q6, q7, q8⟩ := parsed HB.out hQ
            have Q1 := Lib.hid q1
            have Q2 := Lib.hid q2
            have Q3 := Lib.hid q3
            have Q4 := Lib.hid q4
            have Q5 := Lib.hid q5
            have Q6 := Lib.hid q6
            have Q7 := Lib.hid q7
            have Q8 := Lib.hid q8
            have HC5 := Lib.hid hC5
            have HB5 := Lib.hid (hlives.out _ _ HB2.out hb5)
            clear hQ hC5 hb5 q1 q2 q3 q4 q5 q6 q7 q8 HVQ
            obtain ⟨qo, hqs⟩ := HC5.out.shape
            subst hqs
            have hq9 : Q.length ≤ 9223372036854775807 := by have := Hl5.out; have := Q3.out; omega
            have hqc : Q.length ≤ Q.length := Nat.le_refl _
            obtain ⟨wo, rfl⟩ : ∃ wo, wo = wr := ⟨_, rfl⟩
            go_wp2_with fail
            go_loopw [11] (fun i wx => ∃ k : Nat, k ≤ Q.length ∧ i = .int .i64 k ∧ Below w5.heap.size w5 wx) (fun i _ => Q.length - (intOf i).toNat)
            case atStart => exact ⟨0, Nat.zero_le _, rfl, Below.refl _ _⟩
            case round =>
              obtain ⟨k, hk, rfl, hbx⟩ := hrel
              have HBX := Lib.hid hbx
              clear hbx
              by_cases hk2 : k < Q.length
              · as_aux_lemma =>
                obtain ⟨b, o, c', he, -, -, hb, hx⟩ := HC5.out.arr.open (by omega) (by omega)
                cases he
                obtain ⟨x0, x1, x2⟩ := cm_cells hx k hk2
                have y0 := (HBX.out.cell (p := ⟨b, o + k * 3, none⟩) hb).trans x0
                have y1 := (HBX.out.cell (p := ⟨b, o + k * 3 + 1, none⟩) hb).trans x1
                have y2 := (HBX.out.cell (p := ⟨b, o + k * 3 + 2, none⟩) hb).trans x2
                have hmy := Q1.out _ (List.getElem_mem hk2)
                have hby := HC5.out.byt _ (List.getElem_mem hk2)
                have hbl5 := Q8.out _ (List.getElem_mem hk2)
                obtain ⟨q, hq⟩ : ∃ q, q = Q[k] := ⟨_, rfl⟩
                rw [← hq] at y0 y1 y2 hby hmy hbl5
                obtain ⟨⟨kd, cn, bs⟩, bv⟩ := q
                dsimp only at y0 y1 y2 hby hmy hbl5
                rw [csMay_eq] at hmy
                dsimp only at hmy
                obtain ⟨ba, bc, rfl, hbc, hbm⟩ := hby.shape
                have HMY := Lib.hid hmy
                have hbs9 : bs.length ≤ 9223372036854775807 := by omega
                have hbl6 := HBX.out.size
                clear hx x0 x1 x2 hby hq hmy hbl5
                go_wp2_with fail
                refine (viaC (c_lmay kd cn _ _ _ _ (by assumption))).mono ?_
                rintro e w' ⟨rfl, m, rfl⟩
                rw [HMY.out]
                go_wp2
                go_roundw
                case rel => exact ⟨k + 1, by omega, by go_num, HBX.out.trans ((via_below _ m).mono hbl6)⟩
                case measure => simp [intOf]; omega
              · obtain rfl : k = Q.length := by omega
                go_wp2_with fail
                refine (c_Print _ Q wr (Arr.below HC5.out.arr HBX.out) (HC5.out.byt.below HBX.out) (by have := Q4.out; have := Hl5.out; omega) (by have := Q3.out; have := Hl5.out; omega)).mono ?_
                rintro e w6 ⟨⟨v6, rfl, -, hyes6⟩, hb6⟩
                obtain ⟨hy6, -⟩ := hyes6 Q2.out
                rw [Q2.out]
                obtain ⟨ys, hys⟩ : ∃ ys, ys = csPrint (Q.map Prod.fst) := ⟨_, rfl⟩
                have R4 : Hid (ys.length ≤ l.length + 1) := Lib.hid (by rw [hys]; exact Q4.out)
                have R5 : Hid (Bs ys) := Lib.hid (by rw [hys]; exact Q5.out)
                have R6 : Hid (csParse ys = Q.map Prod.fst) := Lib.hid (by rw [hys]; exact Q6.out)
                have HY6 : Hid (BArr w6 v6 ys) := Lib.hid (by rw [hys]; exact hy6)
                have HB56 := Lib.hid (HBX.out.trans (hb6.mono HBX.out.size))
                have HB6 := Lib.hid (hlives.out _ _ HB5.out HB56.out)
                clear hys hy6 hyes6 hb6
                obtain ⟨yo, yc, rfl, hyc, hym⟩ := HY6.out.shape
                have g1 : decide ((Q.length : Int) ≤ (l.length : Int)) = true := by have := Q3.out; simp; omega
                have g2 : decide ((ys.length : Int) ≤ (l.length : Int) + 1) = true := by have := R4.out; simp; omega
                have g3 : Q.length ≤ l.length := Q3.out
                have g4 : (ys.length : Int) ≤ (l.length : Int) + 1 := by have := R4.out; omega
                have g5 : l.length ≤ 5000 := Hl5.out
                have HPC := Lib.hid (c_Parse _ ys w6 HY6.out R5.out (by have := R4.out; have := Hl5.out; omega))
                go_wp2_with fail
                refine (HPC.out).mono ?_
                rintro e w7 ⟨⟨v7, Z, rfl, hZ, hC7⟩, hb7⟩
                have HZ := Lib.hid (hZ.trans R6.out)
                have hzk : ∀ p ∈ Z, 0 ≤ p.1.kind ∧ p.1.kind ≤ 255 := fun p hp => by
                  have h1 : p.1 ∈ Q.map Prod.fst := HZ.out ▸ List.mem_map_of_mem hp
                  obtain ⟨q, hq, he⟩ := List.mem_map.1 h1
                  rw [← he]; exact Q7.out q hq
                have HB7 := Lib.hid (hlives.out _ _ HB6.out hb7)
                have HB57 := Lib.hid (HB56.out.trans (hb7.mono HB56.out.size))
                have HAK := Lib.hid (c_alike v7 _ Z Q w7 hC7.arr hC7.byt hzk (Arr.below HC5.out.arr HB57.out) (HC5.out.byt.below HB57.out) HZ.out (by have := Q3.out; have := Hl5.out; omega) Q8.out Q7.out)
                clear hZ hzk hC7 hb7 HPC
                go_wp2_with fail
                refine (HAK.out).mono ?_
                rintro e w8 ⟨rfl, hb8⟩
                have HB8 := Lib.hid (hlives.out _ _ HB7.out hb8)
                clear hb8
                go_wp2_with fail
                refine (c_lives33 _).mono ?_
                rintro e w9 ⟨rfl, hb9⟩
                have HB9 := Lib.hid (hlives.out _ _ HB8.out hb9)
                clear hb9
                go_wp2
                go_ret
                exact ⟨rfl, HB9.out⟩
end Go.Proofs.Ytcgobgegoflckaa
