/- Layer 33: ScriptsPrint. -/
import Derived.Test.YtcgobgegoflckaaScOt
import Derived.Test.YtcgobgegoflckaaCArg
namespace Go.Proofs.Ytcgobgegoflckaa
open Go.RowKit
set_option linter.unusedVariables false

def sm (L : List (Cm × Value)) : Nat := (L.map fun p => min p.1.bytes.length 30000).sum
theorem sm_snoc (L : List (Cm × Value)) (k : Nat) (h : k < L.length) : sm (L.take (k + 1)) = sm (L.take k) + min L[k].1.bytes.length 30000 := by
  unfold sm
  rw [List.take_succ_eq_append_getElem h, List.map_append, List.sum_append]
  simp
theorem sm_le (L : List (Cm × Value)) : sm L ≤ 30000 * L.length := by
  unfold sm
  induction L with
  | nil => simp
  | cons a l ih => simp only [List.map_cons, List.sum_cons, List.length_cons]; omega
theorem csSay_len (c : Cm) : (csSay c).length ≤ 2 + c.bytes.length := by
  unfold csSay
  split
  · simp; omega
  · split <;> simp <;> omega
theorem sm_all : ∀ (L : List (Cm × Value)), sm L ≤ 20000 → (∀ p ∈ L, p.1.bytes.length ≤ 20000) ∧ (csPrint (L.map Prod.fst)).length ≤ 2 * L.length + sm L
  | [], _ => ⟨(fun p h => by cases h), (by simp [csPrint])⟩
  | a :: l, h => by
    have e : sm (a :: l) = min a.1.bytes.length 30000 + sm l := by unfold sm; simp
    rw [e] at h ⊢
    obtain ⟨h1, h2⟩ := sm_all l (by omega)
    have h3 := csSay_len a.1
    refine ⟨fun p hp => ?_, ?_⟩
    · rcases List.mem_cons.1 hp with rfl | hp
      · omega
      · exact h1 p hp
    · have : csPrint ((a :: l).map Prod.fst) = csSay a.1 ++ csPrint (l.map Prod.fst) := by simp [csPrint]
      rw [this, List.length_append, List.length_cons]
      omega
theorem CmSame.arg {w0 w1 w : World} {b1 : Nat} {va vr : Value} {A R : List (Cm × Value)} (ha : Arr w va A.length 3 (rowOf cmc A)) (hg : ∀ q ∈ A, CmGood w0 q) (hb0 : Below w0.heap.size w0 w) (hR : R.map Prod.fst = A.map Prod.fst) (hC : RCmds w1 b1 vr R) (hb : Below w1.heap.size w1 w) : CmSame w va A vr R :=
  ⟨ha, fun p hp => Arr.below (hg p hp).2.2.1 hb0, (Arr.of_own hC.own).below hb, hC.byt.below hb, hR.symm, fun p hp => (hg p hp).1⟩
set_option maxHeartbeats 4000000 in
set_option maxRecDepth 100000 in
theorem w_ScriptsPrint (v : Value) (L : List (Cm × Value)) (w : World) (hg : ∀ q ∈ L, CmGood w q) (hv : Arr w v L.length 3 (rowOf cmc L)) :
    Calls Try.prog 4 #[v] w fun e w' => e = .returned (.bool true) ∧ Below w.heap.size w w' := by
  obtain ⟨ao, cp, rfl, hcp, hm⟩ := hv.shape
  have hmx : L.length ≤ 9223372036854775807 := by unfold maxLen at hm; omega
  have HG := Lib.hid hg
  have HV := Lib.hid hv
  clear hg hv
  go_enter Try.func4, Try.ntmps4
  go_wp2
  go_loopw [3, 4] (fun n i wr => ∃ k : Nat, k ≤ L.length ∧ k ≤ 201 ∧ i = .int .i64 k ∧ n = .int .i64 (sm (L.take k) : Nat) ∧ wr = w) (fun _ i _ => L.length - (intOf i).toNat)
  case atStart => exact ⟨0, Nat.zero_le _, by omega, rfl, rfl, rfl⟩
  case round =>
    obtain ⟨k, hk, hk3, rfl, rfl, rfl⟩ := hrel
    have hsm := sm_le (L.take k)
    rw [List.length_take] at hsm
    have hsm9 : sm (L.take k) ≤ 7000000 := by omega
    clear hsm
    by_cases hgo : k < L.length ∧ k ≤ 200
    · as_aux_lemma =>
      obtain ⟨hk2, hk4⟩ := hgo
      obtain ⟨b, o, c', he, -, -, hb, hx⟩ := HV.out.open (by omega) (by omega)
      cases he
      obtain ⟨y0, y1, y2⟩ := cm_cells hx k hk2
      have hby := (HG.out _ (List.getElem_mem hk2)).2.2.1
      have hsn := Lib.hid (sm_snoc L k hk2)
      obtain ⟨q, hq⟩ : ∃ q, q = L[k] := ⟨_, rfl⟩
      rw [← hq] at y2 hby hsn
      obtain ⟨⟨kd, cn, bs⟩, bv⟩ := q
      dsimp only at y2 hby hsn
      obtain ⟨ba, bc, rfl, hbc, hbm⟩ := hby.shape
      have hbn : bs.length ≤ 9223372036854775807 := by unfold maxLen at hbm; omega
      obtain ⟨s, hs⟩ : ∃ s, s = sm (L.take k) := ⟨_, rfl⟩
      rw [← hs] at hsm9 hsn ⊢
      clear hx y0 y1 hby hq hs
      by_cases h3 : (bs.length : Int) ≤ 30000
      · have HS := Lib.hid (show ((sm (L.take (k + 1)) : Nat) : Int) = (s : Int) + (bs.length : Int) by rw [hsn.out]; omega)
        go_wp2
        go_roundw
        case rel => exact ⟨k + 1, by omega, by omega, by go_num, by rw [HS.out], by first | rfl | trivial⟩
        case measure => simp [intOf]; omega
      · have HS := Lib.hid (show ((sm (L.take (k + 1)) : Nat) : Int) = (s : Int) + 30000 by rw [hsn.out]; omega)
        have h4 : 30000 ≤ (bs.length : Int) := by omega
        go_wp2
        go_roundw
        case rel => exact ⟨k + 1, by omega, by omega, by go_num, by rw [HS.out], by first | rfl | trivial⟩
        case measure => simp [intOf]; omega
    · by_cases hbig : 200 < L.length
      · as_aux_lemma =>
        have e1 : decide ((200 : Int) < (L.length : Int)) = true := by simp; omega
        by_cases hkL : k < L.length
        · have hk5 : ¬ k ≤ 200 := by omega
          have e3 : decide ((k : Int) ≤ 200) = false := by simp; omega
          clear hgo
          go_wp2_with fail
          refine (c_lives33 _).mono ?_
          rintro e w' ⟨rfl, hb⟩
          go_wp2
          go_ret
          exact ⟨rfl, hb⟩
        · clear hgo
          go_wp2_with fail
          refine (c_lives33 _).mono ?_
          rintro e w' ⟨rfl, hb⟩
          go_wp2
          go_ret
          exact ⟨rfl, hb⟩
      · obtain rfl : k = L.length := by omega
        have e1 : decide ((200 : Int) < (L.length : Int)) = false := by simp; omega
        rw [List.take_length] at hsm9 ⊢
        by_cases hsum : 20000 < sm L
        · as_aux_lemma =>
          have e2 : decide ((20000 : Int) < ((sm L : Nat) : Int)) = true := by simp; omega
          clear hgo
          go_wp2_with fail
          refine (c_lives33 _).mono ?_
          rintro e w' ⟨rfl, hb⟩
          go_wp2
          go_ret
          exact ⟨rfl, hb⟩
        · have e2 : decide ((20000 : Int) < ((sm L : Nat) : Int)) = false := by simp; omega
          obtain ⟨hbl, hpl⟩ := sm_all L (by omega)
          have HBL := Lib.hid hbl
          have HPL := Lib.hid (show (csPrint (L.map Prod.fst)).length ≤ 1000000 by omega)
          have HBY : Hid (Byts wr L) := Lib.hid fun p hp => (HG.out p hp).2.2.1
          clear hgo hbl hpl
          go_wp2_with fail
          refine (c_Other _ L _ HV.out HBY.out (by omega) (fun p hp => by have := HBL.out p hp; omega) (fun p hp => (HG.out p hp).1)).mono ?_
          rintro e w1 ⟨⟨vr, R, rfl, hR, hC⟩, hb1⟩
          have HR := Lib.hid hR
          have HC := Lib.hid hC
          have HB1 := Lib.hid hb1
          clear hR hC hb1
          go_wp2_with fail
          refine (c_Print _ L w1 (Arr.below HV.out HB1.out) (fun p hp => Arr.below (HBY.out p hp) HB1.out) HPL.out (by omega)).mono ?_
          rintro e w2 ⟨⟨va, rfl, hno, hyes⟩, hb2⟩
          have HP1 := Lib.hid (And.intro hno hyes)
          have HB2 := Lib.hid hb2
          clear hno hyes hb2
          have hRl : R.length ≤ 1000000 := by
            have h1 := congrArg List.length HR.out
            rw [List.length_map, List.length_map] at h1
            omega
          go_wp2_with fail
          refine (c_rPrint _ R w2 (Arr.below (Arr.of_own HC.out.own) HB2.out) (HC.out.byt.below HB2.out) (by rw [HR.out]; exact HPL.out) hRl).mono ?_
          rintro e w3 ⟨⟨vb, rfl, hno, hyes⟩, hb3⟩
          have hall : (R.all fun p => csMay p.1) = (L.all fun p => csMay p.1) := by
            have h1 : ∀ X : List (Cm × Value), (X.all fun p => csMay p.1) = (X.map Prod.fst).all csMay := fun X => by rw [List.all_map]; rfl
            rw [h1, h1, HR.out]
          rw [hall] at hno hyes ⊢
          obtain ⟨al, hal⟩ : ∃ al, al = (L.all fun p => csMay p.1) := ⟨_, rfl⟩
          rw [← hal] at hno hyes HP1 ⊢
          have hB23 : Below w1.heap.size w1 w3 := HB2.out.trans (hb3.mono HB2.out.size)
          have hfin : ∃ xs : List Int, xs.length ≤ 1000000 ∧ BArr w3 va xs ∧ BArr w3 vb xs ∧ BT w3 w1.heap.size va xs.length := by
            cases al with
            | false => exact ⟨[], by simp, by rw [HP1.out.1 rfl]; exact barr_nil _, by rw [hno rfl]; exact barr_nil _, by rw [HP1.out.1 rfl]; exact ⟨none, 0, 0, rfl, Nat.le_refl _, by unfold maxLen; omega, fun h => absurd h (by simp)⟩⟩
            | true =>
              obtain ⟨q1, ao', c', tg, q2, q3, q4, q5⟩ := HP1.out.2 rfl
              refine ⟨csPrint (L.map Prod.fst), HPL.out, Arr.below q1 hb3, by have := hyes rfl; rwa [HR.out] at this, ao', c', tg, q2, q3, q4, fun h0 => ?_⟩
              obtain ⟨r1, r2, r3, r4, r5⟩ := q5 h0
              exact ⟨r1, r2, Nat.lt_of_lt_of_le r3 hb3.size, fun j hj => by obtain ⟨u, hu⟩ := r4 j hj; exact ⟨u, (hb3.cell (p := ⟨tg, j, none⟩) r3).trans hu⟩, fun j => (hb3.frozen (p := ⟨tg, j, none⟩) r3).trans (r5 j)⟩
          obtain ⟨xs, hxl, hax, hbx, aa, ac, tg, rfl, hac, hacm, htg⟩ := hfin
          have s1 := run_bstr hax _ _ _ Try.underlying22 Try.underlying5 Try.underlying9
          have s2 := run_bstr hbx _ _ _ Try.underlying22 Try.underlying5 Try.underlying9
          have HTG := Lib.hid htg
          have HB3 := Lib.hid hB23
          clear hno hyes hal hall hax hbx htg hB23 hb3 HP1
          go_wp2_with fail
          refine (c_Same _ _ L R w3 (CmSame.arg (Arr.below HV.out (HB1.out.trans (HB3.out.mono HB1.out.size))) HG.out (HB1.out.trans (HB3.out.mono HB1.out.size)) HR.out HC.out HB3.out)).mono ?_
          rintro e w' ⟨rfl, m, rfl⟩
          clear s1 s2
          obtain ⟨w0, rfl⟩ : ∃ w0, w0 = wr := ⟨_, rfl⟩
          go_wp2_with fail
          go_loopw [10] (fun i wx => ∃ j : Nat, j ≤ xs.length ∧ i = .int .i64 j ∧ Below w1.heap.size w1 wx ∧ (0 < xs.length → (∀ j, j < xs.length → ∃ u, wx.cell? ⟨tg, j, none⟩ = some u) ∧ ∀ j, wx.frozen? ⟨tg, j, none⟩ = false)) (fun i _ => xs.length - (intOf i).toNat)
          case atStart => exact ⟨0, Nat.zero_le _, rfl, below_drewN HB3.out m, fun h0 => ⟨(HTG.out h0).2.2.2.1, (HTG.out h0).2.2.2.2⟩⟩
          case round =>
            obtain ⟨j, hj, rfl, hbel, hcs⟩ := hrel
            have Hbel := Lib.hid hbel
            have Hcs := Lib.hid hcs
            clear hbel hcs
            by_cases hj2 : j < xs.length
            · obtain ⟨q0, q1, -, -, -⟩ := HTG.out (by omega)
              subst q0
              obtain ⟨f1, f2⟩ := Hcs.out (by omega)
              obtain ⟨x0, x1⟩ := f1 j hj2
              have x2 := f2 j
              clear f1 f2
              go_wp2
              go_roundw
              case rel => exact ⟨j + 1, by omega, by go_num, Hbel.out.setCell (p := ⟨tg, j, none⟩) q1 _, fun h0 => ⟨fun j hj => cell_stays ((Hcs.out h0).1 j hj), fun j => (World.frozen?_setCell _ _ _ _).trans ((Hcs.out h0).2 j)⟩⟩
              case measure => simp [intOf]; omega
            · go_wp2_with fail
              refine (c_Same _ _ L R _ (CmSame.arg (Arr.below HV.out (HB1.out.trans (Hbel.out.mono HB1.out.size))) HG.out (HB1.out.trans (Hbel.out.mono HB1.out.size)) HR.out HC.out Hbel.out)).mono ?_
              rintro e w' ⟨rfl, m2, rfl⟩
              go_wp2_with fail
              refine (c_lives33 _).mono ?_
              rintro e w6 ⟨rfl, hb6⟩
              have hB6 := HB1.out.trans (((below_drewN Hbel.out m2).trans (hb6.mono (below_drewN Hbel.out m2).size)).mono HB1.out.size)
              clear hb6
              go_wp2
              go_ret
              exact ⟨rfl, hB6⟩
end Go.Proofs.Ytcgobgegoflckaa
