/- Layer 33: the contract of Print. -/
import Derived.Test.YtcgobgegoflckaaScRP
import Derived.Deep.RegionLaw
import Derived.BigRegion
namespace Go.Proofs.Ytcgobgegoflckaa
open Go.RowKit
set_option linter.unusedVariables false

/-- Bytes, however many, are appended to a row of the call's own, in a region. -/
theorem step_append_bytes {ops : Array Oper} {o : Oper} {a : Act} {w : World} {K : Act → World → Prop} {Q : Exit → Act → World → Prop} {E : Prop} (hgd : o.guard = none) (s x : Operand)
    (ho : o.op = .call { callee := .builtin .append, args := #[s, x], argTypes := #[22, 22] })
    (base : Nat) (v : Value) (xs : List Int) (hs : a.eval s = v) (hown : w.ownsRow base 5 1 v xs.length (rowOf byc xs)) (xv : Value) (ys : List Int) (hx : a.eval x = xv) (hy : BArr w xv ys)
    (hl : xs.length + ys.length ≤ 2000000) (hb : base ≤ w.heap.size)
    (h : ∀ v' w', w'.ownsRow base 5 1 v' (xs ++ ys).length (rowOf byc (xs ++ ys)) → w.grownBy w' v.ownBlock → K (a.put o.dst v') w') :
    if Region.wanted o (yielded ops a.tmps) = true then Oper.wp Try.prog o a w K Q else E := by
  have hw : Region.wanted o (yielded ops a.tmps) = true := by simp [Region.wanted, hgd]
  rw [if_pos hw]
  obtain ⟨i0, hi, hz0, hz1, hz2⟩ := info_parts infoB
  obtain ⟨ao, c, rfl, hc, hm⟩ := hy.shape
  by_cases h0 : ys.length = 0
  · obtain rfl := List.eq_nil_of_length_eq_zero h0
    obtain ⟨bo, bc, rfl, hbc, hbm⟩ := (Arr.of_own hown).shape
    have hsrc : Src Try.prog i0.size 22 (.slice ao 0 c) 0 [] w := by
      cases ao with
      | none => exact Src.ofNil w Try.underlying22 c
      | some ad => exact Src.ofSlice w Try.underlying22 ad 0 c [] (by simp) (fun j u hu => by simp at hu) (fun u hu => by cases hu)
    have hrun := run_append_nothing (P := Try.prog) w 22 22 o.type 5 i0 Try.underlying22 hi bo _ bc hbc _ hsrc
    have hx' : a.eval x = .slice ao 0 c := hx
    unfold Oper.wp
    simp [execOp, ho, resolve, invoke, builtin, hs, hx', hrun, Result.andThen]
    exact h _ _ (by rw [List.append_nil]; exact hown) (grown_self _ _)
  · obtain ⟨b, off, c', he, -, -, hlt, hx2⟩ := Arr.open hy (by omega) (by omega)
    cases he
    refine wp_append_own w s x 22 ho base 5 i0 (.int .u8 0) 1 1 Try.underlying22 hi hz0 hz1 hz2 rfl (by decide) v _ _ hs hown ⟨b, off, none⟩ ys.length c (rowOf byc ys) hx (by rw [rowOf_len byc_len]) (fun j u hu => ?_) (byc_one ys) (by unfold maxLen; omega) (by omega) hb fun v' w' h1 h2 _ => h v' w' (by rw [List.length_append, rowOf_append]; exact h1) h2
    have := hx2 j u hu
    unfold Addr.add
    split
    · rename_i h0; subst h0; exact this
    · exact this
/-- Bytes in new memory. -/
def BT (w : World) (base : Nat) (v : Value) (n : Nat) : Prop := ∃ ao c tg, v = .slice ao n c ∧ n ≤ c ∧ c ≤ maxLen ∧ (0 < n → ao = some ⟨tg, 0, none⟩ ∧ base ≤ tg ∧ tg < w.heap.size ∧ (∀ j, j < n → ∃ u, w.cell? ⟨tg, j, none⟩ = some u) ∧ ∀ j, w.frozen? ⟨tg, j, none⟩ = false)
theorem own_cap {w : World} {base n : Nat} {e : TypeId} {v : Value} {xs : List Value} (h : w.ownsRow base e 1 v n xs) : ∃ ao c, v = .slice ao n c ∧ n ≤ c ∧ c ≤ maxLen ∧ (ao = none → c = 0) := by
  rcases h.2 with ⟨h1, h2⟩ | ⟨g, cap, cur, hv, hbs, hg, hc, hm, hs, hx⟩
  · exact ⟨none, 0, by rw [h1, h2], by omega, by unfold maxLen; omega, fun _ => rfl⟩
  · exact ⟨_, cap, hv, hc, hm, fun h => by cases h⟩
set_option maxHeartbeats 4000000 in
set_option maxRecDepth 100000 in
theorem c_Print (v : Value) (L : List (Cm × Value)) (w : World) (hv : Arr w v L.length 3 (rowOf cmc L)) (hy : Byts w L) (hl : (csPrint (L.map Prod.fst)).length ≤ 1000000) (hL : L.length ≤ 1000000) :
    Calls Try.prog 13 #[v] w fun e w' => (∃ v', e = .returned (.tuple #[v', .bool (L.all fun p => csMay p.1)]) ∧ ((L.all fun p => csMay p.1) = false → v' = .slice none 0 0) ∧ ((L.all fun p => csMay p.1) = true → BArr w' v' (csPrint (L.map Prod.fst)) ∧ BT w' w.heap.size v' (csPrint (L.map Prod.fst)).length)) ∧ Below w.heap.size w w' := by
  obtain ⟨ao, cp, rfl, hcp, hm⟩ := hv.shape
  have hL9 : L.length ≤ 9223372036854775807 := by omega
  have HL := Lib.hid hL
  have HL2 := Lib.hid hl
  have HY := Lib.hid hy
  have HV := Lib.hid hv
  clear hl hL hy hv
  go_enter Try.func13, Try.ntmps13
  go_wp2
  go_loopw [4, 9] (fun vo i wr => ∃ k : Nat, k ≤ L.length ∧ i = .int .i64 k ∧ (∀ p ∈ L.take k, csMay p.1 = true) ∧ wr.ownsRow w.heap.size 5 1 vo (csPrint ((L.map Prod.fst).take k)).length (rowOf byc (csPrint ((L.map Prod.fst).take k))) ∧ Below w.heap.size w wr) (fun _ i _ => L.length - (intOf i).toNat)
  case atStart => exact ⟨0, Nat.zero_le _, rfl, (fun p h => by simp at h), World.ownsRow_nil _ _ _ _, Below.refl _ _⟩
  case round =>
    obtain ⟨k, hk, rfl, hmay, hown, hbel⟩ := hrel
    have HM := Lib.hid hmay
    have HO := Lib.hid hown
    have HB := Lib.hid hbel
    have HPl := Lib.hid (Nat.le_trans (csPrint_take (L.map Prod.fst) k) HL2.out)
    clear hmay hown hbel
    by_cases hk2 : k < L.length
    · obtain ⟨b, o, c', he, -, -, hb, hx⟩ := HV.out.open (by omega) (by omega)
      cases he
      obtain ⟨y0, y1, y2⟩ := cm_cells hx k hk2
      have hby := HY.out _ (List.getElem_mem hk2)
      have hsn := csPrint_snoc (L.map Prod.fst) k (by rw [List.length_map]; exact hk2)
      rw [List.getElem_map] at hsn
      have htk : L.take (k + 1) = L.take k ++ [L[k]] := List.take_succ_eq_append_getElem hk2
      have hmem : L[k] ∈ L := List.getElem_mem hk2
      obtain ⟨q, hq⟩ : ∃ q, q = L[k] := ⟨_, rfl⟩
      rw [← hq] at y0 y1 y2 hby hsn htk hmem
      obtain ⟨⟨kd, cn, bs⟩, bv⟩ := q
      dsimp only at y0 y1 y2 hby hsn
      obtain ⟨ba, bc, rfl, hbc, hbm⟩ := hby.shape
      have hbn : bs.length ≤ 9223372036854775807 := by unfold maxLen at hbm; omega
      have z0 := (HB.out.cell (p := ⟨b, o + k * 3, none⟩) hb).trans y0
      have z1 := (HB.out.cell (p := ⟨b, o + k * 3 + 1, none⟩) hb).trans y1
      have z2 := (HB.out.cell (p := ⟨b, o + k * 3 + 2, none⟩) hb).trans y2
      have HBY := Lib.hid hby
      have HSN := Lib.hid hsn
      have HTK := Lib.hid htk
      have HMem := Lib.hid hmem
      clear hx y0 y1 y2 hby hsn htk hmem hq
      go_wp2_with fail
      refine (c_may kd cn ba bs.length bc _).mono ?_
      rintro e W ⟨rfl, hbW⟩
      obtain ⟨W0, hW⟩ : ∃ W0, W0 = wr.alloc (.cells #[.int .u8 kd, .int .i64 cn, .slice ba bs.length bc] 31) := ⟨_, rfl⟩
      obtain ⟨N, hN⟩ : ∃ N, N = wr.heap.size := ⟨_, rfl⟩
      rw [← hW] at hbW
      rw [← hN]
      have hNs : N < W0.heap.size := by rw [hW, hN]; simp
      have g0 : W.cell? ⟨N, 0, none⟩ = some (.int .u8 kd) := (hbW.cell (p := ⟨N, 0, none⟩) hNs).trans (by rw [hW]; exact (World.cell?_alloc_at _ _ _ _ hN).trans rfl)
      have g1 : W.cell? ⟨N, 1, none⟩ = some (.int .i64 cn) := (hbW.cell (p := ⟨N, 1, none⟩) hNs).trans (by rw [hW]; exact (World.cell?_alloc_at _ _ _ _ hN).trans rfl)
      have g2 : W.cell? ⟨N, 2, none⟩ = some (.slice ba bs.length bc) := (hbW.cell (p := ⟨N, 2, none⟩) hNs).trans (by rw [hW]; exact (World.cell?_alloc_at _ _ _ _ hN).trans rfl)
      have HOW : Hid (W.ownsRow w.heap.size 5 1 u4 (csPrint ((L.map Prod.fst).take k)).length (rowOf byc (csPrint ((L.map Prod.fst).take k)))) := Lib.hid (ownsRow_below (by rw [hW]; exact HO.out.alloc _) hbW)
      have HBW : Hid (Below w.heap.size w W) := Lib.hid ((by rw [hW]; exact HB.out.alloc HB.out.size _ : Below w.heap.size w W0).trans (hbW.mono (by rw [hW]; have := HB.out.size; simp; omega)))
      have HNo : Hid (u4.ownBlock ≠ some N) := Lib.hid fun e => by have := (HO.out.lt N e).2; omega
      have HNs : Hid (N < W.heap.size) := Lib.hid (Nat.lt_of_lt_of_le hNs hbW.size)
      have HBYW : Hid (BArr W (.slice ba bs.length bc) bs) := Lib.hid (Arr.below HBY.out HBW.out)
      obtain ⟨xs, hxs⟩ : ∃ xs, xs = csPrint ((L.map Prod.fst).take k) := ⟨_, rfl⟩
      rw [← hxs] at HOW HPl HSN
      have hws : w.heap.size ≤ W.heap.size := HBW.out.size
      clear hW hN HO HB hxs z0 z1 z2 hbW hNs
      cases hmy : csMayN kd cn bs.length
      · have hall : (L.all fun p => csMay p.1) = false := by
          rw [List.all_eq_false]
          exact ⟨_, HMem.out, by rw [csMay_eq, hmy]; simp⟩
        have HA := Lib.hid hall
        clear hall hmy
        go_wp2
        go_ret2
        exact ⟨⟨_, by rw [HA.out]; rfl, fun _ => rfl, (fun h => by rw [HA.out] at h; cases h)⟩, HBW.out⟩
      · have HMk : Hid (∀ p ∈ L.take (k + 1), csMay p.1 = true) := Lib.hid fun p hp => by
          rw [HTK.out] at hp
          rcases List.mem_append.1 hp with h | h
          · exact HM.out p h
          · rw [List.mem_singleton] at h
            subst h
            rw [csMay_eq, hmy]
        have hkd : (kd = 0 ∧ 0 ≤ cn ∧ cn < 64 ∧ bs.length ≤ 255) ∨ (kd = 1 ∧ 0 ≤ cn ∧ cn < 64 ∧ bs.length = 0) ∨ (kd = 2 ∧ cn = 0 ∧ bs.length = 0) := by
          unfold csMayN at hmy
          simp only [Bool.or_eq_true, Bool.and_eq_true, decide_eq_true_eq] at hmy
          omega
        clear hmy
        rcases hkd with ⟨rfl, c0, c1, n0⟩ | ⟨rfl, c0, c1, n0⟩ | ⟨rfl, rfl, n0⟩
        · as_aux_lemma =>
          have wp1 : IntKind.u8.wrap cn = cn := by rw [IntKind.wrap_u8]; omega
          have wp2 : IntKind.u8.wrap (bs.length : Int) = (bs.length : Int) := by rw [IntKind.wrap_u8]; omega
          have HE := Lib.hid (show csPrint ((L.map Prod.fst).take (k + 1)) = (xs ++ [IntKind.u8.wrap cn, IntKind.u8.wrap (bs.length : Int)]) ++ bs by rw [HSN.out, wp1, wp2]; unfold csSay; simp)
          clear wp1 wp2
          go_wp2_with fail
          have hns : N < W.heap.size := HNs.out
          go_region_law (first
            | (refine step_append_bytes (by rfl) _ _ (by rfl) w.heap.size u4 xs (by rfl) ((HOW.out.alloc _).drew) _ [IntKind.u8.wrap cn, IntKind.u8.wrap (bs.length : Int)] (by rfl) (Arr.below (barr_new W [IntKind.u8.wrap cn, IntKind.u8.wrap (bs.length : Int)] 5 W.heap.size rfl (by simp)) (Below.refl _ _).drew) (by have := HPl.out; simp; omega) (by simp; omega) ?_
               intro v1 w1 hown1 hgr1
               have H1 := Lib.hid hown1
               have HB1 := Lib.hid (below_grown (HBW.out.alloc hws _).drew (by simp; omega) ((HOW.out.alloc _).drew) hgr1)
               have q2 : w1.cell? ⟨N, 2, none⟩ = some (.slice ba bs.length bc) := (hgr1.cell_far _ (by have := HNs.out; simp; omega) (Ne.symm HNo.out)).trans ((((Below.refl W.heap.size W).alloc (Nat.le_refl _) _).cell (p := ⟨N, 2, none⟩) HNs.out).trans g2)
               have HBY1 : Hid (BArr w1 (.slice ba bs.length bc) bs) := Lib.hid (Arr.below HBY.out HB1.out)
               have hw1 := HB1.out.size)
            | (refine step_append_bytes (by rfl) _ _ (by rfl) w.heap.size _ (xs ++ [IntKind.u8.wrap cn, IntKind.u8.wrap (bs.length : Int)]) (by rfl) H1.out _ bs (by rfl) HBY1.out (by have := HPl.out; simp; omega) hw1 ?_
               intro v2 w2 hown2 hgr2
               have H2 := Lib.hid hown2
               have HB2 := Lib.hid (below_grown HB1.out hw1 H1.out hgr2)))
          all_goals
            clear hown1 hgr1 hown2 hgr2
            go_wp2
            go_roundw
            case rel => exact ⟨k + 1, by omega, by go_num, HMk.out, by rw [HE.out]; exact H2.out, HB2.out⟩
            case measure => simp [intOf]; omega
        · as_aux_lemma =>
          have HE := Lib.hid (show csPrint ((L.map Prod.fst).take (k + 1)) = xs ++ [64 + cn] by rw [HSN.out]; unfold csSay; simp)
          go_wp2_with (at_builtin; refine append_bytes rfl _ _ _ rfl w.heap.size u4 xs rfl (HOW.out.alloc _) _ [64 + cn] rfl (barr_new W [64 + cn] 5 W.heap.size rfl (by simp)) (by have := HPl.out; simp; omega) (by simp; omega) ?_; intro v1 w1 hown1 hgr1)
          have H1 := Lib.hid hown1
          have HB1 := Lib.hid (below_grown (HBW.out.alloc hws _) (by simp; omega) (HOW.out.alloc _) hgr1)
          clear hown1 hgr1
          go_roundw
          case rel => exact ⟨k + 1, by omega, by go_num, HMk.out, by rw [HE.out]; exact H1.out, HB1.out⟩
          case measure => simp [intOf]; omega
        · as_aux_lemma =>
          have HE := Lib.hid (show csPrint ((L.map Prod.fst).take (k + 1)) = xs ++ [192] by rw [HSN.out]; unfold csSay; simp)
          go_wp2_with (at_builtin; refine append_bytes rfl _ _ _ rfl w.heap.size u4 xs rfl (HOW.out.alloc _) _ [192] rfl (barr_new W [192] 5 W.heap.size rfl (by simp)) (by have := HPl.out; simp; omega) (by simp; omega) ?_; intro v1 w1 hown1 hgr1)
          have H1 := Lib.hid hown1
          have HB1 := Lib.hid (below_grown (HBW.out.alloc hws _) (by simp; omega) (HOW.out.alloc _) hgr1)
          clear hown1 hgr1
          go_roundw
          case rel => exact ⟨k + 1, by omega, by go_num, HMk.out, by rw [HE.out]; exact H1.out, HB1.out⟩
          case measure => simp [intOf]; omega
    · obtain rfl : k = L.length := by omega
      have hall : (L.all fun p => csMay p.1) = true := by
        rw [List.all_eq_true]
        intro p hp
        exact HM.out p (by rw [List.take_length]; exact hp)
      have hfin := HO.out
      rw [← List.length_map (f := Prod.fst), List.take_length] at hfin
      obtain ⟨oa, oc, rfl, hoc, hom, hon⟩ := own_cap hfin
      have HA := Lib.hid hall
      have HF : Hid (BArr wr (.slice oa (csPrint (L.map Prod.fst)).length oc) (csPrint (L.map Prod.fst))) := Lib.hid (Arr.of_own hfin)
      obtain ⟨ra, rc, tg, he, hrc, hrm, htg⟩ := own_t hfin
      cases he
      have HT := Lib.hid htg
      have HOC := Lib.hid hoc
      have HOM := Lib.hid hom
      have HON := Lib.hid hon
      clear hall hfin hoc hom hon hrc hrm htg
      go_wp2_with fail
      refine (c_bClip oa _ oc _ HOC.out HOM.out HON.out).mono ?_
      rintro e w' ⟨rfl, rfl⟩
      go_wp2
      go_ret2
      exact ⟨⟨_, by rw [HA.out]; rfl, (fun h => by rw [HA.out] at h; cases h), fun _ => ⟨Arr.clip HF.out, oa, _, tg, rfl, Nat.le_refl _, Nat.le_trans HOC.out HOM.out, HT.out⟩⟩, HB.out⟩
end Go.Proofs.Ytcgobgegoflckaa
