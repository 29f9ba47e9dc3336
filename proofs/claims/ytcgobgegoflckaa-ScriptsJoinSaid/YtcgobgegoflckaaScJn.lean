/- Layer 33: ScriptsJoin. -/
import Derived.Test.YtcgobgegoflckaaScBk
namespace Go.Proofs.Ytcgobgegoflckaa
open Go.RowKit
set_option linter.unusedVariables false

/-- 'append(s, x...)', s the call's own, x whatever there is, none too. -/
theorem wpList_append_arr {P : Program} {ops : Array Oper} {rest : List Oper} {o : Oper} {a : Act} {w : World} {Q : Exit → Act → World → Prop} (hgd : o.guard = none) (s x : Operand) (t : TypeId)
    (ho : o.op = .call { callee := .builtin .append, args := #[s, x], argTypes := #[t, t] })
    (base : Nat) (e : TypeId) (i : TypeInfo) (z : Value) (size bytes : Nat) (ht : P.underlying t = some (.slice e)) (hi : P.info? e = some i) (hz : i.zero = some z)
    (hsize : i.size = size) (hby : i.bytes = bytes) (hzs : z.cells.size = size) (hsz : 0 < size)
    (v : Value) (n : Nat) (xs : List Value) (hs : a.eval s = v) (hown : w.ownsRow base e size v n xs)
    (xv : Value) (m : Nat) (ys : List Value) (hx : a.eval x = xv) (hy : Arr w xv m size ys) (h1 : ∀ u ∈ ys, u.oneCell' = true)
    (h63 : n + m ≤ maxLen) (hbytes : (n + m) * bytes ≤ 140737488355328) (hbase : base ≤ w.heap.size)
    (h : ∀ v' w', w'.ownsRow base e size v' (n + m) (xs ++ ys) → w.grownBy w' v.ownBlock → wpList P ops Q rest (a.put o.dst v') w') : wpList P ops Q (o :: rest) a w := by
  by_cases h0 : m = 0
  · subst h0
    obtain rfl := List.eq_nil_of_length_eq_zero (show ys.length = 0 by rw [hy.1, Nat.zero_mul])
    obtain ⟨ao, c, rfl, hc, hm⟩ := hy.shape
    obtain ⟨bo, bc, rfl, hbc, hbm⟩ := (Arr.of_own hown).shape
    refine wpList_plain hgd fun K hK => ?_
    have hsrc : Src P i.size t (.slice ao 0 c) 0 [] w := by
      cases ao with
      | none => exact Src.ofNil w ht c
      | some ad => exact Src.ofSlice w ht ad 0 c [] (by simp) (fun j u hu => by simp at hu) (fun u hu => by cases hu)
    have hrun := run_append_nothing (P := P) w t t o.type e i ht hi bo _ bc hbc _ hsrc
    unfold Oper.wp
    simp [execOp, ho, resolve, invoke, builtin, hs, hx, hrun, Result.andThen]
    exact hK _ _ (h _ _ (by rw [List.append_nil]; exact hown) (grown_self _ _))
  · obtain ⟨b, off, c', rfl, hnc, hcm, hlt, hx2⟩ := hy.open (by omega) hsz
    refine wpList_append_own w hgd s x t ho base e i z size bytes ht hi hz hsize hby hzs hsz v n xs hs hown ⟨b, off, none⟩ m c' ys hx hy.1 (fun j u hu => ?_) h1 h63 hbytes hbase fun v' w' h1 h2 _ => h v' w' h1 h2
    have := hx2 j u hu
    unfold Addr.add
    split
    · rename_i h0; subst h0; exact this
    · exact this
def sj (L : List (Cm × Value)) : Nat := (L.map fun p => min p.1.bytes.length 20000).sum
theorem sj_snoc (L : List (Cm × Value)) (k : Nat) (h : k < L.length) : sj (L.take (k + 1)) = sj (L.take k) + min L[k].1.bytes.length 20000 := by
  unfold sj
  rw [List.take_succ_eq_append_getElem h, List.map_append, List.sum_append]
  simp
theorem sj_le (L : List (Cm × Value)) : sj L ≤ 20000 * L.length := by
  unfold sj
  induction L with
  | nil => simp
  | cons a l ih => simp only [List.map_cons, List.sum_cons, List.length_cons]; omega
theorem sj_all : ∀ (L : List (Cm × Value)), sj L ≤ 10000 → (∀ p ∈ L, p.1.bytes.length ≤ 10000) ∧ (csPrint (L.map Prod.fst)).length ≤ 2 * L.length + sj L
  | [], _ => ⟨(fun p h => by cases h), (by simp [csPrint])⟩
  | a :: l, h => by
    have e : sj (a :: l) = min a.1.bytes.length 20000 + sj l := by unfold sj; simp
    rw [e] at h ⊢
    obtain ⟨h1, h2⟩ := sj_all l (by omega)
    have h3 := csSay_len a.1
    refine ⟨fun p hp => ?_, ?_⟩
    · rcases List.mem_cons.1 hp with rfl | hp
      · omega
      · exact h1 p hp
    · have : csPrint ((a :: l).map Prod.fst) = csSay a.1 ++ csPrint (l.map Prod.fst) := by simp [csPrint]
      rw [this, List.length_append, List.length_cons]
      omega
theorem cmc_one {w : World} {L : List (Cm × Value)} (h : Byts w L) : ∀ u ∈ rowOf cmc L, u.oneCell' = true := by
  intro u hu
  obtain ⟨p, hp, hq⟩ := List.mem_flatMap.1 hu
  obtain ⟨ao, c, he, -, -⟩ := (h p hp).shape
  simp [cmc] at hq
  rcases hq with rfl | rfl | rfl
  · rfl
  · rfl
  · rw [he]; rfl
theorem used_le (l : List Cm) (k : Nat) : csUsed (l.take k) ≤ csUsed l := by
  have h : csUsed l = csUsed (l.take k) + csUsed (l.drop k) := by
    unfold csUsed
    rw [← List.sum_append, ← List.map_append, List.take_append_drop]
  omega
theorem used_snoc (Q : List (Cm × Value)) (k : Nat) (h : k < Q.length) : csUsed ((Q.map Prod.fst).take (k + 1)) = csUsed ((Q.map Prod.fst).take k) + csUse Q[k].1 := by
  rw [csUsed_take _ _ (by rw [List.length_map]; exact h), List.getElem_map]
set_option maxHeartbeats 4000000 in
set_option maxRecDepth 100000 in
theorem w_ScriptsJoin (v : Value) (L : List (Cm × Value)) (v1 : Value) (l : List Int) (w : World) (hg : ∀ q ∈ L, CmGood w q) (hv : Arr w v L.length 3 (rowOf cmc L)) (hB : ∀ z ∈ l, 0 ≤ z ∧ z ≤ 255) (hv1 : Arr w v1 l.length 1 (rowOf byc l)) :
    Calls Try.prog 6 #[v, v1] w fun e w' => e = .returned (.bool true) ∧ Below w.heap.size w w' := by
  obtain ⟨ao, cp, rfl, hcp, hm⟩ := hv.shape
  obtain ⟨ao1, cp1, rfl, hcp1, hm1⟩ := hv1.shape
  have hmx : L.length ≤ 9223372036854775807 := by unfold maxLen at hm; omega
  have hmx1 : l.length ≤ 9223372036854775807 := by unfold maxLen at hm1; omega
  have HG := Lib.hid hg
  have HV := Lib.hid hv
  have HV1 : Hid (BArr w (.slice ao1 l.length cp1) l) := Lib.hid hv1
  have HB : Hid (Bs l) := Lib.hid hB
  have hlives : Hid (∀ w' w'' : World, Below w.heap.size w w' → Below w'.heap.size w' w'' → Below w.heap.size w w'') := Lib.hid fun w' w'' h h2 => h.trans (h2.mono h.size)
  clear hg hv hv1 hB
  go_enter Try.func6, Try.ntmps6
  go_wp2
  go_loopw [5, 6] (fun n i wr => ∃ k : Nat, k ≤ L.length ∧ k ≤ 101 ∧ i = .int .i64 k ∧ n = .int .i64 (sj (L.take k) : Nat) ∧ wr = w) (fun _ i _ => L.length - (intOf i).toNat)
  case atStart => exact ⟨0, Nat.zero_le _, by omega, rfl, rfl, rfl⟩
  case round =>
    obtain ⟨k, hk, hk3, rfl, rfl, rfl⟩ := hrel
    have hsm := sj_le (L.take k)
    rw [List.length_take] at hsm
    have hsm9 : sj (L.take k) ≤ 7000000 := by omega
    clear hsm
    by_cases hgo : k < L.length ∧ k ≤ 100
    · as_aux_lemma =>
      obtain ⟨hk2, hk4⟩ := hgo
      obtain ⟨b, o, c', he, -, -, hb, hx⟩ := HV.out.open (by omega) (by omega)
      cases he
      obtain ⟨y0, y1, y2⟩ := cm_cells hx k hk2
      have hby := (HG.out _ (List.getElem_mem hk2)).2.2.1
      have hsn := Lib.hid (sj_snoc L k hk2)
      obtain ⟨q, hq⟩ : ∃ q, q = L[k] := ⟨_, rfl⟩
      rw [← hq] at y2 hby hsn
      obtain ⟨⟨kd, cn, bs⟩, bv⟩ := q
      dsimp only at y2 hby hsn
      obtain ⟨ba, bc, rfl, hbc, hbm⟩ := hby.shape
      have hbn : bs.length ≤ 9223372036854775807 := by unfold maxLen at hbm; omega
      obtain ⟨s, hs⟩ : ∃ s, s = sj (L.take k) := ⟨_, rfl⟩
      rw [← hs] at hsm9 hsn ⊢
      clear hx y0 y1 hby hq hs
      by_cases h3 : (bs.length : Int) ≤ 20000
      · have HS := Lib.hid (show ((sj (L.take (k + 1)) : Nat) : Int) = (s : Int) + (bs.length : Int) by rw [hsn.out]; omega)
        go_wp2
        go_roundw
        case rel => exact ⟨k + 1, by omega, by omega, by go_num, by rw [HS.out], by first | rfl | trivial⟩
        case measure => simp [intOf]; omega
      · have HS := Lib.hid (show ((sj (L.take (k + 1)) : Nat) : Int) = (s : Int) + 20000 by rw [hsn.out]; omega)
        have h4 : 20000 ≤ (bs.length : Int) := by omega
        go_wp2
        go_roundw
        case rel => exact ⟨k + 1, by omega, by omega, by go_num, by rw [HS.out], by first | rfl | trivial⟩
        case measure => simp [intOf]; omega
    · by_cases hbig : 100 < L.length
      · as_aux_lemma =>
        have e1 : decide ((100 : Int) < (L.length : Int)) = true := by simp; omega
        by_cases hkL : k < L.length
        · have hk5 : ¬ k ≤ 100 := by omega
          have e3 : decide ((k : Int) ≤ 100) = false := by simp; omega
          clear hgo
          go_wp2_with fail
          refine (c_lives33 _).mono ?_
          rintro e w' ⟨rfl, hb⟩
          go_wp2
          go_ret
          exact ⟨rfl, hb⟩
        · clear hgo
          go_wp2_with fail
          refine (c_lives33 _).mono ?_
          rintro e w' ⟨rfl, hb⟩
          go_wp2
          go_ret
          exact ⟨rfl, hb⟩
      · obtain rfl : k = L.length := by omega
        have e1 : decide ((100 : Int) < (L.length : Int)) = false := by simp; omega
        rw [List.take_length] at hsm9 ⊢
        by_cases hsum : 10000 < sj L ∨ 3000 < l.length
        · as_aux_lemma =>
          clear hgo
          by_cases hs2 : 10000 < sj L
          · have e2 : decide ((10000 : Int) < ((sj L : Nat) : Int)) = true := by simp; omega
            go_wp2_with fail
            refine (c_lives33 _).mono ?_
            rintro e w' ⟨rfl, hb⟩
            go_wp2
            go_ret
            exact ⟨rfl, hb⟩
          · have e2 : decide ((10000 : Int) < ((sj L : Nat) : Int)) = false := by simp; omega
            have e3 : decide ((3000 : Int) < (l.length : Int)) = true := by simp; omega
            go_wp2_with fail
            refine (c_lives33 _).mono ?_
            rintro e w' ⟨rfl, hb⟩
            go_wp2
            go_ret
            exact ⟨rfl, hb⟩
        · have e2 : decide ((10000 : Int) < ((sj L : Nat) : Int)) = false := by simp; omega
          have e3 : decide ((3000 : Int) < (l.length : Int)) = false := by simp; omega
          obtain ⟨hbl2, hpl⟩ := sj_all L (by omega)
          have HBB := Lib.hid hbl2
          have HPL := Lib.hid (show (csPrint (L.map Prod.fst)).length ≤ 10200 by omega)
          have HBY : Hid (Byts wr L) := Lib.hid fun p hp => (HG.out p hp).2.2.1
          have HLL := Lib.hid (show L.length ≤ 100 by omega)
          have hl3 : l.length ≤ 3000 := by omega
          clear hgo hbl2 hpl hsum
          go_wp2_with fail
          refine (c_Parse _ l wr HV1.out HB.out (by omega)).mono ?_
          rintro e w5 ⟨⟨v5, Q, rfl, hQ, hC5⟩, hb5⟩
          obtain ⟨q1, q2, q3, q4, q5, q6, q7, q8⟩ := parsed HB.out hQ
          have hus := csUsed_parse l.length l (Nat.le_refl _) HB.out
          rw [← hQ] at hus
          have HQ := Lib.hid hQ
          have Q3 := Lib.hid q3
          have Q7 := Lib.hid q7
          have Q8 := Lib.hid q8
          have HC5 := Lib.hid hC5
          have HB5 := Lib.hid hb5
          have HUS := Lib.hid hus
          have hq9 : Q.length ≤ 9223372036854775807 := by omega
          clear hQ hC5 hb5 q1 q2 q3 q4 q5 q6 q7 q8 hus
          obtain ⟨qo, hqs⟩ := HC5.out.shape
          subst hqs
          have hqc : Q.length ≤ Q.length := Nat.le_refl _
          obtain ⟨wo, rfl⟩ : ∃ wo, wo = wr := ⟨_, rfl⟩
          go_wp2_with fail
          go_loopw [8, 9] (fun u i wx => ∃ k : Nat, k ≤ Q.length ∧ i = .int .i64 k ∧ u = .int .i64 (csUsed ((Q.map Prod.fst).take k) : Nat) ∧ wx = w5) (fun _ i _ => Q.length - (intOf i).toNat)
          case atStart => exact ⟨0, Nat.zero_le _, rfl, rfl, rfl⟩
          case round =>
            obtain ⟨k, hk, rfl, rfl, rfl⟩ := hrel
            have hul : csUsed ((Q.map Prod.fst).take k) ≤ 3001 := by
              have h1 := used_le (Q.map Prod.fst) k
              rcases HUS.out with h | h
              · omega
              · omega
            by_cases hk2 : k < Q.length
            · as_aux_lemma =>
              obtain ⟨b, o, c', he, -, -, hb, hx⟩ := HC5.out.arr.open (by omega) (by omega)
              cases he
              obtain ⟨y0, y1, y2⟩ := cm_cells hx k hk2
              have hby := HC5.out.byt _ (List.getElem_mem hk2)
              have hsn := Lib.hid (used_snoc Q k hk2)
              have hbl5 := Q8.out _ (List.getElem_mem hk2)
              obtain ⟨q, hq⟩ : ∃ q, q = Q[k] := ⟨_, rfl⟩
              rw [← hq] at y0 y1 y2 hby hsn hbl5
              obtain ⟨⟨kd, cn, bs⟩, bv⟩ := q
              dsimp only at y0 y1 y2 hby hsn hbl5
              obtain ⟨ba, bc, rfl, hbc, hbm⟩ := hby.shape
              obtain ⟨s, hs⟩ : ∃ s, s = csUsed ((Q.map Prod.fst).take k) := ⟨_, rfl⟩
              rw [← hs] at hul hsn ⊢
              clear hx y1 hby hq hs
              by_cases h0 : kd = 0
              · subst h0
                have HS := Lib.hid (show ((csUsed ((Q.map Prod.fst).take (k + 1)) : Nat) : Int) = (s : Int) + 1 + 1 + (bs.length : Int) by rw [hsn.out]; simp [csUse]; omega)
                go_wp2
                go_roundw
                case rel => exact ⟨k + 1, by omega, by go_num, by rw [HS.out], by first | rfl | trivial⟩
                case measure => simp [intOf]; omega
              · have h0f : (kd == 0) = false := by simp [h0]
                have HS := Lib.hid (show ((csUsed ((Q.map Prod.fst).take (k + 1)) : Nat) : Int) = (s : Int) + 1 by rw [hsn.out]; simp [csUse, h0])
                clear h0
                go_wp2
                go_roundw
                case rel => exact ⟨k + 1, by omega, by go_num, by rw [HS.out], by first | rfl | trivial⟩
                case measure => simp [intOf]; omega
            · obtain rfl : k = Q.length := by omega
              have htk : (Q.map Prod.fst).take Q.length = Q.map Prod.fst := by rw [← List.length_map (f := Prod.fst), List.take_length]
              rw [htk] at hul ⊢
              clear htk
              have hwalk : ∀ (P : Prop), (csUsed (Q.map Prod.fst) = l.length → P) → (csUsed (Q.map Prod.fst) = l.length + 1 ∧ (∃ c, (Q.map Prod.fst).getLast? = some c ∧ c.bytes = []) → P) → P := fun P h1 h2 => HUS.out.elim h1 h2
              refine hwalk _ (fun hu => ?_) (fun hu => ?_)
              · rw [hu] at hul ⊢
                clear hu hwalk
                go_wp2_with fail
                refine (c_Print _ L wr (Arr.below HV.out HB5.out) (HBY.out.below HB5.out) (by have := HPL.out; omega) (by have := HLL.out; omega)).mono ?_
                rintro e w6 ⟨⟨va, rfl, -, hyes⟩, hb6⟩
                have HB6 := Lib.hid (hlives.out _ _ HB5.out hb6)
                have HB56 := Lib.hid hb6
                obtain ⟨al, hal⟩ : ∃ al, al = (L.all fun p => csMay p.1) := ⟨_, rfl⟩
                have HAL := Lib.hid hal
                rw [← hal] at hyes ⊢
                have HYES := Lib.hid hyes
                clear hyes hal hb6
                cases al with
                | false =>
                  go_wp2_with fail
                  refine (c_lives33 _).mono ?_
                  rintro e w' ⟨rfl, hb⟩
                  have HE := Lib.hid (hlives.out _ _ HB6.out hb)
                  clear hb
                  go_wp2
                  go_ret
                  exact ⟨rfl, HE.out⟩
                | true =>
                  have h1 : ∀ c ∈ L.map Prod.fst, csMay c = true := all_mem HAL.out.symm
                  have h2 : ∀ c ∈ L.map Prod.fst, Bs c.bytes := fun c hc => by
                    obtain ⟨p, hp, rfl⟩ := List.mem_map.1 hc
                    exact (HG.out p hp).2.2.2
                  obtain ⟨xs, hxs⟩ : ∃ xs, xs = csPrint (L.map Prod.fst) := ⟨_, rfl⟩
                  have hxb := bs_print h1 h2
                  have hpp := csParse_print _ h1 l
                  obtain ⟨hxa, -⟩ := HYES.out rfl
                  rw [← hxs] at hxb hpp hxa HPL
                  obtain ⟨xo, xc, rfl, hxc, hxm⟩ := hxa.shape
                  have HXA := Lib.hid hxa
                  have HXB := Lib.hid hxb
                  have HPP := Lib.hid hpp
                  have hxl : xs.length ≤ 10200 := HPL.out
                  obtain ⟨i0, hi, hz0, hz1, hz2⟩ := info_parts infoB
                  clear HYES HAL h1 h2 hxs hxb hpp hxa
                  go_wp2_with (first
                    | (at_builtin; refine wpList_append_arr rfl _ _ 22 rfl w6.heap.size 5 i0 (.int .u8 0) 1 1 Try.underlying22 hi hz0 hz1 hz2 rfl (by decide) (.slice none 0 0) 0 [] rfl (World.ownsRow_nil _ _ _ _) (.slice xo xs.length xc) xs.length (rowOf byc xs) rfl HXA.out (byc_one xs) (by unfold maxLen; omega) (by omega) (Nat.le_refl _) ?_; intro v7 w7 hown7 hgr7
                       have hb67 : Below w6.heap.size w6 w7 := below_grown (Below.refl _ _) (Nat.le_refl _) (World.ownsRow_nil w6 w6.heap.size 5 1) hgr7
                       have HB67 := Lib.hid hb67
                       have HO7 : Hid (w7.ownsRow w6.heap.size 5 1 v7 xs.length (rowOf byc xs)) := Lib.hid (by simpa using hown7)
                       clear hown7 hgr7 hb67)
                    | (at_builtin; refine wpList_append_arr rfl _ _ 22 rfl w6.heap.size 5 i0 (.int .u8 0) 1 1 Try.underlying22 hi hz0 hz1 hz2 rfl (by decide) v7 xs.length (rowOf byc xs) rfl HO7.out (.slice ao1 l.length cp1) l.length (rowOf byc l) rfl (Arr.below HV1.out (hlives.out _ _ HB6.out HB67.out)) (byc_one l) (by unfold maxLen; omega) (by omega) HB67.out.size ?_; intro v8 w8 hown8 hgr8))
                  have hb68 : Below w6.heap.size w6 w8 := below_grown HB67.out HB67.out.size HO7.out hgr8
                  have HB8 := Lib.hid (hlives.out _ _ HB6.out hb68)
                  have HB58 := Lib.hid (HB56.out.trans (hb68.mono HB56.out.size))
                  have HA8 : Hid (BArr w8 v8 (xs ++ l)) := Lib.hid (by
                    have := Arr.of_own hown8
                    rw [← rowOf_append] at this
                    unfold BArr
                    rw [List.length_append]
                    exact this)
                  clear hown8 hgr8 hb68 HO7 HB67
                  obtain ⟨zo, zc, rfl, hzc, hzm⟩ := HA8.out.shape
                  have HPC := Lib.hid (c_Parse _ (xs ++ l) w8 HA8.out (fun z hz => (List.mem_append.1 hz).elim (HXB.out z) (HB.out z)) (by rw [List.length_append]; omega))
                  go_wp2_with fail
                  refine (HPC.out).mono ?_
                  rintro e w9 ⟨⟨v9, Z, rfl, hZ, hC9⟩, hb9⟩
                  have HZ := Lib.hid (hZ.trans HPP.out)
                  have HC9 := Lib.hid hC9
                  have HB9 := Lib.hid (hlives.out _ _ HB8.out hb9)
                  have HB59 := Lib.hid (HB58.out.trans (hb9.mono HB58.out.size))
                  clear hZ hC9 hb9 HPC HPP
                  obtain ⟨i1, hi1, hz01, hz11, hz21⟩ := info_parts infoC
                  have hLL := HLL.out
                  have hQQ := Q3.out
                  go_wp2_with (first
                    | (at_builtin; refine wpList_append_arr rfl _ _ 26 rfl w9.heap.size 31 i1 _ 3 40 Try.underlying26 hi1 hz01 hz11 hz21 rfl (by decide) (.slice none 0 0) 0 [] rfl (World.ownsRow_nil _ _ _ _) _ L.length (rowOf cmc L) rfl (Arr.below HV.out HB9.out) (cmc_one HBY.out) (by unfold maxLen; omega) (by omega) (Nat.le_refl _) ?_; intro v10 w10 hown10 hgr10
                       have hb910 : Below w9.heap.size w9 w10 := below_grown (Below.refl _ _) (Nat.le_refl _) (World.ownsRow_nil w9 w9.heap.size 31 3) hgr10
                       have HB910 := Lib.hid hb910
                       have HO10 : Hid (w10.ownsRow w9.heap.size 31 3 v10 L.length (rowOf cmc L)) := Lib.hid (by simpa using hown10)
                       clear hown10 hgr10 hb910
                       have HCQ : Hid (Arr w10 (.slice qo Q.length Q.length) Q.length 3 (rowOf cmc Q)) := Lib.hid (Arr.below HC5.out.arr (HB59.out.trans (HB910.out.mono HB59.out.size))))
                    | (at_builtin; refine wpList_append_arr rfl _ _ 26 rfl w9.heap.size 31 i1 _ 3 40 Try.underlying26 hi1 hz01 hz11 hz21 rfl (by decide) v10 L.length (rowOf cmc L) rfl HO10.out _ Q.length (rowOf cmc Q) rfl HCQ.out (cmc_one HC5.out.byt) (by unfold maxLen; omega) (by omega) HB910.out.size ?_; intro v11 w11 hown11 hgr11))
                  have hb911 : Below w9.heap.size w9 w11 := below_grown HB910.out HB910.out.size HO10.out hgr11
                  have HB11 := Lib.hid (hlives.out _ _ HB9.out hb911)
                  have HB911 := Lib.hid hb911
                  have HB511 := Lib.hid (HB59.out.trans (hb911.mono HB59.out.size))
                  have HA11 : Hid (Arr w11 v11 (L ++ Q).length 3 (rowOf cmc (L ++ Q))) := Lib.hid (by
                    have := Arr.of_own hown11
                    rw [← rowOf_append] at this
                    rw [List.length_append]
                    exact this)
                  clear hown11 hgr11 hb911 HO10 HB910 HCQ
                  have HAK := Lib.hid (c_alike v9 v11 Z (L ++ Q) w11 (Arr.below HC9.out.arr HB911.out) (HC9.out.byt.below HB911.out) (fun p hp => by
                      have h1 : p.1 ∈ L.map Prod.fst ++ csParse l := HZ.out ▸ List.mem_map_of_mem hp
                      rw [← HQ.out, ← List.map_append] at h1
                      obtain ⟨q, hq, he⟩ := List.mem_map.1 h1
                      rw [← he]
                      exact (List.mem_append.1 hq).elim (fun h => (HG.out q h).1) (Q7.out q))
                    HA11.out (fun p hp => (List.mem_append.1 hp).elim (fun h => Arr.below (HBY.out p h) HB11.out) (fun h => Arr.below (HC5.out.byt p h) HB511.out))
                    (by rw [HZ.out, List.map_append, HQ.out]) (by rw [List.length_append, Nat.add_comm]; omega) (fun p hp => (List.mem_append.1 hp).elim (fun h => by have := HBB.out p h; omega) (Q8.out p))
                    (fun p hp => (List.mem_append.1 hp).elim (fun h => (HG.out p h).1) (Q7.out p)))
                  obtain ⟨ho, hc2, hsh11⟩ : ∃ ho hc2, v11 = .slice ho (L ++ Q).length hc2 := by obtain ⟨a1, a2, a3, -, -⟩ := HA11.out.shape; exact ⟨a1, a2, a3⟩
                  go_wp2_with fail
                  refine (HAK.out).mono ?_
                  rintro e w12 ⟨rfl, hb12⟩
                  have HB12 := Lib.hid (hlives.out _ _ HB11.out hb12)
                  clear hb12 hsh11
                  go_wp2_with fail
                  refine (c_lives33 _).mono ?_
                  rintro e w13 ⟨rfl, hb13⟩
                  have HB13 := Lib.hid (hlives.out _ _ HB12.out hb13)
                  clear hb13
                  go_wp2
                  go_ret
                  exact ⟨rfl, HB13.out⟩
              · obtain ⟨hu, cl, hcl, hcb⟩ := hu
                rw [hu] at hul ⊢
                have h0 : 0 < Q.length := by
                  rcases Nat.eq_zero_or_pos Q.length with h | h
                  · rw [List.eq_nil_of_length_eq_zero h] at hcl; cases hcl
                  · exact h
                obtain ⟨n1, hn1⟩ : ∃ n1, Q.length = n1 + 1 := ⟨Q.length - 1, by omega⟩
                obtain ⟨b, o, c', he, -, -, hb, hx⟩ := HC5.out.arr.open (by omega) (by omega)
                cases he
                obtain ⟨y0, y1, y2⟩ := cm_cells hx n1 (by omega)
                have hby := HC5.out.byt _ (List.getElem_mem (show n1 < Q.length by omega))
                have hlast : Q[n1].1.bytes = [] := by
                  rw [List.getLast?_eq_getElem?, List.length_map, hn1, Nat.add_sub_cancel, List.getElem?_map, List.getElem?_eq_getElem (show n1 < Q.length by omega)] at hcl
                  cases hcl
                  exact hcb
                obtain ⟨q, hq⟩ : ∃ q, q = Q[n1] := ⟨_, rfl⟩
                rw [← hq] at y2 hby hlast
                obtain ⟨⟨kd, cn, bs⟩, bv⟩ := q
                dsimp only at y2 hby hlast
                subst hlast
                obtain ⟨ba, bc, rfl, hbc, hbm⟩ := hby.shape
                have t1 : ((l.length : Int) + 1 != (l.length : Int)) = true := by simp; omega
                have t2 : ((n1 : Int) + 1 == 0) = false := by simp; omega
                have HN1 := Lib.hid hn1
                have hn2 : n1 ≤ 3000 := by have := Q3.out; omega
                clear hx y0 y1 hby hq hu hwalk hcl hcb h0 hn1
                simp only [HN1.out] at hq9 hqc hk hk2 ⊢
                go_wp2_with fail
                refine (c_Print _ L wr (Arr.below HV.out HB5.out) (HBY.out.below HB5.out) (by have := HPL.out; omega) (by have := HLL.out; omega)).mono ?_
                rintro e w6 ⟨⟨va, rfl, -, hyes⟩, hb6⟩
                have HB6 := Lib.hid (hlives.out _ _ HB5.out hb6)
                have HB56 := Lib.hid hb6
                obtain ⟨al, hal⟩ : ∃ al, al = (L.all fun p => csMay p.1) := ⟨_, rfl⟩
                have HAL := Lib.hid hal
                rw [← hal] at hyes ⊢
                have HYES := Lib.hid hyes
                clear hyes hal hb6
                cases al with
                | false =>
                  go_wp2_with fail
                  refine (c_lives33 _).mono ?_
                  rintro e w' ⟨rfl, hb⟩
                  have HE := Lib.hid (hlives.out _ _ HB6.out hb)
                  clear hb
                  go_wp2
                  go_ret
                  exact ⟨rfl, HE.out⟩
                | true =>
                  have h1 : ∀ c ∈ L.map Prod.fst, csMay c = true := all_mem HAL.out.symm
                  have h2 : ∀ c ∈ L.map Prod.fst, Bs c.bytes := fun c hc => by
                    obtain ⟨p, hp, rfl⟩ := List.mem_map.1 hc
                    exact (HG.out p hp).2.2.2
                  obtain ⟨xs, hxs⟩ : ∃ xs, xs = csPrint (L.map Prod.fst) := ⟨_, rfl⟩
                  have hxb := bs_print h1 h2
                  have hpp := csParse_print _ h1 l
                  obtain ⟨hxa, -⟩ := HYES.out rfl
                  rw [← hxs] at hxb hpp hxa HPL
                  obtain ⟨xo, xc, rfl, hxc, hxm⟩ := hxa.shape
                  have HXA := Lib.hid hxa
                  have HXB := Lib.hid hxb
                  have HPP := Lib.hid hpp
                  have hxl : xs.length ≤ 10200 := HPL.out
                  obtain ⟨i0, hi, hz0, hz1, hz2⟩ := info_parts infoB
                  clear HYES HAL h1 h2 hxs hxb hpp hxa
                  go_wp2_with (first
                    | (at_builtin; refine wpList_append_arr rfl _ _ 22 rfl w6.heap.size 5 i0 (.int .u8 0) 1 1 Try.underlying22 hi hz0 hz1 hz2 rfl (by decide) (.slice none 0 0) 0 [] rfl (World.ownsRow_nil _ _ _ _) (.slice xo xs.length xc) xs.length (rowOf byc xs) rfl HXA.out (byc_one xs) (by unfold maxLen; omega) (by omega) (Nat.le_refl _) ?_; intro v7 w7 hown7 hgr7
                       have hb67 : Below w6.heap.size w6 w7 := below_grown (Below.refl _ _) (Nat.le_refl _) (World.ownsRow_nil w6 w6.heap.size 5 1) hgr7
                       have HB67 := Lib.hid hb67
                       have HO7 : Hid (w7.ownsRow w6.heap.size 5 1 v7 xs.length (rowOf byc xs)) := Lib.hid (by simpa using hown7)
                       clear hown7 hgr7 hb67)
                    | (at_builtin; refine wpList_append_arr rfl _ _ 22 rfl w6.heap.size 5 i0 (.int .u8 0) 1 1 Try.underlying22 hi hz0 hz1 hz2 rfl (by decide) v7 xs.length (rowOf byc xs) rfl HO7.out (.slice ao1 l.length cp1) l.length (rowOf byc l) rfl (Arr.below HV1.out (hlives.out _ _ HB6.out HB67.out)) (byc_one l) (by unfold maxLen; omega) (by omega) HB67.out.size ?_; intro v8 w8 hown8 hgr8))
                  have hb68 : Below w6.heap.size w6 w8 := below_grown HB67.out HB67.out.size HO7.out hgr8
                  have HB8 := Lib.hid (hlives.out _ _ HB6.out hb68)
                  have HB58 := Lib.hid (HB56.out.trans (hb68.mono HB56.out.size))
                  have HA8 : Hid (BArr w8 v8 (xs ++ l)) := Lib.hid (by
                    have := Arr.of_own hown8
                    rw [← rowOf_append] at this
                    unfold BArr
                    rw [List.length_append]
                    exact this)
                  clear hown8 hgr8 hb68 HO7 HB67
                  obtain ⟨zo, zc, rfl, hzc, hzm⟩ := HA8.out.shape
                  have HPC := Lib.hid (c_Parse _ (xs ++ l) w8 HA8.out (fun z hz => (List.mem_append.1 hz).elim (HXB.out z) (HB.out z)) (by rw [List.length_append]; omega))
                  go_wp2_with fail
                  refine (HPC.out).mono ?_
                  rintro e w9 ⟨⟨v9, Z, rfl, hZ, hC9⟩, hb9⟩
                  have HZ := Lib.hid (hZ.trans HPP.out)
                  have HC9 := Lib.hid hC9
                  have HB9 := Lib.hid (hlives.out _ _ HB8.out hb9)
                  have HB59 := Lib.hid (HB58.out.trans (hb9.mono HB58.out.size))
                  clear hZ hC9 hb9 HPC HPP
                  obtain ⟨i1, hi1, hz01, hz11, hz21⟩ := info_parts infoC
                  have hLL := HLL.out
                  have hQQ := Q3.out
                  go_wp2_with (first
                    | (at_builtin; refine wpList_append_arr rfl _ _ 26 rfl w9.heap.size 31 i1 _ 3 40 Try.underlying26 hi1 hz01 hz11 hz21 rfl (by decide) (.slice none 0 0) 0 [] rfl (World.ownsRow_nil _ _ _ _) _ L.length (rowOf cmc L) rfl (Arr.below HV.out HB9.out) (cmc_one HBY.out) (by unfold maxLen; omega) (by omega) (Nat.le_refl _) ?_; intro v10 w10 hown10 hgr10
                       have hb910 : Below w9.heap.size w9 w10 := below_grown (Below.refl _ _) (Nat.le_refl _) (World.ownsRow_nil w9 w9.heap.size 31 3) hgr10
                       have HB910 := Lib.hid hb910
                       have HO10 : Hid (w10.ownsRow w9.heap.size 31 3 v10 L.length (rowOf cmc L)) := Lib.hid (by simpa using hown10)
                       clear hown10 hgr10 hb910
                       have HCQ : Hid (Arr w10 (.slice (some ⟨b, o, none⟩) (n1 + 1) (n1 + 1)) (n1 + 1) 3 (rowOf cmc Q)) := Lib.hid (by have := Arr.below HC5.out.arr (HB59.out.trans (HB910.out.mono HB59.out.size)); rw [HN1.out] at this; exact this))
                    | (at_builtin; refine wpList_append_arr rfl _ _ 26 rfl w9.heap.size 31 i1 _ 3 40 Try.underlying26 hi1 hz01 hz11 hz21 rfl (by decide) v10 L.length (rowOf cmc L) rfl HO10.out _ (n1 + 1) (rowOf cmc Q) rfl HCQ.out (cmc_one HC5.out.byt) (by unfold maxLen; omega) (by omega) HB910.out.size ?_; intro v11 w11 hown11 hgr11))
                  have hb911 : Below w9.heap.size w9 w11 := below_grown HB910.out HB910.out.size HO10.out hgr11
                  have HB11 := Lib.hid (hlives.out _ _ HB9.out hb911)
                  have HB911 := Lib.hid hb911
                  have HB511 := Lib.hid (HB59.out.trans (hb911.mono HB59.out.size))
                  have HA11 : Hid (Arr w11 v11 (L ++ Q).length 3 (rowOf cmc (L ++ Q))) := Lib.hid (by
                    have := Arr.of_own hown11
                    rw [← rowOf_append] at this
                    rw [List.length_append]
                    rw [HN1.out]; exact this)
                  clear hown11 hgr11 hb911 HO10 HB910 HCQ
                  have HAK := Lib.hid (c_alike v9 v11 Z (L ++ Q) w11 (Arr.below HC9.out.arr HB911.out) (HC9.out.byt.below HB911.out) (fun p hp => by
                      have h1 : p.1 ∈ L.map Prod.fst ++ csParse l := HZ.out ▸ List.mem_map_of_mem hp
                      rw [← HQ.out, ← List.map_append] at h1
                      obtain ⟨q, hq, he⟩ := List.mem_map.1 h1
                      rw [← he]
                      exact (List.mem_append.1 hq).elim (fun h => (HG.out q h).1) (Q7.out q))
                    HA11.out (fun p hp => (List.mem_append.1 hp).elim (fun h => Arr.below (HBY.out p h) HB11.out) (fun h => Arr.below (HC5.out.byt p h) HB511.out))
                    (by rw [HZ.out, List.map_append, HQ.out]) (by rw [List.length_append, HN1.out]; omega) (fun p hp => (List.mem_append.1 hp).elim (fun h => by have := HBB.out p h; omega) (Q8.out p))
                    (fun p hp => (List.mem_append.1 hp).elim (fun h => (HG.out p h).1) (Q7.out p)))
                  obtain ⟨ho, hc2, hsh11⟩ : ∃ ho hc2, v11 = .slice ho (L ++ Q).length hc2 := by obtain ⟨a1, a2, a3, -, -⟩ := HA11.out.shape; exact ⟨a1, a2, a3⟩
                  go_wp2_with fail
                  refine (HAK.out).mono ?_
                  rintro e w12 ⟨rfl, hb12⟩
                  have HB12 := Lib.hid (hlives.out _ _ HB11.out hb12)
                  clear hb12 hsh11
                  go_wp2_with fail
                  refine (c_lives33 _).mono ?_
                  rintro e w13 ⟨rfl, hb13⟩
                  have HB13 := Lib.hid (hlives.out _ _ HB12.out hb13)
                  clear hb13
                  go_wp2
                  go_ret
                  exact ⟨rfl, HB13.out⟩
end Go.Proofs.Ytcgobgegoflckaa
