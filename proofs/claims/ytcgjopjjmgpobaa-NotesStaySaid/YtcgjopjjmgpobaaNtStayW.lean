/- Layer 9: NotesStay: the walk. -/
import Derived.Test.YtcgjopjjmgpobaaNtStay
namespace Go.Proofs.Ytcgjopjjmgpobaa
open Go.RowKit
set_option linter.unusedVariables false

theorem drewN_twice' (w : World) (a b : Nat) : (w.drewN a).drewN b = w.drewN (a + b) := by simp [World.drewN, Nat.add_assoc]
set_option maxHeartbeats 4000000 in
set_option maxRecDepth 100000 in
theorem w_NotesStay (v : Value) (l : List Nt) (when : Int) (w : World) (hg : ∀ n ∈ l, n.ok) (hv : Arr w v l.length 8 (rowOf ntc l)) (y0 : 0 ≤ when) (y1 : when ≤ 255) :
    Calls Try.prog 14 #[v, .int .u8 when] w fun e w' => e = .returned (.bool true) ∧ Below w.heap.size w w' := by
  obtain ⟨ao, cp, rfl, hcp, hm⟩ := hv.shape
  have hmx : l.length ≤ 9223372036854775807 := by unfold maxLen at hm; omega
  have HG := Lib.hid hg
  clear hg
  by_cases hbig : 150 < l.length
  · have hd : decide ((150 : Int) < (l.length : Int)) = true := by simp; omega
    go_enter Try.func14, Try.ntmps14
    go_wp2_with (go_at_call 34; refine (c_lives09 _).mono ?_; rintro e w' ⟨rfl, hb⟩)
    go_ret
    exact ⟨rfl, hb⟩
  · have hd : decide ((150 : Int) < (l.length : Int)) = false := by simp; omega
    go_enter Try.func14, Try.ntmps14
    go_wp2_with fail
    refine (c_New _).mono ?_
    rintro e w' ⟨rfl, rfl⟩
    have n0 := NLx.new (Below.refl w.heap.size w) w.heap.size rfl
    have S0 : Hid (Stay w (w.alloc (.cells #[.slice none 0 0] 80)) w.heap.size (.slice none 0 0) (.slice none 0 0) [] []) := Lib.hid ⟨n0, World.ownsRow_nil _ _ _ _, (fun k h => by cases h), (fun n h => by cases h)⟩
    clear n0
    go_wp2_with fail
    go_loopw [6, 7, 8] (fun vt cnt i wr => ∃ k : Nat, k ≤ l.length ∧ i = .int .i64 k ∧ ∃ (T : List Nt) (x : Value) (C : Nat), Stay w wr w.heap.size x vt T T ∧ T.length ≤ k ∧ cnt = .int .i64 C ∧ C ≤ T.length) (fun _ _ i _ => l.length - (intOf i).toNat)
    case atStart => exact ⟨0, Nat.zero_le _, rfl, [], _, 0, S0.out, Nat.le_refl _, rfl, Nat.le_refl _⟩
    case round =>
      obtain ⟨k, hk, rfl, T, x, C, hS, hT, rfl, hC⟩ := hrel
      have HS := Lib.hid hS
      clear hS
      by_cases hk2 : k < l.length
      · obtain ⟨b, o, c', he, -, -, hb, hx⟩ := hv.open (by omega) (by omega)
        cases he
        have hat0 := ntAt_row hx k hk2
        obtain ⟨q, hq⟩ : ∃ q, q = l[k] := ⟨_, rfl⟩
        rw [← hq] at hat0
        have hok := HG.out q (by rw [hq]; exact List.getElem_mem _)
        have hat1 := hat0.below HS.out.nl.below hb
        obtain ⟨q0, q1, q2, q3, q4, q5, q6, q7⟩ := hat1.all
        have k0 := hok.k0
        have k1 := hok.k1
        have Hat0 := Lib.hid hat0
        have HT := Lib.hid (show T.length ≤ 150 by omega)
        have HTk := Lib.hid hT
        have HC := Lib.hid hC
        obtain ⟨ta, tcp, rfl, -, -⟩ := HS.out.arr.shape
        clear hx hq hat0 hat1 hok hv hT
        go_upto_if 33 with (fail)
        go_cut [7] (fun c wx => ∃ C : Nat, c = .int .i64 C ∧ C ≤ T.length ∧ wx = wr)
        case first =>
          by_cases hw : (k : Int) = when
          · have hwb : ((k : Int) == when) = true := by simp [hw]
            have Hw := Lib.hid hw
            clear hw
            go_wp2_with fail
            refine (c_Count' _ _ _ (T.length : Int) _ HS.out.nl.nl.head HS.out.nl.arr rfl).mono ?_
            rintro e w' ⟨rfl, rfl⟩
            go_wp2
            go_meet
            exact ⟨T.length, rfl, Nat.le_refl _, rfl⟩
          · have hwb : ((k : Int) == when) = false := by simp [hw]
            clear hw
            go_wp2
            go_meet
            exact ⟨C, rfl, hC, rfl⟩
        case rest =>
          obtain ⟨C', rfl, hC', rfl⟩ := hcut
          clear hC HC
          have HC := Lib.hid hC'
          go_upto_region 11 with (fail)
          go_cut [9] (fun s wx => s = .bool (decide (1 ≤ q.kind ∧ q.kind ≤ 9)) ∧ wx = wc)
          case first =>
            by_cases h1 : 1 ≤ q.kind
            · have e1 : decide (1 ≤ q.kind) = true := by simpa using h1
              by_cases h9 : q.kind ≤ 9
              · have e2 : decide (q.kind ≤ 9) = true := by simpa using h9
                have HD := Lib.hid (show decide (1 ≤ q.kind ∧ q.kind ≤ 9) = true by simp [h1, h9])
                go_wp2
                go_meet
                exact ⟨by rw [HD.out], rfl⟩
              · have e2 : decide (q.kind ≤ 9) = false := by simpa using h9
                have HD := Lib.hid (show decide (1 ≤ q.kind ∧ q.kind ≤ 9) = false by simp [h9])
                go_wp2
                go_meet
                exact ⟨by rw [HD.out], rfl⟩
            · have e1 : decide (1 ≤ q.kind) = false := by simpa using h1
              have HD := Lib.hid (show decide (1 ≤ q.kind ∧ q.kind ≤ 9) = false by simp [h1])
              go_wp2
              go_meet
              exact ⟨by rw [HD.out], rfl⟩
          case rest =>
            obtain ⟨rfl, rfl⟩ := hcut
            obtain ⟨m9, hm9⟩ : ∃ m9, m9 = decide (1 ≤ q.kind ∧ q.kind ≤ 9) := ⟨_, rfl⟩
            rw [← hm9]
            have HM9 := Lib.hid hm9
            clear hm9
            go_upto_region 12 with (fail)
            go_cut [67] (fun s wx => s = .bool (ntLow T q) ∧ ∃ n, wx = wc.drewN n)
            case first =>
              by_cases hz : T.length = 0
              · have ez : decide (0 < T.length) = false := by simp [hz]
                have HB := Lib.hid (show ntLow T q = false by rw [List.eq_nil_of_length_eq_zero hz, ntLow_nil])
                clear hz
                go_quiet (fail)
                go_wp2
                go_meet
                exact ⟨by rw [HB.out], _, rfl⟩
              · have ez : decide (0 < T.length) = true := by simp; omega
                have hlow := ntLow_get q (show 0 < T.length by omega)
                obtain ⟨tb, to_, tc, he, -, -, htb, htx⟩ := HS.out.arr.open (show 0 < T.length by omega) (by omega)
                cases he
                have hi0 : (0 : Int) ≤ (T.length : Int) - 1 := by omega
                have hi1 : (T.length : Int) - 1 < (T.length : Int) := by omega
                obtain ⟨m, hmm⟩ : ∃ m, m = T[T.length - 1] := ⟨_, rfl⟩
                have g0 := nt_cells ntc_len htx (T.length - 1) (by omega) 0 (by omega) (u := .int .i64 m.step) (by rw [hmm]; rfl)
                rw [Nat.add_zero] at g0
                rw [← hmm] at hlow
                have hT9 : (T.length : Int) ≤ 150 := by have := HT.out; omega
                have HLow := Lib.hid hlow
                have HZ := Lib.hid hz
                clear htx hmm hlow hz
                by_cases hst : q.step < m.step
                · have es : decide (q.step < m.step) = true := by simpa using hst
                  have HB := Lib.hid (show ntLow T q = true by rw [HLow.out, es])
                  clear hst
                  go_quiet (fail)
                  go_wp2
                  go_meet
                  exact ⟨by rw [HB.out], _, rfl⟩
                · have es : decide (q.step < m.step) = false := by simpa using hst
                  have HB := Lib.hid (show ntLow T q = false by rw [HLow.out, es])
                  clear hst
                  go_quiet (fail)
                  go_wp2
                  go_meet
                  exact ⟨by rw [HB.out], _, rfl⟩
            case rest =>
              obtain ⟨rfl, nq, rfl⟩ := hcut
              have HS1 := Lib.hid (HS.out.go (below_drewN (Below.refl _ _) nq))
              have hBe := ntBad_eq T q
              rw [← HM9.out] at hBe
              clear HM9
              obtain ⟨lw, hlw⟩ : ∃ lw, lw = ntLow T q := ⟨_, rfl⟩
              rw [← hlw] at hBe ⊢
              clear hlw
              by_cases hok : m9 = true ∧ lw = false
              · obtain ⟨rfl, rfl⟩ := hok
                have hB : ntBad T q = false := by simpa using hBe
                clear hBe
                have HE := Lib.hid (show ntErr T q = 0 by rw [ntErr_short q (by have := HT.out; omega), hB]; rfl)
                have HA := Lib.hid (ntAdd_ok HE.out)
                have HK := Lib.hid (ntBad_kind hB)
                clear hB
                go_wp2_with fail
                refine (c_AddStay q _ _ _ T T _ _ HS1.out k0 k1).mono ?_
                rintro e w1 ⟨rfl, x1, s1⟩
                rw [HE.out]
                have S1 := Lib.hid s1
                clear s1 q0 q1 q2 q3 q4 q5 q6 q7
                obtain ⟨q0, q1, q2, q3, q4, q5, q6, q7⟩ := (Hat0.out.below S1.out.nl.below hb).all
                go_wp2_with (at_builtin; refine append_stay rfl _ _ _ rfl w _ x1 _ (ntAdd T q) T rfl S1.out q HK.out rfl (by have := HT.out; omega) ?_; intro vt2 w2 s2; have S2 := Lib.hid s2; clear s2)
                go_roundw
                case rel => exact ⟨k + 1, by omega, by go_num, T ++ [q], x1, C', by have := S2.out; rw [HA.out] at this; exact this, by have := HTk.out; simp; omega, rfl, by have := HC.out; simp; omega⟩
                case measure => simp [intOf]; omega
              · have hB : ntBad T q = true := by
                  cases m9 <;> cases lw <;> simp_all
                clear hBe
                cases m9 <;> cases lw
                all_goals (try (exfalso; exact hok ⟨rfl, rfl⟩))
                all_goals
                  have HE := Lib.hid (show ntErr T q = 1 by rw [ntErr_short q (by have := HT.out; omega), hB]; rfl)
                  have HA := Lib.hid (ntAdd_no (l := T) (n := q) (by rw [HE.out]; decide))
                  clear hB
                  go_wp2_with fail
                  refine (c_AddStay q _ _ _ T T _ _ HS1.out k0 k1).mono ?_
                  rintro e w1 ⟨rfl, x1, s1⟩
                  rw [HE.out]
                  have S1 := Lib.hid s1
                  clear s1
                  go_wp2
                  go_roundw
                  case rel => exact ⟨k + 1, by omega, by go_num, T, x1, C', by have := S1.out; rw [HA.out] at this; exact this, by have := HTk.out; omega, rfl, HC.out⟩
                  case measure => simp [intOf]; omega
      · have hTl : T.length ≤ 1048576 := by omega
        have HTl := Lib.hid hTl
        have hT2 : (T.length : Int) ≤ 150 := by omega
        obtain ⟨D, hD⟩ : ∃ D, D = T.length - C := ⟨_, rfl⟩
        have hDl : (T.drop C).length = D := by rw [List.length_drop, hD]
        have hDc : D + C = T.length := by omega
        have HDl := Lib.hid hDl
        have HDc := Lib.hid hDc
        clear hv hk hTl hT hD hDl hDc
        go_wp2_with fail
        refine (c_All _ x T _ HS.out.nl.nl.head HS.out.nl.nl.lt HS.out.nl.arr HTl.out).mono ?_
        rintro e w1 ⟨⟨vA, rfl, nA⟩, hb1⟩
        have S1 := Lib.hid (HS.out.go hb1)
        have KA1 := Lib.hid nA.arr
        clear nA hb1
        go_wp2_with fail
        refine (c_Since _ x T C _ S1.out.nl.nl.head S1.out.nl.nl.lt S1.out.nl.arr HTl.out).mono ?_
        rintro e w2 ⟨⟨vS, rfl, nS⟩, hb2⟩
        have S2 := Lib.hid (S1.out.go hb2)
        have KA2 := Lib.hid (KA1.out.below hb2)
        have kS := nS.arr
        rw [Int.toNat_natCast] at kS
        have KS2 := Lib.hid kS
        clear nS hb2 kS
        obtain ⟨aA, cA, rfl, -, -⟩ := KA2.out.shape
        obtain ⟨aS, cS, hvS, -, -⟩ := KS2.out.shape
        rw [HDl.out] at hvS
        subst hvS
        obtain ⟨aT, cT, rfl, -, -⟩ := S2.out.arr.shape
        have hne1 : ((D : Int) != (T.length : Int) - (C : Int)) = false := by have := HDc.out; simp; omega
        go_wp2_with fail
        go_loopw [13] (fun i wq => ∃ k : Nat, k ≤ T.length ∧ i = .int .i64 k ∧ ∃ n, wq = w2.drewN n) (fun i _ => T.length - (intOf i).toNat)
        case atStart => exact ⟨0, Nat.zero_le _, rfl, 0, rfl⟩
        case round =>
          obtain ⟨k, hk, rfl, n, rfl⟩ := hrel
          by_cases hk2 : k < T.length
          · obtain ⟨bA, oA, cA', he, -, -, hbA, hxA⟩ := KA2.out.open (by omega) (by omega)
            cases he
            obtain ⟨bT, oT, cT', he, -, -, hbT, hxT⟩ := S2.out.arr.open (by omega) (by omega)
            cases he
            have hA0 := ntAt_row hxA k hk2
            have hT0 := ntAt_row hxT k hk2
            obtain ⟨q, hq⟩ : ∃ q, q = T[k] := ⟨_, rfl⟩
            rw [← hq] at hA0 hT0
            obtain ⟨p0, p1, p2, p3, p4, p5, p6, p7⟩ := hA0.all
            obtain ⟨r0, r1, r2, r3, r4, r5, r6, r7⟩ := hT0.all
            clear hA0 hT0 hxA hxT
            by_cases hCk : C ≤ k
            · have eC : decide (C ≤ k) = true := by simpa using hCk
              obtain ⟨j, hj⟩ : ∃ j, j = k - C := ⟨_, rfl⟩
              have hjD : j < (T.drop C).length := by have := HDl.out; have := HDc.out; omega
              obtain ⟨bS, oS, cS', he, -, -, hbS, hxS⟩ := KS2.out.open (by omega) (by omega)
              rw [HDl.out] at he
              cases he
              have hS0 := ntAt_row hxS j hjD
              have hqj : (T.drop C)[j] = q := by rw [hq, List.getElem_drop]; congr 1; omega
              rw [hqj] at hS0
              obtain ⟨s0, s1, s2, s3, s4, s5, s6, s7⟩ := hS0.all
              have hij : (k : Int) - (C : Int) = (j : Int) := by omega
              have hjD2 : (j : Int) < (D : Int) := by have := HDl.out; omega
              have hj0 : (0 : Int) ≤ (j : Int) := by omega
              clear hS0 hxS hqj hq hj hjD hCk
              go_wp2_with fail
              go_quiet (fail)
              go_wp2
              go_roundw
              case rel => exact ⟨k + 1, by omega, by go_num, _, rfl⟩
              case measure => simp [intOf]; omega
            · have eC : decide (C ≤ k) = false := by simpa using hCk
              clear hq hCk
              go_wp2_with fail
              go_quiet (fail)
              go_wp2
              go_roundw
              case rel => exact ⟨k + 1, by omega, by go_num, _, rfl⟩
              case measure => simp [intOf]; omega
          · clear hk
            have S3 := Lib.hid (S2.out.go (below_drewN (Below.refl _ _) n))
            obtain ⟨W, hW⟩ : ∃ W, W = w2.drewN n := ⟨_, rfl⟩
            rw [← hW] at S3 ⊢
            clear hW hne1
            have HZ := Lib.hid (ntUnder_zero S3.out.kd)
            have HAll := Lib.hid (ntUnder_all S3.out.kd)
            go_wp2_with fail
            go_loopw [14, 15] (fun many kk wq => ∃ K : Nat, K ≤ 256 ∧ kk = .int .i64 K ∧ many = .int .i64 (ntUnder T K) ∧ Stay w wq w.heap.size x (Value.slice aT T.length cT) T T) (fun _ kk _ => 256 - (intOf kk).toNat)
            case atStart => exact ⟨0, by omega, rfl, by have := HZ.out; rw [show ((0 : Nat) : Int) = 0 from rfl, this]; rfl, S3.out⟩
            case round =>
              obtain ⟨K, hK, rfl, rfl, hS4⟩ := hrel
              have S4 := Lib.hid hS4
              have hU := ntUnder_le T K
              obtain ⟨U, hUe⟩ : ∃ U, U = ntUnder T K := ⟨_, rfl⟩
              rw [← hUe] at hU ⊢
              have HU := Lib.hid hUe
              have hU2 : (U : Int) ≤ 150 := by omega
              clear hS4 hUe hU
              by_cases hK2 : K < 256
              · have hK3 : (K : Int) < 256 := by omega
                have hKd : decide ((K : Int) < 256) = true := by simpa using hK3
                have hK0 : (0 : Int) ≤ (K : Int) := by omega
                go_wp2_with fail
                refine (c_Of _ x T K _ S4.out.nl.nl.head S4.out.nl.nl.lt S4.out.nl.arr HTl.out).mono ?_
                rintro e w3 ⟨⟨vO, rfl, nO⟩, hb3⟩
                have S5 := Lib.hid (S4.out.go hb3)
                have KO := Lib.hid nO.arr
                clear nO hb3
                obtain ⟨aO, cO, rfl, -, -⟩ := KO.out.shape
                obtain ⟨E, hE⟩ : ∃ E, E = (ntOf T K).length := ⟨_, rfl⟩
                rw [← hE]
                have HEl := Lib.hid hE
                have hE2 : E ≤ T.length := by rw [hE]; exact List.length_filter_le _ _
                clear hE
                have HU2 := Lib.hid (show ntUnder T (K + 1) = U + E by rw [ntUnder_succ, HU.out, HEl.out])
                go_wp2_with fail
                go_loopw [17, 18] (fun at_ i wq => ∃ j : Nat, j ≤ T.length ∧ i = .int .i64 j ∧ (∃ A : Nat, A = (ntOf (T.take j) K).length ∧ at_ = .int .i64 A) ∧ ∃ n, wq = w3.drewN n) (fun _ i _ => T.length - (intOf i).toNat)
                case atStart => exact ⟨0, Nat.zero_le _, rfl, ⟨0, rfl, rfl⟩, 0, rfl⟩
                case round =>
                  obtain ⟨j, hj, rfl, ⟨A, hA, rfl⟩, n, rfl⟩ := hrel
                  have hAE : A ≤ E := by rw [hA, HEl.out]; exact ntOf_le T K j
                  have HA := Lib.hid hA
                  clear hA
                  by_cases hj2 : j < T.length
                  · by_cases hAE2 : A < E
                    · obtain ⟨bT, oT, cT', he, -, -, hbT, hxT⟩ := S5.out.arr.open (by omega) (by omega)
                      cases he
                      have hT0 := ntAt_row hxT j hj2
                      have htk := ntOf_take T K j hj2
                      have hgt := ntOf_get T K j hj2
                      obtain ⟨q, hq⟩ : ∃ q, q = T[j] := ⟨_, rfl⟩
                      rw [← hq] at hT0 htk hgt
                      obtain ⟨r0, r1, r2, r3, r4, r5, r6, r7⟩ := hT0.all
                      clear hT0 hxT hq
                      by_cases hqk : q.kind = K
                      · have hg := hgt hqk
                        rw [← HA.out] at hg
                        have hAl : A < (ntOf T K).length := by rw [← HEl.out]; exact hAE2
                        obtain ⟨bO, oO, cO', he, -, -, hbO, hxO⟩ := KO.out.open (by omega) (by omega)
                        rw [← HEl.out] at he
                        cases he
                        have hO0 := ntAt_row hxO A hAl
                        have hOq : (ntOf T K)[A] = q := by
                          have := List.getElem?_eq_getElem hAl
                          rw [hg] at this
                          injection this with this
                          exact this.symm
                        rw [hOq] at hO0
                        obtain ⟨p0, p1, p2, p3, p4, p5, p6, p7⟩ := hO0.all
                        have e1 : (q.kind == (K : Int)) = true := by simp [hqk]
                        have HN := Lib.hid (show (A + 1 : Nat) = (ntOf (T.take (j + 1)) K).length by rw [htk, if_pos hqk, List.length_append, HA.out]; rfl)
                        have Hqk := Lib.hid hqk
                        clear hO0 hxO hOq hAl hg hgt htk hqk
                        go_wp2_with fail
                        go_quiet (fail)
                        go_wp2
                        go_roundw
                        case rel => exact ⟨j + 1, by omega, by go_num, ⟨A + 1, HN.out, by go_num⟩, _, rfl⟩
                        case measure => simp [intOf]; omega
                      · have e1 : (q.kind == (K : Int)) = false := by simpa using hqk
                        have HN := Lib.hid (show A = (ntOf (T.take (j + 1)) K).length by rw [htk, if_neg hqk, List.append_nil, HA.out])
                        clear hgt htk hqk
                        go_wp2
                        go_roundw
                        case rel => exact ⟨j + 1, by omega, by go_num, ⟨A, HN.out, rfl⟩, _, rfl⟩
                        case measure => simp [intOf]; omega
                    · obtain rfl : A = E := by omega
                      have S6 := Lib.hid (S5.out.go (below_drewN (Below.refl _ _) n))
                      clear hAE2
                      go_wp2
                      go_roundw
                      case rel => exact ⟨K + 1, by omega, by go_num, by rw [show (((K + 1 : Nat)) : Int) = (K : Int) + 1 from rfl, HU2.out]; go_num, S6.out⟩
                      case measure => simp [intOf]; omega
                  · have hA2 : A = E := by
                      rw [HA.out, HEl.out, List.take_of_length_le (by omega)]
                    obtain rfl := hA2
                    have S6 := Lib.hid (S5.out.go (below_drewN (Below.refl _ _) n))
                    go_wp2
                    go_roundw
                    case rel => exact ⟨K + 1, by omega, by go_num, by rw [show (((K + 1 : Nat)) : Int) = (K : Int) + 1 from rfl, HU2.out]; go_num, S6.out⟩
                    case measure => simp [intOf]; omega
              · have hK3 : (K : Int) = 256 := by omega
                have hUT : U = T.length := by rw [HU.out, hK3]; exact HAll.out
                have hKd : decide ((K : Int) < 256) = false := by simp; omega
                have HK3 := Lib.hid hK3
                have HUT := Lib.hid hUT
                have hue : ((U : Int) == (T.length : Int)) = true := by simp [hUT]
                clear hK3 hUT hK hK2
                go_wp2_with (go_at_call 34; refine (viaC (c_lives09 _)).mono ?_; rintro e w' ⟨rfl, m1, rfl⟩)
                go_ret
                exact ⟨rfl, below_via S4.out.nl.below _⟩
end Go.Proofs.Ytcgjopjjmgpobaa
