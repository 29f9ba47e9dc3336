/- Layer 8: the walk of PlacesFound. -/
import Derived.Test.YtlaholgclcffaaaPlFound
namespace Go.Proofs.Ytlaholgclcffaaa
open Go.RowKit
set_option linter.unusedVariables false

theorem drewN_twice (w : World) (a b : Nat) : (w.drewN a).drewN b = w.drewN (a + b) := by simp [World.drewN, Nat.add_assoc]
theorem target_word {o n : Int} (h1 : 1 ≤ o) (h2 : o ≤ 11) (h : n = 0 ∨ n = o + 1) : plTarget (plWord o n) = max o n := by
  unfold plTarget
  rcases h with rfl | rfl
  · rw [now_word0 h1 (by omega), if_pos rfl, old_word h1 (by omega) (by omega) (by omega)]; omega
  · rw [now_word h1 h2 rfl, if_neg (by omega)]; omega
theorem not_mem_take {l : List (Int × Int)} {p q : Int × Int} {k : Nat} {hk : k < l.length} (hq : q = l[k]) : decide (p ∈ l.take (k + 1)) = (decide (p ∈ l.take k) || decide (q = p)) := by
  rw [List.take_succ_eq_append_getElem hk, ← hq, Bool.eq_iff_iff]
  simp only [decide_eq_true_eq, Bool.or_eq_true, List.mem_append, List.mem_singleton]
  rw [eq_comm (a := p)]

set_option maxHeartbeats 2000000 in
set_option maxRecDepth 100000 in
theorem w_PlacesFound (key : ByteArray) (bits : Int) (grows : Bool) (w : World) (hs : key.size ≤ maxLen) (b0 : 0 ≤ bits) (b1 : bits ≤ 255) :
    Calls Try.prog 15 #[.string key, .int .u8 bits, .bool grows] w fun e w' => e = .returned (.bool true) ∧ Below w.heap.size w w' := by
  by_cases c : key.size > 1000
  · clear hs
    go_enter Try.func15, Try.ntmps15
    go_wp2_with (go_at_call 33; refine (c_lives08 _).mono ?_; rintro e w' ⟨rfl, hb⟩)
    go_ret
    exact ⟨rfl, hb⟩
  · have hh := fnvHash_bd key.data.toList
    have hs' := Lib.hid hs
    clear hs
    obtain ⟨o, ho⟩ : ∃ o, o = 1 + bits % 11 := ⟨_, rfl⟩
    have o0 : 1 ≤ o := by omega
    have o1 : o ≤ 11 := by omega
    obtain ⟨x, hx⟩ : ∃ x, x = plWord o (if grows then o + 1 else 0) := ⟨_, rfl⟩
    have G := plGood (fnvHash key.data.toList) o hh.1 hh.2 o0 o1 grows
    have hX := plWord_bd o (if grows then o + 1 else 0)
    have eo : plOld x = o := by rw [hx]; exact old_word o0 (by omega) (by split <;> omega) (by split <;> omega)
    have en : plNow x = if grows then o + 1 else 0 := by
      rw [hx]
      cases grows
      · exact now_word0 o0 (by omega)
      · exact now_word o0 o1 rfl
    have et : plTarget x = max o (if grows then o + 1 else 0) := by rw [hx]; exact target_word o0 o1 (by cases grows <;> simp)
    rw [← hx] at G hX
    have hC := c_Places (fnvHash key.data.toList) x
    obtain ⟨L, hL⟩ : ∃ L, L = plPlaces (fnvHash key.data.toList) x := ⟨_, rfl⟩
    rw [← hL] at G hC
    have HC := Lib.hid hC
    have HG := Lib.hid G
    have hp := G.pos
    have hq := G.le
    have hone := G.one
    have htwo := G.two
    have ht := fnvTag_bd _ hh.1 hh.2
    clear hL hC G
    cases grows
    case true =>
      have l2 := htwo rfl
      have et' : plTarget x = o + 1 := by rw [et]; simp; omega
      simp only [if_true] at hx en
      have hx' : plWord o (o + 1) = x := hx.symm
      clear hone htwo et hx
      have Ho := Lib.hid ho
      have ho' : 1 + bits % 11 = o := ho.symm
      clear ho
      go_enter Try.func15, Try.ntmps15
      go_wp2_with (first | (go_at_call 32; refine (c_Word _ _ _).mono ?_; rintro e w' ⟨rfl, rfl⟩) | (go_at_call 29; refine (c_As x _ hX.1 (by omega)).mono ?_; rintro e w' ⟨rfl, rfl⟩) | (go_at_call 17; refine (c_Hash _ _ hs'.out).mono ?_; rintro e wh ⟨rfl, rfl⟩) | (go_at_call 51; refine (HC.out _ hh.1 hh.2 hX.1 (by omega)).mono ?_; rintro e w1 ⟨⟨v, rfl, hA, hF, ao, rfl⟩, hb1⟩; have HA := Lib.hid hA; clear hA hF) | (go_at_call 36; refine (c_Target x _ hX.1 (by omega)).mono ?_; rintro e w' ⟨rfl, rfl⟩))
      obtain ⟨g, oo, c1, he, hc1, hm1, hlt1, hx1⟩ := HA.out.open hp (by omega)
      cases he
      have hbel1 : Below w.heap.size w w1 := ((Below.refl _ _).alloc (Nat.le_refl _) _).trans (hb1.mono (by simp))
      have Hx1 := Lib.hid hx1
      have Hen := Lib.hid en
      have Het := Lib.hid et'
      have Heo := Lib.hid eo
      have Hx' := Lib.hid hx'
      have Ho' := Lib.hid ho'
      clear hb1 HA hx1 HC en et' hx' ho' eo
      go_loopw [14] (fun i wr => ∃ k : Nat, k ≤ L.length ∧ i = .int .i64 k ∧ (∀ j u, (rowOf plc L)[j]? = some u → wr.cell? ⟨g, oo + j, none⟩ = some u) ∧ g < wr.heap.size ∧ Below w.heap.size w wr) (fun i _ => L.length - (intOf i).toNat)
      case atStart => exact ⟨0, Nat.zero_le _, rfl, Hx1.out, hlt1, hbel1⟩
      case round =>
        obtain ⟨k, hk, rfl, hx2, hlt2, hbel2⟩ := hrel
        by_cases hk2 : k < L.length
        · obtain ⟨q, hq⟩ : ∃ q, q = L[k] := ⟨_, rfl⟩
          have q0 := hx2 (k * 2 + 0) _ (rowOf_get plc_len L k 0 hk2 (by omega))
          have q1 := hx2 (k * 2 + 1) _ (rowOf_get plc_len L k 1 hk2 (by omega))
          rw [← hq] at q0 q1
          have q0 : wr.cell? ⟨g, oo + k * 2, none⟩ = some (.int .i64 q.1) := q0
          have q1 : wr.cell? ⟨g, oo + k * 2 + 1, none⟩ = some (.int .i64 q.2) := q1
          have Hx2 := Lib.hid hx2
          have Hq := Lib.hid hq
          have hqb := HG.out.bits q (by rw [hq]; exact List.getElem_mem _)
          have hqs := fnvSize_bd q.1
          clear hx2 hq
          go_upto_region 16 with fail
          go_cut [106] (fun s wx => s = .bool false ∧ ∃ nq, wx = wr.drewN nq)
          case first =>
            by_cases hk0 : k = 0
            · have hd : decide (0 < k) = false := by simp [hk0]
              clear hk0
              go_quiet (fail)
              go_wp2
              go_meet
              exact ⟨rfl, _, rfl⟩
            · have hd : decide (0 < k) = true := by simp; omega
              have hk1 : (0 : Int) ≤ (k : Int) - 1 := by omega
              have hk3 : (k : Int) - 1 < (L.length : Int) := by omega
              have hup := HG.out.up (k - 1) k (by omega) hk2 (by omega)
              obtain ⟨p, hp'⟩ : ∃ p, p = L[k - 1] := ⟨_, rfl⟩
              have p0 : wr.cell? ⟨g, oo + (k - 1) * 2, none⟩ = some (.int .i64 p.1) := by rw [hp']; exact Hx2.out ((k - 1) * 2 + 0) _ (rowOf_get plc_len L (k - 1) 0 (by omega) (by omega))
              rw [← hp', ← Hq.out] at hup
              have hdd : decide (q.1 < p.1) = false := by simp; omega
              clear hp'
              go_quiet (fail)
              go_wp2
              go_meet
              exact ⟨rfl, _, rfl⟩
          case rest =>
            obtain ⟨rfl, nq, rfl⟩ := hcut
            obtain ⟨wr1, hwr⟩ : ∃ wr1, wr1 = wr.drewN nq := ⟨_, rfl⟩
            have q0' : wr1.cell? ⟨g, oo + k * 2, none⟩ = some (.int .i64 q.1) := by rw [hwr]; exact q0
            have q1' : wr1.cell? ⟨g, oo + k * 2 + 1, none⟩ = some (.int .i64 q.2) := by rw [hwr]; exact q1
            have Hx3 : Hid (∀ (j : Nat) (u : Value), (rowOf plc L)[j]? = some u → wr1.cell? { block := g, off := oo + j } = some u) := by rw [hwr]; exact Hx2.out
            have hlt3 : g < wr1.heap.size := by rw [hwr]; exact hlt2
            have hbel3 : Below w.heap.size w wr1 := by rw [hwr]; exact below_drewN hbel2 nq
            rw [← hwr]
            have hne : ¬ wr1.heap.size = g := by omega
            clear hwr hbel2 hlt2 Hx2 q0 q1
            go_upto_region 18 with fail
            go_cut [15] (fun s wx => ∃ d : Nat, s = .pointer (some ⟨d, 0, none⟩) ∧ wx.cell? ⟨d, 0, none⟩ = some (.int .i64 q.1) ∧ wx.cell? ⟨d, 1, none⟩ = some (.int .i64 (fnvOther q.2 (fnvTag (fnvHash key.data.toList)) q.1)) ∧ d < wx.heap.size ∧ Below wr1.heap.size wr1 wx)
            case first =>
              go_region_held3 (fun w' => w'.cell? ⟨g, oo + k * 2, none⟩ = some (.int .i64 q.1) ∧ w'.cell? ⟨g, oo + k * 2 + 1, none⟩ = some (.int .i64 q.2)) (first | go_keep)
                (first | (go_at_call 19; refine (c_Tag _ _ hh.1 hh.2).mono ?_; rintro e w' ⟨rfl, rfl⟩) | (go_at_call 25; refine (c_Other _ _ _ _ (by omega) (by omega) (by omega) (by omega) (by omega) (by omega)).mono ?_; rintro e w' ⟨rfl, rfl⟩))
              all_goals
                go_wp2
                go_meet
                exact ⟨wr1.heap.size, rfl, by simp, by simp, by simp, ((Below.refl _ _).alloc (Nat.le_refl _) _).drew⟩
            case rest =>
              obtain ⟨d, rfl, d0, d1, hd, hbd⟩ := hcut
              obtain ⟨po, hpo⟩ : ∃ po : Int × Int, po = (q.1, fnvOther q.2 (fnvTag (fnvHash key.data.toList)) q.1) := ⟨_, rfl⟩
              have d0 : wc.cell? ⟨d, 0, none⟩ = some (.int .i64 po.1) := by rw [hpo]; exact d0
              have d1 : wc.cell? ⟨d, 1, none⟩ = some (.int .i64 po.2) := by rw [hpo]; exact d1
              have hoth := HG.out.other q (by rw [Hq.out]; exact List.getElem_mem _)
              rw [← hpo] at hoth
              have Hoth := Lib.hid hoth
              have Hx4 : Hid (∀ (j : Nat) (u : Value), (rowOf plc L)[j]? = some u → wc.cell? { block := g, off := oo + j } = some u) := fun j u hu => (hbd.cell (p := ⟨g, oo + j, none⟩) hlt3).trans (Hx3.out j u hu)
              have hlt4 := Nat.lt_of_lt_of_le hlt3 hbd.size
              have hbel4 := hbel3.trans (hbd.mono hbel3.size)
              clear hbd hlt3 hbel3 Hx3 hoth hpo q0' q1' hne
              go_wp2
              go_loopw [16, 17] (fun f i wq => ∃ (m : Nat) (fb : Bool), m ≤ L.length ∧ i = .int .i64 m ∧ f = .bool fb ∧ fb = decide (po ∈ L.take m) ∧ ∃ n, wq = wc.drewN n) (fun _ i _ => L.length - (intOf i).toNat)
              case atStart => exact ⟨0, false, Nat.zero_le _, rfl, rfl, by simp, 0, rfl⟩
              case round =>
                obtain ⟨m, fb, hm, rfl, rfl, hfb, nw, rfl⟩ := hrel
                by_cases hm2 : m < L.length
                · obtain ⟨p, hp'⟩ : ∃ p, p = L[m] := ⟨_, rfl⟩
                  have p0 : (wc.drewN nw).cell? ⟨g, oo + m * 2, none⟩ = some (.int .i64 p.1) := by rw [hp']; exact Hx4.out (m * 2 + 0) _ (rowOf_get plc_len L m 0 hm2 (by omega))
                  have p1 : (wc.drewN nw).cell? ⟨g, oo + m * 2 + 1, none⟩ = some (.int .i64 p.2) := by rw [hp']; exact Hx4.out (m * 2 + 1) _ (rowOf_get plc_len L m 1 hm2 (by omega))
                  have e0 : (wc.drewN nw).cell? ⟨d, 0, none⟩ = some (.int .i64 po.1) := d0
                  have e1 : (wc.drewN nw).cell? ⟨d, 1, none⟩ = some (.int .i64 po.2) := d1
                  obtain ⟨wd, hwd⟩ : ∃ wd, wd = wc.drewN nw := ⟨_, rfl⟩
                  rw [← hwd] at p0 p1 e0 e1 ⊢
                  have Hwd := Lib.hid hwd
                  have Hst := Lib.hid (not_mem_take (p := po) hp')
                  have Hfb := Lib.hid hfb
                  clear hp' hfb d0 d1 hwd
                  cases fb
                  · by_cases hpp : p = po
                    · subst hpp
                      go_wp2
                      go_quiet (fail)
                      go_wp2
                      go_roundw
                      case rel => exact ⟨m + 1, true, by omega, by go_num, rfl, by rw [Hst.out]; simp, _, by rw [Hwd.out]; exact drewN_twice _ _ _⟩
                      case measure => simp [intOf]; omega
                    · have ee : (p.1 == po.1 && p.2 == po.2) = false := by
                        by_cases h1 : p.1 = po.1
                        · have h2 : p.2 ≠ po.2 := fun h2 => hpp (Prod.ext h1 h2)
                          simp [h2]
                        · simp [h1]
                      have Hpp := Lib.hid hpp
                      clear hpp
                      by_cases h1 : p.1 = po.1
                      all_goals
                        first | (have h2 : (p.2 == po.2) = false := by simpa [h1] using ee) | (have h2 : (p.1 == po.1) = false := by simpa using h1)
                        clear ee
                        first | clear h1 | skip
                        go_wp2
                        go_quiet (fail)
                        go_wp2
                        go_roundw
                        case rel => exact ⟨m + 1, false, by omega, by go_num, rfl, by rw [Hst.out, ← Hfb.out]; simp [Hpp.out], _, by rw [Hwd.out]; exact drewN_twice _ _ _⟩
                        case measure => simp [intOf]; omega
                  · go_wp2
                    go_quiet (fail)
                    go_wp2
                    go_roundw
                    case rel => exact ⟨m + 1, true, by omega, by go_num, rfl, by rw [Hst.out, ← Hfb.out]; simp, _, by rw [Hwd.out]; exact drewN_twice _ _ _⟩
                    case measure => simp [intOf]; omega
                · obtain rfl : m = L.length := by omega
                  rw [List.take_length, decide_eq_true Hoth.out] at hfb
                  subst hfb
                  go_wp2
                  go_roundw
                  case rel => exact ⟨k + 1, by omega, by go_num, Hx4.out, hlt4, below_drewN hbel4 _⟩
                  case measure => simp [intOf]; omega
        · obtain rfl : k = L.length := by omega
          obtain ⟨hp1, hfst⟩ := HG.out.first
          have r0 : wr.cell? ⟨g, oo, none⟩ = some (.int .i64 o) := by simpa [hfst] using hx2 (0 * 2 + 0) _ (rowOf_get plc_len L 0 0 hp (by omega))
          have r1 : wr.cell? ⟨g, oo + 1, none⟩ = some (.int .i64 (fnvBucket (fnvHash key.data.toList) o)) := by simpa [hfst] using hx2 (0 * 2 + 1) _ (rowOf_get plc_len L 0 1 hp (by omega))
          clear hx2 hfst
          go_wp2
          refine wp_region_via (by kernel_rfl) (by kernel_rfl) ?_
          repeat (go_big_quiet_step ((first | (go_at_call 33; exact viaB (c_lives08 _)) | (go_at_call 23; exact viaS (c_Bucket _ _ _ hh.1 hh.2 (by omega) (by omega))))))
          refine wpQuiet_nil ?_
          rintro _ ⟨e, rfl⟩
          go_wp2
          go_ret
          exact ⟨rfl, below_via hbel2 _⟩
    case false =>
      have l2 := hone rfl
      have et' : plTarget x = o := by rw [et]; simp; omega
      simp only [Bool.false_eq_true, if_false] at hx en
      have hx' : plWord o 0 = x := hx.symm
      clear hone htwo et hx
      have Ho := Lib.hid ho
      have ho' : 1 + bits % 11 = o := ho.symm
      clear ho
      go_enter Try.func15, Try.ntmps15
      go_wp2_with (first | (go_at_call 32; refine (c_Word _ _ _).mono ?_; rintro e w' ⟨rfl, rfl⟩) | (go_at_call 29; refine (c_As x _ hX.1 (by omega)).mono ?_; rintro e w' ⟨rfl, rfl⟩) | (go_at_call 17; refine (c_Hash _ _ hs'.out).mono ?_; rintro e wh ⟨rfl, rfl⟩) | (go_at_call 51; refine (HC.out _ hh.1 hh.2 hX.1 (by omega)).mono ?_; rintro e w1 ⟨⟨v, rfl, hA, hF, ao, rfl⟩, hb1⟩; have HA := Lib.hid hA; clear hA hF) | (go_at_call 36; refine (c_Target x _ hX.1 (by omega)).mono ?_; rintro e w' ⟨rfl, rfl⟩))
      obtain ⟨g, oo, c1, he, hc1, hm1, hlt1, hx1⟩ := HA.out.open hp (by omega)
      cases he
      have hbel1 : Below w.heap.size w w1 := ((Below.refl _ _).alloc (Nat.le_refl _) _).trans (hb1.mono (by simp))
      have Hx1 := Lib.hid hx1
      have Hen := Lib.hid en
      have Het := Lib.hid et'
      have Heo := Lib.hid eo
      have Hx' := Lib.hid hx'
      have Ho' := Lib.hid ho'
      clear hb1 HA hx1 HC en et' hx' ho' eo
      go_loopw [14] (fun i wr => ∃ k : Nat, k ≤ L.length ∧ i = .int .i64 k ∧ (∀ j u, (rowOf plc L)[j]? = some u → wr.cell? ⟨g, oo + j, none⟩ = some u) ∧ g < wr.heap.size ∧ Below w.heap.size w wr) (fun i _ => L.length - (intOf i).toNat)
      case atStart => exact ⟨0, Nat.zero_le _, rfl, Hx1.out, hlt1, hbel1⟩
      case round =>
        obtain ⟨k, hk, rfl, hx2, hlt2, hbel2⟩ := hrel
        by_cases hk2 : k < L.length
        · obtain ⟨q, hq⟩ : ∃ q, q = L[k] := ⟨_, rfl⟩
          have q0 := hx2 (k * 2 + 0) _ (rowOf_get plc_len L k 0 hk2 (by omega))
          have q1 := hx2 (k * 2 + 1) _ (rowOf_get plc_len L k 1 hk2 (by omega))
          rw [← hq] at q0 q1
          have q0 : wr.cell? ⟨g, oo + k * 2, none⟩ = some (.int .i64 q.1) := q0
          have q1 : wr.cell? ⟨g, oo + k * 2 + 1, none⟩ = some (.int .i64 q.2) := q1
          have Hx2 := Lib.hid hx2
          have Hq := Lib.hid hq
          have hqb := HG.out.bits q (by rw [hq]; exact List.getElem_mem _)
          have hqs := fnvSize_bd q.1
          clear hx2 hq
          go_upto_region 16 with fail
          go_cut [106] (fun s wx => s = .bool false ∧ ∃ nq, wx = wr.drewN nq)
          case first =>
            by_cases hk0 : k = 0
            · have hd : decide (0 < k) = false := by simp [hk0]
              clear hk0
              go_quiet (fail)
              go_wp2
              go_meet
              exact ⟨rfl, _, rfl⟩
            · have hd : decide (0 < k) = true := by simp; omega
              have hk1 : (0 : Int) ≤ (k : Int) - 1 := by omega
              have hk3 : (k : Int) - 1 < (L.length : Int) := by omega
              have hup := HG.out.up (k - 1) k (by omega) hk2 (by omega)
              obtain ⟨p, hp'⟩ : ∃ p, p = L[k - 1] := ⟨_, rfl⟩
              have p0 : wr.cell? ⟨g, oo + (k - 1) * 2, none⟩ = some (.int .i64 p.1) := by rw [hp']; exact Hx2.out ((k - 1) * 2 + 0) _ (rowOf_get plc_len L (k - 1) 0 (by omega) (by omega))
              rw [← hp', ← Hq.out] at hup
              have hdd : decide (q.1 < p.1) = false := by simp; omega
              clear hp'
              go_quiet (fail)
              go_wp2
              go_meet
              exact ⟨rfl, _, rfl⟩
          case rest =>
            obtain ⟨rfl, nq, rfl⟩ := hcut
            obtain ⟨wr1, hwr⟩ : ∃ wr1, wr1 = wr.drewN nq := ⟨_, rfl⟩
            have q0' : wr1.cell? ⟨g, oo + k * 2, none⟩ = some (.int .i64 q.1) := by rw [hwr]; exact q0
            have q1' : wr1.cell? ⟨g, oo + k * 2 + 1, none⟩ = some (.int .i64 q.2) := by rw [hwr]; exact q1
            have Hx3 : Hid (∀ (j : Nat) (u : Value), (rowOf plc L)[j]? = some u → wr1.cell? { block := g, off := oo + j } = some u) := by rw [hwr]; exact Hx2.out
            have hlt3 : g < wr1.heap.size := by rw [hwr]; exact hlt2
            have hbel3 : Below w.heap.size w wr1 := by rw [hwr]; exact below_drewN hbel2 nq
            rw [← hwr]
            have hne : ¬ wr1.heap.size = g := by omega
            clear hwr hbel2 hlt2 Hx2 q0 q1
            go_upto_region 18 with fail
            go_cut [15] (fun s wx => ∃ d : Nat, s = .pointer (some ⟨d, 0, none⟩) ∧ wx.cell? ⟨d, 0, none⟩ = some (.int .i64 q.1) ∧ wx.cell? ⟨d, 1, none⟩ = some (.int .i64 (fnvOther q.2 (fnvTag (fnvHash key.data.toList)) q.1)) ∧ d < wx.heap.size ∧ Below wr1.heap.size wr1 wx)
            case first =>
              go_region_held3 (fun w' => w'.cell? ⟨g, oo + k * 2, none⟩ = some (.int .i64 q.1) ∧ w'.cell? ⟨g, oo + k * 2 + 1, none⟩ = some (.int .i64 q.2)) (first | go_keep)
                (first | (go_at_call 19; refine (c_Tag _ _ hh.1 hh.2).mono ?_; rintro e w' ⟨rfl, rfl⟩) | (go_at_call 25; refine (c_Other _ _ _ _ (by omega) (by omega) (by omega) (by omega) (by omega) (by omega)).mono ?_; rintro e w' ⟨rfl, rfl⟩))
              all_goals
                go_wp2
                go_meet
                exact ⟨wr1.heap.size, rfl, by simp, by simp, by simp, ((Below.refl _ _).alloc (Nat.le_refl _) _).drew⟩
            case rest =>
              obtain ⟨d, rfl, d0, d1, hd, hbd⟩ := hcut
              obtain ⟨po, hpo⟩ : ∃ po : Int × Int, po = (q.1, fnvOther q.2 (fnvTag (fnvHash key.data.toList)) q.1) := ⟨_, rfl⟩
              have d0 : wc.cell? ⟨d, 0, none⟩ = some (.int .i64 po.1) := by rw [hpo]; exact d0
              have d1 : wc.cell? ⟨d, 1, none⟩ = some (.int .i64 po.2) := by rw [hpo]; exact d1
              have hoth := HG.out.other q (by rw [Hq.out]; exact List.getElem_mem _)
              rw [← hpo] at hoth
              have Hoth := Lib.hid hoth
              have Hx4 : Hid (∀ (j : Nat) (u : Value), (rowOf plc L)[j]? = some u → wc.cell? { block := g, off := oo + j } = some u) := fun j u hu => (hbd.cell (p := ⟨g, oo + j, none⟩) hlt3).trans (Hx3.out j u hu)
              have hlt4 := Nat.lt_of_lt_of_le hlt3 hbd.size
              have hbel4 := hbel3.trans (hbd.mono hbel3.size)
              clear hbd hlt3 hbel3 Hx3 hoth hpo q0' q1' hne
              go_wp2
              go_loopw [16, 17] (fun f i wq => ∃ (m : Nat) (fb : Bool), m ≤ L.length ∧ i = .int .i64 m ∧ f = .bool fb ∧ fb = decide (po ∈ L.take m) ∧ ∃ n, wq = wc.drewN n) (fun _ i _ => L.length - (intOf i).toNat)
              case atStart => exact ⟨0, false, Nat.zero_le _, rfl, rfl, by simp, 0, rfl⟩
              case round =>
                obtain ⟨m, fb, hm, rfl, rfl, hfb, nw, rfl⟩ := hrel
                by_cases hm2 : m < L.length
                · obtain ⟨p, hp'⟩ : ∃ p, p = L[m] := ⟨_, rfl⟩
                  have p0 : (wc.drewN nw).cell? ⟨g, oo + m * 2, none⟩ = some (.int .i64 p.1) := by rw [hp']; exact Hx4.out (m * 2 + 0) _ (rowOf_get plc_len L m 0 hm2 (by omega))
                  have p1 : (wc.drewN nw).cell? ⟨g, oo + m * 2 + 1, none⟩ = some (.int .i64 p.2) := by rw [hp']; exact Hx4.out (m * 2 + 1) _ (rowOf_get plc_len L m 1 hm2 (by omega))
                  have e0 : (wc.drewN nw).cell? ⟨d, 0, none⟩ = some (.int .i64 po.1) := d0
                  have e1 : (wc.drewN nw).cell? ⟨d, 1, none⟩ = some (.int .i64 po.2) := d1
                  obtain ⟨wd, hwd⟩ : ∃ wd, wd = wc.drewN nw := ⟨_, rfl⟩
                  rw [← hwd] at p0 p1 e0 e1 ⊢
                  have Hwd := Lib.hid hwd
                  have Hst := Lib.hid (not_mem_take (p := po) hp')
                  have Hfb := Lib.hid hfb
                  clear hp' hfb d0 d1 hwd
                  cases fb
                  · by_cases hpp : p = po
                    · subst hpp
                      go_wp2
                      go_quiet (fail)
                      go_wp2
                      go_roundw
                      case rel => exact ⟨m + 1, true, by omega, by go_num, rfl, by rw [Hst.out]; simp, _, by rw [Hwd.out]; exact drewN_twice _ _ _⟩
                      case measure => simp [intOf]; omega
                    · have ee : (p.1 == po.1 && p.2 == po.2) = false := by
                        by_cases h1 : p.1 = po.1
                        · have h2 : p.2 ≠ po.2 := fun h2 => hpp (Prod.ext h1 h2)
                          simp [h2]
                        · simp [h1]
                      have Hpp := Lib.hid hpp
                      clear hpp
                      by_cases h1 : p.1 = po.1
                      all_goals
                        first | (have h2 : (p.2 == po.2) = false := by simpa [h1] using ee) | (have h2 : (p.1 == po.1) = false := by simpa using h1)
                        clear ee
                        first | clear h1 | skip
                        go_wp2
                        go_quiet (fail)
                        go_wp2
                        go_roundw
                        case rel => exact ⟨m + 1, false, by omega, by go_num, rfl, by rw [Hst.out, ← Hfb.out]; simp [Hpp.out], _, by rw [Hwd.out]; exact drewN_twice _ _ _⟩
                        case measure => simp [intOf]; omega
                  · go_wp2
                    go_quiet (fail)
                    go_wp2
                    go_roundw
                    case rel => exact ⟨m + 1, true, by omega, by go_num, rfl, by rw [Hst.out, ← Hfb.out]; simp, _, by rw [Hwd.out]; exact drewN_twice _ _ _⟩
                    case measure => simp [intOf]; omega
                · obtain rfl : m = L.length := by omega
                  rw [List.take_length, decide_eq_true Hoth.out] at hfb
                  subst hfb
                  go_wp2
                  go_roundw
                  case rel => exact ⟨k + 1, by omega, by go_num, Hx4.out, hlt4, below_drewN hbel4 _⟩
                  case measure => simp [intOf]; omega
        · obtain rfl : k = L.length := by omega
          obtain ⟨hp1, hfst⟩ := HG.out.first
          have r0 : wr.cell? ⟨g, oo, none⟩ = some (.int .i64 o) := by simpa [hfst] using hx2 (0 * 2 + 0) _ (rowOf_get plc_len L 0 0 hp (by omega))
          have r1 : wr.cell? ⟨g, oo + 1, none⟩ = some (.int .i64 (fnvBucket (fnvHash key.data.toList) o)) := by simpa [hfst] using hx2 (0 * 2 + 1) _ (rowOf_get plc_len L 0 1 hp (by omega))
          clear hx2 hfst
          go_wp2
          refine wp_region_via (by kernel_rfl) (by kernel_rfl) ?_
          repeat (go_big_quiet_step ((first | (go_at_call 33; exact viaB (c_lives08 _)) | (go_at_call 23; exact viaS (c_Bucket _ _ _ hh.1 hh.2 (by omega) (by omega))))))
          refine wpQuiet_nil ?_
          rintro _ ⟨e, rfl⟩
          go_wp2
          go_ret
          exact ⟨rfl, below_via hbel2 _⟩
end Go.Proofs.Ytlaholgclcffaaa
