/- Layer 9: what is told of items that were dropped. -/
import Derived.Test.YtcgjopjjmgpobaaNtFull
import Derived.Test.YtcgjopjjmgpobaaNtArg
namespace Go.Proofs.Ytcgjopjjmgpobaa
open Go.RowKit
set_option linter.unusedVariables false

theorem ntDropped_no (ref : Int) (l : List Nt) (h : (ntDropped ref l).2 = false) : (ntDropped ref l).1 = 0 := by
  suffices ∀ k, k ≤ l.length → (ntDropped ref (l.take k)).2 = false → (ntDropped ref (l.take k)).1 = 0 by
    have := this l.length (Nat.le_refl _)
    rw [List.take_length] at this
    exact this h
  intro k
  induction k with
  | zero => intro _ _; rfl
  | succ k ih =>
    intro hk
    rw [ntDropped_take ref l k (by omega)]
    split
    · intro h; cases h
    · exact ih (by omega)
theorem ntAdd_len (l : List Nt) (n : Nt) : (ntAdd l n).length ≤ l.length + 1 := by unfold ntAdd; split <;> simp
def ntWant (d : Nat × Bool) : Int := if d.2 then d.1 else -1

set_option maxHeartbeats 4000000 in
set_option maxRecDepth 100000 in
theorem w_NotesDropped (v : Value) (l : List Nt) (ref : Int) (w : World) (hg : ∀ n ∈ l, n.ok) (hv : Arr w v l.length 8 (rowOf ntc l)) (r0 : -9223372036854775808 ≤ ref) (r1 : ref ≤ 9223372036854775807) :
    Calls Try.prog 9 #[v, .int .i64 ref] w fun e w' => e = .returned (.bool true) ∧ Below w.heap.size w w' := by
  obtain ⟨ao, cp, rfl, hcp, hm⟩ := hv.shape
  have hmx : l.length ≤ 9223372036854775807 := by unfold maxLen at hm; omega
  have HG := Lib.hid hg
  clear hg r0 r1
  by_cases hbig : 60 < l.length
  · have hd : decide ((60 : Int) < (l.length : Int)) = true := by simp; omega
    go_enter Try.func9, Try.ntmps9
    go_wp2_with (go_at_call 34; refine (c_lives09 _).mono ?_; rintro e w' ⟨rfl, hb⟩)
    go_ret
    exact ⟨rfl, hb⟩
  · have hd : decide ((60 : Int) < (l.length : Int)) = false := by simp; omega
    go_enter Try.func9, Try.ntmps9
    go_wp2_with fail
    refine (c_New _).mono ?_
    rintro e w' ⟨rfl, rfl⟩
    have n0 := NLx.new (Below.refl w.heap.size w) w.heap.size rfl
    have N0 := Lib.hid n0
    clear n0
    go_wp2_with fail
    go_loopw [6, 7] (fun want i wr => ∃ k : Nat, k ≤ l.length ∧ i = .int .i64 k ∧ ∃ (T : List Nt) (x : Value), NLx w wr 56 ntc w.heap.size x T ∧ T.length ≤ k ∧ want = .int .i64 (ntWant (ntDropped ref T))) (fun _ i _ => l.length - (intOf i).toNat)
    case atStart => exact ⟨0, Nat.zero_le _, rfl, [], _, N0.out, Nat.le_refl _, rfl⟩
    case round =>
      obtain ⟨k, hk, rfl, T, x, hn, hT, rfl⟩ := hrel
      have HN := Lib.hid hn
      clear hn
      by_cases hk2 : k < l.length
      · obtain ⟨b, o, c', he, -, -, hb, hx⟩ := hv.open (by omega) (by omega)
        cases he
        have hat0 := ntAt_row hx k hk2
        obtain ⟨q, hq⟩ : ∃ q, q = l[k] := ⟨_, rfl⟩
        rw [← hq] at hat0
        have hok := HG.out q (by rw [hq]; exact List.getElem_mem _)
        have hat1 := hat0.below HN.out.below hb
        obtain ⟨q0, q1, q2, q3, q4, q5, q6, q7⟩ := hat1.all
        have k0 := hok.k0
        have k1 := hok.k1
        have Hat0 := Lib.hid hat0
        have HT := Lib.hid hT
        have hlen := ntAdd_len T q
        have HL := Lib.hid hlen
        have HW := Lib.hid (show T.length ≤ 60 by omega)
        clear hx hq hat0 hat1 hok hv hlen hT
        obtain ⟨d, hdd⟩ : ∃ d, d = ntDropped ref T := ⟨_, rfl⟩
        have hd0 := ntDropped_no ref T
        have hd1 := ntDropped_le ref T
        rw [← hdd] at hd0 hd1 ⊢
        have HD := Lib.hid hdd
        obtain ⟨d1, d2⟩ := d
        have hd0 : d2 = false → d1 = 0 := hd0
        have hd1 : d1 ≤ T.length := hd1
        clear hdd
        by_cases hgo : ntErr T q = 0 ∧ q.kind = 1 ∧ q.ref = ref
        · obtain ⟨g0, g1, g2⟩ := hgo
          have e1 : (q.kind == 1) = true := by simp [g1]
          have e2 : (q.ref == ref) = true := by simp [g2]
          have hTd : ntDropped ref (ntAdd T q) = (T.length, true) := by rw [ntAdd_ok g0, ntDropped_snoc, if_pos ⟨g1, g2⟩]
          have HTd := Lib.hid hTd
          have HE := Lib.hid g0
          have hwant : ntWant (T.length, true) = T.length := rfl
          have HWa := Lib.hid hwant
          obtain ⟨ow, how⟩ : ∃ ow, ow = ntWant (d1, d2) := ⟨_, rfl⟩
          rw [← how]
          clear g0 g1 g2 hTd hwant how hd0 hd1
          go_wp2_with fail
          refine (c_Count' _ _ _ (T.length : Int) _ HN.out.nl.head HN.out.arr rfl).mono ?_
          rintro e w' ⟨rfl, rfl⟩
          go_wp2_with fail
          refine (c_Addx q _ _ _ _ _ HN.out k0 k1).mono ?_
          rintro e w1 ⟨rfl, x1, n1⟩
          rw [HE.out]
          have N1 := Lib.hid n1
          clear n1
          obtain ⟨p0, p1, p2, p3, p4, p5, p6, p7⟩ := (Hat0.out.below N1.out.below hb).all
          go_wp2_with fail
          refine (c_Dropped _ _ _ ref _ N1.out.nl.head N1.out.arr (by have := HL.out; have := HW.out; omega)).mono ?_
          rintro e w2 ⟨rfl, hb2⟩
          rw [HTd.out]
          have N3 := Lib.hid (N1.out.go hb2)
          clear hb2
          go_wp2
          go_roundw
          case rel => exact ⟨k + 1, by omega, by go_num, ntAdd T q, x1, N3.out, by have := HL.out; have := HT.out; omega, by rw [HTd.out, HWa.out]⟩
          case measure => simp [intOf]; omega
        · have hTd : ntDropped ref (ntAdd T q) = (d1, d2) := by
            rw [HD.out]
            by_cases g0 : ntErr T q = 0
            · rw [ntAdd_ok g0, ntDropped_snoc, if_neg fun h => hgo ⟨g0, h.1, h.2⟩]
            · rw [ntAdd_no g0]
          have HTd := Lib.hid hTd
          clear hTd
          cases d2
          · obtain rfl := hd0 rfl
            have hw : ntWant (0, false) = -1 := rfl
            rw [hw]
            have HWa := Lib.hid hw
            clear hw hd0 hd1
            by_cases g0 : ntErr T q = 0
            · have HE := Lib.hid g0
              by_cases g1 : q.kind = 1
              · have e1 : (q.kind == 1) = true := by simp [g1]
                have e2 : (q.ref == ref) = false := by simp; exact fun g2 => hgo ⟨g0, g1, g2⟩
                clear g0 g1 hgo
                go_wp2_with fail
                refine (c_Count' _ _ _ (T.length : Int) _ HN.out.nl.head HN.out.arr rfl).mono ?_
                rintro e w' ⟨rfl, rfl⟩
                go_wp2_with fail
                refine (c_Addx q _ _ _ _ _ HN.out k0 k1).mono ?_
                rintro e w1 ⟨rfl, x1, n1⟩
                rw [HE.out]
                have N1 := Lib.hid n1
                clear n1
                obtain ⟨p0, p1, p2, p3, p4, p5, p6, p7⟩ := (Hat0.out.below N1.out.below hb).all
                go_wp2_with fail
                refine (c_Dropped _ _ _ ref _ N1.out.nl.head N1.out.arr (by have := HL.out; have := HW.out; omega)).mono ?_
                rintro e w2 ⟨rfl, hb2⟩
                rw [HTd.out]
                have N3 := Lib.hid (N1.out.go hb2)
                clear hb2
                go_wp2
                go_roundw
                case rel => exact ⟨k + 1, by omega, by go_num, ntAdd T q, x1, N3.out, by have := HL.out; have := HT.out; omega, by rw [HTd.out, HWa.out]⟩
                case measure => simp [intOf]; omega
              · have e1 : (q.kind == 1) = false := by simp [g1]
                clear g0 g1 hgo
                go_wp2_with fail
                refine (c_Count' _ _ _ (T.length : Int) _ HN.out.nl.head HN.out.arr rfl).mono ?_
                rintro e w' ⟨rfl, rfl⟩
                go_wp2_with fail
                refine (c_Addx q _ _ _ _ _ HN.out k0 k1).mono ?_
                rintro e w1 ⟨rfl, x1, n1⟩
                rw [HE.out]
                have N1 := Lib.hid n1
                clear n1
                obtain ⟨p0, p1, p2, p3, p4, p5, p6, p7⟩ := (Hat0.out.below N1.out.below hb).all
                go_wp2_with fail
                refine (c_Dropped _ _ _ ref _ N1.out.nl.head N1.out.arr (by have := HL.out; have := HW.out; omega)).mono ?_
                rintro e w2 ⟨rfl, hb2⟩
                rw [HTd.out]
                have N3 := Lib.hid (N1.out.go hb2)
                clear hb2
                go_wp2
                go_roundw
                case rel => exact ⟨k + 1, by omega, by go_num, ntAdd T q, x1, N3.out, by have := HL.out; have := HT.out; omega, by rw [HTd.out, HWa.out]⟩
                case measure => simp [intOf]; omega
            · rcases ntErr_cases T q with g3 | g3 | g3
              · exact absurd g3 g0
              all_goals
                have HE := Lib.hid g3
                clear g0 g3 hgo
                go_wp2_with fail
                refine (c_Count' _ _ _ (T.length : Int) _ HN.out.nl.head HN.out.arr rfl).mono ?_
                rintro e w' ⟨rfl, rfl⟩
                go_wp2_with fail
                refine (c_Addx q _ _ _ _ _ HN.out k0 k1).mono ?_
                rintro e w1 ⟨rfl, x1, n1⟩
                rw [HE.out]
                have N1 := Lib.hid n1
                clear n1
                obtain ⟨p0, p1, p2, p3, p4, p5, p6, p7⟩ := (Hat0.out.below N1.out.below hb).all
                go_wp2_with fail
                refine (c_Dropped _ _ _ ref _ N1.out.nl.head N1.out.arr (by have := HL.out; have := HW.out; omega)).mono ?_
                rintro e w2 ⟨rfl, hb2⟩
                rw [HTd.out]
                have N3 := Lib.hid (N1.out.go hb2)
                clear hb2
                go_wp2
                go_roundw
                case rel => exact ⟨k + 1, by omega, by go_num, ntAdd T q, x1, N3.out, by have := HL.out; have := HT.out; omega, by rw [HTd.out, HWa.out]⟩
                case measure => simp [intOf]; omega
          · have hw : ntWant (d1, true) = d1 := rfl
            rw [hw]
            have HWa := Lib.hid hw
            clear hw hd0
            by_cases g0 : ntErr T q = 0
            · have HE := Lib.hid g0
              by_cases g1 : q.kind = 1
              · have e1 : (q.kind == 1) = true := by simp [g1]
                have e2 : (q.ref == ref) = false := by simp; exact fun g2 => hgo ⟨g0, g1, g2⟩
                clear g0 g1 hgo
                go_wp2_with fail
                refine (c_Count' _ _ _ (T.length : Int) _ HN.out.nl.head HN.out.arr rfl).mono ?_
                rintro e w' ⟨rfl, rfl⟩
                go_wp2_with fail
                refine (c_Addx q _ _ _ _ _ HN.out k0 k1).mono ?_
                rintro e w1 ⟨rfl, x1, n1⟩
                rw [HE.out]
                have N1 := Lib.hid n1
                clear n1
                obtain ⟨p0, p1, p2, p3, p4, p5, p6, p7⟩ := (Hat0.out.below N1.out.below hb).all
                go_wp2_with fail
                refine (c_Dropped _ _ _ ref _ N1.out.nl.head N1.out.arr (by have := HL.out; have := HW.out; omega)).mono ?_
                rintro e w2 ⟨rfl, hb2⟩
                rw [HTd.out]
                have N3 := Lib.hid (N1.out.go hb2)
                clear hb2
                go_wp2
                go_roundw
                case rel => exact ⟨k + 1, by omega, by go_num, ntAdd T q, x1, N3.out, by have := HL.out; have := HT.out; omega, by rw [HTd.out, HWa.out]⟩
                case measure => simp [intOf]; omega
              · have e1 : (q.kind == 1) = false := by simp [g1]
                clear g0 g1 hgo
                go_wp2_with fail
                refine (c_Count' _ _ _ (T.length : Int) _ HN.out.nl.head HN.out.arr rfl).mono ?_
                rintro e w' ⟨rfl, rfl⟩
                go_wp2_with fail
                refine (c_Addx q _ _ _ _ _ HN.out k0 k1).mono ?_
                rintro e w1 ⟨rfl, x1, n1⟩
                rw [HE.out]
                have N1 := Lib.hid n1
                clear n1
                obtain ⟨p0, p1, p2, p3, p4, p5, p6, p7⟩ := (Hat0.out.below N1.out.below hb).all
                go_wp2_with fail
                refine (c_Dropped _ _ _ ref _ N1.out.nl.head N1.out.arr (by have := HL.out; have := HW.out; omega)).mono ?_
                rintro e w2 ⟨rfl, hb2⟩
                rw [HTd.out]
                have N3 := Lib.hid (N1.out.go hb2)
                clear hb2
                go_wp2
                go_roundw
                case rel => exact ⟨k + 1, by omega, by go_num, ntAdd T q, x1, N3.out, by have := HL.out; have := HT.out; omega, by rw [HTd.out, HWa.out]⟩
                case measure => simp [intOf]; omega
            · rcases ntErr_cases T q with g3 | g3 | g3
              · exact absurd g3 g0
              all_goals
                have HE := Lib.hid g3
                clear g0 g3 hgo
                go_wp2_with fail
                refine (c_Count' _ _ _ (T.length : Int) _ HN.out.nl.head HN.out.arr rfl).mono ?_
                rintro e w' ⟨rfl, rfl⟩
                go_wp2_with fail
                refine (c_Addx q _ _ _ _ _ HN.out k0 k1).mono ?_
                rintro e w1 ⟨rfl, x1, n1⟩
                rw [HE.out]
                have N1 := Lib.hid n1
                clear n1
                obtain ⟨p0, p1, p2, p3, p4, p5, p6, p7⟩ := (Hat0.out.below N1.out.below hb).all
                go_wp2_with fail
                refine (c_Dropped _ _ _ ref _ N1.out.nl.head N1.out.arr (by have := HL.out; have := HW.out; omega)).mono ?_
                rintro e w2 ⟨rfl, hb2⟩
                rw [HTd.out]
                have N3 := Lib.hid (N1.out.go hb2)
                clear hb2
                go_wp2
                go_roundw
                case rel => exact ⟨k + 1, by omega, by go_num, ntAdd T q, x1, N3.out, by have := HL.out; have := HT.out; omega, by rw [HTd.out, HWa.out]⟩
                case measure => simp [intOf]; omega
      · clear hv
        go_wp2_with (go_at_call 34; refine (viaC (c_lives09 _)).mono ?_; rintro e w' ⟨rfl, m1, rfl⟩)
        go_ret
        exact ⟨rfl, below_via HN.out.below _⟩
end Go.Proofs.Ytcgjopjjmgpobaa
