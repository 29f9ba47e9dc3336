/- Layer 20: a Move's step at a slot that is empty. -/
import Derived.Test.YtkamcgcpfnkodaaGreatTn2
import Derived.Laws.EntriesVeiled
import Derived.Shelf.Lay
namespace Go.Proofs.YtkamcgcpfnkodaaGreat
open Go.RowKit Go.Shelf
set_option linter.unusedVariables false

theorem sx_mono {a b c d : Nat} (h1 : c ≤ a) (h2 : b ≤ d) {t : Nat} (h : SX a b t) : SX c d t := SX.mono h1 h2 h
set_option maxHeartbeats 2000000 in
set_option maxRecDepth 100000 in
theorem c_actStep {Y S A : Nat} {now old bk k : Int} {l : Value} {w : World} {O : Om} {B : Wb} {f : Cf} {s : AW} (hP : PW w O B f s) (hY : Ob w O 11 Y (mvCs now old bk k l)) (hS : Ob w O 12 S [.iface 107 (.pointer (some ⟨A, 0, none⟩))]) (hA : Ob w O 13 A [TAGSV Y, .bool false]) (hhi : ∀ j, O j ≠ 0 → j < w.heap.size) (o0 : -9223372036854775808 ≤ old) (o1 : old ≤ 9223372036854775807) (b0 : -9223372036854775808 ≤ bk) (b1 : bk ≤ 9223372036854775807) (k0 : 0 ≤ k) (k1 : k < 4)
    (hz : s.M (plTags old bk) = 0) (hp0 : 0 ≤ plTags old bk) (hp1 : plTags old bk < 18446744073709551616) (n0 : 0 ≤ s.n) (n1 : s.n ≤ 4611686018427387904) :
    Calls Tryz.prog 233 #[.pointer (some ⟨A, 0, none⟩), .pointer (some ⟨B.p, 0, none⟩)] w (RP (SX 11 13) w O (.bool true) fun W G => PW W G B f (awLoad (plTags old bk) s) ∧ Ob W G 11 Y (mvCs now old bk k l) ∧ Ob W G 12 S [.iface 107 (.pointer (some ⟨A, 0, none⟩))] ∧ Ob W G 13 A [TAGSV Y, .bool true]) := by
  have HM : Hid (Me 11 13 w O w O B f s 13 A [TAGSV Y, .bool false]) := Lib.hid (Me.start hhi hP hA)
  have M1 := HM.out.set (by decide) (by decide) (by decide) 1 (.bool true) (by simp)
  have e1 := ext_set (j := 1) (v := .bool true) hhi hA (by decide)
  have Y1 := hY.ext e1 (by decide)
  have S1 := Lib.hid (hS.ext e1 (by decide))
  have q1 := hA.c 1 _ rfl
  have f1 := hA.f 1
  have q0 := M1.t.c 0 _ rfl
  unfold TAGSV at q0
  have hT := c_mtags (l := l) M1.p Y1 M1.e.hi o0 o1 b0 b1 k0 k1 hz hp0 hp1 n0 n1
  have HT := Lib.hid hT
  have N1 := Lib.hid M1
  clear hP hY hS hA hhi M1 e1 Y1 hT hz
  go_enter Tryz.func233, Tryz.ntmps233
  go_wp2_with fail
  refine HT.out.mono ?_
  rintro e w2 ⟨rfl, G2, e2, P2, Y2⟩
  have N2 := Lib.hid (N1.out.call (by decide) (by decide) (by decide) (by decide) e2 P2)
  have Q2 := Lib.hid (And.intro Y2 (S1.out.ext e2 (by unfold SX; omega)))
  clear HT e2 P2 Y2
  go_wp2_with fail
  go_ret
  exact ⟨rfl, G2, N2.out.e, N2.out.p, Q2.out.1, Q2.out.2, N2.out.t⟩
theorem mOver (A : Nat) : ∀ W, (method 454 107 (.pointer (some ⟨A, 0, none⟩)) "Over").run Tryz.prog W = .ok (232, .pointer (some ⟨A, 0, none⟩)) W := fun W => by kernel_rfl
theorem mStep (A : Nat) : ∀ W, (method 454 107 (.pointer (some ⟨A, 0, none⟩)) "Step").run Tryz.prog W = .ok (233, .pointer (some ⟨A, 0, none⟩)) W := fun W => by kernel_rfl
set_option maxHeartbeats 2000000 in
set_option maxRecDepth 100000 in
/-- Behind a slot: the next one, or it is over. -/
theorem c_on {Y S A : Nat} {now old bk k : Int} {w : World} {O : Om} (hY : Ob w O 11 Y (mvCs now old bk k (.slice (some ⟨S, 0, none⟩) 1 1))) (hS : Ob w O 12 S [.iface 107 (.pointer (some ⟨A, 0, none⟩))]) (hA : Ob w O 13 A [TAGSV Y, .bool true]) (hhi : ∀ j, O j ≠ 0 → j < w.heap.size) (k0 : 0 ≤ k) (k1 : k < 4) :
    Calls Tryz.prog 47 #[.pointer (some ⟨Y, 0, none⟩)] w (RP SM w O (.tuple #[]) fun W G => (k < 3 ∧ MvAt W G Y now old bk (k + 1)) ∨ (k = 3 ∧ ∃ ao c, W.cell? ⟨Y, 4, none⟩ = some (.slice ao 0 c))) := by
  have hmo := mOver A
  have hYl := hY.lt
  have y3 := hY.c 3 _ rfl
  have y4 := hY.c 4 _ rfl
  have f3 := hY.f 3
  have f4 := hY.f 4
  have s0 := hS.c 0 _ rfl
  have a1 := hA.c 1 _ rfl
  have hKO : ∀ args W, (callFunc 232 args).run Tryz.prog W = .ok (.enter 232 args) W := enters_of Tryz.func232 (by kernel_rfl) rfl
  by_cases hk : k < 3
  · have dk : decide (k < 3) = true := by simp; omega
    have hY' := Lib.hid hY
    have HH := Lib.hid hhi
    clear hY hS hA hhi
    go_enter Tryz.func47, Tryz.ntmps47
    go_wp2_with fail
    refine wp_loop_rounds 2 ?_
    rw [rounds_succ]
    go_wp2_with fail
    refine (c_actOver a1).mono ?_
    rintro e w' ⟨rfl, rfl⟩
    go_wp2_with fail
    rw [rounds_succ]
    go_wp2_with fail
    go_end0
    have e1 := ext_set (j := 4) (v := .slice (some ⟨S, 0, none⟩) 0 0) HH.out hY'.out (by decide)
    have Y1 := hY'.out.set 4 (.slice (some ⟨S, 0, none⟩) 0 0) (by simp [mvCs])
    have e2 := ext_set (j := 3) (v := .int .i64 (k + 1)) e1.hi Y1 (by decide)
    have Y2 := Y1.set 3 (.int .i64 (k + 1)) (by simp [mvCs])
    have e3 := ext_set (j := 4) (v := .slice (some ⟨w.heap.size + 1, 0, none⟩) 1 1) e2.hi Y2 (by decide)
    have Y3 := Y2.set 4 (.slice (some ⟨w.heap.size + 1, 0, none⟩) 1 1) (by simp [mvCs])
    obtain ⟨O4, e4, a4, k4⟩ := alloc_ob e3.hi 13 #[TAGSV Y, .bool false] 110 w.heap.size (by simp)
    obtain ⟨O5, e5, s5, k5⟩ := alloc_ob e4.hi 12 #[.iface 107 (.pointer (some ⟨w.heap.size, 0, none⟩))] 112 (w.heap.size + 1) (by simp)
    have Y5 := k5 _ _ _ (k4 _ _ _ Y3)
    have A5 := k5 _ _ _ a4
    have E := ((((e1.trans e2).trans e3).mono (T := SM) fun t _ h => by subst h; exact ⟨by decide, by decide⟩).trans (e4.mono fun t _ h => by subst h; exact ⟨by decide, by decide⟩)).trans (e5.mono fun t _ h => by subst h; exact ⟨by decide, by decide⟩)
    exact ⟨rfl, O5, E, .inl ⟨by first | trivial | exact hk | omega, ⟨w.heap.size + 1, w.heap.size, Y5, s5, A5⟩⟩⟩
  · obtain rfl : k = 3 := by omega
    have hY' := Lib.hid hY
    have HH := Lib.hid hhi
    clear hY hS hA hhi
    go_enter Tryz.func47, Tryz.ntmps47
    go_wp2_with fail
    refine wp_loop_rounds 2 ?_
    rw [rounds_succ]
    go_wp2_with fail
    refine (c_actOver a1).mono ?_
    rintro e w' ⟨rfl, rfl⟩
    go_wp2_with fail
    rw [rounds_succ]
    go_wp2_with fail
    go_end0
    have e1 := ext_set (j := 4) (v := .slice (some ⟨S, 0, none⟩) 0 0) HH.out hY'.out (by decide)
    have Y1 := hY'.out.set 4 (.slice (some ⟨S, 0, none⟩) 0 0) (by simp [mvCs])
    exact ⟨rfl, O, e1.mono fun t _ h => by subst h; exact ⟨by decide, by decide⟩, .inr ⟨by first | trivial | rfl, _, _, Y1.c 4 _ rfl⟩⟩
set_option maxHeartbeats 4000000 in
set_option maxRecDepth 100000 in
/-- A Move's step at a slot that is empty. -/
theorem c_MStep {Y : Nat} {now old bk k : Int} {w : World} {O : Om} {B : Wb} {f : Cf} {s : AW} (hP : PW w O B f s) (hM : MvAt w O Y now old bk k) (hhi : ∀ j, O j ≠ 0 → j < w.heap.size) (o0 : -9223372036854775808 ≤ old) (o1 : old ≤ 9223372036854775807) (b0 : -9223372036854775808 ≤ bk) (b1 : bk ≤ 9223372036854775807) (k0 : 0 ≤ k) (k1 : k < 4)
    (hz : s.M (plTags old bk) = 0) (hp0 : 0 ≤ plTags old bk) (hp1 : plTags old bk < 18446744073709551616) (n0 : 0 ≤ s.n) (n1 : s.n ≤ 4611686018427387904) :
    Calls Tryz.prog 20 #[.pointer (some ⟨Y, 0, none⟩), .pointer (some ⟨B.p, 0, none⟩)] w (RP (SX 11 13) w O (.bool (decide (k = 3))) fun W G => PW W G B f (awLoad (plTags old bk) s) ∧ (k < 3 → MvAt W G Y now old bk (k + 1))) := by
  obtain ⟨S, A, hY, hS, hA⟩ := hM.ex
  have y4 := hY.c 4 _ rfl
  have s0 := hS.c 0 _ rfl
  have hms := mStep A
  have hKS : ∀ args W, (callFunc 233 args).run Tryz.prog W = .ok (.enter 233 args) W := enters_of Tryz.func233 (by kernel_rfl) rfl
  have HT := Lib.hid (c_actStep hP hY hS hA hhi o0 o1 b0 b1 k0 k1 hz hp0 hp1 n0 n1)
  clear hP hM hY hS hA hhi hz
  go_enter Tryz.func20, Tryz.ntmps20
  go_wp2_with fail
  refine (c_MOver y4).mono ?_
  rintro e w' ⟨rfl, rfl⟩
  go_wp2_with fail
  refine HT.out.mono ?_
  rintro e w2 ⟨rfl, G2, e2, P2, Y2, S2, A2⟩
  have E2 := Lib.hid e2
  have PP2 := Lib.hid P2
  have ho := c_on Y2 S2 A2 e2.hi k0 k1
  have HO := Lib.hid ho
  clear HT e2 P2 Y2 S2 A2 ho y4 s0
  go_wp2_with fail
  refine HO.out.mono ?_
  rintro e w3 ⟨rfl, G3, e3, hcase⟩
  have E3 := Lib.hid (E2.out.trans (e3.mono fun t _ h => .inr h))
  have PP3 := Lib.hid (PP2.out.ext e3 (fun h => absurd h.1 (by decide)) (fun h => absurd h.1 (by decide)) (fun h => absurd h.1 (by decide)) (fun h => absurd h.1 (by decide)))
  clear HO e3
  rcases hcase with ⟨hk, hm⟩ | ⟨hk, ao, c, hc⟩
  · obtain ⟨S', A', hY', hS', hA'⟩ := hm.ex
    have y4 := hY'.c 4 _ rfl
    have HM := Lib.hid hm
    have hd : decide (k = 3) = false := by simp; omega
    clear hm hY' hS' hA'
    go_wp2_with fail
    refine (c_MOver y4).mono ?_
    rintro e w' ⟨rfl, rfl⟩
    go_wp2_with fail
    go_ret
    exact ⟨(by rw [hd]; first | done | rfl), G3, E3.out, PP3.out, fun _ => HM.out⟩
  · have hd : decide (k = 3) = true := by simp; omega
    go_wp2_with fail
    refine (c_MOver hc).mono ?_
    rintro e w' ⟨rfl, rfl⟩
    go_wp2_with fail
    go_ret
    exact ⟨(by rw [hd]; first | done | rfl), G3, E3.out, PP3.out, fun h => by omega⟩
end Go.Proofs.YtkamcgcpfnkodaaGreat
