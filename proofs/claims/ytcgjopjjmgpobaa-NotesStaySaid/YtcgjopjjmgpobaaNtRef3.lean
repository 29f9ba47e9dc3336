/- Layer 9: contracts of the document's list: Since, Of, Dropped, Name. -/
import Derived.Test.YtcgjopjjmgpobaaNtRef2
namespace Go.Proofs.Ytcgjopjjmgpobaa
open Go.RowKit
set_option linter.unusedVariables false

theorem take_get {l : List Nt} {m : Nat} (h : m < l.length) : l.take (m + 1) = l.take m ++ [l[m]] := List.take_succ_eq_append_getElem h

set_option maxHeartbeats 1000000 in
set_option maxRecDepth 100000 in
theorem c_rSince_pos (h : Nat) (v : Value) (l : List Nt) (a : Int) (s : Nat) (w : World) (hh : w.cell? ⟨h, 0, none⟩ = some v) (hlt : h < w.heap.size) (hv : Arr w v l.length 8 (rowOf ntr l)) (hl : l.length ≤ 1048576) (h0 : True) :
    Calls Try.prog 46 #[.pointer (some ⟨h, 0, none⟩), .int .i64 (s : Int)] w fun e w' => (∃ v', e = .returned v' ∧ Arr w' v' (l.drop s).length 8 (rowOf ntr (l.drop s)) ∧ Fresh w' w.heap.size v') ∧ Below w.heap.size w w' := by
  obtain ⟨i0, hi, hz0, hz1, hz2⟩ := info_parts infoRn
  obtain ⟨ao, cp, rfl, hcp, hm⟩ := hv.shape
  have HL := Lib.hid hl
  have hl2 : l.length ≤ 9223372036854775807 := by omega
  have hdl : (l.drop s).length = l.length - s := List.length_drop
  clear hl
  go_enter Try.func46, Try.ntmps46
  go_wp2
  go_loopw [5, 6] (fun vo i wr => ∃ m : Nat, m ≤ (l.drop s).length ∧ i = .int .i64 ((s + m : Nat) : Int) ∧ wr.ownsRow w.heap.size 70 8 vo ((l.drop s).take m).length (rowOf ntr ((l.drop s).take m)) ∧ Below w.heap.size w wr)
      (fun _ i _ => l.length - (intOf i).toNat)
  case atStart => exact ⟨0, Nat.zero_le _, by simp, World.ownsRow_nil _ _ _ _, Below.refl _ _⟩
  case round =>
    obtain ⟨m, hmm, rfl, hown, hbel⟩ := hrel
    have hhr := (hbel.cell (p := ⟨h, 0, none⟩) hlt).trans hh
    by_cases hk2 : s + m < l.length
    · have hk3 : m < (l.drop s).length := by omega
      obtain ⟨b, o, c', he, hcp, hm, hb, hx⟩ := hv.open (by omega) (by omega)
      cases he
      have hat0 := nrAt_row hx (s + m) hk2
      have hlen := List.length_take_le m (l.drop s)
      have HD := Lib.hid (take_get hk3)
      have hge : (l.drop s)[m] = l[s + m] := List.getElem_drop
      rw [hge] at HD
      obtain ⟨q, hq⟩ : ∃ q, q = l[s + m] := ⟨_, rfl⟩
      rw [← hq] at hat0 HD
      obtain ⟨q0, q1, q2, q3, q4, q5, q6, q7⟩ := (hat0.below hbel hb).all
      obtain ⟨D, hD⟩ : ∃ D, D = (l.drop s).take m := ⟨_, rfl⟩
      rw [← hD] at hown hlen HD
      have hlen2 : D.length ≤ l.length := by omega
      have hsz := hbel.size
      obtain ⟨k, hk⟩ : ∃ k, k = s + m := ⟨_, rfl⟩
      rw [← hk] at q0 q1 q2 q3 q4 q5 q6 q7 hk2 ⊢
      have Hk := Lib.hid hk
      have Hdl := Lib.hid hdl
      clear hx hv hq hat0 hD hge hk hdl hh hlen
      go_wp2_with (at_builtin; refine append_one _ rfl _ _ 65 rfl w.heap.size 70 i0 _ 8 64 Try.underlying65 hi hz0 hz1 hz2 rfl (by decide) (by decide) _ _ _ rfl hown (ntr q) _ rfl rfl (by simp [Value.oneCell', ntr]) (by have := HL.out; omega) hsz ?_; intro g cap w2 hown2 hgr2; have hbel2 := below_grown hbel hsz hown hgr2; clear hgr2)
      go_roundw
      case rel => exact ⟨m + 1, by omega, by have := Hk.out; subst this; go_num, by rw [HD.out, rowOf_snoc, List.length_append]; exact hown2, hbel2⟩
      case measure => simp [intOf]; omega
    · have hme : m = (l.drop s).length ∨ l.length ≤ s := by omega
      have hD : (l.drop s).take m = l.drop s := by
        rcases hme with rfl | h0
        · exact List.take_length
        · rw [List.drop_eq_nil_of_le h0, List.take_nil]
      rw [hD] at hown
      have hfz : Fresh wr w.heap.size u5 := by
        intro a n c he
        rcases hown.2 with ⟨h1, _⟩ | ⟨g, cap, cur, h1, hbg, hgg, hnc, hcm, _⟩
        · rw [h1] at he; cases he
        · subst h1
          have hf := hown.frozenAt
          cases he
          exact ⟨hbg, 0, rfl, hf⟩
      have HA := Lib.hid (Arr.of_own hown)
      have HFz := Lib.hid hfz
      obtain ⟨k, hk⟩ : ∃ k, k = s + m := ⟨_, rfl⟩
      rw [← hk] at hk2 ⊢
      clear hv hown hD hme hk hfz hh hdl
      go_wp2
      go_ret
      exact ⟨⟨_, rfl, HA.out, HFz.out⟩, hbel⟩

set_option maxHeartbeats 1000000 in
set_option maxRecDepth 100000 in
theorem c_rSince_neg (h : Nat) (v : Value) (l : List Nt) (a : Int) (s : Nat) (w : World) (hh : w.cell? ⟨h, 0, none⟩ = some v) (hlt : h < w.heap.size) (hv : Arr w v l.length 8 (rowOf ntr l)) (hl : l.length ≤ 1048576) (hs : Hid (s = 0)) (h0 : a < 0) :
    Calls Try.prog 46 #[.pointer (some ⟨h, 0, none⟩), .int .i64 a] w fun e w' => (∃ v', e = .returned v' ∧ Arr w' v' (l.drop s).length 8 (rowOf ntr (l.drop s)) ∧ Fresh w' w.heap.size v') ∧ Below w.heap.size w w' := by
  obtain ⟨i0, hi, hz0, hz1, hz2⟩ := info_parts infoRn
  obtain ⟨ao, cp, rfl, hcp, hm⟩ := hv.shape
  have HL := Lib.hid hl
  have hl2 : l.length ≤ 9223372036854775807 := by omega
  have hdl : (l.drop s).length = l.length - s := List.length_drop
  clear hl
  go_enter Try.func46, Try.ntmps46
  go_wp2
  go_loopw [5, 6] (fun vo i wr => ∃ m : Nat, m ≤ (l.drop s).length ∧ i = .int .i64 ((s + m : Nat) : Int) ∧ wr.ownsRow w.heap.size 70 8 vo ((l.drop s).take m).length (rowOf ntr ((l.drop s).take m)) ∧ Below w.heap.size w wr)
      (fun _ i _ => l.length - (intOf i).toNat)
  case atStart => exact ⟨0, Nat.zero_le _, by rw [hs.out]; rfl, World.ownsRow_nil _ _ _ _, Below.refl _ _⟩
  case round =>
    obtain ⟨m, hmm, rfl, hown, hbel⟩ := hrel
    have hhr := (hbel.cell (p := ⟨h, 0, none⟩) hlt).trans hh
    by_cases hk2 : s + m < l.length
    · have hk3 : m < (l.drop s).length := by omega
      obtain ⟨b, o, c', he, hcp, hm, hb, hx⟩ := hv.open (by omega) (by omega)
      cases he
      have hat0 := nrAt_row hx (s + m) hk2
      have hlen := List.length_take_le m (l.drop s)
      have HD := Lib.hid (take_get hk3)
      have hge : (l.drop s)[m] = l[s + m] := List.getElem_drop
      rw [hge] at HD
      obtain ⟨q, hq⟩ : ∃ q, q = l[s + m] := ⟨_, rfl⟩
      rw [← hq] at hat0 HD
      obtain ⟨q0, q1, q2, q3, q4, q5, q6, q7⟩ := (hat0.below hbel hb).all
      obtain ⟨D, hD⟩ : ∃ D, D = (l.drop s).take m := ⟨_, rfl⟩
      rw [← hD] at hown hlen HD
      have hlen2 : D.length ≤ l.length := by omega
      have hsz := hbel.size
      obtain ⟨k, hk⟩ : ∃ k, k = s + m := ⟨_, rfl⟩
      rw [← hk] at q0 q1 q2 q3 q4 q5 q6 q7 hk2 ⊢
      have Hk := Lib.hid hk
      have Hdl := Lib.hid hdl
      clear hx hv hq hat0 hD hge hk hdl hh hlen
      go_wp2_with (at_builtin; refine append_one _ rfl _ _ 65 rfl w.heap.size 70 i0 _ 8 64 Try.underlying65 hi hz0 hz1 hz2 rfl (by decide) (by decide) _ _ _ rfl hown (ntr q) _ rfl rfl (by simp [Value.oneCell', ntr]) (by have := HL.out; omega) hsz ?_; intro g cap w2 hown2 hgr2; have hbel2 := below_grown hbel hsz hown hgr2; clear hgr2)
      go_roundw
      case rel => exact ⟨m + 1, by omega, by have := Hk.out; subst this; go_num, by rw [HD.out, rowOf_snoc, List.length_append]; exact hown2, hbel2⟩
      case measure => simp [intOf]; omega
    · have hme : m = (l.drop s).length ∨ l.length ≤ s := by omega
      have hD : (l.drop s).take m = l.drop s := by
        rcases hme with rfl | h0
        · exact List.take_length
        · rw [List.drop_eq_nil_of_le h0, List.take_nil]
      rw [hD] at hown
      have hfz : Fresh wr w.heap.size u5 := by
        intro a n c he
        rcases hown.2 with ⟨h1, _⟩ | ⟨g, cap, cur, h1, hbg, hgg, hnc, hcm, _⟩
        · rw [h1] at he; cases he
        · subst h1
          have hf := hown.frozenAt
          cases he
          exact ⟨hbg, 0, rfl, hf⟩
      have HA := Lib.hid (Arr.of_own hown)
      have HFz := Lib.hid hfz
      obtain ⟨k, hk⟩ : ∃ k, k = s + m := ⟨_, rfl⟩
      rw [← hk] at hk2 ⊢
      clear hv hown hD hme hk hfz hh hdl
      go_wp2
      go_ret
      exact ⟨⟨_, rfl, HA.out, HFz.out⟩, hbel⟩

theorem c_rSince (h : Nat) (v : Value) (l : List Nt) (a : Int) (w : World) (hh : w.cell? ⟨h, 0, none⟩ = some v) (hlt : h < w.heap.size) (hv : Arr w v l.length 8 (rowOf ntr l)) (hl : l.length ≤ 1048576) :
    Calls Try.prog 46 #[.pointer (some ⟨h, 0, none⟩), .int .i64 a] w fun e w' => (∃ v', e = .returned v' ∧ Arr w' v' (l.drop a.toNat).length 8 (rowOf ntr (l.drop a.toNat)) ∧ Fresh w' w.heap.size v') ∧ Below w.heap.size w w' := by
  by_cases h0 : a < 0
  · have e : a.toNat = 0 := by omega
    rw [e]
    exact c_rSince_neg h v l a 0 w hh hlt hv hl rfl h0
  · obtain ⟨s, rfl⟩ := Int.eq_ofNat_of_zero_le (show 0 ≤ a by omega)
    rw [Int.toNat_natCast]
    exact c_rSince_pos h v l 0 s w hh hlt hv hl trivial
theorem ntOf_take (l : List Nt) (a : Int) (k : Nat) (hk : k < l.length) : ntOf (l.take (k + 1)) a = ntOf (l.take k) a ++ (if l[k].kind = a then [l[k]] else []) := by
  rw [take_get hk]
  unfold ntOf
  rw [List.filter_append]
  by_cases h : l[k].kind = a
  · rw [if_pos h]; simp [h]
  · rw [if_neg h]; simp [h]
theorem ntOf_len (l : List Nt) (a : Int) : (ntOf l a).length ≤ l.length := List.length_filter_le _ _
set_option maxHeartbeats 1000000 in
set_option maxRecDepth 100000 in
theorem c_rOf (h : Nat) (v : Value) (l : List Nt) (a : Int) (w : World) (hh : w.cell? ⟨h, 0, none⟩ = some v) (hlt : h < w.heap.size) (hv : Arr w v l.length 8 (rowOf ntr l)) (hl : l.length ≤ 1048576) :
    Calls Try.prog 47 #[.pointer (some ⟨h, 0, none⟩), .int .i64 a] w fun e w' => (∃ v', e = .returned v' ∧ Arr w' v' (ntOf l a).length 8 (rowOf ntr (ntOf l a)) ∧ Fresh w' w.heap.size v') ∧ Below w.heap.size w w' := by
  obtain ⟨i0, hi, hz0, hz1, hz2⟩ := info_parts infoRn
  obtain ⟨ao, cp, rfl, hcp, hm⟩ := hv.shape
  have HL := Lib.hid hl
  have hl2 : l.length ≤ 9223372036854775807 := by omega
  clear hl
  go_enter Try.func47, Try.ntmps47
  go_wp2
  go_loopw [5, 6] (fun vo i wr => ∃ k : Nat, k ≤ l.length ∧ i = .int .i64 k ∧ wr.ownsRow w.heap.size 70 8 vo (ntOf (l.take k) a).length (rowOf ntr (ntOf (l.take k) a)) ∧ Below w.heap.size w wr)
      (fun _ i _ => l.length - (intOf i).toNat)
  case atStart => exact ⟨0, Nat.zero_le _, rfl, World.ownsRow_nil _ _ _ _, Below.refl _ _⟩
  case round =>
    obtain ⟨k, hk, rfl, hown, hbel⟩ := hrel
    have hhr := (hbel.cell (p := ⟨h, 0, none⟩) hlt).trans hh
    by_cases hk2 : k < l.length
    · obtain ⟨b, o, c', he, hcp, hm, hb, hx⟩ := hv.open (by omega) (by omega)
      cases he
      have hat0 := nrAt_row hx k hk2
      have hlen := ntOf_len (l.take k) a
      rw [List.length_take] at hlen
      have HD := Lib.hid (ntOf_take l a k hk2)
      obtain ⟨q, hq⟩ : ∃ q, q = l[k] := ⟨_, rfl⟩
      rw [← hq] at hat0 HD
      obtain ⟨q0, q1, q2, q3, q4, q5, q6, q7⟩ := (hat0.below hbel hb).all
      obtain ⟨D, hD⟩ : ∃ D, D = ntOf (l.take k) a := ⟨_, rfl⟩
      rw [← hD] at hown hlen HD
      have hlen2 : D.length ≤ l.length := by omega
      have hsz := hbel.size
      clear hx hv hq hat0 hD hh hlen
      by_cases hka : q.kind = a
      · have e1 : (q.kind == a) = true := by simp [hka]
        have HE := Lib.hid (show ntOf (l.take (k + 1)) a = D ++ [q] by rw [HD.out, if_pos hka])
        clear hka
        go_wp2_with (at_builtin; refine append_one _ rfl _ _ 65 rfl w.heap.size 70 i0 _ 8 64 Try.underlying65 hi hz0 hz1 hz2 rfl (by decide) (by decide) _ _ _ rfl hown (ntr q) _ rfl rfl (by simp [Value.oneCell', ntr]) (by have := HL.out; omega) hsz ?_; intro g cap w2 hown2 hgr2; have hbel2 := below_grown hbel hsz hown hgr2; clear hgr2)
        go_roundw
        case rel => exact ⟨k + 1, by omega, by go_num, by rw [HE.out, rowOf_snoc, List.length_append]; exact hown2, hbel2⟩
        case measure => simp [intOf]; omega
      · have e1 : (q.kind == a) = false := by simp [hka]
        have HE := Lib.hid (show ntOf (l.take (k + 1)) a = D by rw [HD.out, if_neg hka, List.append_nil])
        clear hka
        go_wp2
        go_roundw
        case rel => exact ⟨k + 1, by omega, by go_num, by rw [HE.out]; exact hown, hbel⟩
        case measure => simp [intOf]; omega
    · obtain rfl : k = l.length := by omega
      rw [List.take_length] at hown
      have hfz : Fresh wr w.heap.size u5 := by
        intro a n c he
        rcases hown.2 with ⟨h1, _⟩ | ⟨g, cap, cur, h1, hbg, hgg, hnc, hcm, _⟩
        · rw [h1] at he; cases he
        · subst h1
          have hf := hown.frozenAt
          cases he
          exact ⟨hbg, 0, rfl, hf⟩
      have HA := Lib.hid (Arr.of_own hown)
      have HFz := Lib.hid hfz
      clear hv hown hfz hh
      go_wp2
      go_ret
      exact ⟨⟨_, rfl, HA.out, HFz.out⟩, hbel⟩
set_option maxHeartbeats 1000000 in
theorem c_rDropped (h : Nat) (v : Value) (l : List Nt) (ref : Int) (w : World) (hh : w.cell? ⟨h, 0, none⟩ = some v) (hv : Arr w v l.length 8 (rowOf ntr l)) (hl : l.length ≤ 1048576) :
    Calls Try.prog 49 #[.pointer (some ⟨h, 0, none⟩), .int .i64 ref] w fun e w' => e = .returned (.tuple #[.int .i64 (ntDropped ref l).1, .bool (ntDropped ref l).2]) ∧ w = w' := by
  obtain ⟨ao, cp, rfl, hcp, hm⟩ := hv.shape
  have HL := Lib.hid hl
  have hl2 : l.length ≤ 9223372036854775807 := by omega
  clear hl
  go_enter Try.func49, Try.ntmps49
  go_wp2
  go_loopw [6] (fun i wr => ∃ k : Nat, k ≤ l.length ∧ i = .int .i64 ((k : Int) - 1) ∧ (∀ j, (hj : j < l.length) → k ≤ j → ¬ (l[j].kind = 1 ∧ l[j].ref = ref)) ∧ w = wr)
      (fun i _ => (intOf i + 1).toNat)
  case atStart => exact ⟨l.length, Nat.le_refl _, rfl, fun j hj h => absurd h (by omega), rfl⟩
  case round =>
    obtain ⟨k, hk, rfl, hno, rfl⟩ := hrel
    have HT := Lib.hid (fun h0 => ntDropped_back ref l k hno l.length hk (h0 : l.length ≤ l.length))
    by_cases hk0 : k = 0
    · subst hk0
      have hz : ntDropped ref l = (0, false) := by have := HT.out (Nat.le_refl _); rw [List.take_length] at this; rw [this]; rfl
      have HZ := Lib.hid hz
      clear hz hv hno
      go_wp2
      go_ret2
      exact ⟨by rw [HZ.out]; rfl, rfl⟩
    · obtain ⟨m, rfl⟩ : ∃ m, k = m + 1 := ⟨k - 1, by omega⟩
      have hml : m < l.length := by omega
      obtain ⟨b, o, c', he, hcp, hm, hb, hx⟩ := hv.open (by omega) (by omega)
      cases he
      have hat0 := nrAt_row hx m hml
      have HD := Lib.hid (ntDropped_take ref l m hml)
      have Hno := Lib.hid hno
      obtain ⟨q, hq⟩ : ∃ q, q = l[m] := ⟨_, rfl⟩
      rw [← hq] at hat0 HD
      obtain ⟨q0, q1, q2, q3, q4, q5, q6, q7⟩ := hat0.all
      have hmi : ((m + 1 : Nat) : Int) - 1 = (m : Int) := by omega
      rw [hmi]
      have Hq := Lib.hid hq
      clear hx hv hq hat0 hmi hno hk0
      by_cases h1 : q.kind = 1
      · have e1 : (q.kind == 1) = true := by simp [h1]
        by_cases h2 : q.ref = ref
        · have e2 : (q.ref == ref) = true := by simp [h2]
          have hz : ntDropped ref l = (m, true) := by have := HT.out (Nat.le_refl _); rw [List.take_length] at this; rw [this, HD.out, if_pos ⟨h1, h2⟩]
          have HZ := Lib.hid hz
          clear h1 h2 hz
          go_wp2
          go_ret2
          exact ⟨by rw [HZ.out]; rfl, rfl⟩
        · have e2 : (q.ref == ref) = false := by simp [h2]
          have H2 := Lib.hid h2
          clear h1 h2
          go_wp2
          go_roundw
          case rel => exact ⟨m, by omega, rfl, fun j hj hmj hh => (by
            rcases Nat.lt_or_ge m j with h3 | h3
            · exact Hno.out j hj h3 hh
            · obtain rfl : j = m := by omega
              exact H2.out (by rw [Hq.out]; exact hh.2)), by trivial⟩
          case measure => simp [intOf] <;> omega
      · have e1 : (q.kind == 1) = false := by simp [h1]
        have H1 := Lib.hid h1
        clear h1
        go_wp2
        go_roundw
        case rel => exact ⟨m, by omega, rfl, fun j hj hmj hh => (by
            rcases Nat.lt_or_ge m j with h3 | h3
            · exact Hno.out j hj h3 hh
            · obtain rfl : j = m := by omega
              exact H1.out (by rw [Hq.out]; exact hh.1)), by trivial⟩
        case measure => simp [intOf] <;> omega
theorem c_rName (k : Int) (w : World) (k0 : 0 ≤ k) (k1 : k ≤ 255) : Calls Try.prog 50 #[.int .i64 k] w fun e w' => e = .returned (.string (ntName k)) ∧ w = w' := by
  by_cases hk : 10 ≤ k
  · have HN := Lib.hid (show ntName k = ⟨#[63]⟩ by unfold ntName; rw [List.getD_eq_getElem?_getD, List.getElem?_eq_none (by simp [ntNames]; omega)]; rfl)
    have n1 : (k == 1) = false := by simp; omega
    have n2 : (k == 2) = false := by simp; omega
    have n3 : (k == 3) = false := by simp; omega
    have n4 : (k == 4) = false := by simp; omega
    have n5 : (k == 5) = false := by simp; omega
    have n6 : (k == 6) = false := by simp; omega
    have n7 : (k == 7) = false := by simp; omega
    have n8 : (k == 8) = false := by simp; omega
    have n9 : (k == 9) = false := by simp; omega
    go_enter Try.func50, Try.ntmps50
    go_wp2
    go_ret
    exact ⟨by rw [HN.out]; rfl, rfl⟩
  · have hc : k = 0 ∨ k = 1 ∨ k = 2 ∨ k = 3 ∨ k = 4 ∨ k = 5 ∨ k = 6 ∨ k = 7 ∨ k = 8 ∨ k = 9 := by omega
    clear hk k0 k1
    rcases hc with rfl | rfl | rfl | rfl | rfl | rfl | rfl | rfl | rfl | rfl
    all_goals
      go_enter Try.func50, Try.ntmps50
      go_wp2
      go_ret
      exact ⟨rfl, rfl⟩
end Go.Proofs.Ytcgjopjjmgpobaa
