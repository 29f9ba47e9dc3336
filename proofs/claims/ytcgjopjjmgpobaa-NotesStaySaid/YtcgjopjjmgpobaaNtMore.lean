/- Layer 9: contracts of New, Since, Of, All, Dropped, Name, of a list that is there and of none. -/
import Derived.Test.YtcgjopjjmgpobaaNtPick
namespace Go.Proofs.Ytcgjopjjmgpobaa
open Go.RowKit
set_option linter.unusedVariables false

theorem c_New (w : World) : Calls Try.prog 35 #[] w fun e w' => e = .returned (.pointer (some ⟨w.heap.size, 0, none⟩)) ∧ w' = w.alloc (.cells #[.slice none 0 0] 80) := by
  go_enter Try.func35, Try.ntmps35
  go_wp2
  go_ret
  exact ⟨rfl, rfl⟩
theorem NtNew.mono {w w0 w' : World} {v : Value} {L : List Nt} (h : NtNew w w' v L) (hs : w0.heap.size ≤ w.heap.size) : NtNew w0 w' v L := ⟨h.arr, fun a n c he => ⟨Nat.le_trans hs (h.fresh a n c he).1, (h.fresh a n c he).2⟩, h.shape⟩
theorem c_Since (h : Nat) (v : Value) (l : List Nt) (a : Int) (w : World) (hh : w.cell? ⟨h, 0, none⟩ = some v) (hlt : h < w.heap.size) (hv : Arr w v l.length 8 (rowOf ntc l)) (hl : l.length ≤ 1048576) :
    Calls Try.prog 40 #[.pointer (some ⟨h, 0, none⟩), .int .i64 a] w fun e w' => (∃ v', e = .returned v' ∧ NtNew w w' v' (l.drop a.toNat)) ∧ Below w.heap.size w w' := by
  have hp := fun (o : Obj) (hc : (w.alloc o).cell? ⟨w.heap.size, 0, none⟩ = some (.int .i64 a)) => c_Sincepicked h v l a w.heap.size (w.alloc o) ((((Below.refl _ _).alloc (Nat.le_refl _) _).cell (p := ⟨h, 0, none⟩) hlt).trans hh) (hv.below ((Below.refl _ _).alloc (Nat.le_refl _) _)) hl hc (by simp)
  have Hp := Lib.hid hp
  clear hp hl
  go_enter Try.func40, Try.ntmps40
  go_wp2_with (go_at_call 57; refine (Hp.out _ (by simp)).mono ?_; rintro e w' ⟨⟨v', rfl, hn⟩, hb⟩)
  go_ret
  exact ⟨⟨_, rfl, by rw [ntPick_since, Nat.sub_zero] at hn; exact hn.mono (by simp)⟩, ((Below.refl _ _).alloc (Nat.le_refl _) _).trans (hb.mono (by simp))⟩
theorem c_Of (h : Nat) (v : Value) (l : List Nt) (a : Int) (w : World) (hh : w.cell? ⟨h, 0, none⟩ = some v) (hlt : h < w.heap.size) (hv : Arr w v l.length 8 (rowOf ntc l)) (hl : l.length ≤ 1048576) :
    Calls Try.prog 43 #[.pointer (some ⟨h, 0, none⟩), .int .u8 a] w fun e w' => (∃ v', e = .returned v' ∧ NtNew w w' v' (ntOf l a)) ∧ Below w.heap.size w w' := by
  have hp := fun (o : Obj) (hc : (w.alloc o).cell? ⟨w.heap.size, 0, none⟩ = some (.int .u8 a)) => c_Ofpicked h v l a w.heap.size (w.alloc o) ((((Below.refl _ _).alloc (Nat.le_refl _) _).cell (p := ⟨h, 0, none⟩) hlt).trans hh) (hv.below ((Below.refl _ _).alloc (Nat.le_refl _) _)) hl hc (by simp)
  have Hp := Lib.hid hp
  clear hp hl
  go_enter Try.func43, Try.ntmps43
  go_wp2_with (go_at_call 57; refine (Hp.out _ (by simp)).mono ?_; rintro e w' ⟨⟨v', rfl, hn⟩, hb⟩)
  go_ret
  exact ⟨⟨_, rfl, by rw [ntPick_of] at hn; exact hn.mono (by simp)⟩, ((Below.refl _ _).alloc (Nat.le_refl _) _).trans (hb.mono (by simp))⟩
theorem c_All (h : Nat) (v : Value) (l : List Nt) (w : World) (hh : w.cell? ⟨h, 0, none⟩ = some v) (hlt : h < w.heap.size) (hv : Arr w v l.length 8 (rowOf ntc l)) (hl : l.length ≤ 1048576) :
    Calls Try.prog 44 #[.pointer (some ⟨h, 0, none⟩)] w fun e w' => (∃ v', e = .returned v' ∧ NtNew w w' v' l) ∧ Below w.heap.size w w' := by
  have Hp := Lib.hid (c_Since h v l 0 w hh hlt hv hl)
  clear hl
  go_enter Try.func44, Try.ntmps44
  go_wp2_with (go_at_call 40; refine (Hp.out).mono ?_; rintro e w' ⟨⟨v', rfl, hn⟩, hb⟩)
  go_ret
  exact ⟨⟨_, rfl, by simpa using hn⟩, hb⟩
set_option maxHeartbeats 1000000 in
theorem c_Dropped (h : Nat) (v : Value) (l : List Nt) (ref : Int) (w : World) (hh : w.cell? ⟨h, 0, none⟩ = some v) (hv : Arr w v l.length 8 (rowOf ntc l)) (hl : l.length ≤ 1048576) :
    Calls Try.prog 38 #[.pointer (some ⟨h, 0, none⟩), .int .i64 ref] w fun e w' => e = .returned (.tuple #[.int .i64 (ntDropped ref l).1, .bool (ntDropped ref l).2]) ∧ Below w.heap.size w w' := by
  obtain ⟨ao, cp, rfl, hcp, hm⟩ := hv.shape
  have HL := Lib.hid hl
  have hl2 : l.length ≤ 9223372036854775807 := by omega
  clear hl
  go_enter Try.func38, Try.ntmps38
  go_wp2_with (go_at_call 55; refine (c_notes h _ _ hh).mono ?_; rintro e w' ⟨rfl, rfl⟩)
  go_loopw [4, 5, 11] (fun at_ is_ i wr => ∃ k : Nat, k ≤ l.length ∧ i = .int .i64 k ∧ at_ = .int .i64 (ntDropped ref (l.take k)).1 ∧ is_ = .bool (ntDropped ref (l.take k)).2 ∧ Below w.heap.size w wr)
      (fun _ _ i _ => l.length - (intOf i).toNat)
  case atStart => exact ⟨0, Nat.zero_le _, rfl, rfl, rfl, Below.refl _ _⟩
  case round =>
    obtain ⟨k, hk, rfl, rfl, rfl, hbel⟩ := hrel
    by_cases hk2 : k < l.length
    · obtain ⟨b, o, c', he, hcp, hm, hb, hx⟩ := hv.open (by omega) (by omega)
      cases he
      have hat0 := ntAt_row hx k hk2
      have HD := Lib.hid (ntDropped_take ref l k hk2)
      obtain ⟨q, hq⟩ : ∃ q, q = l[k] := ⟨_, rfl⟩
      rw [← hq] at hat0 HD
      obtain ⟨q0, q1, q2, q3, q4, q5, q6, q7⟩ := (hat0.below hbel hb).all
      clear hx hv hq hat0
      by_cases h1 : q.kind = 1
      · have e1 : (q.kind == 1) = true := by simp [h1]
        by_cases h2 : q.ref = ref
        · have e2 : (q.ref == ref) = true := by simp [h2]
          have HE := Lib.hid (show ntDropped ref (l.take (k + 1)) = (k, true) by rw [HD.out, if_pos ⟨h1, h2⟩])
          clear h1 h2 HD
          go_wp2
          go_roundw
          case rel => exact ⟨k + 1, by omega, by go_num, by rw [HE.out], by rw [HE.out], hbel.alloc hbel.size _⟩
          case measure => simp [intOf]; omega
        · have e2 : (q.ref == ref) = false := by simp [h2]
          have HE := Lib.hid (show ntDropped ref (l.take (k + 1)) = ntDropped ref (l.take k) by rw [HD.out, if_neg (fun h => h2 h.2)])
          clear h1 h2 HD
          go_wp2
          go_roundw
          case rel => exact ⟨k + 1, by omega, by go_num, by rw [HE.out], by rw [HE.out], hbel.alloc hbel.size _⟩
          case measure => simp [intOf]; omega
      · have e1 : (q.kind == 1) = false := by simp [h1]
        have HE := Lib.hid (show ntDropped ref (l.take (k + 1)) = ntDropped ref (l.take k) by rw [HD.out, if_neg (fun h => h1 h.1)])
        clear h1 HD
        go_wp2
        go_roundw
        case rel => exact ⟨k + 1, by omega, by go_num, by rw [HE.out], by rw [HE.out], hbel.alloc hbel.size _⟩
        case measure => simp [intOf]; omega
    · obtain rfl : k = l.length := by omega
      go_wp2
      go_ret2
      exact ⟨by rw [List.take_length]; rfl, hbel⟩
theorem c_names (w : World) : Calls Try.prog 56 #[] w fun e w' => e = .returned (.slice (some ⟨w.heap.size, 0, none⟩) 10 10) ∧ w' = w.alloc (.cells (ntNames.map Value.string).toArray 9) := by
  go_enter Try.func56, Try.ntmps56
  go_wp2
  go_ret
  exact ⟨rfl, rfl⟩
theorem c_Name (k : Int) (w : World) (k0 : 0 ≤ k) (k1 : k ≤ 255) : Calls Try.prog 39 #[.int .u8 k] w fun e w' => e = .returned (.string (ntName k)) ∧ Below w.heap.size w w' := by
  by_cases hk : 10 ≤ k
  · have HN := Lib.hid (show ntName k = ⟨#[63]⟩ by unfold ntName; rw [List.getD_eq_getElem?_getD, List.getElem?_eq_none (by simp [ntNames]; omega)]; rfl)
    go_enter Try.func39, Try.ntmps39
    go_wp2_with (go_at_call 56; refine (c_names _).mono ?_; rintro e w' ⟨rfl, rfl⟩; unfold ntNames; simp only [List.map_cons, List.map_nil])
    go_ret
    exact ⟨by rw [HN.out]; rfl, (Below.refl _ _).alloc (Nat.le_refl _) _⟩
  · have hc : k = 0 ∨ k = 1 ∨ k = 2 ∨ k = 3 ∨ k = 4 ∨ k = 5 ∨ k = 6 ∨ k = 7 ∨ k = 8 ∨ k = 9 := by omega
    clear hk k0 k1
    rcases hc with rfl | rfl | rfl | rfl | rfl | rfl | rfl | rfl | rfl | rfl
    all_goals
      go_enter Try.func39, Try.ntmps39
      go_wp2_with (go_at_call 56; refine (c_names _).mono ?_; rintro e w' ⟨rfl, rfl⟩; unfold ntNames; simp only [List.map_cons, List.map_nil])
      go_ret
      exact ⟨rfl, (Below.refl _ _).alloc (Nat.le_refl _) _⟩

/-- A list of a call's own, as the call goes on. -/
structure NLx (w0 w : World) (E : TypeId) (f : Nt → List Value) (h : Nat) (v : Value) (l : List Nt) : Prop where
  nl : NL w E f h v l
  base : w0.heap.size ≤ h
  row : ∀ k, v.ownBlock = some k → w0.heap.size ≤ k
  below : Below w0.heap.size w0 w
theorem NLx.new {w0 w : World} (hb : Below w0.heap.size w0 w) (N : Nat) (hN : N = w.heap.size) : NLx w0 (w.alloc (.cells #[.slice none 0 0] 80)) 56 ntc N (.slice none 0 0) [] := by
  subst hN
  refine ⟨⟨?_, ?_, by simp, (fun h => by cases h), World.ownsRow_nil _ _ _ _⟩, hb.size, (fun k h => by cases h), hb.alloc hb.size _⟩
  · unfold World.cell?
    rw [heap_alloc_new]
    rfl
  · simp
theorem NLx.go {w0 w w' : World} {E : TypeId} {f : Nt → List Value} {h : Nat} {v : Value} {l : List Nt} (n : NLx w0 w E f h v l) (hb : Below w.heap.size w w') : NLx w0 w' E f h v l :=
  ⟨n.nl.below hb, n.base, n.row, n.below.trans (hb.mono n.below.size)⟩
theorem NLx.arr {w0 w : World} {E : TypeId} {f : Nt → List Value} {h : Nat} {v : Value} {l : List Nt} (n : NLx w0 w E f h v l) : Arr w v l.length 8 (rowOf f l) := Arr.of_own n.nl.own
theorem c_Addx (n : Nt) (h : Nat) (v : Value) (l : List Nt) (w0 w : World) (hl : NLx w0 w 56 ntc h v l) (k0 : 0 ≤ n.kind) (k1 : n.kind ≤ 255) :
    Calls Try.prog 37 #[.pointer (some ⟨h, 0, none⟩), .agg #[.int .i64 n.step, .int .i64 n.thread, .int .u8 n.kind, .int .i64 n.ref, .int .i64 n.bits, .int .i64 n.bucket, .int .i64 n.slot, .int .i64 n.value]] w fun e w' =>
      e = .returned (.int .i64 (ntErr l n)) ∧ ∃ v', NLx w0 w' 56 ntc h v' (ntAdd l n) := by
  refine (c_Add n h v l w hl.nl k0 k1).mono ?_
  rintro e w' ⟨rfl, v', hn, hv, hw⟩
  have hz := hl.below.size
  refine ⟨rfl, v', hn, hl.base, fun k hk => ?_, hl.below.trans (hw.below (B := w0.heap.size) ?_ hz)⟩
  · rcases hv k hk with h1 | h1
    · exact hl.row k h1
    · omega
  · rintro k _ (rfl | h1)
    · exact hl.base
    · exact hl.row k h1
theorem c_picked_nil (F : Value) (w : World) :
    Calls Try.prog 57 #[.pointer none, F] w fun e w' => e = .returned (.slice none 0 0) ∧ w = w' := by
  go_enter Try.func57, Try.ntmps57
  go_wp2_with (go_at_call 55; refine (c_notes_nil _).mono ?_; rintro e w' ⟨rfl, rfl⟩)
  refine wp_loop_rounds 1 ?_
  rw [rounds_succ]
  go_wp2_with (go_at_call 60; refine (c_Clip none 0 0 _ (Nat.le_refl _) (by unfold maxLen; omega) (fun _ => rfl)).mono ?_; rintro e w1 ⟨rfl, rfl⟩)
  go_ret
  exact ⟨rfl, rfl⟩
theorem c_Since_nil (a : Int) (w : World) : Calls Try.prog 40 #[.pointer none, .int .i64 a] w fun e w' => e = .returned (.slice none 0 0) ∧ Below w.heap.size w w' := by
  go_enter Try.func40, Try.ntmps40
  go_wp2_with (go_at_call 57; refine (c_picked_nil _ _).mono ?_; rintro e w' ⟨rfl, rfl⟩)
  go_ret
  exact ⟨rfl, (Below.refl _ _).alloc (Nat.le_refl _) _⟩
theorem c_Of_nil (a : Int) (w : World) : Calls Try.prog 43 #[.pointer none, .int .u8 a] w fun e w' => e = .returned (.slice none 0 0) ∧ Below w.heap.size w w' := by
  go_enter Try.func43, Try.ntmps43
  go_wp2_with (go_at_call 57; refine (c_picked_nil _ _).mono ?_; rintro e w' ⟨rfl, rfl⟩)
  go_ret
  exact ⟨rfl, (Below.refl _ _).alloc (Nat.le_refl _) _⟩
theorem c_All_nil (w : World) : Calls Try.prog 44 #[.pointer none] w fun e w' => e = .returned (.slice none 0 0) ∧ Below w.heap.size w w' := by
  go_enter Try.func44, Try.ntmps44
  go_wp2_with (go_at_call 40; refine (c_Since_nil _ _).mono ?_; rintro e w' ⟨rfl, hb⟩)
  go_ret
  exact ⟨rfl, hb⟩
theorem c_Dropped_nil (ref : Int) (w : World) : Calls Try.prog 38 #[.pointer none, .int .i64 ref] w fun e w' => e = .returned (.tuple #[.int .i64 0, .bool false]) ∧ w = w' := by
  go_enter Try.func38, Try.ntmps38
  go_wp2_with (go_at_call 55; refine (c_notes_nil _).mono ?_; rintro e w' ⟨rfl, rfl⟩)
  refine wp_loop_rounds 1 ?_
  rw [rounds_succ]
  go_wp2
  go_ret2
  exact ⟨rfl, rfl⟩
end Go.Proofs.Ytcgjopjjmgpobaa
