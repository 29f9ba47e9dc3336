/- Layer 9: contracts of a list's picked notes (Since, Of, All). -/
import Derived.Test.YtcgjopjjmgpobaaNtWalks
namespace Go.Proofs.Ytcgjopjjmgpobaa
open Go.RowKit
set_option linter.unusedVariables false

/-- A note's cells, from an address on. -/
def NtAt (w : World) (b o : Nat) (n : Nt) : Prop := ∀ j u, (ntc n)[j]? = some u → w.cell? ⟨b, o + j, none⟩ = some u
theorem NtAt.all {w : World} {b o : Nat} {n : Nt} (h : NtAt w b o n) : w.cell? ⟨b, o, none⟩ = some (.int .i64 n.step) ∧ w.cell? ⟨b, o + 1, none⟩ = some (.int .i64 n.thread) ∧ w.cell? ⟨b, o + 2, none⟩ = some (.int .u8 n.kind) ∧ w.cell? ⟨b, o + 3, none⟩ = some (.int .i64 n.ref) ∧ w.cell? ⟨b, o + 4, none⟩ = some (.int .i64 n.bits) ∧ w.cell? ⟨b, o + 5, none⟩ = some (.int .i64 n.bucket) ∧ w.cell? ⟨b, o + 6, none⟩ = some (.int .i64 n.slot) ∧ w.cell? ⟨b, o + 7, none⟩ = some (.int .i64 n.value) :=
  ⟨h 0 _ rfl, h 1 _ rfl, h 2 _ rfl, h 3 _ rfl, h 4 _ rfl, h 5 _ rfl, h 6 _ rfl, h 7 _ rfl⟩
theorem NtAt.below {w w' : World} {b o B : Nat} {n : Nt} (h : NtAt w b o n) (hb : Below B w w') (hlt : b < B) : NtAt w' b o n := fun j u hu => (hb.cell (p := ⟨b, o + j, none⟩) hlt).trans (h j u hu)
theorem NtAt.new (w : World) (n : Nt) (e : TypeId) (N : Nat) (hN : N = w.heap.size) : NtAt (w.alloc (.cells #[.int .i64 n.step, .int .i64 n.thread, .int .u8 n.kind, .int .i64 n.ref, .int .i64 n.bits, .int .i64 n.bucket, .int .i64 n.slot, .int .i64 n.value] e)) N 0 n := by
  subst hN
  intro j u hu
  rw [Nat.zero_add]
  unfold World.cell?
  rw [heap_alloc_new]
  simpa [ntc] using hu
theorem NtAt.drew {w : World} {b o : Nat} {n : Nt} (h : NtAt w b o n) : NtAt w.drew b o n := h
theorem ntAt_row {w : World} {l : List Nt} {b o : Nat} (h : ∀ j u, (rowOf ntc l)[j]? = some u → w.cell? ⟨b, o + j, none⟩ = some u) (i : Nat) (hi : i < l.length) : NtAt w b (o + i * 8) l[i] := by
  intro j u hu
  have hj : j < 8 := (List.getElem?_eq_some_iff.1 hu).1
  have := nt_cells ntc_len h i hi j hj hu
  rwa [Nat.add_assoc]

/-- What is picked, by what is asked of each and its place. -/
def ntPick (f : Nat → Nt → Bool) : List Nt → Nat → List Nt
  | [], _ => []
  | n :: l, i => if f i n then n :: ntPick f l (i + 1) else ntPick f l (i + 1)
theorem ntPick_append (f : Nat → Nt → Bool) (l m : List Nt) : ∀ i, ntPick f (l ++ m) i = ntPick f l i ++ ntPick f m (i + l.length) := by
  induction l with
  | nil => intro i; simp [ntPick]
  | cons a l ih =>
    intro i
    simp only [List.cons_append, ntPick, ih, List.length_cons, show i + 1 + l.length = i + (l.length + 1) by omega]
    split <;> simp
theorem ntPick_take (f : Nat → Nt → Bool) (l : List Nt) (k : Nat) (hk : k < l.length) : ntPick f (l.take (k + 1)) 0 = ntPick f (l.take k) 0 ++ (if f k l[k] then [l[k]] else []) := by
  rw [List.take_succ_eq_append_getElem hk, ntPick_append, List.length_take, Nat.zero_add, Nat.min_eq_left (by omega)]
  simp [ntPick]
theorem ntPick_len (f : Nat → Nt → Bool) (l : List Nt) : ∀ i, (ntPick f l i).length ≤ l.length := by
  induction l with
  | nil => intro i; simp [ntPick]
  | cons a l ih =>
    intro i
    have := ih (i + 1)
    simp only [ntPick]
    split <;> simp <;> omega
theorem ntPick_since (a : Int) (l : List Nt) : ∀ i : Nat, ntPick (fun j _ => decide (a ≤ (j : Int))) l i = l.drop (a.toNat - i) := by
  induction l with
  | nil => intro i; simp [ntPick]
  | cons n l ih =>
    intro i
    simp only [ntPick, ih]
    by_cases h : a ≤ (i : Int)
    · rw [if_pos (by simpa using h), show a.toNat - i = 0 by omega, show a.toNat - (i + 1) = 0 by omega]; rfl
    · rw [if_neg (by simpa using h), show a.toNat - i = (a.toNat - (i + 1)) + 1 by omega]; rfl
theorem ntPick_of (k : Int) (l : List Nt) : ∀ i, ntPick (fun _ n => decide (n.kind = k)) l i = ntOf l k := by
  induction l with
  | nil => intro i; rfl
  | cons n l ih =>
    intro i
    simp only [ntPick, ih, ntOf, List.filter_cons]
/-- Own memory: the slice lies in blocks from B on, of which nothing is frozen. -/
def Fresh (w : World) (B : Nat) (v : Value) : Prop := ∀ a n c, v = .slice (some a) n c → B ≤ a.block ∧ ∃ o, a = ⟨a.block, o, none⟩ ∧ ∀ j, w.frozen? ⟨a.block, j, none⟩ = false
/-- New memory that reads as a list of notes. -/
structure NtNew (w w' : World) (v : Value) (L : List Nt) : Prop where
  arr : Arr w' v L.length 8 (rowOf ntc L)
  fresh : Fresh w' w.heap.size v
  shape : ∃ ao, v = .slice ao L.length L.length

theorem c_Sinceask (i : Int) (n : Nt) (a : Int) (c : Nat) (w : World) (hc : w.cell? ⟨c, 0, none⟩ = some (.int .i64 a)) (hlt : c < w.heap.size) :
    Calls Try.prog 58 #[.int .i64 i, .agg #[.int .i64 n.step, .int .i64 n.thread, .int .u8 n.kind, .int .i64 n.ref, .int .i64 n.bits, .int .i64 n.bucket, .int .i64 n.slot, .int .i64 n.value], .pointer (some ⟨c, 0, none⟩)] w fun e w' => e = .returned (.bool (decide (a ≤ i))) ∧ Below w.heap.size w w' := by
  have hcW := (((Below.refl w.heap.size w).alloc (Nat.le_refl _) (ntObj n)).cell (p := ⟨c, 0, none⟩) hlt).trans hc
  unfold ntObj at hcW
  go_enter Try.func58, Try.ntmps58
  go_wp2
  go_ret
  exact ⟨rfl, (Below.refl _ _).alloc (Nat.le_refl _) _⟩
theorem c_Sinceask' (t : Bool) (i : Int) (n : Nt) (a : Int) (c : Nat) (w : World) (ht : Hid (t = decide (a ≤ i))) (hc : w.cell? ⟨c, 0, none⟩ = some (.int .i64 a)) (hlt : c < w.heap.size) :
    Calls Try.prog 58 #[.int .i64 i, .agg #[.int .i64 n.step, .int .i64 n.thread, .int .u8 n.kind, .int .i64 n.ref, .int .i64 n.bits, .int .i64 n.bucket, .int .i64 n.slot, .int .i64 n.value], .pointer (some ⟨c, 0, none⟩)] w fun e w' => e = .returned (.bool t) ∧ Below w.heap.size w w' := by
  rw [ht.out]
  exact c_Sinceask i n a c w hc hlt
set_option maxRecDepth 100000 in
set_option maxHeartbeats 1000000 in
theorem c_Sincepicked (h : Nat) (v : Value) (l : List Nt) (a : Int) (c : Nat) (w : World) (hh : w.cell? ⟨h, 0, none⟩ = some v) (hv : Arr w v l.length 8 (rowOf ntc l)) (hl : l.length ≤ 1048576) (hc : w.cell? ⟨c, 0, none⟩ = some (.int .i64 a)) (hlt : c < w.heap.size) :
    Calls Try.prog 57 #[.pointer (some ⟨h, 0, none⟩), .func (.func 58) #[] #[.pointer (some ⟨c, 0, none⟩)]] w fun e w' => (∃ v', e = .returned v' ∧ NtNew w w' v' (ntPick (fun i n => decide (a ≤ (i : Int))) l 0)) ∧ Below w.heap.size w w' := by
  obtain ⟨i0, hi, hz0, hz1, hz2⟩ := info_parts infoNt
  obtain ⟨ao, cp, rfl, hcp, hm⟩ := hv.shape
  have HL := Lib.hid hl
  have hl2 : l.length ≤ 9223372036854775807 := by omega
  clear hl
  go_enter Try.func57, Try.ntmps57
  go_wp2_with (go_at_call 55; refine (c_notes h _ _ hh).mono ?_; rintro e w' ⟨rfl, rfl⟩)
  go_loopw [5, 11] (fun vo i wr => ∃ k : Nat, k ≤ l.length ∧ i = .int .i64 k ∧ wr.ownsRow w.heap.size 56 8 vo (ntPick (fun i n => decide (a ≤ (i : Int))) (l.take k) 0).length (rowOf ntc (ntPick (fun i n => decide (a ≤ (i : Int))) (l.take k) 0)) ∧ Below w.heap.size w wr)
      (fun _ i _ => l.length - (intOf i).toNat)
  case atStart => exact ⟨0, Nat.zero_le _, rfl, World.ownsRow_nil _ _ _ _, Below.refl _ _⟩
  case round =>
    obtain ⟨k, hk, rfl, hown, hbel⟩ := hrel
    by_cases hk2 : k < l.length
    · obtain ⟨b, o, c', he, hcp, hm, hb, hx⟩ := hv.open (by omega) (by omega)
      cases he
      have hat0 := ntAt_row hx k hk2
      obtain ⟨q, hq⟩ : ∃ q, q = l[k] := ⟨_, rfl⟩
      rw [← hq] at hat0
      obtain ⟨q0, q1, q2, q3, q4, q5, q6, q7⟩ := (hat0.below hbel hb).all
      have HD := Lib.hid (ntPick_take (fun i n => decide (a ≤ (i : Int))) l k hk2)
      have hlen := ntPick_len (fun i n => decide (a ≤ (i : Int))) (l.take k) 0
      rw [List.length_take] at hlen
      obtain ⟨D, hD⟩ : ∃ D, D = ntPick (fun i n => decide (a ≤ (i : Int))) (l.take k) 0 := ⟨_, rfl⟩
      rw [← hD] at hown hlen
      have hlen2 : D.length ≤ l.length := by omega
      have HD2 := Lib.hid hD
      have Hq := Lib.hid hq
      have hcr := (hbel.cell (p := ⟨c, 0, none⟩) hlt).trans hc
      have hsz : w.heap.size ≤ wr.heap.size := hbel.size
      have hcl : c < wr.heap.size := by omega
      clear hx hv hq hlen hD hat0
      obtain ⟨t, ht⟩ : ∃ t, t = decide (a ≤ (k : Int)) := ⟨_, rfl⟩
      have HT : Hid (t = decide (a ≤ (k : Int))) := Lib.hid ht
      clear ht
      cases t
      · have E : ntPick (fun i n => decide (a ≤ (i : Int))) (l.take (k + 1)) 0 = D := by
          rw [HD.out, ← HD2.out, ← Hq.out, if_neg (by rw [← HT.out]; simp), List.append_nil]
        have HE := Lib.hid E
        clear E
        go_wp2_with (first | (go_at_call 58; refine (c_Sinceask' false (k : Int) q a c _ HT ((((Below.refl _ _).alloc (Nat.le_refl _) _).cell (p := ⟨c, 0, none⟩) hcl).trans hcr) (by simp; omega)).mono ?_; rintro e w1 ⟨rfl, hb1⟩; have hnew : NtAt w1 wr.heap.size 0 q := (NtAt.new wr q _ _ rfl).below hb1 (by simp); obtain ⟨d0, d1, d2, d3, d4, d5, d6, d7⟩ := hnew.all; clear hnew; have hown1 := ownsRow_below (hown.alloc _) hb1; have hbel1 : Below w.heap.size w w1 := (hbel.alloc hbel.size _).trans (hb1.mono (by simp; omega)); clear hb1) | (at_builtin; refine append_one _ rfl _ _ 44 rfl w.heap.size 56 i0 _ 8 64 Try.underlying44 hi hz0 hz1 hz2 rfl (by decide) (by decide) _ _ _ rfl hown1 (ntc q) _ rfl rfl (by simp [Value.oneCell', ntc]) (by have := HL.out; omega) hbel1.size ?_; intro g cap w2 hown2 hgr2; have hbel2 := below_grown hbel1 hbel1.size hown1 hgr2; clear hgr2))
        go_roundw
        case rel => exact ⟨k + 1, by omega, by go_num, by rw [HE.out]; exact hown1, hbel1⟩
        case measure => simp [intOf]; omega
      · have E : ntPick (fun i n => decide (a ≤ (i : Int))) (l.take (k + 1)) 0 = D ++ [q] := by
          rw [HD.out, ← HD2.out, ← Hq.out, if_pos (by rw [← HT.out])]
        have HE := Lib.hid E
        clear E
        go_wp2_with (first | (go_at_call 58; refine (c_Sinceask' true (k : Int) q a c _ HT ((((Below.refl _ _).alloc (Nat.le_refl _) _).cell (p := ⟨c, 0, none⟩) hcl).trans hcr) (by simp; omega)).mono ?_; rintro e w1 ⟨rfl, hb1⟩; have hnew : NtAt w1 wr.heap.size 0 q := (NtAt.new wr q _ _ rfl).below hb1 (by simp); obtain ⟨d0, d1, d2, d3, d4, d5, d6, d7⟩ := hnew.all; clear hnew; have hown1 := ownsRow_below (hown.alloc _) hb1; have hbel1 : Below w.heap.size w w1 := (hbel.alloc hbel.size _).trans (hb1.mono (by simp; omega)); clear hb1) | (at_builtin; refine append_one _ rfl _ _ 44 rfl w.heap.size 56 i0 _ 8 64 Try.underlying44 hi hz0 hz1 hz2 rfl (by decide) (by decide) _ _ _ rfl hown1 (ntc q) _ rfl rfl (by simp [Value.oneCell', ntc]) (by have := HL.out; omega) hbel1.size ?_; intro g cap w2 hown2 hgr2; have hbel2 := below_grown hbel1 hbel1.size hown1 hgr2; clear hgr2))
        go_roundw
        case rel => exact ⟨k + 1, by omega, by go_num, by rw [HE.out, rowOf_snoc, List.length_append]; exact hown2, hbel2⟩
        case measure => simp [intOf]; omega
    · obtain rfl : k = l.length := by omega
      rw [List.take_length] at hown
      clear hv
      have hA := Arr.of_own hown
      rcases hown.2 with ⟨rfl, h0⟩ | ⟨g, cap, cur, rfl, hbg, hgg, hnc, hcm, _⟩
      · clear hown
        go_wp2_with (go_at_call 60; refine (c_Clip none 0 0 _ (Nat.le_refl _) (by unfold maxLen; omega) (fun _ => rfl)).mono ?_; rintro e w1 ⟨rfl, rfl⟩)
        go_ret
        exact ⟨⟨.slice none 0 0, rfl, hA, (fun a n c h => by cases h), none, by rw [h0]⟩, hbel⟩
      · have hfz := hown.frozenAt
        have hA2 := hA.clip
        clear hown hgg hA
        go_wp2_with (go_at_call 60; refine (c_Clip _ _ _ _ hnc hcm (fun h => by cases h)).mono ?_; rintro e w1 ⟨rfl, rfl⟩)
        go_ret
        exact ⟨⟨_, rfl, hA2, fun a n c h => (by cases h; exact ⟨hbg, 0, rfl, hfz⟩), _, rfl⟩, hbel⟩

theorem c_Ofask (i : Int) (n : Nt) (a : Int) (c : Nat) (w : World) (hc : w.cell? ⟨c, 0, none⟩ = some (.int .u8 a)) (hlt : c < w.heap.size) :
    Calls Try.prog 59 #[.int .i64 i, .agg #[.int .i64 n.step, .int .i64 n.thread, .int .u8 n.kind, .int .i64 n.ref, .int .i64 n.bits, .int .i64 n.bucket, .int .i64 n.slot, .int .i64 n.value], .pointer (some ⟨c, 0, none⟩)] w fun e w' => e = .returned (.bool (decide (n.kind = a))) ∧ Below w.heap.size w w' := by
  have hcW := (((Below.refl w.heap.size w).alloc (Nat.le_refl _) (ntObj n)).cell (p := ⟨c, 0, none⟩) hlt).trans hc
  unfold ntObj at hcW
  go_enter Try.func59, Try.ntmps59
  go_wp2
  go_ret
  exact ⟨ret_bool (by first | rfl | simp [eq_comm]), (Below.refl _ _).alloc (Nat.le_refl _) _⟩
theorem c_Ofask' (t : Bool) (i : Int) (n : Nt) (a : Int) (c : Nat) (w : World) (ht : Hid (t = decide (n.kind = a))) (hc : w.cell? ⟨c, 0, none⟩ = some (.int .u8 a)) (hlt : c < w.heap.size) :
    Calls Try.prog 59 #[.int .i64 i, .agg #[.int .i64 n.step, .int .i64 n.thread, .int .u8 n.kind, .int .i64 n.ref, .int .i64 n.bits, .int .i64 n.bucket, .int .i64 n.slot, .int .i64 n.value], .pointer (some ⟨c, 0, none⟩)] w fun e w' => e = .returned (.bool t) ∧ Below w.heap.size w w' := by
  rw [ht.out]
  exact c_Ofask i n a c w hc hlt
set_option maxRecDepth 100000 in
set_option maxHeartbeats 1000000 in
theorem c_Ofpicked (h : Nat) (v : Value) (l : List Nt) (a : Int) (c : Nat) (w : World) (hh : w.cell? ⟨h, 0, none⟩ = some v) (hv : Arr w v l.length 8 (rowOf ntc l)) (hl : l.length ≤ 1048576) (hc : w.cell? ⟨c, 0, none⟩ = some (.int .u8 a)) (hlt : c < w.heap.size) :
    Calls Try.prog 57 #[.pointer (some ⟨h, 0, none⟩), .func (.func 59) #[] #[.pointer (some ⟨c, 0, none⟩)]] w fun e w' => (∃ v', e = .returned v' ∧ NtNew w w' v' (ntPick (fun i n => decide (n.kind = a)) l 0)) ∧ Below w.heap.size w w' := by
  obtain ⟨i0, hi, hz0, hz1, hz2⟩ := info_parts infoNt
  obtain ⟨ao, cp, rfl, hcp, hm⟩ := hv.shape
  have HL := Lib.hid hl
  have hl2 : l.length ≤ 9223372036854775807 := by omega
  clear hl
  go_enter Try.func57, Try.ntmps57
  go_wp2_with (go_at_call 55; refine (c_notes h _ _ hh).mono ?_; rintro e w' ⟨rfl, rfl⟩)
  go_loopw [5, 11] (fun vo i wr => ∃ k : Nat, k ≤ l.length ∧ i = .int .i64 k ∧ wr.ownsRow w.heap.size 56 8 vo (ntPick (fun i n => decide (n.kind = a)) (l.take k) 0).length (rowOf ntc (ntPick (fun i n => decide (n.kind = a)) (l.take k) 0)) ∧ Below w.heap.size w wr)
      (fun _ i _ => l.length - (intOf i).toNat)
  case atStart => exact ⟨0, Nat.zero_le _, rfl, World.ownsRow_nil _ _ _ _, Below.refl _ _⟩
  case round =>
    obtain ⟨k, hk, rfl, hown, hbel⟩ := hrel
    by_cases hk2 : k < l.length
    · obtain ⟨b, o, c', he, hcp, hm, hb, hx⟩ := hv.open (by omega) (by omega)
      cases he
      have hat0 := ntAt_row hx k hk2
      obtain ⟨q, hq⟩ : ∃ q, q = l[k] := ⟨_, rfl⟩
      rw [← hq] at hat0
      obtain ⟨q0, q1, q2, q3, q4, q5, q6, q7⟩ := (hat0.below hbel hb).all
      have HD := Lib.hid (ntPick_take (fun i n => decide (n.kind = a)) l k hk2)
      have hlen := ntPick_len (fun i n => decide (n.kind = a)) (l.take k) 0
      rw [List.length_take] at hlen
      obtain ⟨D, hD⟩ : ∃ D, D = ntPick (fun i n => decide (n.kind = a)) (l.take k) 0 := ⟨_, rfl⟩
      rw [← hD] at hown hlen
      have hlen2 : D.length ≤ l.length := by omega
      have HD2 := Lib.hid hD
      have Hq := Lib.hid hq
      have hcr := (hbel.cell (p := ⟨c, 0, none⟩) hlt).trans hc
      have hsz : w.heap.size ≤ wr.heap.size := hbel.size
      have hcl : c < wr.heap.size := by omega
      clear hx hv hq hlen hD hat0
      obtain ⟨t, ht⟩ : ∃ t, t = decide (q.kind = a) := ⟨_, rfl⟩
      have HT : Hid (t = decide (q.kind = a)) := Lib.hid ht
      clear ht
      cases t
      · have E : ntPick (fun i n => decide (n.kind = a)) (l.take (k + 1)) 0 = D := by
          rw [HD.out, ← HD2.out, ← Hq.out, if_neg (by rw [← HT.out]; simp), List.append_nil]
        have HE := Lib.hid E
        clear E
        go_wp2_with (first | (go_at_call 59; refine (c_Ofask' false (k : Int) q a c _ HT ((((Below.refl _ _).alloc (Nat.le_refl _) _).cell (p := ⟨c, 0, none⟩) hcl).trans hcr) (by simp; omega)).mono ?_; rintro e w1 ⟨rfl, hb1⟩; have hnew : NtAt w1 wr.heap.size 0 q := (NtAt.new wr q _ _ rfl).below hb1 (by simp); obtain ⟨d0, d1, d2, d3, d4, d5, d6, d7⟩ := hnew.all; clear hnew; have hown1 := ownsRow_below (hown.alloc _) hb1; have hbel1 : Below w.heap.size w w1 := (hbel.alloc hbel.size _).trans (hb1.mono (by simp; omega)); clear hb1) | (at_builtin; refine append_one _ rfl _ _ 44 rfl w.heap.size 56 i0 _ 8 64 Try.underlying44 hi hz0 hz1 hz2 rfl (by decide) (by decide) _ _ _ rfl hown1 (ntc q) _ rfl rfl (by simp [Value.oneCell', ntc]) (by have := HL.out; omega) hbel1.size ?_; intro g cap w2 hown2 hgr2; have hbel2 := below_grown hbel1 hbel1.size hown1 hgr2; clear hgr2))
        go_roundw
        case rel => exact ⟨k + 1, by omega, by go_num, by rw [HE.out]; exact hown1, hbel1⟩
        case measure => simp [intOf]; omega
      · have E : ntPick (fun i n => decide (n.kind = a)) (l.take (k + 1)) 0 = D ++ [q] := by
          rw [HD.out, ← HD2.out, ← Hq.out, if_pos (by rw [← HT.out])]
        have HE := Lib.hid E
        clear E
        go_wp2_with (first | (go_at_call 59; refine (c_Ofask' true (k : Int) q a c _ HT ((((Below.refl _ _).alloc (Nat.le_refl _) _).cell (p := ⟨c, 0, none⟩) hcl).trans hcr) (by simp; omega)).mono ?_; rintro e w1 ⟨rfl, hb1⟩; have hnew : NtAt w1 wr.heap.size 0 q := (NtAt.new wr q _ _ rfl).below hb1 (by simp); obtain ⟨d0, d1, d2, d3, d4, d5, d6, d7⟩ := hnew.all; clear hnew; have hown1 := ownsRow_below (hown.alloc _) hb1; have hbel1 : Below w.heap.size w w1 := (hbel.alloc hbel.size _).trans (hb1.mono (by simp; omega)); clear hb1) | (at_builtin; refine append_one _ rfl _ _ 44 rfl w.heap.size 56 i0 _ 8 64 Try.underlying44 hi hz0 hz1 hz2 rfl (by decide) (by decide) _ _ _ rfl hown1 (ntc q) _ rfl rfl (by simp [Value.oneCell', ntc]) (by have := HL.out; omega) hbel1.size ?_; intro g cap w2 hown2 hgr2; have hbel2 := below_grown hbel1 hbel1.size hown1 hgr2; clear hgr2))
        go_roundw
        case rel => exact ⟨k + 1, by omega, by go_num, by rw [HE.out, rowOf_snoc, List.length_append]; exact hown2, hbel2⟩
        case measure => simp [intOf]; omega
    · obtain rfl : k = l.length := by omega
      rw [List.take_length] at hown
      clear hv
      have hA := Arr.of_own hown
      rcases hown.2 with ⟨rfl, h0⟩ | ⟨g, cap, cur, rfl, hbg, hgg, hnc, hcm, _⟩
      · clear hown
        go_wp2_with (go_at_call 60; refine (c_Clip none 0 0 _ (Nat.le_refl _) (by unfold maxLen; omega) (fun _ => rfl)).mono ?_; rintro e w1 ⟨rfl, rfl⟩)
        go_ret
        exact ⟨⟨.slice none 0 0, rfl, hA, (fun a n c h => by cases h), none, by rw [h0]⟩, hbel⟩
      · have hfz := hown.frozenAt
        have hA2 := hA.clip
        clear hown hgg hA
        go_wp2_with (go_at_call 60; refine (c_Clip _ _ _ _ hnc hcm (fun h => by cases h)).mono ?_; rintro e w1 ⟨rfl, rfl⟩)
        go_ret
        exact ⟨⟨_, rfl, hA2, fun a n c h => (by cases h; exact ⟨hbg, 0, rfl, hfz⟩), _, rfl⟩, hbel⟩
end Go.Proofs.Ytcgjopjjmgpobaa
