/- Layer 9: the notes of one kind; whether an item is noted as dropped. Layer 21: are all buckets ahead of the cursor empty (nestboxlaw21.ahead)? -/
import Derived.Test.YtfnmdafpdcgcmaaGreatZQ
import Derived.Test.YtfnmdafpdcgcmaaGreatZH
import Derived.BigQuiet
import Derived.Test.YtfnmdafpdcgcmaaGreatZT
namespace Go.Proofs.YtfnmdafpdcgcmaaGreat
set_option linter.unusedSimpArgs false
section
set_option linter.unusedVariables false
set_option maxHeartbeats 1000000
set_option maxRecDepth 100000
open Go.RowKit
theorem ntPick_of (k : Int) (l : List Nt) : ∀ i, ntPick (fun _ n => decide (n.kind = k)) l i = ntOf l k := by
 induction l with
 | nil => intro i; rfl
 | cons n l ih =>
   intro i
   simp only [ntPick, ih, ntOf, List.filter_cons]
theorem c_Ofask (i : Int) (n : Nt) (a : Int) (c : Nat) (w : World) (hc : w.cell? ⟨c, 0, none⟩ = some (.int .u8 a)) (hlt : c < w.heap.size) :
 Calls Tryz.prog 54 #[.int .i64 i, .agg #[.int .i64 n.step, .int .i64 n.thread, .int .u8 n.kind, .int .i64 n.ref, .int .i64 n.bits, .int .i64 n.bucket, .int .i64 n.slot, .int .i64 n.value], .pointer (some ⟨c, 0, none⟩)] w fun e w' => e = .returned (.bool (decide (n.kind = a))) ∧ Below w.heap.size w w' := by
 have hcW := (((Below.refl w.heap.size w).alloc (Nat.le_refl _) (ntObj n)).cell (p := ⟨c, 0, none⟩) hlt).trans hc
 unfold ntObj at hcW
 go_enter Tryz.func54, Tryz.ntmps54
 go_wp2
 go_ret
 exact ⟨ret_bool (by first | rfl | simp [eq_comm]), (Below.refl _ _).alloc (Nat.le_refl _) _⟩
theorem c_Ofask' (t : Bool) (i : Int) (n : Nt) (a : Int) (c : Nat) (w : World) (ht : Hid (t = decide (n.kind = a))) (hc : w.cell? ⟨c, 0, none⟩ = some (.int .u8 a)) (hlt : c < w.heap.size) :
 Calls Tryz.prog 54 #[.int .i64 i, .agg #[.int .i64 n.step, .int .i64 n.thread, .int .u8 n.kind, .int .i64 n.ref, .int .i64 n.bits, .int .i64 n.bucket, .int .i64 n.slot, .int .i64 n.value], .pointer (some ⟨c, 0, none⟩)] w fun e w' => e = .returned (.bool t) ∧ Below w.heap.size w w' := by
 rw [ht.out]
 exact c_Ofask i n a c w hc hlt
theorem c_Ofpicked (h : Nat) (v : Value) (l : List Nt) (a : Int) (c : Nat) (w : World) (hh : w.cell? ⟨h, 0, none⟩ = some v) (hv : Arr w v l.length 8 (rowOf ntc l)) (hl : l.length ≤ 1048576) (hc : w.cell? ⟨c, 0, none⟩ = some (.int .u8 a)) (hlt : c < w.heap.size) :
 Calls Tryz.prog 53 #[.pointer (some ⟨h, 0, none⟩), .func (.func 54) #[] #[.pointer (some ⟨c, 0, none⟩)]] w fun e w' => (∃ v', e = .returned v' ∧ NtNew w w' v' (ntPick (fun i n => decide (n.kind = a)) l 0)) ∧ Below w.heap.size w w' := by
 obtain ⟨i0, hi, hz0, hz1, hz2⟩ := info_parts infoNt
 obtain ⟨ao, cp, rfl, hcp, hm⟩ := hv.shape
 have HL := Lib.hid hl
 have hl2 : l.length ≤ 9223372036854775807 := by omega
 clear hl
 go_enter Tryz.func53, Tryz.ntmps53
 go_wp2_with (go_at_call 55; refine (c_Ntnotes h _ _ hh).mono ?_; rintro e w' ⟨rfl, rfl⟩)
 go_loopw [5, 11] (fun vo i wr => ∃ k : Nat, k ≤ l.length ∧ i = .int .i64 k ∧ wr.ownsRow w.heap.size 73 8 vo (ntPick (fun i n => decide (n.kind = a)) (l.take k) 0).length (rowOf ntc (ntPick (fun i n => decide (n.kind = a)) (l.take k) 0)) ∧ Below w.heap.size w wr)
  (fun _ i _ => l.length - (intOf i).toNat)
 case atStart => exact ⟨0, Nat.zero_le _, rfl, World.ownsRow_nil _ _ _ _, Below.refl _ _⟩
 case round =>
  obtain ⟨k, hk, rfl, hown, hbel⟩ := hrel
  by_cases hk2 : k < l.length
  · obtain ⟨b, o, c', he, hcp, hm, hb, hx⟩ := hv.open (by omega) (by omega)
    cases he
    have hat0 := ntAt_row hx k hk2
    obtain ⟨q, hq⟩ : ∃ q, q = l[k] := ⟨_, rfl⟩
    rw [← hq] at hat0
    obtain ⟨q0, q1, q2, q3, q4, q5, q6, q7⟩ := (hat0.below hbel hb).all
    have HD := Lib.hid (ntPick_take (fun i n => decide (n.kind = a)) l k hk2)
    have hlen := ntPick_len (fun i n => decide (n.kind = a)) (l.take k) 0
    rw [List.length_take] at hlen
    obtain ⟨D, hD⟩ : ∃ D, D = ntPick (fun i n => decide (n.kind = a)) (l.take k) 0 := ⟨_, rfl⟩
    rw [← hD] at hown hlen
    have hlen2 : D.length ≤ l.length := by omega
    have HD2 := Lib.hid hD
    have Hq := Lib.hid hq
    have hcr := (hbel.cell (p := ⟨c, 0, none⟩) hlt).trans hc
    have hsz : w.heap.size ≤ wr.heap.size := hbel.size
    have hcl : c < wr.heap.size := by omega
    clear hx hv hq hlen hD hat0
    obtain ⟨t, ht⟩ : ∃ t, t = decide (q.kind = a) := ⟨_, rfl⟩
    have HT : Hid (t = decide (q.kind = a)) := Lib.hid ht
    clear ht
    cases t
    · have E : ntPick (fun i n => decide (n.kind = a)) (l.take (k + 1)) 0 = D := by
       rw [HD.out, ← HD2.out, ← Hq.out, if_neg (by rw [← HT.out]; simp), List.append_nil]
      have HE := Lib.hid E
      clear E
      go_wp2_with (first | (go_at_call 54; refine (c_Ofask' false (k : Int) q a c _ HT ((((Below.refl _ _).alloc (Nat.le_refl _) _).cell (p := ⟨c, 0, none⟩) hcl).trans hcr) (by simp; omega)).mono ?_; rintro e w1 ⟨rfl, hb1⟩; have hnew : NtAt w1 wr.heap.size 0 q := (NtAt.new wr q _ _ rfl).below hb1 (by simp); obtain ⟨d0, d1, d2, d3, d4, d5, d6, d7⟩ := hnew.all; clear hnew; have hown1 := ownsRow_below (hown.alloc _) hb1; have hbel1 : Below w.heap.size w w1 := (hbel.alloc hbel.size _).trans (hb1.mono (by simp; omega)); clear hb1) | (at_builtin; refine append_one _ rfl _ _ 69 rfl w.heap.size 73 i0 _ 8 64 Tryz.underlying69 hi hz0 hz1 hz2 rfl (by decide) (by decide) _ _ _ rfl hown1 (ntc q) _ rfl rfl (by simp [Value.oneCell', ntc]) (by have := HL.out; omega) hbel1.size ?_; intro g cap w2 hown2 hgr2; have hbel2 := below_grown hbel1 hbel1.size hown1 hgr2; clear hgr2))
      go_roundw
      case rel => exact ⟨k + 1, by omega, by go_num, by rw [HE.out]; exact hown1, hbel1⟩
      case measure => simp [intOf]; omega
    · have E : ntPick (fun i n => decide (n.kind = a)) (l.take (k + 1)) 0 = D ++ [q] := by
       rw [HD.out, ← HD2.out, ← Hq.out, if_pos (by rw [← HT.out])]
      have HE := Lib.hid E
      clear E
      go_wp2_with (first | (go_at_call 54; refine (c_Ofask' true (k : Int) q a c _ HT ((((Below.refl _ _).alloc (Nat.le_refl _) _).cell (p := ⟨c, 0, none⟩) hcl).trans hcr) (by simp; omega)).mono ?_; rintro e w1 ⟨rfl, hb1⟩; have hnew : NtAt w1 wr.heap.size 0 q := (NtAt.new wr q _ _ rfl).below hb1 (by simp); obtain ⟨d0, d1, d2, d3, d4, d5, d6, d7⟩ := hnew.all; clear hnew; have hown1 := ownsRow_below (hown.alloc _) hb1; have hbel1 : Below w.heap.size w w1 := (hbel.alloc hbel.size _).trans (hb1.mono (by simp; omega)); clear hb1) | (at_builtin; refine append_one _ rfl _ _ 69 rfl w.heap.size 73 i0 _ 8 64 Tryz.underlying69 hi hz0 hz1 hz2 rfl (by decide) (by decide) _ _ _ rfl hown1 (ntc q) _ rfl rfl (by simp [Value.oneCell', ntc]) (by have := HL.out; omega) hbel1.size ?_; intro g cap w2 hown2 hgr2; have hbel2 := below_grown hbel1 hbel1.size hown1 hgr2; clear hgr2))
      go_roundw
      case rel => exact ⟨k + 1, by omega, by go_num, by rw [HE.out, rowOf_snoc, List.length_append]; exact hown2, hbel2⟩
      case measure => simp [intOf]; omega
  · obtain rfl : k = l.length := by omega
    rw [List.take_length] at hown
    clear hv
    have hA := Arr.of_own hown
    rcases hown.2 with ⟨rfl, h0⟩ | ⟨g, cap, cur, rfl, hbg, hgg, hnc, hcm, _⟩
    · clear hown
      go_wp2_with (go_at_call 73; refine (c_NtClip none 0 0 _ (Nat.le_refl _) (by unfold maxLen; omega) (fun _ => rfl)).mono ?_; rintro e w1 ⟨rfl, rfl⟩)
      go_ret
      exact ⟨⟨.slice none 0 0, rfl, hA, (fun a n c h => by cases h), none, by rw [h0]⟩, hbel⟩
    · have hfz := hown.frozenAt
      have hA2 := hA.clip
      clear hown hgg hA
      go_wp2_with (go_at_call 73; refine (c_NtClip _ _ _ _ hnc hcm (fun h => by cases h)).mono ?_; rintro e w1 ⟨rfl, rfl⟩)
      go_ret
      exact ⟨⟨_, rfl, hA2, fun a n c h => (by cases h; exact ⟨hbg, 0, rfl, hfz⟩), _, rfl⟩, hbel⟩
theorem c_Of (h : Nat) (v : Value) (l : List Nt) (a : Int) (w : World) (hh : w.cell? ⟨h, 0, none⟩ = some v) (hlt : h < w.heap.size) (hv : Arr w v l.length 8 (rowOf ntc l)) (hl : l.length ≤ 1048576) :
 Calls Tryz.prog 31 #[.pointer (some ⟨h, 0, none⟩), .int .u8 a] w fun e w' => (∃ v', e = .returned v' ∧ NtNew w w' v' (ntOf l a)) ∧ Below w.heap.size w w' := by
 have hp := fun (o : Obj) (hc : (w.alloc o).cell? ⟨w.heap.size, 0, none⟩ = some (.int .u8 a)) => c_Ofpicked h v l a w.heap.size (w.alloc o) ((((Below.refl _ _).alloc (Nat.le_refl _) _).cell (p := ⟨h, 0, none⟩) hlt).trans hh) (hv.below ((Below.refl _ _).alloc (Nat.le_refl _) _)) hl hc (by simp)
 have Hp := Lib.hid hp
 clear hp hl
 go_enter Tryz.func31, Tryz.ntmps31
 go_wp2_with (go_at_call 53; refine (Hp.out _ (by simp)).mono ?_; rintro e w' ⟨⟨v', rfl, hn⟩, hb⟩)
 go_ret
 exact ⟨⟨_, rfl, by rw [ntPick_of] at hn; exact hn.mono (by simp)⟩, ((Below.refl _ _).alloc (Nat.le_refl _) _).trans (hb.mono (by simp))⟩
theorem c_Dropped (h : Nat) (v : Value) (l : List Nt) (ref : Int) (w : World) (hh : w.cell? ⟨h, 0, none⟩ = some v) (hv : Arr w v l.length 8 (rowOf ntc l)) (hl : l.length ≤ 1048576) :
 Calls Tryz.prog 32 #[.pointer (some ⟨h, 0, none⟩), .int .i64 ref] w fun e w' => e = .returned (.tuple #[.int .i64 (ntDropped ref l).1, .bool (ntDropped ref l).2]) ∧ Below w.heap.size w w' := by
 obtain ⟨ao, cp, rfl, hcp, hm⟩ := hv.shape
 have HL := Lib.hid hl
 have hl2 : l.length ≤ 9223372036854775807 := by omega
 clear hl
 go_enter Tryz.func32, Tryz.ntmps32
 go_wp2_with (go_at_call 55; refine (c_Ntnotes h _ _ hh).mono ?_; rintro e w' ⟨rfl, rfl⟩)
 go_loopw [4, 5, 11] (fun at_ is_ i wr => ∃ k : Nat, k ≤ l.length ∧ i = .int .i64 k ∧ at_ = .int .i64 (ntDropped ref (l.take k)).1 ∧ is_ = .bool (ntDropped ref (l.take k)).2 ∧ Below w.heap.size w wr)
  (fun _ _ i _ => l.length - (intOf i).toNat)
 case atStart => exact ⟨0, Nat.zero_le _, rfl, rfl, rfl, Below.refl _ _⟩
 case round =>
  obtain ⟨k, hk, rfl, rfl, rfl, hbel⟩ := hrel
  by_cases hk2 : k < l.length
  · obtain ⟨b, o, c', he, hcp, hm, hb, hx⟩ := hv.open (by omega) (by omega)
    cases he
    have hat0 := ntAt_row hx k hk2
    have HD := Lib.hid (ntDropped_take ref l k hk2)
    obtain ⟨q, hq⟩ : ∃ q, q = l[k] := ⟨_, rfl⟩
    rw [← hq] at hat0 HD
    obtain ⟨q0, q1, q2, q3, q4, q5, q6, q7⟩ := (hat0.below hbel hb).all
    clear hx hv hq hat0
    by_cases h1 : q.kind = 1
    · have e1 : (q.kind == 1) = true := by simp [h1]
      by_cases h2 : q.ref = ref
      · have e2 : (q.ref == ref) = true := by simp [h2]
        have HE := Lib.hid (show ntDropped ref (l.take (k + 1)) = (k, true) by rw [HD.out, if_pos ⟨h1, h2⟩])
        clear h1 h2 HD
        go_wp2
        go_roundw
        case rel => exact ⟨k + 1, by omega, by go_num, by rw [HE.out], by rw [HE.out], hbel.alloc hbel.size _⟩
        case measure => simp [intOf]; omega
      · have e2 : (q.ref == ref) = false := by simp [h2]
        have HE := Lib.hid (show ntDropped ref (l.take (k + 1)) = ntDropped ref (l.take k) by rw [HD.out, if_neg (fun h => h2 h.2)])
        clear h1 h2 HD
        go_wp2
        go_roundw
        case rel => exact ⟨k + 1, by omega, by go_num, by rw [HE.out], by rw [HE.out], hbel.alloc hbel.size _⟩
        case measure => simp [intOf]; omega
    · have e1 : (q.kind == 1) = false := by simp [h1]
      have HE := Lib.hid (show ntDropped ref (l.take (k + 1)) = ntDropped ref (l.take k) by rw [HD.out, if_neg (fun h => h1 h.1)])
      clear h1 HD
      go_wp2
      go_roundw
      case rel => exact ⟨k + 1, by omega, by go_num, by rw [HE.out], by rw [HE.out], hbel.alloc hbel.size _⟩
      case measure => simp [intOf]; omega
  · obtain rfl : k = l.length := by omega
    go_wp2
    go_ret2
    exact ⟨by rw [List.take_length]; rfl, hbel⟩
end
section
set_option linter.unusedVariables false
set_option maxHeartbeats 4000000
set_option maxRecDepth 100000
open Go.RowKit Go.Shelf
theorem c_ahead {w0 w : World} {G : Om} {B : Wb} {f : Cf} {s : AW} {b c : Int} (L : LW w0 w G B f s) (b0 : 1 ≤ b) (b1 : b ≤ 12) (hc : s.M 3 = c) (c0 : 0 ≤ c) (c1 : c ≤ 4096) (hz : ∀ k : Nat, (k : Int) < fnvSize b → (k : Int) < c → s.M (plTags b k) = 0) :
 Calls Tryz.prog 30 #[.pointer (some ⟨B.p, 0, none⟩), .int .i64 b] w fun e w' => e = .returned (.bool true) ∧ Below w.heap.size w w' := by
 have HL := Lib.hid L
 have HZ := Lib.hid hz
 have HPK := L.peek 3 (by decide) (by decide) w (Below.refl _ _)
 rw [hc] at HPK
 have HPK := Lib.hid HPK
 have hsz := fnvSize_bd b
 obtain ⟨z, hze⟩ : ∃ z, z = fnvSize b := ⟨_, rfl⟩
 have HSZ : Hid (∀ W, Calls Tryz.prog 15 #[.int .i64 b] W fun e w' => e = .returned (.int .i64 z) ∧ W = w') := Lib.hid fun W => by rw [hze]; exact c_Size b W (by omega) (by omega)
 rw [← hze] at hsz
 have HZE := Lib.hid hze
 have p0 := L.p.wo.c0
 clear L hc hz hze
 go_enter Tryz.func30, Tryz.ntmps30
 go_wp2_with fail
 refine HPK.out.mono ?_
 rintro e w' ⟨rfl, rfl⟩
 clear HPK p0
 go_upto_region 3 with fail
 go_loopw [6] (fun iv wr => ∃ k : Nat, iv = .int .i64 k ∧ (k : Int) ≤ z ∧ Below w.heap.size w wr) (fun iv _ => z.toNat - (intOf iv).toNat)
 case atStart => exact ⟨0, rfl, by omega, Below.refl _ _⟩
 case round =>
  obtain ⟨k, rfl, hk, hb⟩ := hrel
  have BR := Lib.hid hb
  clear hb
  have hwk : IntKind.u64.wrap (k : Int) = (k : Int) := by simp [IntKind.wrap, IntKind.bits]; omega
  by_cases h1 : (k : Int) < z
  · have d1 : decide ((k : Int) < z) = true := decide_eq_true h1
    by_cases h2 : (k : Int) < c
    · have d2 : decide ((k : Int) < c) = true := decide_eq_true h2
      have hz := HZ.out k (by rw [← HZE.out]; exact h1) h2
      obtain ⟨ta, hta⟩ : ∃ ta, ta = plTags b k := ⟨_, rfl⟩
      have htab : 0 ≤ ta ∧ ta < 18446744073709551616 := by
       have h := plTags_in (b := b) (k := (k : Int)) ⟨by omega, by rw [← HZE.out]; exact h1⟩
       rw [hta, h, ← HZE.out]
       omega
      have HT : Hid (∀ W, Calls Tryz.prog 25 #[.agg #[.int .i64 b, .int .i64 k]] W fun e w' => e = .returned (.int .u64 ta) ∧ Below W.heap.size W w') := Lib.hid fun W => by rw [hta]; exact c_Tags b k W (by omega) (by omega) (by omega) (by omega)
      have L1 := Lib.hid (HL.out.below BR.out)
      have HP : Hid (∀ e : Later wr, Calls Tryz.prog 10 #[.pointer (some ⟨B.c, 0, none⟩), .int .u64 ta] (via wr e) fun e_1 w' => e_1 = .returned (.int .u64 0) ∧ via wr e = w') := Lib.hid fun e => by
       have h := L1.out.peek ta htab.1 htab.2 _ (via_below wr e)
       rw [hta, hz, ← hta] at h
       exact h
      have p0 := L1.out.p.wo.c0
      have hpl := L1.out.p.wo.lt
      clear hz hta h2
      go_wp2_with fail
      refine (HSZ.out _).mono ?_
      rintro e w' ⟨rfl, rfl⟩
      go_upto_region 5 with fail
      refine wp_region_via (by kernel_rfl) (by kernel_rfl) ?_
      repeat (go_big_quiet_step ((first
       | (go_at_call 25; exact viaB (HT.out _))
       | (go_at_call 10; exact viaS (HP.out _)))))
      refine wpQuiet_nil ?_
      rintro _ ⟨e, rfl⟩
      obtain ⟨Wv, hWv⟩ : ∃ Wv, Wv = via wr e := ⟨_, rfl⟩
      have hbv : Below w.heap.size w Wv := by rw [hWv]; exact BR.out.trans ((via_below wr e).mono BR.out.size)
      rw [← hWv]
      clear hWv HP p0 hpl L1
      go_wp2_with fail
      go_roundw
      case rel => exact ⟨k + 1, by go_num, by push_cast; omega, hbv⟩
      case measure => simp [intOf]; omega
    · have d2 : decide ((k : Int) < c) = false := decide_eq_false h2
      go_wp2_with fail
      refine (HSZ.out _).mono ?_
      rintro e w' ⟨rfl, rfl⟩
      go_wp2_with fail
      go_ret
      exact ⟨rfl, BR.out⟩
  · have d1 : decide ((k : Int) < z) = false := decide_eq_false h1
    go_wp2_with fail
    refine (HSZ.out _).mono ?_
    rintro e w' ⟨rfl, rfl⟩
    go_wp2_with fail
    go_ret
    exact ⟨rfl, BR.out⟩
end
end Go.Proofs.YtfnmdafpdcgcmaaGreat
