/- Layer 13: Lay: an item is laid at a slot of one of its key's places, if that slot is free. -/
import Derived.Test.YtlcibfpibklbdaaGreatFil
import Derived.Test.YtlcibfpibklbdaaGreatPlc
import Derived.Test.YtlcibfpibklbdaaGreatSlo
import Derived.Test.YtlcibfpibklbdaaGreatFw6
namespace Go.Proofs.YtlcibfpibklbdaaGreat
set_option linter.unusedSimpArgs false
open Go.RowKit Go.Shelf
set_option linter.unusedVariables false

/-- What Lay leaves. -/
def LayPost (b : Int) (s : AW) (r : Nat) (key : ByteArray) (t : Bool) (s' : AW) : Prop :=
  (t = false → s' = s) ∧ (t = true → ∃ p : Spt, p.ok ∧ p.b = b ∧ (b, p.q) ∈ plPair (keyH key) b ∧ twTag (s.M p.tags) p.s = 0 ∧
    s' = ⟨putM s.M p (fnvTag (keyH key)) ((r : Int) + 1), s.n + 3, ⟨2, p.tags, s.M p.tags, twWith (s.M p.tags) p.s (fnvTag (keyH key))⟩, s.tk, s.ho, s.it, s.nt⟩)
theorem plOld_one {b : Int} (h0 : 1 ≤ b) (h1 : b ≤ 12) : plOld b = b := by unfold plOld; rw [if_pos (by omega)]; omega
theorem plNow_one {b : Int} (h0 : 1 ≤ b) (h1 : b ≤ 12) : plNow b = 0 := by unfold plNow; rw [plOld_one h0 h1, if_neg (by omega)]
theorem plPlaces_one {h b : Int} (h0 : 1 ≤ b) (h1 : b ≤ 12) (p : Int × Int) : p ∈ plPlaces h b ↔ p ∈ plPair h b := by
  unfold plPlaces
  rw [plNow_one h0 h1, plOld_one h0 h1, plOnce_mem, plPair_out (b := 0) (by omega), List.append_nil]
section
variable {w : World} {O : Om} {B : Wb} {f : Cf} {s : AW} {k : Nat}
set_option maxHeartbeats 8000000 in
set_option maxRecDepth 100000 in
theorem c_Lay {b : Int} {ks : List ByteArray} {key : ByteArray} (r : Nat) (pl sl : Int) (hP : PW w O B f s) (hF : Fil b ks s.M) (hit : s.it = ks.map fulIt) (hl : ks.length ≤ 40) (hr : ks[r]? = some key) (hz : key.size ≤ maxLen)
    (p0 : 0 ≤ pl) (p1 : pl ≤ 255) (s0 : 0 ≤ sl) (s1 : sl ≤ 255) (hk : 10 ≤ k) (hhi : ∀ j, O j ≠ 0 → j < w.heap.size) (n0 : 0 ≤ s.n) (n1 : s.n ≤ 1000000) (r1 : (r : Int) + 1 ≤ 40) :
    Calls Tryz.prog 87 #[.pointer (some ⟨B.p, 0, none⟩), .int .i64 ((r : Int) + 1), .int .u8 pl, .int .u8 sl] w fun e w' => ∃ t s', RP (SX k k) w O (.bool t) (fun W G => PW W G B f s') e w' ∧ LayPost b s r key t s' := by
  have hb0 := hF.b0
  have hb1 := hF.b1
  have q0 := hP.wo.c0
  have q1 := hP.wo.c1
  have hpl := hP.wo.lt
  have hi' : s.it[r]? = some (fulIt key) := by rw [hit, List.getElem?_map, hr]; rfl
  have hll : s.it.length ≤ 1000000 := by rw [hit, List.length_map]; omega
  have HA := Lib.hid (c_IAt_yes ((r : Int) + 1) r (fulIt key) hP.ar hll hi' rfl)
  have HH := Lib.hid (fun W => c_Hash key W hz)
  have hbd := fnvHash_bd key.data.toList
  have HTG := Lib.hid (fun W => c_fTag (fnvHash key.data.toList) W hbd.1 hbd.2)
  have htg := fnvTag_key key
  unfold keyH at htg
  have HPK := Lib.hid (fun (W : World) (h : Below w.heap.size w W) => c_Peek 2 (hP.below hhi h).ce (by decide) (by decide))
  rw [hF.wd] at HPK
  have HPL := Lib.hid (fun W => c_Places (fnvHash key.data.toList) b W hbd.1 hbd.2 (by omega) (by omega))
  have PP := Lib.hid hP
  have FF := Lib.hid hF
  have HHI := Lib.hid hhi
  have hmem : ∀ p ∈ plPlaces (fnvHash key.data.toList) b, p ∈ plPair (fnvHash key.data.toList) b := fun p hp => (plPlaces_one (by omega) (by omega) p).1 hp
  have hpp : ∀ p ∈ plPlaces (fnvHash key.data.toList) b, p.1 = b ∧ 0 ≤ p.2 ∧ p.2 < fnvSize b := fun p hp => by
    have h1 := plPlaces_bd hbd.1 hbd.2 hp
    have h2 := hmem p hp
    rw [plPair_in (by omega) (by omega)] at h2
    have : p.1 = b := by
      rcases List.mem_cons.1 h2 with h | h
      · rw [h]
      · rw [List.mem_singleton.1 h]
    rw [this] at h1
    exact ⟨this, h1.2.2⟩
  have hpos := plPlaces_pos (fnvHash key.data.toList) b
  have hle := plPlaces_le (fnvHash key.data.toList) b
  have hKH : keyH key = fnvHash key.data.toList := rfl
  rw [show LayPost b s r key = LayPost b s r key from rfl]
  obtain ⟨h, hh⟩ : ∃ h, h = fnvHash key.data.toList := ⟨_, rfl⟩
  rw [← hh] at HH HTG HPL hmem hpp hpos hle hKH hbd htg
  obtain ⟨L, hL⟩ : ∃ L, L = plPlaces h b := ⟨_, rfl⟩
  rw [← hL] at HPL hmem hpp hpos hle
  have HKH := Lib.hid hKH
  have HM := Lib.hid hmem
  have HPP := Lib.hid hpp
  have HBD := Lib.hid hbd
  have HTB := Lib.hid htg
  clear hP hF hhi hr hi' hll hh hL hmem hpp hKH hbd htg hit hz
  go_enter Tryz.func87, Tryz.ntmps87
  go_wp2_with fail
  refine HA.out.mono ?_
  rintro e w1 ⟨rfl, hb1'⟩
  unfold fulIt
  dsimp only
  go_upto_region 2 with fail
  obtain ⟨w2, hw2⟩ : ∃ W, W = w1.alloc (.cells #[.string key, .string ⟨#[]⟩, .int .u32 0, .int .u64 0, .int .i64 (-1), .int .i64 0] 184) := ⟨_, rfl⟩
  have hb2 : Below w.heap.size w w2 := by rw [hw2]; exact hb1'.alloc hb1'.size _
  have x0 : w2.cell? ⟨w1.heap.size, 0, none⟩ = some (.string key) := by rw [hw2]; simp
  rw [← hw2]
  obtain ⟨N, hN⟩ : ∃ N, N = w1.heap.size := ⟨_, rfl⟩
  rw [← hN] at x0 ⊢
  have B2 := Lib.hid hb2
  clear hw2 hN hb1' hb2 HA q1
  go_wp2_with fail
  refine (HH.out _).mono ?_
  rintro e w3 ⟨rfl, hw3⟩
  have hb3 : Below w.heap.size w w3 := by rw [← hw3]; exact B2.out.alloc B2.out.size _
  have B3 := Lib.hid hb3
  have q03 := (hb3.cell (p := ⟨B.p, 0, none⟩) hpl).trans q0
  clear hw3 hb3 B2 x0 q0
  go_wp2_with fail
  refine (HPK.out _ B3.out).mono ?_
  rintro e w' ⟨rfl, rfl⟩
  go_wp2_with fail
  refine (HPL.out _).mono ?_
  rintro e w4 ⟨⟨v, rfl, hA, -, ao, hv⟩, hb4⟩
  obtain ⟨A, o, cp, he, -, -, hlt, hx⟩ := hA.open (by omega) (by omega)
  rw [he] at hv ⊢
  have hb4' : Below w.heap.size w w4 := B3.out.trans (hb4.mono B3.out.size)
  obtain ⟨i, hi⟩ : ∃ i : Nat, (i : Int) = pl % (L.length : Int) := ⟨(pl % (L.length : Int)).toNat, Int.toNat_of_nonneg (Int.emod_nonneg _ (by omega))⟩
  have hiL : i < L.length := by have := Int.emod_lt_of_pos pl (show 0 < (L.length : Int) by omega); omega
  obtain ⟨x, hxe⟩ : ∃ x, x = L[i] := ⟨_, rfl⟩
  have hr : ∀ j, j < 2 → (rowOf plc L)[i * 2 + j]? = (plc x)[j]? := fun j hj => by rw [hxe]; exact rowOf_get plc_len L i j hiL hj
  have v0 : w4.cell? ⟨A, o + i * 2, none⟩ = some (.int .i64 x.1) := hx _ _ (hr 0 (by omega))
  have v1 : w4.cell? ⟨A, o + i * 2 + 1, none⟩ = some (.int .i64 x.2) := hx _ _ (hr 1 (by omega))
  have hxm := HPP.out x (by rw [hxe]; exact List.getElem_mem _)
  have hxp := HM.out x (by rw [hxe]; exact List.getElem_mem _)
  have B4 := Lib.hid hb4'
  have XE := Lib.hid hxe
  have XM := Lib.hid hxm
  have XP := Lib.hid hxp
  have HX := Lib.hid hx
  have d4 : decide ((L.length : Int) = 0) = false := decide_eq_false (by omega)
  clear hA hb4 hb4' he hv hxe hxm hxp hx hr q03 B3 HPL HPK
  have hi2 : pl % (L.length : Int) = i := hi.symm
  clear hi
  go_upto_region 7 with fail
  obtain ⟨pb, pq⟩ := x
  obtain ⟨ps, hps⟩ : ∃ ps, ps = sl % 4 := ⟨_, rfl⟩
  rw [← hps]
  have hpok : (⟨pb, pq, ps⟩ : Spt).ok := ⟨by show 1 ≤ pb; have := XM.out.1; dsimp only at this; omega, by show pb ≤ 12; have := XM.out.1; dsimp only at this; omega, XM.out.2.1, by have := XM.out.2.2; have h2 := XM.out.1; dsimp only at this h2 ⊢; rw [h2]; exact this, by show 0 ≤ ps; omega, by show ps ≤ 3; omega⟩
  have E4 := Lib.hid (Ext.of_below (S := SX k k) HHI.out B4.out)
  obtain ⟨e5, t5⟩ := alloc_nbH (S := SX k k) E4.out.hi #[.int .i64 pb, .int .i64 pq, .int .i64 ps] 45 w4.heap.size rfl
  have hb5 := B4.out.trans (((Below.refl w4.heap.size w4).alloc (Nat.le_refl _) (.cells #[.int .i64 pb, .int .i64 pq, .int .i64 ps] 45)).mono B4.out.size)
  obtain ⟨w5, hw5⟩ : ∃ W, W = w4.alloc (.cells #[.int .i64 pb, .int .i64 pq, .int .i64 ps] 45) := ⟨_, rfl⟩
  rw [← hw5] at e5 t5 hb5 ⊢
  obtain ⟨N5, hN5⟩ : ∃ N, N = w4.heap.size := ⟨_, rfl⟩
  rw [← hN5] at t5 ⊢
  have P5 := Lib.hid (PP.out.below HHI.out hb5)
  have E5 := Lib.hid (E4.out.trans e5)
  have T5 := Lib.hid t5
  have POK := Lib.hid hpok
  have HSL := Lib.hid (c_Slot (p := ⟨pb, pq, ps⟩) P5.out hpok E5.out.hi)
  have y0 := t5.c 0 _ rfl
  have y1 := t5.c 1 _ rfl
  have y2 := t5.c 2 _ rfl
  have PS := Lib.hid hps
  clear hw5 hN5 e5 t5 hb5 hps hpok E4 v0 v1 hi2 d4 HX B4
  go_wp2_with fail
  refine HSL.out.mono ?_
  rintro e w6 ⟨rfl, hb6⟩
  have P6 := Lib.hid (P5.out.below E5.out.hi hb6)
  have E6 := Lib.hid (E5.out.trans (Ext.of_below (S := SX k k) E5.out.hi hb6))
  have T6 := Lib.hid (T5.out.below hb6)
  have z0 := T6.out.c 0 _ rfl
  have z1 := T6.out.c 1 _ rfl
  have z2 := T6.out.c 2 _ rfl
  clear hb6 y0 y1 y2 HSL P5 E5 T5
  obtain ⟨tt, htt⟩ : ∃ tt, tt = twTag (s.M (⟨pb, pq, ps⟩ : Spt).tags) ps := ⟨_, rfl⟩
  obtain ⟨ti, hti⟩ : ∃ ti, ti = s.M (⟨pb, pq, ps⟩ : Spt).item := ⟨_, rfl⟩
  have h9 : twTag (s.M (⟨pb, pq, ps⟩ : Spt).tags) (⟨pb, pq, ps⟩ : Spt).s = twTag (s.M (⟨pb, pq, ps⟩ : Spt).tags) ps := rfl
  rw [← htt, ← hti]
  have TT := Lib.hid htt
  clear h9 htt hti
  by_cases hz : tt = 0
  · subst hz
    have hbw : Below w6.heap.size w6 w6.drew := drew_below w6
    have P9 := Lib.hid (P6.out.below E6.out.hi hbw)
    have E9 := Lib.hid (E6.out.trans (Ext.of_below (S := SX k k) E6.out.hi hbw))
    have T9 := Lib.hid (T6.out.below hbw)
    have HNP := Lib.hid (c_NewPut (k := k) (p := ⟨pb, pq, ps⟩) (tg := fnvTag h) (rf := (r : Int) + 1) (w := w6.drew) (O := O) POK.out E9.out.hi HTB.out.1 HTB.out.2 (by omega) (by omega))
    have HR3 := Lib.hid (put_run ⟨pb, pq, ps⟩ (fnvTag h) ((r : Int) + 1) s POK.out)
    clear hbw
    go_upto_region 8 with fail
    go_region_held3 (fun w' => w'.cell? ⟨N5, 0, none⟩ = some (.int .i64 pb) ∧ w'.cell? ⟨N5, 1, none⟩ = some (.int .i64 pq) ∧ w'.cell? ⟨N5, 2, none⟩ = some (.int .i64 ps)) (go_keep)
      ((first
        | (go_at_call 92
           refine (HTG.out _).mono ?_
           rintro e w' ⟨rfl, rfl⟩)
        | (go_at_call 71
           refine HNP.out.mono ?_
           rintro e wa ⟨U, rfl, Oa, ea, ua⟩
           have PA := P9.out.ext ea (by omega) (by omega) (by omega) (by omega)
           have EA := Lib.hid (E9.out.trans (ea.mono (T := SX k k) fun t _ h => by rw [h]; exact SX.self))
           have TA := Lib.hid (T9.out.ext ea (by omega))
           have ta0 := TA.out.c 0 _ rfl
           have ta1 := TA.out.c 1 _ rfl
           have ta2 := TA.out.c 2 _ rfl
           have HR := c_PuRun (k := k) U ⟨pb, pq, ps⟩ (fnvTag h) ((r : Int) + 1) 9 PA ua POK.out hk EA.out.hi n0 (by omega) HTB.out.1 HTB.out.2 (by omega) (by omega)
           rw [HR3.out] at HR
           have HR := Lib.hid HR
           clear ea ua PA)
        | (go_at_call 21
           refine HR.out.mono ?_
           rintro e wb ⟨rfl, Ob', eb, PB⟩
           have EB := Lib.hid (EA.out.trans eb)
           have TB := Lib.hid (TA.out.ext eb (fun h => by unfold SX at h; omega))
           have PB := Lib.hid PB
           have tb0 := TB.out.c 0 _ rfl
           have tb1 := TB.out.c 1 _ rfl
           have tb2 := TB.out.c 2 _ rfl
           clear eb)))
    all_goals
      go_wp2_with fail
      go_ret
      refine ⟨true, _, ⟨rfl, Ob', EB.out, PB.out⟩, fun h => (by cases h), fun _ => ⟨⟨pb, pq, ps⟩, POK.out, XM.out.1, ?_, TT.out.symm, ?_⟩⟩
      · have h1 := XP.out
        have h2 : pb = b := XM.out.1
        rw [h2] at h1
        rw [HKH.out]
        exact h1
      · rw [HKH.out]
  · have dz : decide (tt = 0) = false := decide_eq_false hz
    have dz2 : (tt == 0) = false := by simpa using hz
    go_upto_region 8 with fail
    go_quiet (fail)
    go_wp2_with fail
    go_ret
    exact ⟨false, s, ⟨rfl, O, E6.out.trans (Ext.of_below E6.out.hi (below_drewN (Below.refl _ _) _)), P6.out.below E6.out.hi (below_drewN (Below.refl _ _) _)⟩, fun _ => rfl, fun h => by cases h⟩
end
end Go.Proofs.YtlcibfpibklbdaaGreat
