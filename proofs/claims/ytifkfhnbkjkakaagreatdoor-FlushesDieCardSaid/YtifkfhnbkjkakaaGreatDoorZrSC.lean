/- Layer 14: nestboxlaw14.At. -/
import Derived.Test.YtifkfhnbkjkakaaGreatDoorZrSN
import Derived.Test.YtifkfhnbkjkakaaGreatDoorZrSF
import Derived.Test.YtifkfhnbkjkakaaGreatDoorZrGoA
import Derived.Test.YtifkfhnbkjkakaaGreatDoorZrFiA
import Derived.Test.YtifkfhnbkjkakaaGreatDoorZrSG
namespace Go.Proofs.YtifkfhnbkjkakaaGreatDoor
set_option linter.unusedSimpArgs false
set_option linter.unusedVariables false
set_option maxHeartbeats 8000000
set_option maxRecDepth 100000
open Go.RowKit
def atS (key : ByteArray) (s : AW) (b q sl : Int) : List Int := if twTag (s.M (plTags b q)) sl = fnvTag (kyH key) ∧ fdHit s.it (s.M (plItem b q sl)) key = true then [s.M (plItem b q sl)] else []
def atP (key : ByteArray) (s : AW) (p : Int × Int) (n : Nat) : List Int := (List.range n).flatMap fun (j : Nat) => atS key s p.1 p.2 j
def atL (key : ByteArray) (s : AW) : List Int := (plPlaces (kyH key) (s.M 2)).flatMap fun p => atP key s p 4
theorem atP_succ (key : ByteArray) (s : AW) (p : Int × Int) (n : Nat) : atP key s p (n + 1) = atP key s p n ++ atS key s p.1 p.2 n := by
 unfold atP
 rw [List.range_succ, List.flatMap_append, List.flatMap_singleton]
theorem atS_len (key : ByteArray) (s : AW) (b q sl : Int) : (atS key s b q sl).length ≤ 1 := by
 unfold atS
 split <;> simp
theorem atP_len (key : ByteArray) (s : AW) (p : Int × Int) (n : Nat) : (atP key s p n).length ≤ n := by
 induction n with
 | zero => exact Nat.le_of_eq rfl
 | succ n ih =>
   rw [atP_succ, List.length_append]
   have := atS_len key s p.1 p.2 n
   omega
theorem atPl_len (key : ByteArray) (s : AW) (l : List (Int × Int)) : (l.flatMap fun p => atP key s p 4).length ≤ 4 * l.length := by
 induction l with
 | nil => exact Nat.le_refl _
 | cons a l ih =>
   rw [List.flatMap_cons, List.length_append, List.length_cons]
   have := atP_len key s a 4
   omega
section
variable {w : World} {O : Om} {B : Wb} {f : Cf} {s : AW} {key : ByteArray}
theorem c_At14 (g : Nat) (hg : 10 ≤ g) (hP : PW w O B f s) (hkz : key.size ≤ maxLen) (hil : s.it.length ≤ 1000000) (hhi : ∀ j, O j ≠ 0 → j < w.heap.size) :
 Calls Tryz.prog 34 #[.pointer (some ⟨B.p, 0, none⟩), .string key] w fun e w' => ∃ v', RP (fun j => j = g) w O v' (fun W G => PW W G B f s ∧ Row W G g 3 1 v' (atL key s).length (ints (atL key s))) e w' := by
 obtain ⟨i0, hi, hz0, hz1, hz2⟩ := info_parts infoInt
 have HI0 := Lib.hid (And.intro hi (And.intro hz0 (And.intro hz1 hz2)))
 have hkb := kyH_bd key
 have HH := Lib.hid (fun W => c_Hash key W hkz)
 rw [show fnvHash key.data.toList = kyH key from rfl] at HH
 have HPK := Lib.hid (fun (W : World) (G : Om) (p : PW W G B f s) => c_Peek 2 p.ce (by decide) (by decide))
 have hb2 := hP.bd 2
 have HBD := Lib.hid (fun a => hP.bd a)
 have HPL := Lib.hid (fun W => c_Places (kyH key) (s.M 2) W hkb.1 hkb.2 hb2.1 hb2.2)
 have HTG := Lib.hid (fun W => c_fTag (kyH key) W hkb.1 hkb.2)
 have HSL := Lib.hid (fun (W : World) (G : Om) (p : Spt) (hp : p.ok) (h : PW W G B f s) (hh : ∀ j, G j ≠ 0 → j < W.heap.size) => c_Slot p h hp hh)
 obtain ⟨l, hl⟩ : ∃ l, l = plPlaces (kyH key) (s.M 2) := ⟨_, rfl⟩
 rw [← hl] at HPL
 have HLB : Hid (l.length ≤ 4 ∧ ∀ p ∈ l, 1 ≤ p.1 ∧ p.1 ≤ 12 ∧ 0 ≤ p.2 ∧ p.2 < fnvSize p.1) := Lib.hid ⟨by rw [hl]; exact plPlaces_le _ _, fun p hp => plPlaces_bd hkb.1 hkb.2 (by rw [← hl]; exact hp)⟩
 have HL : Hid (atL key s = l.flatMap fun p => atP key s p 4) := Lib.hid (by unfold atL; rw [← hl])
 obtain ⟨h, hh⟩ : ∃ h, h = kyH key := ⟨_, rfl⟩
 obtain ⟨w2, hw2⟩ : ∃ x, x = s.M 2 := ⟨_, rfl⟩
 rw [← hh] at HH HPL HTG
 rw [← hw2] at HPK HPL
 have HHE := Lib.hid hh
 have b1 := alloc_below w (.cells #[.int .u64 h] 264)
 obtain ⟨W1, hW1⟩ : ∃ W, W = w.alloc (.cells #[.int .u64 h] 264) := ⟨_, rfl⟩
 rw [← hW1] at b1
 have P1 := hP.below hhi b1
 have HP1 := Lib.hid (And.intro P1 (Ext.of_below (S := fun j => j = g) hhi b1))
 have p0 := P1.wo.c0
 clear hi hz0 hz1 hz2 hkb hb2 hl hh hw2 b1 hP hhi hkz P1
 go_enter Tryz.func34, Tryz.ntmps34
 go_wp2_with fail
 refine (HH.out _).mono ?_
 rintro e w' ⟨rfl, hw'⟩
 rw [← hW1] at hw'
 subst hw'
 clear hW1
 go_wp2_with fail
 refine (HPK.out _ _ HP1.out.1).mono ?_
 rintro e w' ⟨rfl, rfl⟩
 go_wp2_with fail
 refine (HPL.out _).mono ?_
 rintro e w3 ⟨⟨v', rfl, hA, hF, ao, rfl⟩, hb3⟩
 have HP3 := Lib.hid (And.intro (HP1.out.1.below HP1.out.2.hi hb3) (HP1.out.2.below hb3))
 have HO : Hid (0 < l.length → ∃ b o, ao = some ⟨b, o, none⟩ ∧ b < w3.heap.size ∧ O b ≠ g ∧ ∀ k, (hk : k < l.length) → w3.cell? ⟨b, o + k * 2, none⟩ = some (.int .i64 l[k].1) ∧ w3.cell? ⟨b, o + k * 2 + 1, none⟩ = some (.int .i64 l[k].2)) := Lib.hid (fun hn => by
  obtain ⟨b, o, c', he, -, -, hlt, hx⟩ := hA.open hn (by decide)
  cases he
  refine ⟨b, o, rfl, hlt, ?_, fun k hk => ⟨?_, ?_⟩⟩
  · have h0 : O b = 0 := own_new HP1.out.2.hi (hF ⟨b, o, none⟩ _ _ rfl).1
    omega
  · have := hx (k * 2 + 0) _ ((rowOf_get plc_len l k 0 hk (by decide)).trans rfl)
    exact this
  · have := hx (k * 2 + 1) _ ((rowOf_get plc_len l k 1 hk (by decide)).trans rfl)
    exact this)
 clear hA hF hb3 p0 HP1
 go_wp2_with fail
 go_loopw [5, 8] (fun o i wr => ∃ (k : Nat) (G : Om), k ≤ l.length ∧ i = .int .i64 k ∧ PW wr G B f s ∧ Ext (fun j => j = g) O w3 G wr ∧ Row wr G g 3 1 o ((l.take k).flatMap fun p => atP key s p 4).length (ints ((l.take k).flatMap fun p => atP key s p 4))) (fun o i _ => l.length - (intOf i).toNat)
 case atStart => exact ⟨0, O, Nat.zero_le _, rfl, HP3.out.1, Ext.refl HP3.out.2.hi, Row.nil _ _ _ _ _⟩
 case round =>
  obtain ⟨k, G, hk, rfl, pk, e1, r1⟩ := hrel
  have HE := Lib.hid (And.intro e1 pk)
  have hn16 := atPl_len key s (l.take k)
  rw [List.length_take] at hn16
  have hl4 := HLB.out.1
  obtain ⟨oo, cc, rfl, hd1, hd2⟩ := r1.sls.shape
  obtain ⟨L, hL⟩ : ∃ L, L = (l.take k).flatMap fun p => atP key s p 4 := ⟨_, rfl⟩
  rw [← hL] at r1 hn16 hd1 ⊢
  have HR := Lib.hid r1
  have HLe := Lib.hid hL
  clear e1 pk r1 hL
  by_cases hlt : k < l.length
  · obtain ⟨b, o, rfl, hbl, hbg, hx⟩ := HO.out (by omega)
    obtain ⟨⟨pb, pq⟩, hpp⟩ : ∃ x, x = l[k] := ⟨_, rfl⟩
    have hxk := hx k hlt
    have hpb := HLB.out.2 l[k] (List.getElem_mem hlt)
    have HSn : Hid (((l.take (k + 1)).flatMap fun p => atP key s p 4) = L ++ atP key s (pb, pq) 4) := Lib.hid (by rw [HLe.out, List.take_succ_eq_append_getElem hlt, List.flatMap_append, List.flatMap_singleton, ← hpp])
    rw [← hpp] at hxk hpb
    have HX := Lib.hid hxk
    have HPB := Lib.hid hpb
    clear hx hpp hxk hpb
    have hki : (k : Int) < l.length := by omega
    go_wp2_with fail
    go_loopw [5, 9] (fun o2 i2 wq => ∃ (j : Nat) (G2 : Om), j ≤ 4 ∧ i2 = .int .i64 j ∧ PW wq G2 B f s ∧ Ext (fun j => j = g) O w3 G2 wq ∧ Row wq G2 g 3 1 o2 (L ++ atP key s (pb, pq) j).length (ints (L ++ atP key s (pb, pq) j))) (fun o2 i2 _ => 4 - (intOf i2).toNat)
    case atStart => exact ⟨0, G, Nat.zero_le _, rfl, HE.out.2, HE.out.1, by rw [show atP key s (pb, pq) 0 = [] from rfl, List.append_nil]; exact HR.out⟩
    case round =>
     obtain ⟨j, G2, hj, rfl, pk2, e2, r2⟩ := hrel
     obtain ⟨o2, c2, rfl, hg1, hg2⟩ := r2.sls.shape
     have HP2 := Lib.hid (And.intro pk2 (And.intro e2 r2))
     have hn4 := atP_len key s (pb, pq) j
     by_cases hj4 : j < 4
     · have HOK : Hid ((⟨pb, pq, (j : Int)⟩ : Spt).ok) := Lib.hid ⟨HPB.out.1, HPB.out.2.1, HPB.out.2.2.1, HPB.out.2.2.2, by dsimp only; omega, by dsimp only; omega⟩
       have q0 := (e2.cell (p := ⟨b, o + k * 2, none⟩) hbl hbg).trans HX.out.1
       have q1 := (e2.cell (p := ⟨b, o + k * 2 + 1, none⟩) hbl hbg).trans HX.out.2
       have HS := Lib.hid (HSL.out _ _ ⟨pb, pq, j⟩ HOK.out pk2 e2.hi)
       have hAS : atP key s (pb, pq) (j + 1) = atP key s (pb, pq) j ++ atS key s pb pq j := atP_succ key s (pb, pq) j
       have hat := rfl (a := atS key s pb pq j)
       conv at hat => rhs; unfold atS
       rw [← HHE.out] at hat
       have HBm := Lib.hid (HBD.out (plItem pb pq j))
       rw [show (⟨pb, pq, (j : Int)⟩ : Spt).tags = plTags pb pq from rfl, show (⟨pb, pq, (j : Int)⟩ : Spt).item = plItem pb pq j from rfl] at HS
       dsimp only at HS
       obtain ⟨tw, htw⟩ : ∃ t, t = twTag (s.M (plTags pb pq)) (j : Int) := ⟨_, rfl⟩
       obtain ⟨m, hm⟩ : ∃ m, m = s.M (plItem pb pq (j : Int)) := ⟨_, rfl⟩
       rw [← htw, ← hm] at HS hat
       rw [← hm] at HBm
       obtain ⟨tg, htg⟩ : ∃ t, t = fnvTag h := ⟨_, rfl⟩
       have HTg := HTG
       rw [← htg] at HTg hat
       obtain ⟨N, hN⟩ : ∃ N, N = L ++ atP key s (pb, pq) j := ⟨_, rfl⟩
       have HAS : Hid (L ++ atP key s (pb, pq) (j + 1) = N ++ (if tw = tg ∧ fdHit s.it m key = true then [m] else [])) := Lib.hid (by rw [hAS, ← List.append_assoc, ← hN, hat])
       have hNl : N.length ≤ 16 := by rw [hN, List.length_append]; omega
       rw [← hN] at HP2 hg1 ⊢
       clear pk2 e2 r2 hAS hat htw hm htg hN hn4
       have hji : (j : Int) < 4 := by omega
       have hk2 : (k : Int) < l.length := by omega
       go_wp2_with fail
       refine HS.out.mono ?_
       rintro e w4 ⟨rfl, hb4⟩
       have P4 := HP2.out.1.below HP2.out.2.1.hi hb4
       have p1 := P4.wo.c1
       have HP4 := Lib.hid (And.intro P4 (And.intro (HP2.out.2.1.below hb4) (HP2.out.2.2.below hb4)))
       clear P4 hb4 HP2 HS q0 q1
       rcases fdHit_at s.it m HBm.out.1 HBm.out.2 hil with ⟨i, x, hx, hmi, hw, hh⟩ | ⟨hn, hh⟩
       · have HAt := Lib.hid (c_IAt_yes m i x HP4.out.1.ar hil hx hmi)
         have HHH := Lib.hid (hh key)
         clear hx hmi hh
         obtain ⟨t, ht⟩ : ∃ t, t = decide (x.key = key) := ⟨_, rfl⟩
         have hbq : (x.key.toList == key.toList) = t := (by_beq _ _).trans ht.symm
         rw [← ht] at HHH
         clear ht
         go_wp2_with fail
         refine HAt.out.mono ?_
         rintro e w5 ⟨rfl, hb5⟩
         have b6 := hb5.trans ((alloc_below w5 (.cells #[.string x.key, .string x.val, .int .u32 x.fl, .int .u64 x.id, .int .i64 x.dies, .int .i64 x.gen] 34)).mono hb5.size)
         have y0 := cell_newA w5 #[.string x.key, .string x.val, .int .u32 x.fl, .int .u64 x.id, .int .i64 x.dies, .int .i64 x.gen] 34 _ rfl 0 _ rfl
         obtain ⟨W6, hW6⟩ : ∃ W, W = w5.alloc (.cells #[.string x.key, .string x.val, .int .u32 x.fl, .int .u64 x.id, .int .i64 x.dies, .int .i64 x.gen] 34) := ⟨_, rfl⟩
         rw [← hW6] at b6 y0
         have HP6 := Lib.hid (And.intro (HP4.out.1.below HP4.out.2.1.hi b6) (And.intro (HP4.out.2.1.below b6) (HP4.out.2.2.below b6)))
         clear b6 hb5 HP4 p1 HAt
         go_upto_region 12 with fail
         rw [← hW6]
         clear hW6
         go_wp2_with fail
         refine (HTg.out _).mono ?_
         rintro e w' ⟨rfl, rfl⟩
         by_cases htt : tw = tg
         · have d1 : (tw == tg) = true := by simp [htt]
           cases t with
           | true =>
             have HN2 : Hid (L ++ atP key s (pb, pq) (j + 1) = N ++ [m]) := Lib.hid (by rw [HAS.out, if_pos ⟨htt, HHH.out⟩])
             clear htt HAS HHH
             go_wp2_with (at_builtin; refine append_row W6 rfl _ _ 106 rfl 3 i0 (.int .i64 0) 1 8 Tryz.underlying106 HI0.out.1 HI0.out.2.1 HI0.out.2.2.1 HI0.out.2.2.2 rfl (by decide) (by decide) G2 g (by omega) HP6.out.2.1.hi (.slice o2 N.length c2) N.length (ints N) rfl HP6.out.2.2 [.int .i64 m] _ rfl rfl (by simp [Value.oneCell']) (by omega) ?_; intro gg cap w7 G7 e7 r7; have HP7 := Lib.hid (And.intro (HP6.out.1.ext e7 (by omega) (by omega) (by omega) (by omega)) (And.intro (HP6.out.2.1.trans e7) r7)); clear e7 r7)
             go_roundw
             case rel => exact ⟨j + 1, G7, by omega, by go_num, HP7.out.1, HP7.out.2.1, by rw [HN2.out, List.length_append, show ints (N ++ [m]) = ints N ++ [.int .i64 m] by simp [ints]]; exact HP7.out.2.2⟩
             case measure => simp [intOf]; omega
           | false =>
             have HN2 : Hid (L ++ atP key s (pb, pq) (j + 1) = N) := Lib.hid (by rw [HAS.out, if_neg (by rw [HHH.out]; simp), List.append_nil])
             clear htt HAS HHH
             go_wp2_with fail
             go_roundw
             case rel => exact ⟨j + 1, G2, by omega, by go_num, HP6.out.1, HP6.out.2.1, by rw [HN2.out]; exact HP6.out.2.2⟩
             case measure => simp [intOf]; omega
         · have d1 : (tw == tg) = false := by simp [htt]
           have HN2 : Hid (L ++ atP key s (pb, pq) (j + 1) = N) := Lib.hid (by rw [HAS.out, if_neg (fun e => htt e.1), List.append_nil])
           clear htt HAS HHH
           go_wp2_with fail
           go_roundw
           case rel => exact ⟨j + 1, G2, by omega, by go_num, HP6.out.1, HP6.out.2.1, by rw [HN2.out]; exact HP6.out.2.2⟩
           case measure => simp [intOf]; omega
       · have HAt := Lib.hid (c_IAt_no _ HP4.out.1.ar hil hn)
         have HN2 : Hid (L ++ atP key s (pb, pq) (j + 1) = N) := Lib.hid (by rw [HAS.out, if_neg (by rw [hh key]; simp), List.append_nil])
         obtain ⟨r, hr⟩ : ∃ r, r = IntKind.i64.wrap m := ⟨_, rfl⟩
         rw [← hr] at HAt
         have hr' := hr.symm
         clear hn hh hr HAS
         go_wp2_with fail
         refine HAt.out.mono ?_
         rintro e w5 ⟨rfl, hb5⟩
         have b6 := hb5.trans ((alloc_below w5 (.cells #[.string ⟨#[]⟩, .string ⟨#[]⟩, .int .u32 0, .int .u64 0, .int .i64 0, .int .i64 0] 34)).mono hb5.size)
         obtain ⟨W6, hW6⟩ : ∃ W, W = w5.alloc (.cells #[.string ⟨#[]⟩, .string ⟨#[]⟩, .int .u32 0, .int .u64 0, .int .i64 0, .int .i64 0] 34) := ⟨_, rfl⟩
         rw [← hW6] at b6
         have HP6 := Lib.hid (And.intro (HP4.out.1.below HP4.out.2.1.hi b6) (And.intro (HP4.out.2.1.below b6) (HP4.out.2.2.below b6)))
         clear b6 hb5 HP4 p1 HAt
         go_upto_region 12 with fail
         rw [← hW6]
         clear hW6
         go_wp2_with fail
         refine (HTg.out _).mono ?_
         rintro e w' ⟨rfl, rfl⟩
         obtain ⟨d, hd⟩ : ∃ d, (tw == tg) = d := ⟨_, rfl⟩
         cases d with
         | true =>
           go_wp2_with fail
           go_roundw
           case rel => exact ⟨j + 1, G2, by omega, by go_num, HP6.out.1, HP6.out.2.1, by rw [HN2.out]; exact HP6.out.2.2⟩
           case measure => simp [intOf]; omega
         | false =>
           go_wp2_with fail
           go_roundw
           case rel => exact ⟨j + 1, G2, by omega, by go_num, HP6.out.1, HP6.out.2.1, by rw [HN2.out]; exact HP6.out.2.2⟩
           case measure => simp [intOf]; omega
     · obtain rfl : j = 4 := by omega
       clear pk2 e2 r2
       go_wp2_with fail
       go_roundw
       case rel => exact ⟨k + 1, G2, by omega, by go_num, HP2.out.1, HP2.out.2.1, by rw [HSn.out]; exact HP2.out.2.2⟩
       case measure => simp [intOf]; omega
  · obtain rfl : k = l.length := by omega
    rw [List.take_length] at HLe
    have HLf : Hid (atL key s = L) := Lib.hid (by rw [HL.out, HLe.out])
    go_wp2_with fail
    go_ret
    exact ⟨_, rfl, G, HP3.out.2.trans HE.out.1, HE.out.2, by rw [HLf.out]; exact HR.out⟩
end
end Go.Proofs.YtifkfhnbkjkakaaGreatDoor
