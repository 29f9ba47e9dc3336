/- A table that is filled (nestboxlaw17.Full): its world. -/
import Derived.Test.YtlcibfpibklbdaaGreatFuP
import Derived.Test.YtlcibfpibklbdaaGreatMaS
namespace Go.Proofs.YtlcibfpibklbdaaGreat
set_option linter.unusedSimpArgs false
open Go.RowKit Go.Shelf
set_option linter.unusedVariables false
theorem PW.addItF {w w' : World} {O O' : Om} {B : Wb} {f : Cf} {s : AW} {x : It} (h : PW w O B f s) (e : Ext (fun t => t = 3) O w O' w') (ha : Ar w' O' 3 B.ip (s.it ++ [x])) : PW w' O' B f ⟨s.M, s.n, s.la, s.tk, s.ho, s.it ++ [x], s.nt⟩ :=
  ⟨(e.lo _ h.wo.lt).trans h.o, h.wo.wrote e.wr (fun k => absurd (show (1 : Nat) = 3 from by have := k.1; rwa [h.o] at this) (by decide)), h.ce.ext e (by decide) (by decide), ha, h.no.ext e (by decide)⟩
theorem MapS.ext {S : Nat → Prop} {O O' : Om} {w w' : World} {m g : Nat} {L : List ByteArray} (h : MapS w m L) (e : Ext S O w O' w') (hg : O m = g) (hs : ¬ S g) : MapS w' m L :=
  h.block (e.wr.block m h.lt fun k => hs (by have := k.1; rwa [hg] at this))
/-- What World tells: a new world, filled. -/
def FulPost (w : World) (F : Ful) (e : Ending) (w' : World) : Prop :=
  ∃ B O s, e = .returned (.pointer (some ⟨B.p, 0, none⟩)) ∧ PW w' O B ⟨fulB F, 8, 3, 1, 16⟩ s ∧ Env w O w' ∧ FulS (fulB F) F.ks s
theorem strc_len (s : ByteArray) : (strc s).length = 1 := rfl
theorem u3c_len (s : Int × Int × Int) : (u3c s).length = 3 := rfl
def fulA (b : Int) (ks : List ByteArray) (i : Nat) : AW := ⟨(aw0 b).M, (aw0 b).n, (aw0 b).la, (aw0 b).tk, (aw0 b).ho, (ks.take i).map fulIt, (aw0 b).nt⟩
theorem fulA_succ (b : Int) (ks : List ByteArray) (i : Nat) (k : ByteArray) (h : ks[i]? = some k) : (fulA b ks i).it ++ [fulIt k] = (fulA b ks (i + 1)).it := by
  show (ks.take i).map fulIt ++ [fulIt k] = (ks.take (i + 1)).map fulIt
  rw [List.take_add_one, h]
  simp
set_option maxHeartbeats 8000000 in
set_option maxRecDepth 100000 in
theorem c_FulWorld {F : Ful} {v : Value} {w : World} (h : FulAt w v F) (g : FulBd F) (hks : F.ks.length ≤ 40) (hly : F.ly.length ≤ 80) : Calls Tryz.prog 35 #[v] w (FulPost w F) := by
  obtain ⟨vk, vl, vs, rfl, h1, h2, h3⟩ := h.ex
  have hbi : 1 ≤ fulB F ∧ fulB F ≤ 3 := by unfold fulB; have := g.b0; omega
  obtain ⟨bi, ks, ly, ky, mo, sp⟩ := F
  have hbe : fulB ⟨bi, ks, ly, ky, mo, sp⟩ = 1 + bi % 3 := rfl
  have b0 := g.b0
  have b1 := g.b1
  unfold fulV
  dsimp only at h1 h2 h3 hks hly b0 b1 ⊢
  obtain ⟨ai, ci, rfl, hci, hmi⟩ := h1.shape
  obtain ⟨ap, cp, rfl, hcp, hmp⟩ := h2.shape
  obtain ⟨b, hb⟩ : ∃ b, b = 1 + bi % 3 := ⟨_, rfl⟩
  unfold FulPost
  rw [hbe, ← hb] at hbi ⊢
  have HA := Lib.hid h1
  have HL := Lib.hid h2
  have G := Lib.hid g
  have HB := Lib.hid hbi
  have hbw := (Below.refl w.heap.size w).alloc (Nat.le_refl _) (.cells #[.int .u8 bi, .slice ai ks.length ci, .slice ap ly.length cp, .string ky, .int .u8 mo, vs] 26)
  have hH : ∀ j u, [.int .u8 bi, .slice ai ks.length ci, .slice ap ly.length cp, .string ky, .int .u8 mo, vs][j]? = some u → (w.alloc (.cells #[.int .u8 bi, .slice ai ks.length ci, .slice ap ly.length cp, .string ky, .int .u8 mo, vs] 26)).cell? ⟨w.heap.size, j, none⟩ = some u := fun j u hu => cell_newA w _ _ _ rfl j u (by simpa using hu)
  have hqlt : w.heap.size < (w.alloc (.cells #[.int .u8 bi, .slice ai ks.length ci, .slice ap ly.length cp, .string ky, .int .u8 mo, vs] 26)).heap.size := by simp
  have y0 := hH 0 _ rfl
  have HH := Lib.hid hH
  have HBW := Lib.hid hbw
  have HLT := Lib.hid hqlt
  clear h h1 h2 h3 g hbi hbe hbw hH hqlt
  obtain ⟨-, hT⟩ := alloc_nbH (O := fun _ => 0) (w := w) (S := fun _ => False) (fun j h => absurd rfl h) #[.int .u8 bi, .slice ai ks.length ci, .slice ap ly.length cp, .string ky, .int .u8 mo, vs] 26 w.heap.size rfl
  have TT := Lib.hid hT
  clear hT
  have hmm := @run_makeMap Tryz.prog
  go_enter Tryz.func35, Tryz.ntmps35
  go_wp2_with fail
  obtain ⟨W0, hW0⟩ : ∃ W, W = w.alloc (.cells #[.int .u8 bi, .slice ai ks.length ci, .slice ap ly.length cp, .string ky, .int .u8 mo, vs] 26) := ⟨_, rfl⟩
  rw [← hW0] at TT HBW HLT ⊢
  obtain ⟨Q, hQ⟩ : ∃ Q, Q = w.heap.size := ⟨_, rfl⟩
  rw [← hQ] at TT HLT ⊢
  rw [← hb]
  clear hW0 HH y0 b0 b1 hb hQ
  refine (c_WorldP b W0 HB.out.1 (by have := HB.out.2; omega)).mono ?_
  rintro e w1 ⟨B, O1, rfl, hP, hE⟩
  have hE1 : Env w O1 w1 := ⟨fun j h => Nat.le_trans HBW.out.size (hE.base j h), hE.hi, HBW.out.trans (hE.bel.mono HBW.out.size)⟩
  have hO1Q : O1 Q = 0 := by
    by_cases c : O1 Q = 0
    · exact c
    · exact absurd (hE.base Q c) (by have := HLT.out; omega)
  have T1 := TT.out.below hE.bel
  have T1' : Ob w1 O1 0 Q [.int .u8 bi, .slice ai ks.length ci, .slice ap ly.length cp, .string ky, .int .u8 mo, vs] := ⟨hO1Q, T1.lt, T1.c, T1.f⟩
  have e2 := Ext.alloc (S := fun t => t = 9) (g := 9) hE1.hi rfl (.map #[] 0)
  have hM2 := MapS.made w1
  have hO2 : newOwn O1 w1.heap.size (w1.heap.size + 1) 9 w1.heap.size = 9 := by unfold newOwn; rw [if_pos (by omega)]
  obtain ⟨O2, hO2e⟩ : ∃ O2, O2 = newOwn O1 w1.heap.size (w1.heap.size + 1) 9 := ⟨_, rfl⟩
  rw [← hO2e] at e2 hO2
  have P2 := Lib.hid (hP.ext e2 (by decide) (by decide) (by decide) (by decide))
  have E2 := Lib.hid (hE1.ext e2)
  have T2 := Lib.hid (T1'.ext e2 (by decide))
  have M2 := Lib.hid hM2
  have OM := Lib.hid hO2
  clear hP hE hE1 hO1Q T1 T1' e2 hM2 hO2 hO2e TT HBW HLT
  go_upto_region 6 with fail
  obtain ⟨w2, hw2⟩ : ∃ W, W = w1.alloc (.map #[] 0) := ⟨_, rfl⟩
  rw [← hw2] at P2 E2 T2 M2 ⊢
  obtain ⟨m, hm⟩ : ∃ m, m = w1.heap.size := ⟨_, rfl⟩
  rw [← hm] at M2 OM ⊢
  clear hw2 hm hmm
  go_loopw [5] (fun iv wr => ∃ (i : Nat) (G : Om), iv = .int .i64 i ∧ i ≤ ks.length ∧ PW wr G B ⟨b, 8, 3, 1, 16⟩ (fulA b ks i) ∧ Env w G wr ∧ Ob wr G 0 Q [.int .u8 bi, .slice ai ks.length ci, .slice ap ly.length cp, .string ky, .int .u8 mo, vs] ∧ MapS wr m [] ∧ G m = 9) (fun iv _ => ks.length - (intOf iv).toNat)
  case atStart => exact ⟨0, O2, rfl, Nat.zero_le _, P2.out, E2.out, T2.out, M2.out, OM.out⟩
  case round =>
    clear P2 E2 T2 M2 OM
    obtain ⟨i, O3, rfl, hi, hP, hE, hT, hM, hO⟩ := hrel
    have P3 := Lib.hid hP
    have E3 := Lib.hid hE
    have T3 := Lib.hid hT
    have M3 := Lib.hid hM
    have OM := Lib.hid hO
    have t1 := hT.c 1 _ rfl
    clear hP hE hT hM hO
    by_cases hik : i < ks.length
    · obtain ⟨A, o, c', he, -, -, hlt, hx⟩ := HA.out.open (by omega) (by omega)
      cases he
      obtain ⟨x, hxe⟩ : ∃ x, x = ks[i] := ⟨_, rfl⟩
      have hr0 : (rowOf strc ks)[i]? = (strc x)[0]? := by rw [hxe]; have := rowOf_get strc_len ks i 0 hik (by omega); rw [Nat.mul_one] at this; exact this
      have hc0 : w.cell? ⟨A, o + i, none⟩ = some (.string x) := hx _ _ hr0
      have v0 : wr.cell? ⟨A, o + i, none⟩ = some (.string x) := (E3.out.bel.cell (p := ⟨A, o + i, none⟩) hlt).trans hc0
      have HC0 := Lib.hid hc0
      have hx? : ks[i]? = some x := by rw [hxe]; exact List.getElem?_eq_getElem hik
      have hsu := fulA_succ b ks i x hx?
      have HSU := Lib.hid hsu
      have p1 := P3.out.wo.c1
      have hbw : Below wr.heap.size wr wr.drew := drew_below wr
      have P4 := Lib.hid (P3.out.below E3.out.hi hbw)
      have E4 := Lib.hid (E3.out.ext (Ext.of_below (S := SW) E3.out.hi hbw))
      have T4 := Lib.hid (T3.out.below hbw)
      have HAdd := Lib.hid (c_IAdd (fulIt x) P4.out.ar (by decide) (by show ((ks.take i).map fulIt).length ≤ 1000000; simp; omega) E4.out.hi)
      clear hxe hr0 hx? hsu hbw hx hc0
      go_wp2_with fail
      go_region_held3 (fun w' => w'.cell? ⟨Q, 1, none⟩ = some (.slice (some ⟨A, o, none⟩) ks.length ci) ∧ w'.cell? ⟨A, o + i, none⟩ = some (.string x) ∧ w'.cell? ⟨B.p, 1, none⟩ = some (.pointer (some ⟨B.ip, 0, none⟩))) (go_keep)
        ((go_at_call 86
          refine HAdd.out.mono ?_
          rintro e w5 ⟨rfl, O5, e5, a5⟩
          have P5 := P4.out.addItF e5 a5
          rw [HSU.out] at P5
          have P5 : Hid (PW w5 O5 B ⟨b, 8, 3, 1, 16⟩ (fulA b ks (i + 1))) := Lib.hid P5
          have E5 := Lib.hid (E4.out.ext e5)
          have T5 := Lib.hid (T4.out.ext e5 (by decide))
          have M5 := Lib.hid ((M3.out.block rfl : MapS wr.drew m []).ext e5 OM.out (by decide))
          have OM5 := Lib.hid ((e5.lo m M3.out.lt).trans OM.out)
          have u1 := T5.out.c 1 _ rfl
          have u2 := P5.out.wo.c1
          have u3 : w5.cell? ⟨A, o + i, none⟩ = some (.string x) := (E5.out.bel.cell (p := ⟨A, o + i, none⟩) hlt).trans HC0.out
          clear e5 a5))
      all_goals
        clear t1 v0 p1 u1 u2 u3
        go_wp2_with fail
        go_roundw
        case rel => exact ⟨i + 1, O5, by go_num, by omega, P5.out, E5.out, T5.out, M5.out, OM5.out⟩
        case measure => simp [intOf]; omega
    · have hie : i = ks.length := by omega
      subst hie
      go_upto_region 10 with fail
      have hf0 := FulL.start (ks := ks) (it := (fulA b ks ks.length).it) HB.out.1 HB.out.2 (by show (ks.take ks.length).map fulIt = _; rw [List.take_length])
      have F0 : Hid (FulL b ks 0 [] (fulA b ks ks.length)) := Lib.hid hf0
      clear hf0 t1
      go_loopw [6] (fun iv wr => ∃ (i : Nat) (G : Om) (L : List ByteArray) (s : AW), iv = .int .i64 i ∧ i ≤ ly.length ∧ PW wr G B ⟨b, 8, 3, 1, 16⟩ s ∧ FulL b ks i L s ∧ Env w G wr ∧ Ob wr G 0 Q [.int .u8 bi, .slice ai ks.length ci, .slice ap ly.length cp, .string ky, .int .u8 mo, vs] ∧ MapS wr m L ∧ G m = 9) (fun iv _ => ly.length - (intOf iv).toNat)
      case atStart => exact ⟨0, O3, [], _, rfl, Nat.zero_le _, P3.out, F0.out, E3.out, T3.out, M3.out, OM.out⟩
      case round =>
        clear P3 E3 T3 M3 OM F0
        obtain ⟨i, O3, L, s, rfl, hi, hP, hF, hE, hT, hM, hO⟩ := hrel
        have P3 := Lib.hid hP
        have F3 := Lib.hid hF
        have E3 := Lib.hid hE
        have T3 := Lib.hid hT
        have M3 := Lib.hid hM
        have OM := Lib.hid hO
        have t1 := hT.c 1 _ rfl
        have t2 := hT.c 2 _ rfl
        clear hP hE hT hM hO hF
        by_cases hik : i < ly.length
        · by_cases hk0 : 0 < ks.length
          · obtain ⟨A, o, c', he, -, -, hlt, hx⟩ := HA.out.open (by omega) (by omega)
            cases he
            obtain ⟨A2, o2, c2, he, -, -, hlt2, hx2⟩ := HL.out.open (by omega) (by omega)
            cases he
            obtain ⟨y, hye⟩ : ∃ y, y = ly[i] := ⟨_, rfl⟩
            have hyb := G.out.ly y (by rw [hye]; exact List.getElem_mem _)
            have hr : ∀ j, j < 3 → (rowOf u3c ly)[i * 3 + j]? = (u3c y)[j]? := fun j hj => by rw [hye]; exact rowOf_get u3c_len ly i j hik hj
            obtain ⟨y0, y1, y2⟩ := y
            obtain ⟨⟨a0, a1⟩, ⟨a2, a3⟩, a4, a5⟩ := hyb
            dsimp only at a0 a1 a2 a3 a4 a5
            have v0 : wr.cell? ⟨A2, o2 + i * 3, none⟩ = some (.int .u8 y0) := (E3.out.bel.cell (p := ⟨A2, o2 + i * 3, none⟩) hlt2).trans (hx2 _ _ (hr 0 (by omega)))
            have HC1 := Lib.hid (hx2 _ _ (hr 1 (by omega)))
            have HC2 := Lib.hid (hx2 _ _ (hr 2 (by omega)))
            have v1 : wr.cell? ⟨A2, o2 + i * 3 + 1, none⟩ = some (.int .u8 y1) := (E3.out.bel.cell (p := ⟨A2, o2 + i * 3 + 1, none⟩) hlt2).trans (hx2 _ _ (hr 1 (by omega)))
            have v2 : wr.cell? ⟨A2, o2 + i * 3 + 2, none⟩ = some (.int .u8 y2) := (E3.out.bel.cell (p := ⟨A2, o2 + i * 3 + 2, none⟩) hlt2).trans (hx2 _ _ (hr 2 (by omega)))
            obtain ⟨r, hri⟩ : ∃ r : Nat, (r : Int) = y0 % (ks.length : Int) := ⟨(y0 % (ks.length : Int)).toNat, Int.toNat_of_nonneg (Int.emod_nonneg _ (by omega))⟩
            have hrk : r < ks.length := by have := Int.emod_lt_of_pos y0 (show 0 < (ks.length : Int) by omega); omega
            obtain ⟨key, hke⟩ : ∃ x, x = ks[r] := ⟨_, rfl⟩
            have hr0 : (rowOf strc ks)[r]? = (strc key)[0]? := by rw [hke]; have := rowOf_get strc_len ks r 0 hrk (by omega); rw [Nat.mul_one] at this; exact this
            have v3 : wr.cell? ⟨A, o + r, none⟩ = some (.string key) := (E3.out.bel.cell (p := ⟨A, o + r, none⟩) hlt).trans (hx _ _ hr0)
            have hk? : ks[r]? = some key := by rw [hke]; exact List.getElem?_eq_getElem hrk
            have hkz := G.out.ks key (by rw [hke]; exact List.getElem_mem _)
            have hri2 : y0 % (ks.length : Int) = r := hri.symm
            have HK := Lib.hid hk?
            have HKZ := Lib.hid hkz
            have d1 : decide ((0 : Int) < (ks.length : Int)) = true := decide_eq_true (by omega)
            clear hx hx2 hye hr hri hke hr0 hk? hkz
            go_upto_region 12 with fail
            go_quiet (fail)
            go_upto_region 14 with fail
            obtain ⟨w6, hw6⟩ : ∃ W, W = wr.drewN nq := ⟨_, rfl⟩
            have hb6 : Below wr.heap.size wr w6 := by rw [hw6]; exact below_drewN (Below.refl _ _) _
            have M6 : Hid (MapS w6 m L) := Lib.hid (M3.out.block (by rw [hw6]; rfl))
            rw [← hw6]
            have P6 := Lib.hid (P3.out.below E3.out.hi hb6)
            have E6 := Lib.hid (E3.out.ext (Ext.of_below (S := SW) E3.out.hi hb6))
            have T6 := Lib.hid (T3.out.below hb6)
            have f1 : w6.cell? ⟨A2, o2 + i * 3 + 1, none⟩ = some (.int .u8 y1) := (hb6.cell (p := ⟨A2, o2 + i * 3 + 1, none⟩) (Nat.lt_of_lt_of_le hlt2 E3.out.bel.size)).trans v1
            have f2 : w6.cell? ⟨A2, o2 + i * 3 + 2, none⟩ = some (.int .u8 y2) := (hb6.cell (p := ⟨A2, o2 + i * 3 + 2, none⟩) (Nat.lt_of_lt_of_le hlt2 E3.out.bel.size)).trans v2
            have t6 := T6.out.c 2 _ rfl
            clear hw6 hb6 v0 v1 v2 v3 t1 t2 M3 P3 E3 T3 hri2 d1
            by_cases hin : key ∈ L
            · have hlk : ∀ n, (Instr.lookup 178 (.map (some m)) (.string key) false).run Tryz.prog (w6.drewN n) = .ok (.int .i64 1) (w6.drewN n) := fun n => MapS.look1 (M6.out.block rfl) HKZ.out hin
              go_quiet (fail)
              go_wp2_with fail
              have hb7 : Below w6.heap.size w6 (w6.drewN nq) := below_drewN (Below.refl _ _) _
              go_roundw
              case rel => exact ⟨i + 1, O3, L, s, by go_num, by omega, P6.out.below E6.out.hi hb7, F3.out.skip, E6.out.ext (Ext.of_below (S := SW) E6.out.hi hb7), T6.out.below hb7, M6.out.block rfl, OM.out⟩
              case measure => simp [intOf]; omega
            · have hlk : ∀ n, (Instr.lookup 178 (.map (some m)) (.string key) false).run Tryz.prog (w6.drewN n) = .ok (.int .i64 0) (w6.drewN n) := fun n => MapS.look0 (M6.out.block rfl) HKZ.out hin
              have hbw : Below w6.heap.size w6 w6.drew := drew_below w6
              have hl0 : (Instr.lookup 178 (.map (some m)) (.string key) false).run Tryz.prog w6.drew = .ok (.int .i64 0) w6.drew := MapS.look0 (M6.out.block rfl) HKZ.out hin
              have P7 := Lib.hid (P6.out.below E6.out.hi hbw)
              have E7 := Lib.hid (E6.out.ext (Ext.of_below (S := SW) E6.out.hi hbw))
              have T7 := Lib.hid (T6.out.below hbw)
              have M7 : Hid (MapS w6.drew m L) := Lib.hid (M6.out.block rfl)
              have hLay := c_Lay (k := 10) r y1 y2 P7.out F3.out.fil F3.out.it hks HK.out HKZ.out a2 (by omega) a4 (by omega) (by decide) E7.out.hi F3.out.n0 (by have := F3.out.n1; omega) (by omega)
              rw [show (r : Int) + 1 = 1 + r from Int.add_comm _ _] at hLay
              have HLay := Lib.hid hLay
              clear hLay hbw hlk
              go_region_held3 (fun w' => w'.cell? ⟨Q, 2, none⟩ = some (.slice (some ⟨A2, o2, none⟩) ly.length cp) ∧ w'.cell? ⟨A2, o2 + i * 3 + 1, none⟩ = some (.int .u8 y1) ∧ w'.cell? ⟨A2, o2 + i * 3 + 2, none⟩ = some (.int .u8 y2) ∧ (Instr.lookup 178 (.map (some m)) (.string key) false).run Tryz.prog w' = .ok (.int .i64 0) w') (go_keep)
                ((go_at_call 87
                  refine HLay.out.mono ?_
                  rintro e w8 ⟨tt, s8, ⟨rfl, O8, e8, p8⟩, l8⟩
                  have P8 := Lib.hid p8
                  have E8 := Lib.hid (E7.out.ext e8)
                  have T8 := Lib.hid (T7.out.ext e8 (fun h => by unfold SX at h; omega))
                  have M8 := Lib.hid (M7.out.ext e8 OM.out (fun h => by unfold SX at h; omega))
                  have OM8 := Lib.hid ((e8.lo m M7.out.lt).trans OM.out)
                  have L8 := Lib.hid l8
                  have g0 : (Instr.lookup 178 (.map (some m)) (.string key) false).run Tryz.prog w8 = .ok (.int .i64 0) w8 := MapS.look0 M8.out HKZ.out hin
                  have g2 := T8.out.c 2 _ rfl
                  have g3 : w8.cell? ⟨A2, o2 + i * 3 + 1, none⟩ = some (.int .u8 y1) := (E8.out.bel.cell (p := ⟨A2, o2 + i * 3 + 1, none⟩) hlt2).trans HC1.out
                  have g4 : w8.cell? ⟨A2, o2 + i * 3 + 2, none⟩ = some (.int .u8 y2) := (E8.out.bel.cell (p := ⟨A2, o2 + i * 3 + 2, none⟩) hlt2).trans HC2.out
                  clear p8 e8 l8))
              all_goals
                clear f1 f2 t6 g0 g2 g3 g4 hl0 P6 E6 T6 M6 P7 E7 T7 M7
                cases tt with
                | false =>
                  have he8 := L8.out.1 rfl
                  go_wp2_with fail
                  go_roundw
                  case rel => exact ⟨i + 1, O8, L, s8, by go_num, by omega, P8.out, (by rw [he8]; exact F3.out.skip), E8.out, T8.out, M8.out, OM8.out⟩
                  case measure => simp [intOf]; omega
                | true =>
                  obtain ⟨w9, hst, m9, e9⟩ := M8.out.store (g := 9) (by have := F3.out.len; omega) HKZ.out (by decide) OM8.out E8.out.hi
                  have P9 := Lib.hid (P8.out.ext e9 (by decide) (by decide) (by decide) (by decide))
                  have E9 := Lib.hid (E8.out.ext e9)
                  have T9 := Lib.hid (T8.out.ext e9 (by decide))
                  have M9 := Lib.hid m9
                  have OM9 := Lib.hid ((e9.lo m M8.out.lt).trans OM8.out)
                  have F9 := Lib.hid (F3.out.lay HK.out hin L8.out)
                  clear m9 e9
                  go_wp2_with fail
                  go_roundw
                  case rel => exact ⟨i + 1, O8, L ++ [key], s8, by go_num, by omega, P9.out, F9.out, E9.out, T9.out, M9.out, OM9.out⟩
                  case measure => simp [intOf]; omega
          · have d1 : decide ((0 : Int) < (ks.length : Int)) = false := decide_eq_false (by omega)
            go_wp2_with fail
            go_ret
            exact ⟨B, O3, s, rfl, P3.out, E3.out, F3.out.done (by omega)⟩
        · go_wp2_with fail
          go_ret
          exact ⟨B, O3, s, rfl, P3.out, E3.out, F3.out.done (by omega)⟩
end Go.Proofs.YtlcibfpibklbdaaGreat
