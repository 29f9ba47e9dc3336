/- Layer 22: RefsOnce: the walk. -/
import Derived.Test.YtijifjiehldcaaaRfOnceH
import Derived.Deep.DeepCutAuto
namespace Go.Proofs.Ytijifjiehldcaaa
open Go.RowKit
set_option linter.unusedVariables false

def rA : Int := 4294967299
theorem rA_eq : plRef 3 = rA := by decide
theorem rA_all : 0 ≤ rA ∧ rA < 18446744073709551616 ∧ rA ≠ 5 ∧ (5 : Int) ≠ rA ∧ rA ≠ 0 := by decide
def byv (z : Int) : List Value := [.int .u8 z]
theorem byv_len (z : Int) : (byv z).length = 1 := rfl
theorem byv_cell {w : World} {b o : Nat} {l : List Int} (h : ∀ j u, (rowOf byv l)[j]? = some u → w.cell? ⟨b, o + j, none⟩ = some u) (i : Nat) (hi : i < l.length) : w.cell? ⟨b, o + i, none⟩ = some (.int .u8 l[i]) := by
  have := h (i * 1 + 0) _ (rowOf_get byv_len l i 0 hi (by omega))
  rwa [Nat.mul_one, Nat.add_zero] at this
theorem PI.le1 {A : Int} {M : Int → Int} {tk : Bool} {st : Int} {T : Nat → Option (Nat × Tc)} {ld : Nat → Int} {hs : Nat → Bool} {i : Nat} {f : Int} (h : PI A M tk st T ld hs i f) : st ≤ 1 := by
  rw [h.st]; split <;> omega
theorem PI.ge0 {A : Int} {M : Int → Int} {tk : Bool} {st : Int} {T : Nat → Option (Nat × Tc)} {ld : Nat → Int} {hs : Nat → Bool} {i : Nat} {f : Int} (h : PI A M tk st T ld hs i f) : 0 ≤ st := by
  rw [h.st]; split <;> omega
theorem eight (v : Value) (k : Nat) (hk : k < 8) : [v, v, v, v, v, v, v, v][k]? = some v := by
  match k, hk with
  | 0, _ => rfl
  | 1, _ => rfl
  | 2, _ => rfl
  | 3, _ => rfl
  | 4, _ => rfl
  | 5, _ => rfl
  | 6, _ => rfl
  | 7, _ => rfl
theorem RO.start {w0 w : World} {F : Nat → Prop} {p c : Nat} {M : Int → Int} {n : Int} {la : La} (h : Lw w0 w F p c M n la) (e1 e2 e3 : TypeId) (a b d : Nat) (ha : a = w.heap.size) (hb : b = w.heap.size + 1) (hd : d = w.heap.size + 2) :
    RO w0 (((w.alloc (.cells [Value.pointer none, .pointer none, .pointer none, .pointer none, .pointer none, .pointer none, .pointer none, .pointer none].toArray e1)).alloc (.cells [Value.int .u64 0, .int .u64 0, .int .u64 0, .int .u64 0, .int .u64 0, .int .u64 0, .int .u64 0, .int .u64 0].toArray e2)).alloc (.cells [Value.bool false, .bool false, .bool false, .bool false, .bool false, .bool false, .bool false, .bool false].toArray e3)) F p c M n la a b d (fun _ => none) (fun _ => 0) (fun _ => false) := by
  have z1 : ∀ (x : World) (o : Obj), (x.alloc o).heap.size = x.heap.size + 1 := fun x o => by simp
  have b1 : ∀ (x : World) (o : Obj), Below x.heap.size x (x.alloc o) := fun x o => (Below.refl _ _).alloc (Nat.le_refl _) _
  have hlt := h.ce.lts
  have hpl := h.pl
  have hbs := h.bel.size
  have l3 := ((h.go (b1 w (.cells [Value.pointer none, .pointer none, .pointer none, .pointer none, .pointer none, .pointer none, .pointer none, .pointer none].toArray e1))).go (b1 _ (.cells [Value.int .u64 0, .int .u64 0, .int .u64 0, .int .u64 0, .int .u64 0, .int .u64 0, .int .u64 0, .int .u64 0].toArray e2))).go (b1 _ (.cells [Value.bool false, .bool false, .bool false, .bool false, .bool false, .bool false, .bool false, .bool false].toArray e3))
  refine ⟨l3, fun k hk => ?_, fun k hk => ?_, fun k hk => ?_, fun j => ?_, fun j => ?_, fun j => ?_, ⟨by rw [z1, z1, z1]; omega, by rw [z1, z1, z1]; omega, by rw [z1, z1, z1]; omega⟩, ⟨fun hf => by have := hlt _ hf; omega, fun hf => by have := hlt _ hf; omega, fun hf => by have := hlt _ hf; omega⟩, ⟨by omega, by omega, by omega⟩, ⟨by omega, by omega, by omega⟩, ⟨by omega, by omega, by omega⟩, (fun k hk x t hT => by cases hT), (fun k j hk hj x t u hT => by cases hT)⟩
  · rw [(b1 _ _).cell (p := ⟨a, k, none⟩) (by rw [z1, z1]; show a < _; omega), (b1 _ _).cell (p := ⟨a, k, none⟩) (by rw [z1]; show a < _; omega)]
    exact cell_new _ _ _ _ ha k _ (eight _ k hk)
  · rw [(b1 _ _).cell (p := ⟨b, k, none⟩) (by rw [z1, z1]; show b < _; omega)]
    exact cell_new _ _ _ _ (by rw [z1]; exact hb) k _ (eight _ k hk)
  · exact cell_new _ _ _ _ (by rw [z1, z1]; omega) k _ (eight _ k hk)
  · rw [(b1 _ _).frozen (p := ⟨a, j, none⟩) (by rw [z1, z1]; show a < _; omega), (b1 _ _).frozen (p := ⟨a, j, none⟩) (by rw [z1]; show a < _; omega)]
    exact frozen_new _ _ _ _ ha j
  · rw [(b1 _ _).frozen (p := ⟨b, j, none⟩) (by rw [z1, z1]; show b < _; omega)]
    exact frozen_new _ _ _ _ (by rw [z1]; exact hb) j
  · exact frozen_new _ _ _ _ (by rw [z1, z1]; omega) j
/-- Is a new Touch put in the place? -/
def newAt (T : Nat → Option (Nat × Tc)) (j : Nat) : Bool := match T j with | none => true | some xt => tcOver xt.2
theorem newAt_none {T : Nat → Option (Nat × Tc)} {j : Nat} (h : T j = none) : newAt T j = true := by unfold newAt; rw [h]
theorem newAt_some {T : Nat → Option (Nat × Tc)} {j x : Nat} {t : Tc} (h : T j = some (x, t)) : newAt T j = tcOver t := by unfold newAt; rw [h]
theorem newAt_no {T : Nat → Option (Nat × Tc)} {j : Nat} (h : newAt T j = false) : ∃ x t, T j = some (x, t) ∧ t.at_ ≠ 0 := by
  cases hT : T j with
  | none => rw [newAt_none hT] at h; cases h
  | some xt =>
    obtain ⟨x, t⟩ := xt
    rw [newAt_some hT] at h
    exact ⟨x, t, rfl, by unfold tcOver at h; simpa using h⟩
theorem hsAt_same {hs : Nat → Bool} {j : Nat} (h : hs j = true) : hsAt hs j true = hs := by
  funext i
  unfold hsAt
  split
  · rename_i e; rw [e, h]
  · rfl
theorem hsAt_at (hs : Nat → Bool) (j : Nat) (b : Bool) : hsAt hs j b j = b := by unfold hsAt; rw [if_pos rfl]
theorem tAt_at (T : Nat → Option (Nat × Tc)) (j x : Nat) (t : Tc) : tAt T j x t j = some (x, t) := by unfold tAt; rw [if_pos rfl]
set_option maxHeartbeats 8000000 in
set_option maxRecDepth 100000 in
theorem w_RefsOnce (rd f : Int) (v : Value) (l : List Int) (w : World) (r0 : 0 ≤ rd) (r1 : rd ≤ 255) (f0 : 0 ≤ f) (f1 : f ≤ 18446744073709551615) (hg : ∀ z ∈ l, 0 ≤ z ∧ z ≤ 255) (hv : Arr w v l.length 1 (rowOf byv l)) :
    Calls Try.prog 4 #[.int .u8 rd, .int .u64 f, v] w fun e w' => e = .returned (.bool true) ∧ Below w.heap.size w w' := by
  obtain ⟨ao, cp, rfl, hcp, hm⟩ := hv.shape
  have hmx : l.length ≤ 9223372036854775807 := by unfold maxLen at hm; omega
  have HG := Lib.hid hg
  have HA := Lib.hid rA_all
  have hr8 : 0 ≤ rd % 8 := by omega
  have hr9 : rd % 8 < 8 := by omega
  clear hg
  by_cases hbig : 400 < l.length
  · as_aux_lemma =>
    have hd : decide ((400 : Int) < (l.length : Int)) = true := by simp; omega
    go_enter Try.func4, Try.ntmps4
    go_wp2_with fail
    refine (c_World 1 w (by decide) (by decide)).mono ?_
    rintro e w1 ⟨p, c, ip, np, F1, rfl, hS⟩
    have L1 := Lib.hid hS.lw
    clear hS
    go_wp2_with fail
    refine (viaC (c_lives22 _)).mono ?_
    rintro e w' ⟨rfl, m1, rfl⟩
    go_wp2
    go_ret
    exact ⟨rfl, below_via L1.out.bel _⟩
  · have hd : decide ((400 : Int) < (l.length : Int)) = false := by simp; omega
    by_cases hf : 18446744073709550616 < f
    · as_aux_lemma =>
      have hfd : decide (18446744073709550616 < f) = true := by simpa using hf
      go_enter Try.func4, Try.ntmps4
      go_wp2_with fail
      refine (c_World 1 w (by decide) (by decide)).mono ?_
      rintro e w1 ⟨p, c, ip, np, F1, rfl, hS⟩
      have L1 := Lib.hid hS.lw
      clear hS
      go_wp2_with fail
      refine (viaC (c_lives22 _)).mono ?_
      rintro e w' ⟨rfl, m1, rfl⟩
      go_wp2
      go_ret
      exact ⟨rfl, below_via L1.out.bel _⟩
    · have hfd : decide (18446744073709550616 < f) = false := by simpa using hf
      have f2 : f < 18446744073709551616 := by omega
      have hf3 : f ≤ 18446744073709550616 := by omega
      have HF3 := Lib.hid hf3
      clear hf hf3 f1
      go_enter Try.func4, Try.ntmps4
      go_wp2_with fail
      refine (c_World 1 w (by decide) (by decide)).mono ?_
      rintro e w1 ⟨p, c, ip, np, F1, rfl, hS⟩
      have L1 := Lib.hid hS.lw
      clear hS
      go_wp2_with fail
      refine (c_Ref 3 _ (by decide) (by decide)).mono ?_
      rintro e w' ⟨rfl, rfl⟩
      rw [rA_eq]
      have p1 := L1.out.hp
      go_wp2_with fail
      refine (c_StoreL rA f L1.out HA.out.1 HA.out.2.1 f0 f2 (by decide) (by decide)).mono ?_
      rintro e w2 ⟨rfl, F2, l2, g2, h2⟩
      obtain ⟨M, hM⟩ : ∃ M, M = upd (upd (fun _ => 0) 2 (plWord 1 0)) rA f := ⟨_, rfl⟩
      obtain ⟨la, hla⟩ : ∃ la : La, la = ⟨2, rA, upd (fun _ => 0) 2 (plWord 1 0) rA, f⟩ := ⟨_, rfl⟩
      rw [← hM, ← hla] at l2
      have hMA : M rA = f := by rw [hM, upd_same]
      have hM5 : M 5 = 0 := by rw [hM, upd_other _ HA.out.2.2.2.1]; rfl
      have L2 := Lib.hid l2
      have R0 := Lib.hid (RO.start l2 41 42 43 w2.heap.size (w2.heap.size + 1) (w2.heap.size + 1 + 1) rfl rfl rfl)
      have P0 : Hid (PI rA M false (if rfMarked f = true then 1 else 0) (fun _ => none) (fun _ => 0) (fun _ => false) 0 f) := Lib.hid ⟨by rw [hMA]; omega, .inl hM5, (fun h => by cases h), by rw [hMA], (fun k hk x t hT => by cases hT)⟩
      clear l2 g2 h2 p1 hM hla hMA hM5 L2
      go_wp2_with fail
      refine (c_Marked f _ f0 f2).mono ?_
      rintro e w' ⟨rfl, rfl⟩
      obtain ⟨W, hW⟩ : ∃ W, W = ((w2.alloc (.cells [Value.pointer none, .pointer none, .pointer none, .pointer none, .pointer none, .pointer none, .pointer none, .pointer none].toArray 41)).alloc (.cells [Value.int .u64 0, .int .u64 0, .int .u64 0, .int .u64 0, .int .u64 0, .int .u64 0, .int .u64 0, .int .u64 0].toArray 42)).alloc (.cells [Value.bool false, .bool false, .bool false, .bool false, .bool false, .bool false, .bool false, .bool false].toArray 43) := ⟨_, rfl⟩
      rw [← hW] at R0
      rw [← hW]
      clear hW
      go_upto_if 50 with (fail)
      go_cut [14] (fun s wx => (∃ sv : Int, s = .int .i64 sv ∧ sv = if rfMarked f = true then 1 else 0) ∧ wx = W)
      case first =>
        cases hmf : rfMarked f
        all_goals
          go_wp2
          go_meet
          exact ⟨⟨_, rfl, by simp [hmf]⟩, rfl⟩
      case rest =>
        obtain ⟨⟨sv0, rfl, hsv0⟩, rfl⟩ := hcut
        rw [← hsv0] at P0
        clear hsv0
        go_wp2_with fail
        go_loopw [13, 14, 15] (fun tk st i wr => ∃ (k : Nat) (G : Nat → Prop) (M : Int → Int) (n : Int) (la : La) (T : Nat → Option (Nat × Tc)) (ld : Nat → Int) (hs : Nat → Bool) (tb : Bool) (sv : Int), k ≤ l.length ∧ i = .int .i64 k ∧ tk = .bool tb ∧ st = .int .i64 sv ∧ RO w wr G p c M n la w2.heap.size (w2.heap.size + 1) (w2.heap.size + 1 + 1) T ld hs ∧ PI rA M tb sv T ld hs k f ∧ 0 ≤ n ∧ n ≤ 10 + 10 * (k : Int)) (fun _ _ i _ => l.length - (intOf i).toNat)
        case atStart => exact ⟨0, _, _, _, _, _, _, _, false, _, Nat.zero_le _, rfl, rfl, rfl, R0.out, P0.out, by decide, by decide⟩
        case round =>
          obtain ⟨k, G, M1, n, la1, T, ld, hs, tb, sv, hk, rfl, rfl, rfl, hR, hP, hn0, hn1⟩ := hrel
          have HR := Lib.hid hR
          have HP := Lib.hid hP
          have hsz := hR.la'
          have hn2 : n ≤ 4611686018427387904 := by omega
          clear hR hP R0 P0
          by_cases hk2 : k < l.length
          · obtain ⟨b, o, c', he, -, -, hb, hx⟩ := hv.open (by omega) (by omega)
            cases he
            have x0' := byv_cell hx k hk2
            have hz := HG.out l[k] (List.getElem_mem _)
            obtain ⟨u, hu⟩ : ∃ u, u = l[k] := ⟨_, rfl⟩
            rw [← hu] at x0' hz
            have x0 := (HR.out.lw.bel.cell (p := ⟨b, o + k, none⟩) hb).trans x0'
            obtain ⟨j, hj⟩ := Int.eq_ofNat_of_zero_le (show 0 ≤ u % 16 by omega)
            have hj16 : j < 16 := by omega
            have u0 := hz.1
            have u1 := hz.2
            have pp := HR.out.lw.hp
            have hbd := HR.out.lw.ce.bd rA
            obtain ⟨vv, hvv⟩ : ∃ vv, vv = M1 rA := ⟨_, rfl⟩
            have HV := Lib.hid hvv
            have hup := HP.out.up
            rw [← hvv] at hbd hup
            clear hx x0' hz hu hvv hv
            go_wp2_with fail
            refine (c_Peek rA HR.out.lw.ce HA.out.1 HA.out.2.1).mono ?_
            rintro e w' ⟨rfl, rfl⟩
            rw [← HV.out]
            have hf3 := HF3.out
            have hk400 : k < 400 := by omega
            have HVb := Lib.hid (show vv + 1 < 18446744073709551616 by omega)
            have hjx : j = 15 ∨ j = 14 ∨ j = 13 ∨ j ≤ 12 := by omega
            clear hf3 hup
            rcases hjx with h15 | h14 | h13 | h12
            · as_aux_lemma =>
              have e15 : ((j : Int) == 15) = true := by simp [h15]
              clear h15
              go_wp2_with fail
              refine (c_StoreL 5 1 HR.out.lw (by decide) (by decide) (by decide) (by decide) hn0 hn2).mono ?_
              rintro e w3 ⟨rfl, G3, l3, g3, v3⟩
              have R3 := Lib.hid (HR.out.ce l3 g3 v3)
              have P3 := Lib.hid (HP.out.k15 HA.out.2.2.1)
              clear l3 g3 v3 pp
              have pz := R3.out.lw.hp
              have sz : (sv : Int) ≤ 1 := P3.out.le1
              cases tb
              · go_wp2
                go_roundw
                case rel => exact ⟨k + 1, G3, (upd M1 5 1), (n + 1), _, T, ld, hs, false, sv, by omega, by go_num, rfl, rfl, R3.out, P3.out, by omega, by omega⟩
                case measure => simp [intOf]; omega
              · go_wp2_with fail
                refine (c_Peek rA R3.out.lw.ce HA.out.1 HA.out.2.1).mono ?_
                rintro e w' ⟨rfl, rfl⟩
                go_wp2_with fail
                refine (c_Marked _ _ (R3.out.lw.ce.bd rA).1 (R3.out.lw.ce.bd rA).2).mono ?_
                rintro e w' ⟨rfl, rfl⟩
                rw [(P3.out.t5 rfl).2]
                go_wp2
                go_roundw
                case rel => exact ⟨k + 1, G3, (upd M1 5 1), (n + 1), _, T, ld, hs, true, sv, by omega, by go_num, rfl, rfl, R3.out, P3.out, by omega, by omega⟩
                case measure => simp [intOf]; omega
            · as_aux_lemma =>
              have e15 : ((j : Int) == 15) = false := by simp [h14]
              have e14 : ((j : Int) == 14) = true := by simp [h14]
              clear h14
              go_wp2_with fail
              refine (c_StoreL 5 0 HR.out.lw (by decide) (by decide) (by decide) (by decide) hn0 hn2).mono ?_
              rintro e w3 ⟨rfl, G3, l3, g3, v3⟩
              have R3 := Lib.hid (HR.out.ce l3 g3 v3)
              have P3 := Lib.hid (HP.out.k14 HA.out.2.2.1)
              clear l3 g3 v3 pp
              have pz := R3.out.lw.hp
              have sz : (sv : Int) ≤ 1 := P3.out.le1
              go_wp2
              go_roundw
              case rel => exact ⟨k + 1, G3, (upd M1 5 0), (n + 1), _, T, ld, hs, false, sv, by omega, by go_num, rfl, rfl, R3.out, P3.out, by omega, by omega⟩
              case measure => simp [intOf]; omega
            · as_aux_lemma =>
              have e15 : ((j : Int) == 15) = false := by simp [h13]
              have e14 : ((j : Int) == 14) = false := by simp [h13]
              have e13 : ((j : Int) == 13) = true := by simp [h13]
              have hjn : decide ((j : Int) < 1 + rd % 8) = false := by simp; omega
              clear h13
              have PN := Lib.hid HP.out.next
              by_cases h5 : M1 5 = 1
              · have e5 : (M1 5 == 1) = true := by simp [h5]
                have H5 := Lib.hid h5
                clear h5
                go_wp2_with fail
                refine (c_Peek 5 HR.out.lw.ce (by decide) (by decide)).mono ?_
                rintro e w' ⟨rfl, rfl⟩
                go_wp2_with fail
                refine (c_Marked vv _ hbd.1 hbd.2).mono ?_
                rintro e w' ⟨rfl, rfl⟩
                cases hmk : rfMarked vv
                · clear hmk pp
                  have pz := HR.out.lw.hp
                  have sz : (sv : Int) ≤ 1 := PN.out.le1
                  cases tb
                  · go_wp2
                    go_roundw
                    case rel => exact ⟨k + 1, G, M1, n, la1, T, ld, hs, false, sv, by omega, by go_num, rfl, rfl, HR.out, PN.out, by omega, by omega⟩
                    case measure => simp [intOf]; omega
                  · go_wp2_with fail
                    refine (c_Peek rA HR.out.lw.ce HA.out.1 HA.out.2.1).mono ?_
                    rintro e w' ⟨rfl, rfl⟩
                    go_wp2_with fail
                    refine (c_Marked _ _ (HR.out.lw.ce.bd rA).1 (HR.out.lw.ce.bd rA).2).mono ?_
                    rintro e w' ⟨rfl, rfl⟩
                    rw [(PN.out.t5 rfl).2]
                    go_wp2
                    go_roundw
                    case rel => exact ⟨k + 1, G, M1, n, la1, T, ld, hs, true, sv, by omega, by go_num, rfl, rfl, HR.out, PN.out, by omega, by omega⟩
                    case measure => simp [intOf]; omega
                · have hlm := less_marked hbd.1 HVb.out hmk
                  have HL := Lib.hid (show 0 ≤ rfLess vv ∧ rfLess vv < 18446744073709551616 by rw [hlm.1]; exact ⟨by omega, HVb.out⟩)
                  have P3 := Lib.hid (HP.out.k13 HA.out.2.2.2.1 (by rw [← HV.out]; exact hbd.1) (by rw [← HV.out]; exact HVb.out) H5.out (by rw [← HV.out]; exact hmk))
                  clear hlm hmk
                  go_wp2_with fail
                  go_region_held3 (fun w' => w'.cell? ⟨p, 0, none⟩ = some (.pointer (some ⟨c, 0, none⟩))) (go_keep)
                    (first
                      | (go_at_call 10; refine (c_Less vv _ hbd.1 hbd.2).mono ?_; rintro e w' ⟨rfl, rfl⟩)
                      | (go_at_call 15
                         refine (c_StoreL rA (rfLess vv) (HR.out.lw.go (Below.refl _ _).drew) HA.out.1 HA.out.2.1 HL.out.1 HL.out.2 hn0 hn2).mono ?_
                         rintro e w3 ⟨rfl, G3, l3, g3, v3⟩
                         have p3 := l3.hp
                         have R3 := Lib.hid ((HR.out.go (Below.refl _ _).drew).ce l3 g3 v3)
                         clear l3 g3 v3))
                  all_goals
                    rw [HV.out] at R3
                    clear pp p3
                    have pz := R3.out.lw.hp
                    have sz : (0 : Int) ≤ 1 := P3.out.le1
                    go_wp2_with fail
                    refine (c_Peek rA R3.out.lw.ce HA.out.1 HA.out.2.1).mono ?_
                    rintro e w' ⟨rfl, rfl⟩
                    go_wp2_with fail
                    refine (c_Marked _ _ (R3.out.lw.ce.bd rA).1 (R3.out.lw.ce.bd rA).2).mono ?_
                    rintro e w' ⟨rfl, rfl⟩
                    rw [(P3.out.t5 rfl).2]
                    go_wp2
                    go_roundw
                    case rel => exact ⟨k + 1, G3, (upd M1 rA (rfLess (M1 rA))), (n + 1), _, T, ld, hs, true, 0, by omega, by go_num, rfl, rfl, R3.out, P3.out, by omega, by omega⟩
                    case measure => simp [intOf]; omega
              · have e5 : (M1 5 == 1) = false := by simpa using h5
                clear h5
                go_wp2_with fail
                refine (c_Peek 5 HR.out.lw.ce (by decide) (by decide)).mono ?_
                rintro e w' ⟨rfl, rfl⟩
                clear pp
                have pz := HR.out.lw.hp
                have sz : (sv : Int) ≤ 1 := PN.out.le1
                cases tb
                · go_wp2
                  go_roundw
                  case rel => exact ⟨k + 1, G, M1, n, la1, T, ld, hs, false, sv, by omega, by go_num, rfl, rfl, HR.out, PN.out, by omega, by omega⟩
                  case measure => simp [intOf]; omega
                · go_wp2_with fail
                  refine (c_Peek rA HR.out.lw.ce HA.out.1 HA.out.2.1).mono ?_
                  rintro e w' ⟨rfl, rfl⟩
                  go_wp2_with fail
                  refine (c_Marked _ _ (HR.out.lw.ce.bd rA).1 (HR.out.lw.ce.bd rA).2).mono ?_
                  rintro e w' ⟨rfl, rfl⟩
                  rw [(PN.out.t5 rfl).2]
                  go_wp2
                  go_roundw
                  case rel => exact ⟨k + 1, G, M1, n, la1, T, ld, hs, true, sv, by omega, by go_num, rfl, rfl, HR.out, PN.out, by omega, by omega⟩
                  case measure => simp [intOf]; omega
            · have e15 : ((j : Int) == 15) = false := by simp; omega
              have e14 : ((j : Int) == 14) = false := by simp; omega
              have e13 : ((j : Int) == 13) = false := by simp; omega
              have PN := Lib.hid HP.out.next
              by_cases hjn : (j : Int) < 1 + rd % 8
              · have hj8 : j < 8 := by omega
                have hji : (j : Int) < 8 := by omega
                have hj0 : (0 : Int) ≤ (j : Int) := by omega
                have hjd : decide ((j : Int) < 1 + rd % 8) = true := by simpa using hjn
                obtain ⟨nw, hnw⟩ : ∃ nw : Bool, nw = newAt T j := ⟨_, rfl⟩
                have HNW := Lib.hid hnw
                clear hnw hjn PN h12
                go_upto_region 30 with (fail)
                go_cut [119] (fun s wx => s = .bool nw ∧ wx = wr)
                case first =>
                  as_aux_lemma =>
                  have ca := HR.out.ca j hj8
                  cases hT : T j with
                  | none =>
                    have HB := Lib.hid (HNW.out.trans (newAt_none hT))
                    rw [hT] at ca
                    simp only [tptr] at ca
                    clear hT
                    go_wp2
                    go_meet
                    exact ⟨by rw [HB.out], rfl⟩
                  | some xt =>
                    obtain ⟨x, t⟩ := xt
                    have HB := Lib.hid (HNW.out.trans (newAt_some hT))
                    have tk := (HR.out.tk j hj8 x t hT).1.ta
                    rw [hT] at ca
                    simp only [tptr] at ca
                    clear hT
                    go_wp2_with fail
                    refine (c_Over x t _ tk).mono ?_
                    rintro e w' ⟨rfl, rfl⟩
                    clear tk
                    go_wp2
                    go_meet
                    exact ⟨by rw [HB.out], rfl⟩
                case rest =>
                  obtain ⟨rfl, rfl⟩ := hcut
                  go_upto_if 119 with (fail)
                  go_cut [] (fun wx => ∃ (T' : Nat → Option (Nat × Tc)) (hs' : Nat → Bool) (x : Nat) (t : Tc), RO w wx G p c M1 n la1 w2.heap.size (w2.heap.size + 1) (w2.heap.size + 1 + 1) T' ld hs' ∧ PI rA M1 tb sv T' ld hs' k f ∧ T' j = some (x, t) ∧ t.at_ ≠ 0)
                  case first =>
                    as_aux_lemma =>
                    cases nw
                    · obtain ⟨x, t, hT, ha⟩ := newAt_no HNW.out.symm
                      have HT := Lib.hid hT
                      have HAt := Lib.hid ha
                      clear hT ha
                      go_wp2
                      go_meet
                      exact ⟨T, hs, x, t, HR.out, HP.out, HT.out, HAt.out⟩
                    · go_wp2_with fail
                      refine (c_NewT HR.out.lw 3 (by decide) (by decide)).mono ?_
                      rintro e w3 ⟨x, rfl, l3, k3, xp, xb, xs, hb3⟩
                      rw [rA_eq] at k3
                      have R3 := Lib.hid (HR.out.go hb3)
                      have R4 := Lib.hid (HR.out.setA j hj8 x (tcNew rA) l3 k3 xp xb xs hb3)
                      have R5 := Lib.hid (R4.out.setD j hj8 false)
                      have P5 := Lib.hid (HP.out.fresh j x)
                      have c1 := R3.out.ca j hj8
                      have c2 := R3.out.fa j
                      have c3 := R4.out.cd j hj8
                      have c4 := R4.out.fd j
                      clear l3 k3 xp xb xs hb3
                      go_wp2
                      go_meet
                      exact ⟨_, _, x, tcNew rA, R5.out, P5.out, tAt_at _ _ _ _, HA.out.2.2.2.2⟩
                  case rest =>
                    obtain ⟨T', hs', x, t, hR', hP', hT', ha'⟩ := hcut
                    clear HR HP HNW pp hsz x0
                    have tk := hR'.tk j hj8 x t hT'
                    obtain ⟨hok, hsay, hpi⟩ := hP'.step HA.out.2.2.2.1 HA.out.2.2.2.2 ⟨HA.out.1, HA.out.2.1⟩ hR'.lw.ce.bd j x t hj8 hT' ha' n la1
                    have ca := hR'.ca j hj8
                    rw [hT'] at ca
                    simp only [tptr] at ca
                    have HR := Lib.hid hR'
                    have HT := Lib.hid hT'
                    have HS := Lib.hid (hR'.lw.ts tk.1.ta tk.1.tn tk.2.1)
                    have hzn := tcStep_n ⟨M1, n, la1, t⟩
                    obtain ⟨z, hz⟩ : ∃ z, z = tcStep ⟨M1, n, la1, t⟩ := ⟨_, rfl⟩
                    rw [← hz] at hsay hpi hzn
                    have hz0 : 0 ≤ z.n := Int.le_trans hn0 hzn.2
                    have hz1 : z.n ≤ n + 1 := hzn.1
                    have HZ := Lib.hid hz
                    have HOK := Lib.hid hok
                    have HSY := Lib.hid hsay
                    have HPI := Lib.hid hpi
                    have hs0 := hP'.ge0
                    clear hR' hP' hT' ha' tk hok hsay hpi hz hzn
                    go_wp2_with fail
                    refine (c_Step _ _ _ _ _ ⟨M1, n, la1, t⟩ HS.out HOK.out hn0 hn2).mono ?_
                    intro e w5 hp5
                    obtain ⟨rfl, F5, hR5⟩ := HR.out.stepped j hj8 x t HT.out hp5
                    rw [← HZ.out] at hR5 ⊢
                    have HR5 := Lib.hid hR5
                    have cd5 := hR5.cd j hj8
                    clear hp5 hR5 ca HS HOK HZ HR HT
                    cases hh : hs' j
                    · as_aux_lemma =>
                      rw [hh] at cd5
                      have f1 := HSY.out.f1 hh
                      have hM := HSY.out.f2 f1.2
                      have HD := Lib.hid f1.2
                      rw [← HV.out] at f1 hM
                      have P6 := HPI.out
                      rw [hh, HD.out, ← HV.out] at P6
                      simp only [if_neg (show ¬ (false = true) by decide), Int.add_zero] at P6
                      have P6 := Lib.hid P6
                      have R6a := Lib.hid (HR5.out.setB j hj8 vv)
                      have R6 := Lib.hid (R6a.out.setD j hj8 true)
                      have c1 := HR5.out.cb j hj8
                      have c2 := HR5.out.fb j
                      have c3 := R6a.out.cd j hj8
                      have c4 := R6a.out.fd j
                      have HF := Lib.hid f1.1
                      have HM := Lib.hid hM
                      clear f1 hM hh
                      go_wp2_with fail
                      refine (c_Marked vv _ hbd.1 hbd.2).mono ?_
                      rintro e w' ⟨rfl, rfl⟩
                      rw [HF.out]
                      have ca := R6.out.ca j hj8
                      rw [tAt_at] at ca
                      simp only [tptr] at ca
                      have tk := R6.out.tk j hj8 x z.t (tAt_at _ _ _ _)
                      have hp6 := R6.out.lw.hp
                      go_wp2_with fail
                      refine (c_Peek rA R6.out.lw.ce HA.out.1 HA.out.2.1).mono ?_
                      rintro e w' ⟨rfl, rfl⟩
                      rw [HM.out]
                      go_wp2_with fail
                      refine (c_Done x z.t _ tk.1.ta).mono ?_
                      rintro e w' ⟨rfl, rfl⟩
                      rw [HD.out]
                      go_wp2_with fail
                      refine (c_Done x z.t _ tk.1.ta).mono ?_
                      rintro e w' ⟨rfl, rfl⟩
                      rw [HD.out]
                      go_wp2_with fail
                      refine (c_Done x z.t _ tk.1.ta).mono ?_
                      rintro e w' ⟨rfl, rfl⟩
                      rw [HD.out]
                      clear c1 c2 c3 c4 ca tk hp6 cd5
                      have pz := R6.out.lw.hp
                      have sz : (sv : Int) ≤ 1 := P6.out.le1
                      cases tb
                      · go_wp2
                        go_roundw
                        case rel => exact ⟨k + 1, F5, z.M, z.n, z.la, (tAt T' j x z.t), (ldAt ld j vv), (hsAt hs' j true), false, sv, by omega, by go_num, rfl, rfl, R6.out, P6.out, by omega, by omega⟩
                        case measure => simp [intOf]; omega
                      · go_wp2_with fail
                        refine (c_Peek rA R6.out.lw.ce HA.out.1 HA.out.2.1).mono ?_
                        rintro e w' ⟨rfl, rfl⟩
                        go_wp2_with fail
                        refine (c_Marked _ _ (R6.out.lw.ce.bd rA).1 (R6.out.lw.ce.bd rA).2).mono ?_
                        rintro e w' ⟨rfl, rfl⟩
                        rw [(P6.out.t5 rfl).2]
                        go_wp2
                        go_roundw
                        case rel => exact ⟨k + 1, F5, z.M, z.n, z.la, (tAt T' j x z.t), (ldAt ld j vv), (hsAt hs' j true), true, sv, by omega, by go_num, rfl, rfl, R6.out, P6.out, by omega, by omega⟩
                        case measure => simp [intOf]; omega
                    · as_aux_lemma =>
                      rw [hh] at cd5
                      have ca := HR5.out.ca j hj8
                      rw [tAt_at] at ca
                      simp only [tptr] at ca
                      have tk := HR5.out.tk j hj8 x z.t (tAt_at _ _ _ _)
                      have hp6 := HR5.out.lw.hp
                      cases hd2 : z.t.done
                      · as_aux_lemma =>
                        have hM := HSY.out.f2 hd2
                        rw [← HV.out] at hM
                        have P6 := HPI.out
                        rw [hh, hd2, hsAt_same hh] at P6
                        simp only [if_neg (show ¬ (false = true) by decide), if_true, Int.add_zero] at P6
                        have P6 := Lib.hid P6
                        have HD := Lib.hid hd2
                        have HM := Lib.hid hM
                        clear hM hh hd2
                        go_wp2_with fail
                        refine (c_Peek rA HR5.out.lw.ce HA.out.1 HA.out.2.1).mono ?_
                        rintro e w' ⟨rfl, rfl⟩
                        rw [HM.out]
                        go_wp2_with fail
                        refine (c_Done x z.t _ tk.1.ta).mono ?_
                        rintro e w' ⟨rfl, rfl⟩
                        rw [HD.out]
                        go_wp2_with fail
                        refine (c_Done x z.t _ tk.1.ta).mono ?_
                        rintro e w' ⟨rfl, rfl⟩
                        rw [HD.out]
                        go_wp2_with fail
                        refine (c_Done x z.t _ tk.1.ta).mono ?_
                        rintro e w' ⟨rfl, rfl⟩
                        rw [HD.out]
                        clear ca tk hp6 cd5
                        have pz := HR5.out.lw.hp
                        have sz : (sv : Int) ≤ 1 := P6.out.le1
                        cases tb
                        · go_wp2
                          go_roundw
                          case rel => exact ⟨k + 1, F5, z.M, z.n, z.la, (tAt T' j x z.t), ld, hs', false, sv, by omega, by go_num, rfl, rfl, HR5.out, P6.out, by omega, by omega⟩
                          case measure => simp [intOf]; omega
                        · go_wp2_with fail
                          refine (c_Peek rA HR5.out.lw.ce HA.out.1 HA.out.2.1).mono ?_
                          rintro e w' ⟨rfl, rfl⟩
                          go_wp2_with fail
                          refine (c_Marked _ _ (HR5.out.lw.ce.bd rA).1 (HR5.out.lw.ce.bd rA).2).mono ?_
                          rintro e w' ⟨rfl, rfl⟩
                          rw [(P6.out.t5 rfl).2]
                          go_wp2
                          go_roundw
                          case rel => exact ⟨k + 1, F5, z.M, z.n, z.la, (tAt T' j x z.t), ld, hs', true, sv, by omega, by go_num, rfl, rfl, HR5.out, P6.out, by omega, by omega⟩
                          case measure => simp [intOf]; omega
                      · as_aux_lemma =>
                        obtain ⟨q1, -, q2, q3, q4, q5⟩ := HSY.out.f3 hd2
                        have P6 := HPI.out
                        rw [hh, hd2, hsAt_same hh] at P6
                        simp only [if_true] at P6
                        rw [← HV.out] at q2 q3 q4 q5
                        have cb := HR5.out.cb j hj8
                        rw [← q2] at cb
                        have P6 := Lib.hid P6
                        have HD := Lib.hid hd2
                        have HM := Lib.hid q3
                        have HQ1 := Lib.hid q1
                        have HQ4 := Lib.hid q4
                        have HQ5 := Lib.hid q5
                        have hv1 : vv + 1 < 18446744073709551616 := HVb.out
                        have hv2 : ¬ vv + 1 = vv := by omega
                        have hv3 : 0 ≤ vv + 1 := by omega
                        have hv5 : (vv + 1 != vv) = true := by simp; omega
                        have hv4 : (vv + 1) % 18446744073709551616 = vv + 1 := Int.emod_eq_of_lt hv3 hv1
                        have hsv := P6.out.le1
                        clear q1 q2 q3 q4 q5 hh hd2
                        rw [HQ1.out]
                        go_wp2_with fail
                        refine (c_Peek rA HR5.out.lw.ce HA.out.1 HA.out.2.1).mono ?_
                        rintro e w' ⟨rfl, rfl⟩
                        rw [HM.out]
                        go_wp2_with fail
                        refine (c_Done x z.t _ tk.1.ta).mono ?_
                        rintro e w' ⟨rfl, rfl⟩
                        rw [HD.out]
                        go_wp2_with fail
                        refine (c_Done x z.t _ tk.1.ta).mono ?_
                        rintro e w' ⟨rfl, rfl⟩
                        rw [HD.out]
                        go_wp2_with fail
                        refine (c_Marked (vv + 1) _ hv3 hv1).mono ?_
                        rintro e w' ⟨rfl, rfl⟩
                        rw [HQ4.out]
                        go_wp2_with fail
                        refine (c_Marked vv _ hbd.1 hbd.2).mono ?_
                        rintro e w' ⟨rfl, rfl⟩
                        rw [HQ5.out]
                        go_wp2_with fail
                        refine (c_Done x z.t _ tk.1.ta).mono ?_
                        rintro e w' ⟨rfl, rfl⟩
                        rw [HD.out]
                        clear ca tk hp6 cd5 cb
                        have pz := HR5.out.lw.hp
                        have sz : ((sv + 1) : Int) ≤ 1 := P6.out.le1
                        cases tb
                        · go_wp2
                          go_roundw
                          case rel => exact ⟨k + 1, F5, z.M, z.n, z.la, (tAt T' j x z.t), ld, hs', false, (sv + 1), by omega, by go_num, rfl, rfl, HR5.out, P6.out, by omega, by omega⟩
                          case measure => simp [intOf]; omega
                        · go_wp2_with fail
                          refine (c_Peek rA HR5.out.lw.ce HA.out.1 HA.out.2.1).mono ?_
                          rintro e w' ⟨rfl, rfl⟩
                          go_wp2_with fail
                          refine (c_Marked _ _ (HR5.out.lw.ce.bd rA).1 (HR5.out.lw.ce.bd rA).2).mono ?_
                          rintro e w' ⟨rfl, rfl⟩
                          rw [(P6.out.t5 rfl).2]
                          go_wp2
                          go_roundw
                          case rel => exact ⟨k + 1, F5, z.M, z.n, z.la, (tAt T' j x z.t), ld, hs', true, (sv + 1), by omega, by go_num, rfl, rfl, HR5.out, P6.out, by omega, by omega⟩
                          case measure => simp [intOf]; omega
              · as_aux_lemma =>
                have hjd : decide ((j : Int) < 1 + rd % 8) = false := by simpa using hjn
                clear pp hjn
                have pz := HR.out.lw.hp
                have sz : (sv : Int) ≤ 1 := PN.out.le1
                cases tb
                · go_wp2
                  go_roundw
                  case rel => exact ⟨k + 1, G, M1, n, la1, T, ld, hs, false, sv, by omega, by go_num, rfl, rfl, HR.out, PN.out, by omega, by omega⟩
                  case measure => simp [intOf]; omega
                · go_wp2_with fail
                  refine (c_Peek rA HR.out.lw.ce HA.out.1 HA.out.2.1).mono ?_
                  rintro e w' ⟨rfl, rfl⟩
                  go_wp2_with fail
                  refine (c_Marked _ _ (HR.out.lw.ce.bd rA).1 (HR.out.lw.ce.bd rA).2).mono ?_
                  rintro e w' ⟨rfl, rfl⟩
                  rw [(PN.out.t5 rfl).2]
                  go_wp2
                  go_roundw
                  case rel => exact ⟨k + 1, G, M1, n, la1, T, ld, hs, true, sv, by omega, by go_num, rfl, rfl, HR.out, PN.out, by omega, by omega⟩
                  case measure => simp [intOf]; omega
          · as_aux_lemma =>
            clear hv
            go_wp2_with fail
            refine (viaC (c_lives22 _)).mono ?_
            rintro e w' ⟨rfl, m1, rfl⟩
            go_wp2
            go_ret
            exact ⟨rfl, below_via HR.out.lw.bel _⟩
end Go.Proofs.Ytijifjiehldcaaa
