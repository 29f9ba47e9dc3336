/- Layer 23: HandsFirst. -/
import Derived.Test.YtlcibfpibklbdaaGreatHwW
import Derived.Test.YtlcibfpibklbdaaGreatHm
namespace Go.Proofs.YtlcibfpibklbdaaGreat
set_option linter.unusedSimpArgs false
open Go.RowKit Go.Shelf
set_option linter.unusedVariables false
/-- An array of 64 words of which n are laid. -/
def u64r (I : Nat → Int) (n : Nat) : List Value := (List.range 64).map fun j => .int .u64 (if j < n then I j else 0)
theorem u64r_len (I : Nat → Int) (n : Nat) : (u64r I n).length = 64 := by unfold u64r; rw [List.length_map, List.length_range]
theorem u64r_get {I : Nat → Int} {n j : Nat} (hj : j < 64) : (u64r I n)[j]? = some (.int .u64 (if j < n then I j else 0)) := by unfold u64r; rw [List.getElem?_map, List.getElem?_range hj]; rfl
theorem u64r_in {I : Nat → Int} {n j : Nat} (hj : j < 64) (hn : j < n) : (u64r I n)[j]? = some (.int .u64 (I j)) := by rw [u64r_get hj, if_pos hn]
theorem u64r_set {I : Nat → Int} {n : Nat} (hn : n < 64) : (u64r I n).set n (.int .u64 (I n)) = u64r I (n + 1) := by
  refine List.ext_getElem? fun i => ?_
  rw [List.getElem?_set, u64r_len]
  by_cases hi : i < 64
  · rw [u64r_get hi, u64r_get hi]
    by_cases c : n = i
    · subst c; rw [if_pos rfl, if_pos hn, if_pos (by omega)]
    · rw [if_neg c]
      by_cases d : i < n
      · rw [if_pos d, if_pos (by omega)]
      · rw [if_neg d, if_neg (by omega)]
  · rw [List.getElem?_eq_none (by rw [u64r_len]; omega), if_neg (by omega), List.getElem?_eq_none (by rw [u64r_len]; omega)]
def u64z : List Value := List.replicate 64 (.int .u64 0)
theorem u64r_zero (I : Nat → Int) : u64r I 0 = u64z := by
  unfold u64r u64z
  rw [show (fun j => Value.int IntKind.u64 (if j < 0 then I j else 0)) = fun _ => Value.int IntKind.u64 0 from funext fun j => by rw [if_neg (by omega)]]
  rw [List.map_const', List.length_range]
/-- What a hand left, as the law asks it. -/
structure HfR (b fr : Int) (M M' : Int → Int) (A k : Nat) (rd : Bool) : Prop where
  c4 : M' 4 = (fr + k + 1) % (A : Int)
  c5 : M' 5 = 0
  c6 : M' 6 = (M 6 + 18446744073709551615) % 18446744073709551616
  ver : M' (plAt b (fr + k)).ver = 2
  itk : waI b fr M' k = 0
  ito : ∀ n, n < A → n ≠ k → waI b fr M' n = waI b fr M n
  mk1 : ∀ n, n < A → waI b fr M n ≠ 0 → waM b fr M n % 2 = 1 → (rd = true ∨ n < k) → M' (plRef (waI b fr M n)) = waM b fr M n + 1
  mk0 : ∀ n, n < A → ¬ (waI b fr M n ≠ 0 ∧ waM b fr M n % 2 = 1 ∧ (rd = true ∨ n < k)) → M' (plRef (waI b fr M n)) = waM b fr M n
/-- Is no item unmarked? -/
def rdB (b fr : Int) (M : Int → Int) (n : Nat) : Bool := decide (∀ j, j < n → waI b fr M j = 0 ∨ waM b fr M j % 2 = 1)
theorem rdB_more {b fr : Int} {M : Int → Int} {n : Nat} (h : waI b fr M n = 0 ∨ waM b fr M n % 2 = 1) : rdB b fr M (n + 1) = rdB b fr M n := by
  unfold rdB
  rw [decide_eq_decide]
  exact ⟨fun k j hj => k j (by omega), fun k j hj => by
    by_cases c : j = n
    · subst c; exact h
    · exact k j (by omega)⟩
theorem rdB_not {b fr : Int} {M : Int → Int} {n : Nat} (h0 : waI b fr M n ≠ 0) (h1 : waM b fr M n % 2 = 0) : rdB b fr M (n + 1) = false := by
  unfold rdB
  refine decide_eq_false fun k => ?_
  have := k n (by omega)
  omega
theorem HfR.of {b fr : Int} {M M' : Int → Int} {A k R : Nat} (hA : (A : Int) = plSpots b) (h : HfPost b fr M k R M') (hk : k < A) (hv : M (plAt b (fr + k)).ver = 0)
    (hR : (R = A ∧ rdB b fr M A = true) ∨ (R = k ∧ rdB b fr M A = false)) (hb : ∀ n, n < R → waI b fr M n = 0 ∨ waM b fr M n % 2 = 1) : HfR b fr M M' A k (rdB b fr M A) := by
  have hRA : R ≤ A := by omega
  refine ⟨by rw [hA]; exact h.c4, h.c5, h.c6, by rw [h.ver, hv]; rfl, h.itk, fun n hn hne => h.ito n (by omega) hne, fun n hn hz ho hr => ?_, fun n hn hno => ?_⟩
  · refine h.mk1 n ?_ hz
    rcases hR with ⟨h1, h2⟩ | ⟨h1, h2⟩
    · omega
    · rw [h2] at hr; rcases hr with hr | hr
      · cases hr
      · omega
  · by_cases hz : waI b fr M n = 0
    · unfold waM; rw [hz]; exact h.z
    · by_cases c : n < R
      · exfalso
        have := (hb n c).resolve_left hz
        refine hno ⟨hz, this, ?_⟩
        rcases hR with ⟨h1, h2⟩ | ⟨h1, h2⟩
        · exact .inl h2
        · exact .inr (by omega)
      · exact h.mk0 n (by omega) (by omega) hz
/-- What a run of a hand leaves, by what want told. -/
theorem hf_run {b fr : Int} {s : AW} {A : Nat} {kv : Int} (H : HfI b fr s.M) (hA : (A : Int) = plSpots b) (hv : ∀ p : Spt, p.ok → s.M p.ver = 0) (h : WaR b fr s.M A kv) (most : Nat) (hm : 7 * (A : Int) + 20 ≤ most) :
    ∃ c y z, runN evOver evStep most (s, evNew) = (c, y, z) ∧ (c : Int) ≤ 6 * A + 11 ∧ z.ln = 0 ∧
      ((kv = -1 ∧ evGot z = (0, ⟨0, 0, 0⟩) ∧ y.M 5 = 0 ∧ y.M 6 = s.M 6 ∧ y.M 4 = fr) ∨ ∃ k : Nat, kv = k ∧ k < A ∧ waI b fr s.M k ≠ 0 ∧ evGot z = (waI b fr s.M k, plAt b (fr + k)) ∧ HfR b fr s.M y.M A k (rdB b fr s.M A)) := by
  rw [hA] at hm ⊢
  cases h with
  | none hz =>
    obtain ⟨c, y, z, h1, h2, h3, h4, h5, h6, h7⟩ := H.nothing (fun n hn => hz n (by omega)) most hm
    refine ⟨c, y, z, h1, h2, h3, .inl ⟨rfl, ?_, h5, h6, h7⟩⟩
    unfold evGot
    rw [if_neg (fun q => q.2 h4)]
  | one k hk hz he hb =>
    obtain ⟨c, y, z, h1, h2, h3, h4, h5⟩ := H.first k (by omega) hz he hb most hm
    exact ⟨c, y, z, h1, h2, h3, .inr ⟨k, rfl, hk, hz, h4, .of hA h5 hk (hv _ (plAt_ok b _)) (.inr ⟨rfl, decide_eq_false fun q => by have := (q k hk).resolve_left hz; unfold waM at this he; omega⟩) hb⟩⟩
  | round k hk hz hb ho =>
    obtain ⟨c, y, z, h1, h2, h3, h4, h5⟩ := H.second k (by omega) hz hb (fun n hn => ho n (by omega)) most hm
    have hAn : (plSpots b).toNat = A := by omega
    rw [hAn] at h5
    exact ⟨c, y, z, h1, h2, h3, .inr ⟨k, rfl, hk, hz, h4, .of hA h5 hk (hv _ (plAt_ok b _)) (.inl ⟨rfl, decide_eq_true ho⟩) ho⟩⟩
theorem sx50 {b j : Nat} (h : j ≤ 40) (hb : b ≤ 40) : ¬ SX 10 b (j + 50) := fun k => by rcases k with k | k <;> omega
theorem c_Odd (v : Int) (w : World) (v0 : 0 ≤ v) (v1 : v < 18446744073709551616) : Calls Tryz.prog 27 #[.int .u64 v] w fun e w' => e = .returned (.bool (rfMarked v)) ∧ w = w' := by
  have h := u64_mark v v0 v1
  go_enter Tryz.func27, Tryz.ntmps27
  go_wp2
  go_ret
  exact ⟨ret_bool (by unfold rfMarked; rw [Bool.eq_iff_iff]; simp), rfl⟩
set_option maxHeartbeats 8000000 in
set_option maxRecDepth 100000 in
theorem w_HandsFirst (v : Value) (F : Ful) (vm : Value) (ml : List Int) (hand : Int) (w : World) (g : FulBd F) (c : FulAt w v F) (gm : ∀ z ∈ ml, 0 ≤ z ∧ z ≤ 255) (cm : Arr w vm ml.length 1 (rowOf byArg ml)) (h0 : 0 ≤ hand) (h1 : hand ≤ 18446744073709551615) :
    Calls Tryz.prog 4 #[v, vm, .int .u64 hand] w fun e w' => e = .returned (.bool true) ∧ Below w.heap.size w w' := by
  obtain ⟨am, cc, rfl, hcc, hmm⟩ := cm.shape
  have HG : Hid (∀ W, Below w.heap.size w W → Calls Tryz.prog 13 #[v] W (FulGreat W F)) := Lib.hid fun W hb => c_Great17 (c.below hb) g
  have HM : Hid (∀ W, Below w.heap.size w W → F.ks.length ≤ 40 → F.ly.length ≤ 80 → ml.length ≤ 40 → Calls Tryz.prog 15 #[v, .slice am ml.length cc, .int .u64 hand] W (MarkPost W F ml hand)) := Lib.hid fun W hb hk hl hm => c_marked (c.below hb) g hk hl (cm.below hb) gm hm h0 (by omega)
  obtain ⟨vk, vl, vs, rfl, -, -, -⟩ := c.ex
  obtain ⟨b, hb⟩ : ∃ b, b = fulB F := ⟨_, rfl⟩
  have hbi : 1 ≤ b ∧ b ≤ 3 := by rw [hb]; unfold fulB; have := g.b0; omega
  have HML := Lib.hid gm
  have hmx : ml.length ≤ 9223372036854775807 := by unfold maxLen at hmm; omega
  unfold MarkPost at HM
  unfold FulGreat at HG
  rw [← hb] at HM
  unfold fulV at HG HM ⊢
  clear c g hb gm cm
  go_enter Tryz.func4, Tryz.ntmps4
  have hbox := fulBox (w := w) (F := F) (vk := vk) (vl := vl) (vs := vs) 26
  unfold fulC at hbox
  have hb0 := (Below.refl w.heap.size w).alloc (Nat.le_refl _) (.cells #[.int .u8 F.bi, vk, vl, .string F.ky, .int .u8 F.mo, vs] 26)
  have hl0 : w.heap.size < (w.alloc (.cells #[.int .u8 F.bi, vk, vl, .string F.ky, .int .u8 F.mo, vs] 26)).heap.size := by simp
  have y0 := hbox 0 _ rfl
  have y1 := hbox 1 _ rfl
  have y2 := hbox 2 _ rfl
  have y3 := hbox 3 _ rfl
  have y4 := hbox 4 _ rfl
  have y5 := hbox 5 _ rfl
  go_wp2_with fail
  obtain ⟨W0, hW0⟩ : ∃ W, W = w.alloc (.cells #[.int .u8 F.bi, vk, vl, .string F.ky, .int .u8 F.mo, vs] 26) := ⟨_, rfl⟩
  rw [← hW0] at hbox hb0 hl0 ⊢
  have HB0 := Lib.hid hb0
  have HL0 := Lib.hid hl0
  have HBX := Lib.hid hbox
  clear hW0 y0 y1 y2 y3 y4 y5 hbox hb0 hl0
  refine (HG.out W0 HB0.out).mono ?_
  rintro e w1 ⟨gr, rfl, hb1, hg⟩
  have B1 : Hid (Below w.heap.size w w1) := Lib.hid (HB0.out.trans (hb1.mono HB0.out.size))
  have fin : Hid (∀ w2, Below w1.heap.size w1 w2 → Below w.heap.size w w2) := Lib.hid fun w2 hb2 => B1.out.trans (hb2.mono B1.out.size)
  cases gr with
  | true =>
    clear hg hb1
    go_wp2_with fail
    refine (c_lives23 w1).mono ?_
    rintro e w2 ⟨rfl, hb2⟩
    go_wp2_with fail
    go_ret
    exact ⟨rfl, fin.out w2 hb2⟩
  | false =>
  by_cases hml : 40 < ml.length
  · have d0 : decide ((40 : Int) < (ml.length : Int)) = true := decide_eq_true (by omega)
    clear hg hb1
    go_wp2_with fail
    refine (c_lives23 w1).mono ?_
    rintro e w2 ⟨rfl, hb2⟩
    go_wp2_with fail
    go_ret
    exact ⟨rfl, fin.out w2 hb2⟩
  · have d0 : decide ((40 : Int) < (ml.length : Int)) = false := decide_eq_false (by omega)
    obtain ⟨hks, hly, -⟩ := hg rfl
    have hbx : ∀ j u, [Value.int .u8 F.bi, vk, vl, .string F.ky, .int .u8 F.mo, vs][j]? = some u → w1.cell? ⟨w.heap.size, j, none⟩ = some u := fun j u hu => (hb1.cell (p := ⟨w.heap.size, j, none⟩) HL0.out).trans (HBX.out j u hu)
    have y0 := hbx 0 _ rfl
    have y1 := hbx 1 _ rfl
    have y2 := hbx 2 _ rfl
    have y3 := hbx 3 _ rfl
    have y4 := hbx 4 _ rfl
    have y5 := hbx 5 _ rfl
    clear hg hb1 hbx HBX HL0 HB0 HG
    go_wp2_with fail
    refine (HM.out w1 B1.out hks hly (by omega)).mono ?_
    rintro e w2 ⟨B, O2, s, rfl, hL, hS⟩
    clear y0 y1 y2 y3 y4 y5 HM
    have L2 := Lib.hid (hL.from B1.out)
    have HS := Lib.hid hS
    have HF := Lib.hid (hS.hf hks HML.out)
    have HIT := Lib.hid (hS.item hks)
    have hwd := hS.wd
    clear hL hS B1
    have p0 := L2.out.p.wo.c0
    have HPK := Lib.hid (L2.out.peek 2 (by decide) (by decide) w2 (Below.refl _ _))
    rw [hwd] at HPK
    have HWD := Lib.hid hwd
    clear hwd
    go_wp2_with fail
    refine HPK.out.mono ?_
    rintro e w' ⟨rfl, rfl⟩
    go_wp2_with fail
    refine (c_Spots b _ (by omega) (by omega)).mono ?_
    rintro e w' ⟨rfl, rfl⟩
    have hsp := plSpots_3 hbi.1 hbi.2
    obtain ⟨A, hA⟩ : ∃ A : Nat, (A : Int) = plSpots b := ⟨(plSpots b).toNat, by omega⟩
    have HA := Lib.hid hA
    rw [← hA] at HF hsp ⊢
    clear hA HPK
    have d1 : decide ((A : Int) < 1) = false := decide_eq_false (by omega)
    obtain ⟨fr, hfr⟩ : ∃ fr, fr = hand % (A : Int) := ⟨_, rfl⟩
    have hfb : 0 ≤ fr ∧ fr < 32 := by rw [hfr]; have := Int.emod_nonneg hand (show (A : Int) ≠ 0 by omega); have := Int.emod_lt_of_pos hand (show 0 < (A : Int) by omega); omega
    rw [← hfr] at HF
    have HWN := Lib.hid (c_want L2.out hbi.1 hbi.2 HWD.out HIT.out hfb.1 (by omega) A HA.out)
    go_wp2_with fail
    rw [← hfr]
    have HFR := Lib.hid hfr
    clear hfr
    refine HWN.out.mono ?_
    rintro e w3 ⟨kv, rfl, hW, hb3⟩
    have L3 := Lib.hid (L2.out.below hb3)
    have HWR := Lib.hid hW
    clear hW hb3 HWN L2 p0
    go_upto_region 16 with fail
    obtain ⟨G4, e4, x4, -⟩ := alloc_ob L3.out.hi 50 u64z.toArray 36 w3.heap.size rfl
    have L4 := L3.out.ext e4 (by decide) (by decide) (by decide) (by decide)
    obtain ⟨G5, e5, x5, hx5⟩ := alloc_ob L4.hi 51 u64z.toArray 36 (w3.heap.size + 1) (by simp)
    have x4 := hx5 _ _ _ x4
    have L5 := L4.ext e5 (by decide) (by decide) (by decide) (by decide)
    clear hx5 e4 e5 L4 L3
    generalize hW4 : World.alloc (World.alloc w3 _) _ = W5
    have hW5 : (w3.alloc (.cells u64z.toArray 36)).alloc (.cells u64z.toArray 36) = W5 := hW4
    clear hW4
    rw [hW5] at x4 x5 L5
    clear hW5
    obtain ⟨X2, hX2⟩ : ∃ X2, X2 = w3.heap.size + 1 := ⟨_, rfl⟩
    rw [← hX2] at x5 ⊢
    obtain ⟨X1, hX1⟩ : ∃ X1, X1 = w3.heap.size := ⟨_, rfl⟩
    rw [← hX1] at x4 ⊢
    have hne : X1 ≠ X2 := by omega
    clear hX1 hX2
    obtain ⟨I, hI⟩ : ∃ I, I = waI b fr s.M := ⟨_, rfl⟩
    obtain ⟨Mk, hMk⟩ : ∃ Mk, Mk = waM b fr s.M := ⟨_, rfl⟩
    have X4 : Hid (Ob W5 G5 50 X1 (u64r I 0)) := Lib.hid (by rw [u64r_zero]; exact x4)
    have X5 : Hid (Ob W5 G5 51 X2 (u64r Mk 0)) := Lib.hid (by rw [u64r_zero]; exact x5)
    have HI := Lib.hid hI
    have HMk := Lib.hid hMk
    have L5 := Lib.hid L5
    clear x4 x5 hI hMk
    go_loopw [14, 15] (fun rv nv wr => ∃ (n : Nat) (G : Om), nv = .int .i64 n ∧ rv = .bool (rdB b fr s.M n) ∧ n ≤ A ∧ LW w wr G B ⟨b, 8, 3, 1, 16⟩ s ∧ Ob wr G 50 X1 (u64r I n) ∧ Ob wr G 51 X2 (u64r Mk n)) (fun _ nv _ => A - (intOf nv).toNat)
    case atStart => exact ⟨0, G5, rfl, by unfold rdB; rw [decide_eq_true (fun j hj => by omega)], Nat.zero_le _, L5.out, X4.out, X5.out⟩
    case round =>
      clear L5 X4 X5
      obtain ⟨n, G3, rfl, rfl, hn, hL, hx4, hx5⟩ := hrel
      have L3 := Lib.hid hL
      have X4 := Lib.hid hx4
      have X5 := Lib.hid hx5
      clear hL hx4 hx5
      by_cases hn2 : n < A
      · have d64 : decide ((n : Int) < 64) = true := decide_eq_true (by omega)
        obtain ⟨p, hp⟩ : ∃ p, p = plAt b (fr + n) := ⟨_, rfl⟩
        have HPE := Lib.hid hp
        have hpo : p.ok := by rw [hp]; exact plAt_ok _ _
        have HAT : Hid (∀ W, Calls Tryz.prog 18 #[.int .u64 b, .int .i64 (fr + (n : Int))] W fun e w' => e = .returned (.agg #[.int .i64 p.b, .int .i64 p.q, .int .i64 p.s]) ∧ Below W.heap.size W w') := Lib.hid fun W => by rw [hp]; exact c_At b (fr + n) W (by omega) (by omega) (by omega) (by omega)
        have hit := HIT.out (fr + n)
        rw [← hp] at hit
        have HPO := Lib.hid hpo
        clear hp hpo
        go_wp2_with fail
        refine (HAT.out _).mono ?_
        rintro e w4 ⟨rfl, hb4⟩
        have L4 := Lib.hid (L3.out.below hb4)
        have X4b := Lib.hid (X4.out.below hb4)
        have X5b := Lib.hid (X5.out.below hb4)
        clear hb4
        go_wp2_with fail
        have HS := c_Slot p L4.out.p HPO.out L4.out.hi
        obtain ⟨r, hr⟩ : ∃ r, r = s.M p.item := ⟨_, rfl⟩
        rw [← hr] at hit HS
        have HR : Hid (r = I n) := Lib.hid (by rw [hr, HI.out, HPE.out]; rfl)
        refine HS.mono ?_
        clear HS hr
        rintro e w6 ⟨rfl, hb6⟩
        have L6 := L4.out.below hb6
        have x46 := X4b.out.below hb6
        have x56 := X5b.out.below hb6
        have e7 : Ext (fun t => t = 50) G3 w6 G3 (w6.setCell ⟨X1, n, none⟩ (.int .u64 r)) := Ext.of_set (S := fun t => t = 50) L6.hi x46.o (show (50 : Nat) ≠ 0 by decide) rfl
        have x47 := x46.set n (.int .u64 r) (by rw [u64r_len]; omega)
        rw [HR.out, u64r_set (by omega), ← HR.out] at x47
        have L7 := Lib.hid (L6.ext e7 (by decide) (by decide) (by decide) (by decide))
        have X47 := Lib.hid x47
        have X57 := Lib.hid (x56.other (j := n) (v := .int .u64 r) hne)
        have a0 := x46.c n _ (u64r_get (by omega))
        have f0 := x46.f n
        clear hb6 L6 x46 x56 e7 x47 X4b X5b L4 L3 X4 X5
        go_upto_region 19 with fail
        obtain ⟨W7, hW7⟩ : ∃ W, W = w6.setCell ⟨X1, n, none⟩ (.int .u64 r) := ⟨_, rfl⟩
        rw [← hW7] at L7 X47 X57 ⊢
        clear hW7 a0 f0
        have p7 := L7.out.p.wo.c0
        have i1 : W7.cell? ⟨X1, n, none⟩ = some (.int .u64 r) := by rw [HR.out]; exact X47.out.c n _ (u64r_in (by omega) (by omega))
        have b0 := X57.out.c n _ (u64r_get (by omega))
        have g0 := X57.out.f n
        obtain ⟨rf, hrf⟩ : ∃ rf, rf = plRef r := ⟨_, rfl⟩
        have hrb : 0 ≤ rf ∧ rf < 18446744073709551616 := by rw [hrf]; unfold plRef; split <;> omega
        have hwr : IntKind.i64.wrap r = r := by simp [IntKind.wrap, IntKind.bits, IntKind.signed]; omega
        have HRF : Hid (∀ W, Calls Tryz.prog 26 #[.int .i64 (IntKind.i64.wrap r)] W fun e w' => e = .returned (.int .u64 rf) ∧ W = w') := Lib.hid fun W => by rw [hwr, hrf]; exact c_Ref r W (by omega) (by omega)
        have hmb := L7.out.p.bd rf
        obtain ⟨mk, hmk⟩ : ∃ mk, mk = s.M rf := ⟨_, rfl⟩
        have HP : Hid (Calls Tryz.prog 16 #[.pointer (some ⟨B.c, 0, none⟩), .int .u64 rf] W7.drew fun e w' => e = .returned (.int .u64 mk) ∧ W7.drew = w') := Lib.hid (by rw [hmk]; exact L7.out.peek rf hrb.1 hrb.2 _ (drew_below W7))
        rw [← hmk] at hmb
        have HMK : Hid (mk = Mk n) := Lib.hid (by rw [hmk, hrf, HR.out, HMk.out, HI.out]; rfl)
        have L7d := L7.out.below (drew_below W7)
        have X47d := X47.out.below (drew_below W7)
        have X57d := X57.out.below (drew_below W7)
        have e8 : Ext (fun t => t = 51) G3 W7.drew G3 (W7.drew.setCell ⟨X2, n, none⟩ (.int .u64 mk)) := Ext.of_set (S := fun t => t = 51) L7d.hi X57d.o (show (51 : Nat) ≠ 0 by decide) rfl
        have x58 := X57d.set n (.int .u64 mk) (by rw [u64r_len]; omega)
        rw [HMK.out, u64r_set (by omega), ← HMK.out] at x58
        have L8 := Lib.hid (L7d.ext e8 (by decide) (by decide) (by decide) (by decide))
        have X48 := Lib.hid (X47d.other (j := n) (v := .int .u64 mk) (Ne.symm hne))
        have X58 := Lib.hid x58
        have hd2 : mk % 2 = 0 ∨ mk % 2 = 1 := by omega
        have hxn : ¬ X2 = X1 := Ne.symm hne
        have hpx : ¬ B.p = X2 := fun e => by have := L7.out.p.o; rw [e, X57.out.o] at this; omega
        have hxp : ¬ X2 = B.p := fun e => hpx e.symm
        have hnb0 : (0 : Int) ≤ (n : Int) := by omega
        have hnb1 : (n : Int) < 64 := by omega
        clear hmk hrf hwr L7d X47d X57d e8 x58 L7 X47 X57
        go_region_held3 (fun w' => w'.cell? ⟨B.p, 0, none⟩ = some (.pointer (some ⟨B.c, 0, none⟩)) ∧ w'.cell? ⟨X1, n, none⟩ = some (.int .u64 r)) (go_keep)
          ((first
            | (go_at_call 26
               refine (HRF.out _).mono ?_
               rintro e w' ⟨rfl, rfl⟩)
            | (go_at_call 16
               refine HP.out.mono ?_
               rintro e w' ⟨rfl, rfl⟩)))
        obtain ⟨W8, hW8⟩ : ∃ W, W = (W7.setCell ⟨X2, n, none⟩ (.int .u64 mk)).drew := ⟨_, rfl⟩
        have hW8' : W8 = W7.drew.setCell ⟨X2, n, none⟩ (.int .u64 mk) := hW8
        rw [← hW8'] at L8 X48 X58
        rw [← hW8]
        clear hW8 hW8' i1 b0 g0 p7
        have i1 : W8.cell? ⟨X1, n, none⟩ = some (.int .u64 r) := by rw [HR.out]; exact X48.out.c n _ (u64r_in (by omega) (by omega))
        have i2 : W8.cell? ⟨X2, n, none⟩ = some (.int .u64 mk) := by rw [HMK.out]; exact X58.out.c n _ (u64r_in (by omega) (by omega))
        have rel : Hid (∀ rd, rdB b fr s.M (n + 1) = rd → ∃ (n' : Nat) (G : Om), Value.int .i64 ((n : Int) + 1) = .int .i64 n' ∧ Value.bool rd = .bool (rdB b fr s.M n') ∧ n' ≤ A ∧ LW w W8 G B ⟨b, 8, 3, 1, 16⟩ s ∧ Ob W8 G 50 X1 (u64r I n') ∧ Ob W8 G 51 X2 (u64r Mk n')) := Lib.hid fun rd h => ⟨n + 1, G3, by go_num, by rw [h], by omega, L8.out, X48.out, X58.out⟩
        have RI : Hid (r = waI b fr s.M n ∧ mk = waM b fr s.M n) := Lib.hid ⟨by rw [HR.out, HI.out], by rw [HMK.out, HMk.out]⟩
        obtain ⟨rd, hrd⟩ : ∃ rd, rd = rdB b fr s.M n := ⟨_, rfl⟩
        rw [← hrd]
        have HRD := Lib.hid hrd
        clear hrd L8 X48 X58
        by_cases hz : r = 0
        · have dz : (r != 0) = false := by simp [hz]
          have RL := Lib.hid (rel.out rd (by rw [HRD.out]; exact rdB_more (.inl (by rw [← RI.out.1]; exact hz))))
          go_wp2_with fail
          go_roundw
          case rel => exact RL.out
          case measure => simp [intOf]; omega
        · have dz : (r != 0) = true := by simp [hz]
          rcases hd2 with d2 | d2
          · have d3 : (mk % 2 == 0) = true := by simp [d2]
            have RL := Lib.hid (rel.out false (rdB_not (by rw [← RI.out.1]; exact hz) (by rw [← RI.out.2]; exact d2)))
            go_wp2_with fail
            go_roundw
            case rel => exact RL.out
            case measure => simp [intOf]; omega
          · have d3 : (mk % 2 == 0) = false := by simp [d2]
            have RL := Lib.hid (rel.out rd (by rw [HRD.out]; exact rdB_more (.inr (by rw [← RI.out.2]; exact d2))))
            go_wp2_with fail
            go_roundw
            case rel => exact RL.out
            case measure => simp [intOf]; omega
      · have hnA : n = A := by omega
        subst hnA
        have p0 := L3.out.p.wo.c0
        have HPK6 := Lib.hid (L3.out.peek 6 (by decide) (by decide) wr (Below.refl _ _))
        rw [HS.out.c6] at HPK6
        obtain ⟨mo, hmo⟩ : ∃ mo : Nat, (mo : Int) = 7 * (n : Int) + 20 := ⟨7 * n + 20, by omega⟩
        have MO := Lib.hid hmo
        have mo2 : mo ≤ 300 := by omega
        obtain ⟨rd, hrd⟩ : ∃ rd, rd = rdB b fr s.M n := ⟨_, rfl⟩
        rw [← hrd]
        have HRD := Lib.hid hrd
        clear hmo hn hn2 hrd
        go_wp2_with fail
        refine HPK6.out.mono ?_
        rintro e w' ⟨rfl, rfl⟩
        go_wp2_with fail
        refine (c_NewEvict 10 L3.out.hi).mono ?_
        rintro e w7 ⟨X, rfl, G7, e7, x7⟩
        have L7 := L3.out.ext e7 (by decide) (by decide) (by decide) (by decide)
        have X47 := Lib.hid (X4.out.ext e7 (by decide))
        have X57 := Lib.hid (X5.out.ext e7 (by decide))
        obtain ⟨c, y, z, hrun, hc, hz0, hcase⟩ := hf_run HF.out HA.out (fun p hp => HS.out.ver p hp) HWR.out mo (by rw [MO.out]; exact Int.le_refl _)
        have hy5 : y.M 5 = 0 := by
          rcases hcase with ⟨-, -, h, -⟩ | ⟨k, -, -, -, -, h⟩
          · exact h
          · exact h.c5
        have HRn := c_EvRun (k := 10) X mo L7.p x7 (by decide) L7.hi HS.out.n0 (by have := HS.out.n1; omega)
        rw [hrun] at HRn
        dsimp only at HRn
        rw [MO.out] at HRn
        have HRn := Lib.hid HRn
        have L7 := Lib.hid L7
        have HC := Lib.hid hcase
        have HZ0 := Lib.hid hz0
        have HY5 := Lib.hid hy5
        have dc : decide (6 * (n : Int) + 11 < (c : Int)) = false := decide_eq_false (by omega)
        clear e7 x7 hrun hcase hz0 hy5 L3 X4 X5 p0 HPK6
        go_wp2_with fail
        refine HRn.out.mono ?_
        rintro e w8 ⟨rfl, G8, e8, P8, x8, k8⟩
        have L8 := L7.out.to e8 P8
        have X48 := Lib.hid (X47.out.ext e8 (by intro k; rcases k with k | k <;> omega))
        have X58 := Lib.hid (X57.out.ext e8 (by intro k; rcases k with k | k <;> omega))
        have HG := Lib.hid (c_EvGot x8 k8)
        have hx0 := x8.cell0
        rw [HZ0.out] at hx0
        have HOV := Lib.hid (c_EvOver hx0)
        have p0 := L8.p.wo.c0
        have HPK5 := Lib.hid (L8.peek 5 (by decide) (by decide) w8 (Below.refl _ _))
        rw [HY5.out] at HPK5
        have L8 := Lib.hid L8
        clear e8 P8 x8 k8 HRn L7 hx0 X47 X57
        go_wp2_with fail
        refine HOV.out.mono ?_
        rintro e w' ⟨rfl, rfl⟩
        rw [show ((0 : Int) == 0) = true from rfl]
        go_wp2_with fail
        refine HPK5.out.mono ?_
        rintro e w' ⟨rfl, rfl⟩
        clear HPK5 HOV
        rcases HC.out with ⟨hk, hgot, -, hy6, hy4⟩ | ⟨k, hk, hkn, hkz, hgot, hR⟩
        · subst hk
          rw [hgot] at HG
          unfold spV at HG
          have HY := Lib.hid (show y.M 6 = s.M 6 ∧ y.M 4 = fr from ⟨hy6, hy4⟩)
          clear hgot hy6 hy4 HC
          go_wp2_with fail
          refine HG.out.mono ?_
          rintro e w9 ⟨rfl, hb9⟩
          have hba := (Below.refl w9.heap.size w9).alloc (Nat.le_refl _) (.cells #[.int .i64 0, .int .i64 0, .int .i64 0] 45)
          have L10 := Lib.hid ((L8.out.below hb9).below hba)
          clear hb9 hba p0 HG L8
          go_upto_region 28 with fail
          obtain ⟨W, hW⟩ : ∃ W, W = w9.alloc (.cells #[.int .i64 0, .int .i64 0, .int .i64 0] 45) := ⟨_, rfl⟩
          rw [← hW] at L10 ⊢
          clear hW
          have p0 := L10.out.p.wo.c0
          have HPK6 := Lib.hid (L10.out.peek 6 (by decide) (by decide) W (Below.refl _ _))
          have HPK4 := Lib.hid (L10.out.peek 4 (by decide) (by decide) W (Below.refl _ _))
          rw [HY.out.1, HS.out.c6] at HPK6
          rw [HY.out.2] at HPK4
          go_wp2_with fail
          refine HPK6.out.mono ?_
          rintro e w' ⟨rfl, rfl⟩
          go_wp2_with fail
          refine HPK4.out.mono ?_
          rintro e w' ⟨rfl, rfl⟩
          go_wp2_with fail
          refine (c_lives23 W).mono ?_
          rintro e w2 ⟨rfl, hb2⟩
          go_wp2_with fail
          go_ret
          exact ⟨rfl, L10.out.bel.trans (hb2.mono L10.out.bel.size)⟩
        · subst hk
          obtain ⟨p, hp⟩ : ∃ p, p = plAt b (fr + k) := ⟨_, rfl⟩
          have hpo : p.ok := by rw [hp]; exact plAt_ok _ _
          have HAT : Hid (∀ W, Calls Tryz.prog 18 #[.int .u64 b, .int .i64 (fr + (k : Int))] W fun e w' => e = .returned (.agg #[.int .i64 p.b, .int .i64 p.q, .int .i64 p.s]) ∧ Below W.heap.size W w') := Lib.hid fun W => by rw [hp]; exact c_At b (fr + k) W (by omega) (by omega) (by omega) (by omega)
          have hver := hR.ver
          rw [← hp] at hgot hver
          have hit := HIT.out (fr + k)
          obtain ⟨r, hr⟩ : ∃ r, r = waI b fr s.M k := ⟨_, rfl⟩
          have hr' : r = s.M (plAt b (fr + k)).item := hr
          rw [← hr'] at hit
          rw [← hr] at hgot hkz
          rw [hgot] at HG
          unfold spV at HG
          have HRK : Hid (r = I k) := Lib.hid (by rw [hr, HI.out])
          have HY : Hid (y.M 6 = 18446744073709551615 ∧ y.M 4 = (fr + k + 1) % (n : Int) ∧ y.M p.ver = 2) := Lib.hid ⟨by rw [hR.c6, HS.out.c6]; rfl, hR.c4, hver⟩
          have HRR := Lib.hid hR
          have HPE := Lib.hid hp
          have HPO := Lib.hid hpo
          have hkb : (0 : Int) ≤ (fr + k + 1) % (n : Int) ∧ (fr + k + 1) % (n : Int) < 64 := by have := Int.emod_nonneg (fr + k + 1) (show (n : Int) ≠ 0 by omega); have := Int.emod_lt_of_pos (fr + k + 1) (show 0 < (n : Int) by omega); omega
          clear hgot hR HC hver hr hr' hp hpo
          go_wp2_with fail
          refine HG.out.mono ?_
          rintro e w9 ⟨rfl, hb9⟩
          have L9 := L8.out.below hb9
          obtain ⟨-, V10⟩ := alloc_nbH (S := SW) L9.hi #[.int .i64 p.b, .int .i64 p.q, .int .i64 p.s] 45 w9.heap.size rfl
          have hba := (Below.refl w9.heap.size w9).alloc (Nat.le_refl _) (.cells #[.int .i64 p.b, .int .i64 p.q, .int .i64 p.s] 45)
          have L10 := Lib.hid (L9.below hba)
          have X40 := Lib.hid ((X48.out.below hb9).below hba)
          have X50 := Lib.hid ((X58.out.below hb9).below hba)
          have V10 := Lib.hid V10
          have dk0 : decide ((k : Int) < 0) = false := decide_eq_false (by omega)
          have dr : decide (r < 1) = false := decide_eq_false (by omega)
          clear hb9 L9 hba HG L8 X48 X58 p0
          go_upto_region 29 with fail
          obtain ⟨W, hW⟩ : ∃ W, W = w9.alloc (.cells #[.int .i64 p.b, .int .i64 p.q, .int .i64 p.s] 45) := ⟨_, rfl⟩
          rw [← hW] at L10 V10 X40 X50 ⊢
          clear hW
          obtain ⟨X3, hX3⟩ : ∃ X3, X3 = w9.heap.size := ⟨_, rfl⟩
          rw [← hX3] at V10 ⊢
          clear hX3
          have p0 := L10.out.c0 W (Below.refl _ _)
          have hlp := L10.out.p.wo.lt
          have v0 := V10.out.c 0 _ rfl
          have v1 := V10.out.c 1 _ rfl
          have v2 := V10.out.c 2 _ rfl
          have hl3 := V10.out.lt
          have i1 : W.cell? ⟨X1, k, none⟩ = some (.int .u64 r) := by rw [HRK.out]; exact X40.out.c k _ (u64r_in (by omega) hkn)
          have hl1 := X40.out.lt
          have hkc0 : (0 : Int) ≤ (k : Int) := by omega
          have hkc1 : (k : Int) < 64 := by omega
          obtain ⟨M9, hM9⟩ : ∃ M9, M9 = y.M := ⟨_, rfl⟩
          have hM6 : M9 6 = 18446744073709551615 := by rw [hM9]; exact HY.out.1
          have hM4 : M9 4 = (fr + k + 1) % (n : Int) := by rw [hM9]; exact HY.out.2.1
          have HPX : Hid (∀ x, x = 6 ∨ x = 4 → ∀ e : Later W, Calls Tryz.prog 16 #[.pointer (some ⟨B.c, 0, none⟩), .int .u64 x] (via W e) fun e_1 w' => e_1 = .returned (.int .u64 (M9 x)) ∧ via W e = w') := Lib.hid fun x hx e => by rw [hM9]; exact L10.out.peek x (by omega) (by omega) _ (via_below W e)
          clear hM9
          have hw1 : IntKind.u64.wrap (-1) = 18446744073709551615 := by decide
          refine wp_region_via (by kernel_rfl) (by kernel_rfl) ?_
          repeat (go_big_quiet_step ((first
            | (go_at_call 18; exact viaB (HAT.out _))
            | (go_at_call 16; exact viaS (HPX.out _ (by first | exact .inl rfl | exact .inr rfl) _)))))
          refine wpQuiet_nil ?_
          rintro _ ⟨e, rfl⟩
          obtain ⟨Wv, hWv⟩ : ∃ Wv, Wv = via W e := ⟨_, rfl⟩
          have hbv : Below W.heap.size W Wv := by rw [hWv]; exact via_below W e
          rw [← hWv]
          have L11 := Lib.hid (L10.out.below hbv)
          have X41 := Lib.hid (X40.out.below hbv)
          have X51 := Lib.hid (X50.out.below hbv)
          have V11 := Lib.hid (V10.out.below hbv)
          clear hWv hbv p0 hlp v0 v1 v2 hl3 i1 hl1 hM6 hM4 HPX hw1 L10 X40 X50 V10 HAT dr
          go_upto_region 32 with fail
          go_loopw [20] (fun nv wr => ∃ j : Nat, nv = .int .i64 j ∧ j ≤ n ∧ Below Wv.heap.size Wv wr) (fun nv _ => n - (intOf nv).toNat)
          case atStart => exact ⟨0, rfl, Nat.zero_le _, Below.refl _ _⟩
          case round =>
            obtain ⟨j, rfl, hj, hbr⟩ := hrel
            have BR := Lib.hid hbr
            have L12 := Lib.hid (L11.out.below hbr)
            have X42 := Lib.hid (X41.out.below hbr)
            have X52 := Lib.hid (X51.out.below hbr)
            have V12 := Lib.hid (V11.out.below hbr)
            clear hbr
            by_cases hj2 : j < n
            · have d64 : decide ((j : Int) < 64) = true := decide_eq_true (by omega)
              obtain ⟨p2, hp2⟩ : ∃ p, p = plAt b (fr + j) := ⟨_, rfl⟩
              have hpo2 : p2.ok := by rw [hp2]; exact plAt_ok _ _
              have HAT : Hid (∀ W, Calls Tryz.prog 18 #[.int .u64 b, .int .i64 (fr + (j : Int))] W fun e w' => e = .returned (.agg #[.int .i64 p2.b, .int .i64 p2.q, .int .i64 p2.s]) ∧ Below W.heap.size W w') := Lib.hid fun W => by rw [hp2]; exact c_At b (fr + j) W (by omega) (by omega) (by omega) (by omega)
              have HPO2 := Lib.hid hpo2
              have HPE2 := Lib.hid hp2
              clear hp2 hpo2
              go_wp2_with fail
              refine (HAT.out _).mono ?_
              rintro e w13 ⟨rfl, hb13⟩
              have L13 := L12.out.below hb13
              have HS2 := c_Slot p2 L13.p HPO2.out L13.hi
              obtain ⟨it2, hi2⟩ : ∃ r, r = y.M p2.item := ⟨_, rfl⟩
              rw [← hi2] at HS2
              have HI2 : Hid (it2 = waI b fr y.M j) := Lib.hid (by rw [hi2, HPE2.out]; rfl)
              have HS2 := Lib.hid HS2
              have B13 : Hid (Below wr.heap.size wr w13) := Lib.hid hb13
              clear hb13 L13 hi2 HAT
              go_wp2_with fail
              refine HS2.out.mono ?_
              rintro e w14 ⟨rfl, hb14⟩
              have B14 : Hid (Below wr.heap.size wr w14) := Lib.hid (B13.out.trans (hb14.mono B13.out.size))
              have L14 := L12.out.below B14.out
              have p0 := L14.p.wo.c0
              have hrj := HIT.out (fr + j)
              obtain ⟨rj, hrj'⟩ : ∃ rj, rj = I j := ⟨_, rfl⟩
              have hrjw : rj = s.M (plAt b (fr + j)).item := by rw [hrj', HI.out]; rfl
              rw [← hrjw] at hrj
              obtain ⟨mj, hmj'⟩ : ∃ mj, mj = Mk j := ⟨_, rfl⟩
              have HRJ : Hid (rj = waI b fr s.M j) := Lib.hid (by rw [hrj', HI.out])
              have HMJ : Hid (mj = waM b fr s.M j) := Lib.hid (by rw [hmj', HMk.out])
              have i1 : w14.cell? ⟨X1, j, none⟩ = some (.int .u64 rj) := by rw [hrj']; exact (X42.out.below B14.out).c j _ (u64r_in (by omega) hj2)
              have RX : Hid (rj = I j ∧ mj = Mk j) := Lib.hid ⟨hrj', hmj'⟩
              obtain ⟨rf, hrf⟩ : ∃ rf, rf = plRef rj := ⟨_, rfl⟩
              have hrb : 0 ≤ rf ∧ rf < 18446744073709551616 := by rw [hrf]; unfold plRef; split <;> omega
              have HRF : Hid (∀ W, Calls Tryz.prog 26 #[.int .i64 rj] W fun e w' => e = .returned (.int .u64 rf) ∧ W = w') := Lib.hid fun W => by rw [hrf]; exact c_Ref rj W (by omega) (by omega)
              have bn : ∀ q, Below w14.heap.size w14 (w14.drewN q) := fun q => ⟨rfl, rfl, rfl, Nat.le_refl _, fun _ _ => rfl⟩
              obtain ⟨nw, hnw⟩ : ∃ nw, nw = y.M rf := ⟨_, rfl⟩
              have HP : Hid (∀ q, Calls Tryz.prog 16 #[.pointer (some ⟨B.c, 0, none⟩), .int .u64 rf] (w14.drewN q) fun e w' => e = .returned (.int .u64 nw) ∧ w14.drewN q = w') := Lib.hid fun q => by rw [hnw]; exact L14.peek rf hrb.1 hrb.2 _ (bn q)
              have HNW : Hid (nw = y.M (plRef rj)) := Lib.hid (by rw [hnw, hrf])
              have HJE : Hid (waI b fr s.M j = rj) := Lib.hid HRJ.out.symm
              have hmjb : rj ≠ 0 → 0 ≤ mj ∧ mj ≤ 255 := fun hz => by rw [HMJ.out]; unfold waM; rw [HJE.out]; exact HF.out.mr rj (by omega)
              have BN := Lib.hid bn
              have hjc0 : (0 : Int) ≤ (j : Int) := by omega
              have hjc1 : (j : Int) < 64 := by omega
              clear hb14 L14 hrj' hrjw hmj' hrf hnw bn
              go_upto_region 35 with fail
              go_quiet ((first
                | (go_at_call 26; exact quietS (HRF.out _))
                | (go_at_call 16; exact quietS (HP.out _))))
              have B15 : Hid (Below wr.heap.size wr (w14.drewN nq)) := Lib.hid (B14.out.trans ((BN.out nq).mono B14.out.size))
              obtain ⟨W6, hW6⟩ : ∃ W6, W6 = w14.drewN nq := ⟨_, rfl⟩
              rw [← hW6] at B15 ⊢
              clear hW6 i1 p0
              have i1 : W6.cell? ⟨X1, j, none⟩ = some (.int .u64 rj) := by rw [RX.out.1]; exact (X42.out.below B15.out).c j _ (u64r_in (by omega) hj2)
              have i2 : W6.cell? ⟨X2, j, none⟩ = some (.int .u64 mj) := by rw [RX.out.2]; exact (X52.out.below B15.out).c j _ (u64r_in (by omega) hj2)
              have REL : Hid (∃ j' : Nat, Value.int .i64 ((j : Int) + 1) = .int .i64 j' ∧ j' ≤ n ∧ Below Wv.heap.size Wv W6) := Lib.hid ⟨j + 1, by go_num, by omega, BR.out.trans (B15.out.mono BR.out.size)⟩
              clear HRF HP hrb HPO2 HS2
              by_cases c1 : rj = 0
              · have hjk : j ≠ k := fun e => by subst e; exact hkz (by rw [HRK.out, ← RX.out.1]; exact c1)
                have e1 : (rj != 0) = false := by simp [c1]
                have e5 : ((j : Int) == (k : Int)) = false := by simp; omega
                have e6 : ((j : Int) != (k : Int)) = true := by simp; omega
                have hi2 : it2 = rj := by rw [HI2.out, HRJ.out]; exact HRR.out.ito j hj2 hjk
                have hnw : nw = mj := by rw [HNW.out, HMJ.out, ← HJE.out]; exact HRR.out.mk0 j hj2 (by rw [HJE.out, ← HMJ.out]; exact fun h => h.1 c1)
                subst hi2 hnw
                go_wp2_with fail
                go_roundw
                case rel => exact REL.out
                case measure => simp [intOf]; omega
              · have hmb := hmjb c1
                have e1 : (rj != 0) = true := by simp [c1]
                by_cases c2 : mj % 2 = 1
                · have e2 : (mj % 2 == 1) = true := by simp [c2]
                  cases rd with
                  | true =>
                    by_cases ej : j = k
                    · have e5 : ((j : Int) == (k : Int)) = true := by simp [ej]
                      have e6 : ((j : Int) != (k : Int)) = false := by simp [ej]
                      have hi2 : it2 = 0 := by rw [HI2.out, ej]; exact HRR.out.itk
                      have hnw : nw = mj + 1 := by rw [HNW.out, HMJ.out, ← HJE.out]; exact HRR.out.mk1 j hj2 (by rw [HJE.out]; exact c1) (by rw [← HMJ.out]; exact c2) (.inl HRD.out.symm)
                      subst hi2 hnw
                      clear ej
                      go_wp2_with fail
                      go_roundw
                      case rel => exact REL.out
                      case measure => simp [intOf]; omega
                    · have hjk := ej
                      have e5 : ((j : Int) == (k : Int)) = false := by simp; omega
                      have e6 : ((j : Int) != (k : Int)) = true := by simp; omega
                      have hi2 : it2 = rj := by rw [HI2.out, HRJ.out]; exact HRR.out.ito j hj2 hjk
                      have hnw : nw = mj + 1 := by rw [HNW.out, HMJ.out, ← HJE.out]; exact HRR.out.mk1 j hj2 (by rw [HJE.out]; exact c1) (by rw [← HMJ.out]; exact c2) (.inl HRD.out.symm)
                      subst hi2 hnw
                      go_wp2_with fail
                      go_roundw
                      case rel => exact REL.out
                      case measure => simp [intOf]; omega
                  | false =>
                    by_cases c3 : j < k
                    · have hjk : j ≠ k := by omega
                      have e4 : decide ((j : Int) < (k : Int)) = true := decide_eq_true (by omega)
                      have e5 : ((j : Int) == (k : Int)) = false := by simp; omega
                      have e6 : ((j : Int) != (k : Int)) = true := by simp; omega
                      have hi2 : it2 = rj := by rw [HI2.out, HRJ.out]; exact HRR.out.ito j hj2 hjk
                      have hnw : nw = mj + 1 := by rw [HNW.out, HMJ.out, ← HJE.out]; exact HRR.out.mk1 j hj2 (by rw [HJE.out]; exact c1) (by rw [← HMJ.out]; exact c2) (.inr c3)
                      subst hi2 hnw
                      go_wp2_with fail
                      go_roundw
                      case rel => exact REL.out
                      case measure => simp [intOf]; omega
                    · have e4 : decide ((j : Int) < (k : Int)) = false := decide_eq_false (by omega)
                      have hno : ¬ (rdB b fr s.M n = true ∨ j < k) := fun h => h.elim (fun h => by rw [← HRD.out] at h; cases h) c3
                      by_cases ej : j = k
                      · have e5 : ((j : Int) == (k : Int)) = true := by simp [ej]
                        have e6 : ((j : Int) != (k : Int)) = false := by simp [ej]
                        have hi2 : it2 = 0 := by rw [HI2.out, ej]; exact HRR.out.itk
                        have hnw : nw = mj := by rw [HNW.out, HMJ.out, ← HJE.out]; exact HRR.out.mk0 j hj2 (by rw [HJE.out, ← HMJ.out]; exact fun h => hno h.2.2)
                        subst hi2 hnw
                        clear ej
                        go_wp2_with fail
                        go_roundw
                        case rel => exact REL.out
                        case measure => simp [intOf]; omega
                      · have hjk := ej
                        have e5 : ((j : Int) == (k : Int)) = false := by simp; omega
                        have e6 : ((j : Int) != (k : Int)) = true := by simp; omega
                        have hi2 : it2 = rj := by rw [HI2.out, HRJ.out]; exact HRR.out.ito j hj2 hjk
                        have hnw : nw = mj := by rw [HNW.out, HMJ.out, ← HJE.out]; exact HRR.out.mk0 j hj2 (by rw [HJE.out, ← HMJ.out]; exact fun h => hno h.2.2)
                        subst hi2 hnw
                        go_wp2_with fail
                        go_roundw
                        case rel => exact REL.out
                        case measure => simp [intOf]; omega
                · have e2 : (mj % 2 == 1) = false := by simp [c2]
                  by_cases ej : j = k
                  · have e5 : ((j : Int) == (k : Int)) = true := by simp [ej]
                    have e6 : ((j : Int) != (k : Int)) = false := by simp [ej]
                    have hi2 : it2 = 0 := by rw [HI2.out, ej]; exact HRR.out.itk
                    have hnw : nw = mj := by rw [HNW.out, HMJ.out, ← HJE.out]; exact HRR.out.mk0 j hj2 (by rw [HJE.out, ← HMJ.out]; exact fun h => c2 h.2.1)
                    subst hi2 hnw
                    clear ej
                    go_wp2_with fail
                    go_roundw
                    case rel => exact REL.out
                    case measure => simp [intOf]; omega
                  · have hjk := ej
                    have e5 : ((j : Int) == (k : Int)) = false := by simp; omega
                    have e6 : ((j : Int) != (k : Int)) = true := by simp; omega
                    have hi2 : it2 = rj := by rw [HI2.out, HRJ.out]; exact HRR.out.ito j hj2 hjk
                    have hnw : nw = mj := by rw [HNW.out, HMJ.out, ← HJE.out]; exact HRR.out.mk0 j hj2 (by rw [HJE.out, ← HMJ.out]; exact fun h => c2 h.2.1)
                    subst hi2 hnw
                    go_wp2_with fail
                    go_roundw
                    case rel => exact REL.out
                    case measure => simp [intOf]; omega
            · have hjn : j = n := by omega
              clear hj hj2
              subst hjn
              have p0 := L12.out.c0 wr (Below.refl _ _)
              have hlp := L12.out.p.wo.lt
              have v0 := V12.out.c 0 _ rfl
              have v1 := V12.out.c 1 _ rfl
              have hl3 := V12.out.lt
              obtain ⟨pv, hpv⟩ : ∃ pv, pv = p.ver := ⟨_, rfl⟩
              have HVE : Hid (∀ W, Calls Tryz.prog 28 #[.agg #[.int .i64 p.b, .int .i64 p.q]] W fun e w' => e = .returned (.int .u64 pv) ∧ Below W.heap.size W w') := Lib.hid fun W => by
                rw [hpv]
                have h := HPO.out
                have h0 := h.b0
                have h1 := h.b1
                have h2 := h.q0
                have h3 := h.q2
                exact c_Version p.b p.q W (by omega) (by omega) (by omega) (by omega)
              have hvb := HPO.out.ver
              rw [← hpv] at hvb
              have HPX : Hid (∀ e : Later wr, Calls Tryz.prog 16 #[.pointer (some ⟨B.c, 0, none⟩), .int .u64 pv] (via wr e) fun e_1 w' => e_1 = .returned (.int .u64 2) ∧ via wr e = w') := Lib.hid fun e => by
                have h := L12.out.peek pv (by omega) (by omega) _ (via_below wr e)
                rw [hpv, HY.out.2.2, ← hpv] at h
                exact h
              have HOD : Hid (∀ W, Calls Tryz.prog 27 #[.int .u64 2] W fun e w' => e = .returned (.bool false) ∧ W = w') := Lib.hid fun W => c_Odd 2 W (by decide) (by decide)
              clear hpv
              go_upto_region 39 with fail
              refine wp_region_via (by kernel_rfl) (by kernel_rfl) ?_
              repeat (go_big_quiet_step ((first
                | (go_at_call 28; exact viaB (HVE.out _))
                | (go_at_call 16; exact viaS (HPX.out _))
                | (go_at_call 27; exact viaS (HOD.out _))
                | (go_at_call 14; exact viaB (c_lives23 _)))))
              refine wpQuiet_nil ?_
              rintro _ ⟨e, rfl⟩
              go_wp2_with fail
              go_ret
              exact ⟨rfl, L12.out.bel.trans ((via_below wr e).mono L12.out.bel.size)⟩
end Go.Proofs.YtlcibfpibklbdaaGreat
