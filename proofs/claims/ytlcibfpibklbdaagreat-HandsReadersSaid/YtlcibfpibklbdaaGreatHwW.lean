/- Layer 23: which spot a hand comes to (nestboxlaw23.want). -/
import Derived.Test.YtlcibfpibklbdaaGreatHwA
namespace Go.Proofs.YtlcibfpibklbdaaGreat
set_option linter.unusedSimpArgs false
open Go.RowKit Go.Shelf
set_option linter.unusedVariables false
/-- The item of the spot n behind fr; its mark. -/
def waI (b fr : Int) (M : Int → Int) (n : Nat) : Int := M (plAt b (fr + n)).item
def waM (b fr : Int) (M : Int → Int) (n : Nat) : Int := M (plRef (waI b fr M n))
def WaI (b fr : Int) (M : Int → Int) (n : Nat) (f : Int) : Prop :=
  (∀ j, j < n → waI b fr M j = 0 ∨ waM b fr M j % 2 = 1) ∧ ((f = -1 ∧ ∀ j, j < n → waI b fr M j = 0) ∨ ∃ k : Nat, f = k ∧ k < n ∧ waI b fr M k ≠ 0 ∧ ∀ j, j < k → waI b fr M j = 0)
/-- What want tells. -/
inductive WaR (b fr : Int) (M : Int → Int) (A : Nat) : Int → Prop
  | none (h : ∀ j, j < A → waI b fr M j = 0) : WaR b fr M A (-1)
  | one (k : Nat) (hk : k < A) (hz : waI b fr M k ≠ 0) (he : waM b fr M k % 2 = 0) (h : ∀ j, j < k → waI b fr M j = 0 ∨ waM b fr M j % 2 = 1) : WaR b fr M A k
  | round (k : Nat) (hk : k < A) (hz : waI b fr M k ≠ 0) (h : ∀ j, j < k → waI b fr M j = 0) (ho : ∀ j, j < A → waI b fr M j = 0 ∨ waM b fr M j % 2 = 1) : WaR b fr M A k
theorem WaI.bd {b fr f : Int} {M : Int → Int} {n : Nat} (h : WaI b fr M n f) : -1 ≤ f ∧ f ≤ n := by
  rcases h.2 with ⟨h, -⟩ | ⟨k, h, h2, -⟩ <;> omega
theorem WaI.zero {b fr f : Int} {M : Int → Int} {n : Nat} (h : WaI b fr M n f) (hz : waI b fr M n = 0) : WaI b fr M (n + 1) f := by
  refine ⟨fun j hj => ?_, ?_⟩
  · by_cases c : j = n
    · subst c; exact .inl hz
    · exact h.1 j (by omega)
  · rcases h.2 with ⟨h1, h2⟩ | ⟨k, h1, h2, h3, h4⟩
    · refine .inl ⟨h1, fun j hj => ?_⟩
      by_cases c : j = n
      · subst c; exact hz
      · exact h2 j (by omega)
    · exact .inr ⟨k, h1, by omega, h3, h4⟩
theorem WaI.old {b fr f : Int} {M : Int → Int} {n : Nat} (h : WaI b fr M n f) (hf : 0 ≤ f) (ho : waM b fr M n % 2 = 1) : WaI b fr M (n + 1) f := by
  refine ⟨fun j hj => ?_, ?_⟩
  · by_cases c : j = n
    · subst c; exact .inr ho
    · exact h.1 j (by omega)
  · rcases h.2 with ⟨h1, h2⟩ | ⟨k, h1, h2, h3, h4⟩
    · omega
    · exact .inr ⟨k, h1, by omega, h3, h4⟩
theorem WaI.new {b fr f : Int} {M : Int → Int} {n : Nat} (h : WaI b fr M n f) (hf : f < 0) (hz : waI b fr M n ≠ 0) (ho : waM b fr M n % 2 = 1) : WaI b fr M (n + 1) n := by
  refine ⟨fun j hj => ?_, ?_⟩
  · by_cases c : j = n
    · subst c; exact .inr ho
    · exact h.1 j (by omega)
  · rcases h.2 with ⟨h1, h2⟩ | ⟨k, h1, h2, h3, h4⟩
    · exact .inr ⟨n, rfl, by omega, hz, h2⟩
    · omega
theorem WaI.done {b fr f : Int} {M : Int → Int} {A : Nat} (h : WaI b fr M A f) : WaR b fr M A f := by
  rcases h.2 with ⟨h1, h2⟩ | ⟨k, h1, h2, h3, h4⟩
  · subst h1; exact .none h2
  · subst h1; exact .round k h2 h3 h4 h.1
theorem WaI.hit {b fr f : Int} {M : Int → Int} {n A : Nat} (h : WaI b fr M n f) (hn : n < A) (hz : waI b fr M n ≠ 0) (he : waM b fr M n % 2 = 0) : WaR b fr M A n := .one n hn hz he h.1
set_option maxHeartbeats 8000000 in
set_option maxRecDepth 100000 in
theorem c_want {w0 w : World} {G : Om} {B : Wb} {f : Cf} {s : AW} {b fr : Int} (L : LW w0 w G B f s) (b0 : 1 ≤ b) (b1 : b ≤ 3) (wd : s.M 2 = b) (it : ∀ t, 0 ≤ s.M (plAt b t).item ∧ s.M (plAt b t).item ≤ 40) (f0 : 0 ≤ fr) (f1 : fr ≤ 1000) (A : Nat) (hA : (A : Int) = plSpots b) :
    Calls Tryz.prog 25 #[.pointer (some ⟨B.p, 0, none⟩), .int .i64 fr] w fun e w' => ∃ kv, e = .returned (.int .i64 kv) ∧ WaR b fr s.M A kv ∧ Below w.heap.size w w' := by
  have hsp := plSpots_3 b0 b1
  have HPK := Lib.hid (L.peek 2 (by decide) (by decide) w (Below.refl _ _))
  rw [wd] at HPK
  have HA := Lib.hid hA
  have HIT := Lib.hid it
  have HL := Lib.hid L
  have p0 := L.p.wo.c0
  rw [← hA] at hsp
  have HSp : Hid (∀ W, Calls Tryz.prog 17 #[.int .u64 b] W fun e w' => e = .returned (.int .i64 (A : Int)) ∧ W = w') := Lib.hid fun W => by rw [hA]; exact c_Spots b W (by omega) (by omega)
  clear L wd it hA
  go_enter Tryz.func25, Tryz.ntmps25
  go_wp2_with fail
  refine HPK.out.mono ?_
  rintro e w' ⟨rfl, rfl⟩
  go_upto_region 4 with fail
  go_loopw [6, 7] (fun fv nv wr => ∃ (n : Nat) (fi : Int), nv = .int .i64 n ∧ fv = .int .i64 fi ∧ n ≤ A ∧ WaI b fr s.M n fi ∧ Below w.heap.size w wr) (fun _ nv _ => A - (intOf nv).toNat)
  case atStart => exact ⟨0, -1, rfl, rfl, Nat.zero_le _, ⟨fun j hj => by omega, .inl ⟨rfl, fun j hj => by omega⟩⟩, Below.refl _ _⟩
  case round =>
    obtain ⟨n, fi, rfl, rfl, hn, hI, hb⟩ := hrel
    have I := Lib.hid hI
    have HB := Lib.hid hb
    have hfb := hI.bd
    clear hI hb p0
    go_wp2_with fail
    refine (HSp.out _).mono ?_
    rintro e w' ⟨rfl, rfl⟩
    by_cases hn2 : n < A
    · go_wp2_with fail
      obtain ⟨t, ht⟩ : ∃ t, t = fr + (n : Int) := ⟨_, rfl⟩
      have HTE := Lib.hid ht
      have htb : 0 ≤ t ∧ t ≤ 2000 := by omega
      rw [← ht]
      clear ht
      refine (c_At b t _ (by omega) (by omega) (by omega) (by omega)).mono ?_
      rintro e w2 ⟨rfl, hb2⟩
      have L2 := Lib.hid ((HL.out.below HB.out).below hb2)
      have HB2 : Hid (Below w.heap.size w w2) := Lib.hid (HB.out.trans (hb2.mono HB.out.size))
      have HS := Lib.hid (c_Slot (plAt b t) L2.out.p (plAt_ok b t) L2.out.hi)
      have hit := HIT.out t
      have hI : waI b fr s.M n = s.M (plAt b t).item := by unfold waI; rw [HTE.out]
      have hM : waM b fr s.M n = s.M (plRef (s.M (plAt b t).item)) := by unfold waM; rw [hI]
      clear hb2
      go_wp2_with fail
      refine HS.out.mono ?_
      rintro e w3 ⟨rfl, hb3⟩
      have L3 := Lib.hid (L2.out.below hb3)
      have HB3 : Hid (Below w.heap.size w w3) := Lib.hid (HB2.out.trans (hb3.mono HB2.out.size))
      obtain ⟨r, hr⟩ : ∃ r, r = s.M (plAt b t).item := ⟨_, rfl⟩
      rw [← hr] at hI hM hit ⊢
      have p3 := L3.out.p.wo.c0
      have HI := Lib.hid hI
      clear hb3 hI hr HS
      by_cases hz : r = 0
      · have dz : (r == 0) = true := by simp [hz]
        go_wp2_with fail
        go_roundw
        case rel => exact ⟨n + 1, fi, by go_num, rfl, by omega, I.out.zero (HI.out.trans hz), HB3.out⟩
        case measure => simp [intOf]; omega
      · have dz : (r == 0) = false := by simp [hz]
        have HRF : Hid (∀ W, Calls Tryz.prog 26 #[.int .i64 r] W fun e w' => e = .returned (.int .u64 (plRef r)) ∧ W = w') := Lib.hid fun W => c_Ref r W (by omega) (by omega)
        have hrb : 0 ≤ plRef r ∧ plRef r < 18446744073709551616 := by unfold plRef; rw [if_neg (by omega)]; omega
        have bn : ∀ q, Below w3.heap.size w3 (w3.drewN q) := fun q => ⟨rfl, rfl, rfl, Nat.le_refl _, fun _ _ => rfl⟩
        have BN := Lib.hid bn
        have hmb := L3.out.p.bd (plRef r)
        obtain ⟨mk, hmk⟩ : ∃ mk, mk = s.M (plRef r) := ⟨_, rfl⟩
        have HP : Hid (∀ q, Calls Tryz.prog 16 #[.pointer (some ⟨B.c, 0, none⟩), .int .u64 (plRef r)] (w3.drewN q) fun e w' => e = .returned (.int .u64 mk) ∧ w3.drewN q = w') := Lib.hid fun q => by rw [hmk]; exact L3.out.peek (plRef r) hrb.1 hrb.2 _ (bn q)
        rw [← hmk] at hM hmb
        have HM := Lib.hid hM
        obtain ⟨rf, hrf⟩ : ∃ rf, rf = plRef r := ⟨_, rfl⟩
        rw [← hrf] at HRF HP hrb
        have d2 : mk % 2 = 0 ∨ mk % 2 = 1 := by omega
        clear hM hmk hrf bn
        rcases d2 with d2 | d2
        · have d3 : (mk % 2 == 0) = true := by simp [d2]
          go_wp2_with fail
          go_quiet ((first
            | (go_at_call 26; exact quietS (HRF.out _))
            | (go_at_call 16; exact quietS (HP.out _))))
          go_wp2_with fail
          go_ret
          exact ⟨n, rfl, I.out.hit hn2 (by rw [HI.out]; exact hz) (by rw [HM.out]; exact d2), HB3.out.trans ((BN.out nq).mono HB3.out.size)⟩
        · have d3 : (mk % 2 == 0) = false := by simp [d2]
          by_cases hf : fi < 0
          · have d4 : decide (fi < 0) = true := decide_eq_true hf
            go_wp2_with fail
            go_quiet ((first
              | (go_at_call 26; exact quietS (HRF.out _))
              | (go_at_call 16; exact quietS (HP.out _))))
            go_wp2_with fail
            go_roundw
            case rel => exact ⟨n + 1, n, by go_num, rfl, by omega, I.out.new hf (by rw [HI.out]; exact hz) (by rw [HM.out]; exact d2), HB3.out.trans ((BN.out nq).mono HB3.out.size)⟩
            case measure => simp [intOf]; omega
          · have d4 : decide (fi < 0) = false := decide_eq_false hf
            go_wp2_with fail
            go_quiet ((first
              | (go_at_call 26; exact quietS (HRF.out _))
              | (go_at_call 16; exact quietS (HP.out _))))
            go_wp2_with fail
            go_roundw
            case rel => exact ⟨n + 1, fi, by go_num, rfl, by omega, I.out.old (by omega) (by rw [HM.out]; exact d2), HB3.out.trans ((BN.out nq).mono HB3.out.size)⟩
            case measure => simp [intOf]; omega
    · have hne : n = A := by omega
      subst hne
      go_wp2_with fail
      go_ret
      exact ⟨fi, rfl, I.out.done, HB.out⟩
end Go.Proofs.YtlcibfpibklbdaaGreat
