/- Layer 10: the world's tick; what the world tells. -/
import Derived.Test.YtijifjiehldcaaaGreatWn
import Derived.Test.YtijifjiehldcaaaGreatEpTick
namespace Go.Proofs.YtijifjiehldcaaaGreat
set_option linter.unusedSimpArgs false
open Go.RowKit
set_option linter.unusedVariables false

/-- A tick of the world. -/
def awTick (s : AW) : AW := ⟨upd s.M 8 (epTick (s.M 8)), s.n + 1, ⟨3, 8, s.M 8, epTick (s.M 8)⟩, s.tk, s.ho, s.it, s.nt⟩
set_option maxHeartbeats 1000000 in
set_option maxRecDepth 100000 in
theorem c_WTick (w : World) (O : Om) (B : Wb) (f : Cf) (s : AW) (hP : PW w O B f s) (hhi : ∀ j, O j ≠ 0 → j < w.heap.size) (n0 : 0 ≤ s.n) (n1 : s.n ≤ 4611686018427387904) :
    Calls Tryz.prog 62 #[.pointer (some ⟨B.p, 0, none⟩)] w (RP SW w O (.tuple #[]) fun W G => PW W G B f (awTick s)) := by
  have p0 := hP.wo.c0
  have hpl := hP.wo.lt
  have hb := hP.bd 8
  have htb := epTick_bd (s.M 8)
  have HK := Lib.hid (c_Peek 8 hP.ce (by decide) (by decide))
  have HP := Lib.hid hP
  have HH := Lib.hid hhi
  clear hP hhi
  go_enter Tryz.func62, Tryz.ntmps62
  go_wp2_with fail
  refine (HK.out).mono ?_
  rintro e w' ⟨rfl, rfl⟩
  obtain ⟨m8, hm8⟩ : ∃ m8, m8 = s.M 8 := ⟨_, rfl⟩
  have Hm := Lib.hid hm8
  rw [← hm8] at hb htb ⊢
  clear HK hm8
  go_wp2_with fail
  go_region_held3 (fun w' => w'.cell? ⟨B.p, 0, none⟩ = some (.pointer (some ⟨B.c, 0, none⟩))) (go_keep)
    (first
      | (go_at_call 112; refine (c_Tick m8 _ hb.1 (by omega)).mono ?_; rintro e w1 ⟨rfl, hb1⟩
         have P1 := HP.out.below HH.out ((Below.refl _ _).drew.trans hb1)
         have hh1 : ∀ j, O j ≠ 0 → j < w1.heap.size := fun j hj => Nat.lt_of_lt_of_le (HH.out j hj) hb1.size
         have r0 := P1.wo.c0
         have HP1 := Lib.hid P1
         have HH1 := Lib.hid hh1
         have HB1 := Lib.hid ((Below.refl _ _).drew.trans hb1)
         clear P1 hh1 hb1)
      | (go_at_call 111
         refine (c_CAS_hit (w := w1) 8 m8 (epTick m8) HP1.out.ce (by decide) (by decide) htb.1 (by omega) n0 n1 (by rw [Hm.out])).mono ?_
         intro e w2 hp
         obtain ⟨rfl, O2, E2, P2⟩ := PW.rp_cells HP1.out HH1.out hp
         have HE := Lib.hid (((Ext.of_below HH.out HB1.out).trans (S := SW) E2))
         have HP2 := Lib.hid P2
         have r1 := P2.wo.c0
         clear hp E2 P2))
  all_goals
    rw [Hm.out] at HP2
    go_wp2
    go_end0
    exact ⟨rfl, O2, HE.out, HP2.out⟩
/-- A word is loaded. -/
def awLoad (x : Int) (s : AW) : AW := ⟨s.M, s.n + 1, ⟨1, x, s.M x, s.M x⟩, s.tk, s.ho, s.it, s.nt⟩
/-- A word is stored. -/
def awStore (a v : Int) (s : AW) : AW := ⟨upd s.M a v, s.n + 1, ⟨2, a, s.M a, v⟩, s.tk, s.ho, s.it, s.nt⟩
theorem c_StoreP (a v : Int) {w : World} {O : Om} {B : Wb} {f : Cf} {s : AW} (hP : PW w O B f s) (hhi : ∀ j, O j ≠ 0 → j < w.heap.size) (a0 : 0 ≤ a) (a1 : a < 18446744073709551616) (v0 : 0 ≤ v) (v1 : v < 18446744073709551616) (n0 : 0 ≤ s.n) (n1 : s.n ≤ 4611686018427387904) :
    Calls Tryz.prog 36 #[.pointer (some ⟨B.c, 0, none⟩), .int .u64 a, .int .u64 v] w (RP SW w O (.int .u64 (s.M a)) fun W G => PW W G B f (awStore a v s)) :=
  (c_Store a v hP.ce a0 a1 v0 v1 n0 n1).mono fun e w' hp => hP.rp_cells hhi hp
theorem c_WSteps (w : World) (O : Om) (B : Wb) (f : Cf) (s : AW) (hP : PW w O B f s) : Calls Tryz.prog 50 #[.pointer (some ⟨B.p, 0, none⟩)] w fun e w' => e = .returned (.int .i64 s.n) ∧ w = w' := by
  have p0 := hP.wo.c0
  have HK := Lib.hid (c_CCount hP.ce)
  clear hP
  go_enter Tryz.func50, Tryz.ntmps50
  go_wp2_with fail
  refine (HK.out).mono ?_
  rintro e w' ⟨rfl, rfl⟩
  go_wp2
  go_ret
  exact ⟨rfl, rfl⟩
end Go.Proofs.YtijifjiehldcaaaGreat
