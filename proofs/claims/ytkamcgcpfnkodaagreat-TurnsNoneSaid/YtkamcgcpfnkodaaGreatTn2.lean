/- Layer 20: a Move of an empty bucket. -/
import Derived.Test.YtkamcgcpfnkodaaGreatTn1
import Derived.Test.YtkamcgcpfnkodaaGreatFlN
import Derived.Test.YtkamcgcpfnkodaaGreatTk
namespace Go.Proofs.YtkamcgcpfnkodaaGreat
open Go.RowKit
set_option linter.unusedVariables false

theorem c_LoadP (a : Int) {w : World} {O : Om} {B : Wb} {f : Cf} {s : AW} (hP : PW w O B f s) (hhi : ∀ j, O j ≠ 0 → j < w.heap.size) (a0 : 0 ≤ a) (a1 : a < 18446744073709551616) (n0 : 0 ≤ s.n) (n1 : s.n ≤ 4611686018427387904) :
    Calls Tryz.prog 41 #[.pointer (some ⟨B.c, 0, none⟩), .int .u64 a] w (RP SW w O (.int .u64 (s.M a)) fun W G => PW W G B f (awLoad a s)) := by
  refine (c_Load a hP.ce a0 a1 n0 n1).mono fun e w' hp => ?_
  exact hP.rp_cells hhi hp
def TAGSV (Y : Nat) : Value := .func (.func 44) #[.pointer (some ⟨Y, 0, none⟩)] #[]
def mvCs (now old bk k : Int) (l : Value) : List Value := [.int .i64 now, .int .i64 old, .int .i64 bk, .int .i64 k, l, .int .i64 0, .int .i64 0, .int .i64 0]
/-- A Move in block Y that is to look at slot k's tag. -/
structure MvAt (W : World) (G : Om) (Y : Nat) (now old bk k : Int) : Prop where
  ex : ∃ S A, Ob W G 11 Y (mvCs now old bk k (.slice (some ⟨S, 0, none⟩) 1 1)) ∧ Ob W G 12 S [.iface 107 (.pointer (some ⟨A, 0, none⟩))] ∧ Ob W G 13 A [TAGSV Y, .bool false]
theorem MvAt.ext {S : Nat → Prop} {O O' : Om} {w w' : World} {Y : Nat} {now old bk k : Int} (h : MvAt w O Y now old bk k) (e : Ext S O w O' w') (h1 : ¬ S 11) (h2 : ¬ S 12) (h3 : ¬ S 13) : MvAt w' O' Y now old bk k := by
  obtain ⟨S, A, a, b, c⟩ := h.ex
  exact ⟨S, A, a.ext e h1, b.ext e h2, c.ext e h3⟩
def SM (t : Nat) : Prop := 11 ≤ t ∧ t ≤ 13
set_option maxHeartbeats 2000000 in
set_option maxRecDepth 100000 in
theorem c_NewMove (v bk : Int) {w : World} {O : Om} (hhi : ∀ j, O j ≠ 0 → j < w.heap.size) (v0 : 0 ≤ v) (v1 : v < 18446744073709551616) (hn : plNow v ≠ 0) (b0 : 0 ≤ bk) (b1 : bk < fnvSize (plOld v)) :
    Calls Tryz.prog 17 #[.int .u64 v, .int .i64 bk] w fun e w' => ∃ Y, RP SM w O (.pointer (some ⟨Y, 0, none⟩)) (fun W G => MvAt W G Y (plNow v) (plOld v) bk 0) e w' := by
  obtain ⟨o, ho⟩ : ∃ o, o = plOld v := ⟨_, rfl⟩
  obtain ⟨n, hno⟩ : ∃ n, n = plNow v := ⟨_, rfl⟩
  have hA := c_As v w v0 v1
  rw [← ho, ← hno] at hA
  rw [← hno] at hn
  rw [← ho] at b1
  have hob : -9223372036854775808 ≤ o ∧ o ≤ 9223372036854775807 := by rw [ho]; unfold plOld; split <;> omega
  rw [← ho, ← hno]
  have dn : (n != 0) = true := by simp [hn]
  have d0 : decide (0 ≤ bk) = true := by simp; omega
  obtain ⟨sz, hsz⟩ : ∃ sz, sz = fnvSize o := ⟨_, rfl⟩
  rw [← hsz] at b1
  have d1 : decide (bk < sz) = true := by simp; omega
  have HS := Lib.hid hsz
  have HO := Lib.hid hob
  obtain ⟨O1, e1, y1, -⟩ := alloc_ob hhi 11 (mvCs n o bk 0 (.slice (some ⟨w.heap.size + 1 + 1, 0, none⟩) 1 1)).toArray 61 w.heap.size rfl
  have HH := Lib.hid hhi
  clear ho hno hhi hsz hob hn
  go_enter Tryz.func17, Tryz.ntmps17
  go_wp2_with fail
  refine hA.mono ?_
  rintro e w' ⟨rfl, rfl⟩
  go_wp2_with fail
  refine (c_Size o _ HO.out.1 HO.out.2).mono ?_
  rintro e w' ⟨rfl, rfl⟩
  rw [← HS.out]
  go_wp2_with fail
  go_ret
  obtain ⟨O2, e2, a2, k2⟩ := alloc_ob e1.hi 13 #[TAGSV w.heap.size, .bool false] 110 (w.heap.size + 1) (by simp)
  obtain ⟨O3, e3, s3, k3⟩ := alloc_ob e2.hi 12 #[.iface 107 (.pointer (some ⟨w.heap.size + 1, 0, none⟩))] 112 (w.heap.size + 1 + 1) (by simp)
  have y3 := k3 _ _ _ (k2 _ _ _ y1)
  have a3 := k3 _ _ _ a2
  have E3 : Ext SM O w O3 _ := ((e1.mono fun t _ h => by subst h; exact ⟨by decide, by decide⟩).trans (e2.mono fun t _ h => by subst h; exact ⟨by decide, by decide⟩)).trans (e3.mono fun t _ h => by subst h; exact ⟨by decide, by decide⟩)
  exact ⟨w.heap.size, rfl, O3, E3, ⟨w.heap.size + 1 + 1, w.heap.size + 1, y3, s3, a3⟩⟩
theorem c_actOver {A : Nat} {w : World} {b : Bool} (h : w.cell? ⟨A, 1, none⟩ = some (.bool b)) : Calls Tryz.prog 232 #[.pointer (some ⟨A, 0, none⟩)] w fun e w' => e = .returned (.bool b) ∧ w = w' := by
  go_enter Tryz.func232, Tryz.ntmps232
  go_wp2
  go_ret
  exact ⟨rfl, rfl⟩
theorem c_MOver {Y : Nat} {ao : Option Addr} {n c : Nat} {w : World} (h : w.cell? ⟨Y, 4, none⟩ = some (.slice ao n c)) : Calls Tryz.prog 19 #[.pointer (some ⟨Y, 0, none⟩)] w fun e w' => e = .returned (.bool (n == 0)) ∧ w = w' := by
  go_enter Tryz.func19, Tryz.ntmps19
  go_wp2
  go_ret
  exact ⟨ret_bool (by rw [Bool.eq_iff_iff]; simp), rfl⟩
set_option maxHeartbeats 4000000 in
set_option maxRecDepth 100000 in
/-- Line 1 of a slot that is empty. -/
theorem c_mtags {Y : Nat} {now old bk k : Int} {l : Value} {w : World} {O : Om} {B : Wb} {f : Cf} {s : AW} (hP : PW w O B f s) (hY : Ob w O 11 Y (mvCs now old bk k l)) (hhi : ∀ j, O j ≠ 0 → j < w.heap.size) (o0 : -9223372036854775808 ≤ old) (o1 : old ≤ 9223372036854775807) (b0 : -9223372036854775808 ≤ bk) (b1 : bk ≤ 9223372036854775807) (k0 : 0 ≤ k) (k1 : k < 4)
    (hz : s.M (plTags old bk) = 0) (hp0 : 0 ≤ plTags old bk) (hp1 : plTags old bk < 18446744073709551616) (n0 : 0 ≤ s.n) (n1 : s.n ≤ 4611686018427387904) :
    Calls Tryz.prog 44 #[.pointer (some ⟨Y, 0, none⟩), .pointer (some ⟨B.p, 0, none⟩)] w (RP (SX 11 11) w O (.tuple #[]) fun W G => PW W G B f (awLoad (plTags old bk) s) ∧ Ob W G 11 Y (mvCs now old bk k l)) := by
  have HM : Hid (Me 11 11 w O w O B f s 11 Y (mvCs now old bk k l)) := Lib.hid (Me.start hhi hP hY)
  have p0 := hP.wo.c0
  have q1 := hY.c 1 _ rfl
  have q2 := hY.c 2 _ rfl
  have q3 := hY.c 3 _ rfl
  have HZ := Lib.hid hz
  clear hP hY hhi hz
  go_enter Tryz.func44, Tryz.ntmps44
  go_wp2_with fail
  go_region_held3 (fun w' => w'.cell? ⟨B.p, 0, none⟩ = some (.pointer (some ⟨B.c, 0, none⟩)) ∧ w'.cell? ⟨Y, 1, none⟩ = some (.int .i64 old) ∧ w'.cell? ⟨Y, 2, none⟩ = some (.int .i64 bk) ∧ w'.cell? ⟨Y, 3, none⟩ = some (.int .i64 k)) (go_keep)
    ((first
      | (go_at_call 83
         refine (c_Tags _ _ w.drew o0 o1 b0 b1).mono ?_
         rintro e w1 ⟨rfl, hb1⟩
         have M1 := Lib.hid (HM.out.drew.below hb1)
         have p01 := M1.out.p.wo.c0
         have q11 := M1.out.t.c 1 _ rfl
         have q21 := M1.out.t.c 2 _ rfl
         have q31 := M1.out.t.c 3 _ rfl
         clear hb1)
      | (go_at_call 41
         refine (c_LoadP _ M1.out.p M1.out.e.hi hp0 hp1 n0 n1).mono ?_
         rintro e w2 ⟨rfl, G2, e2, P2⟩
         have M2 := Lib.hid (M1.out.world (by decide) e2 P2)
         rw [HZ.out]
         have p02 := M2.out.p.wo.c0
         have q12 := M2.out.t.c 1 _ rfl
         have q22 := M2.out.t.c 2 _ rfl
         have q32 := M2.out.t.c 3 _ rfl
         clear e2 P2)
      | (go_at_call 82
         refine (c_Tag0 _ w2 k0 k1).mono ?_
         rintro e w3 ⟨rfl, hb3⟩
         have M3 := Lib.hid (M2.out.below hb3)
         have p03 := M3.out.p.wo.c0
         have q13 := M3.out.t.c 1 _ rfl
         have q23 := M3.out.t.c 2 _ rfl
         have q33 := M3.out.t.c 3 _ rfl
         have q53 := M3.out.t.c 5 _ rfl
         have f53 := M3.out.t.f 5
         have M4 := Lib.hid (M3.out.set (by decide) (by decide) (by decide) 5 (.int .i64 0) (by simp [mvCs]))
         have p04 := M4.out.p.wo.c0
         have q14 := M4.out.t.c 1 _ rfl
         have q24 := M4.out.t.c 2 _ rfl
         have q34 := M4.out.t.c 3 _ rfl
         have q54 := M4.out.t.c 5 _ rfl
         clear hb3)))
  all_goals
    go_wp2_with fail
    go_end0
    exact M4.out.rp
end Go.Proofs.YtkamcgcpfnkodaaGreat
