/- Layer 19: a Swap. -/
import Derived.Test.YtkamcgcpfnkodaaGreatTn3
namespace Go.Proofs.YtkamcgcpfnkodaaGreat
open Go.RowKit Go.Shelf
set_option linter.unusedVariables false

def swCs (l : Value) (wd bt : Int) : List Value := [l, .int .u64 wd, .int .i64 bt]
/-- A Swap that is to store. -/
structure SwAt (W : World) (G : Om) (Z : Nat) (wd bt : Int) : Prop where
  ex : ∃ L, Ob W G 14 Z (swCs (.slice (some ⟨L, 0, none⟩) 1 1) wd bt) ∧ Ob W G 15 L [.int .i64 1]
theorem SwAt.ext {S : Nat → Prop} {O O' : Om} {w w' : World} {Z : Nat} {wd bt : Int} (h : SwAt w O Z wd bt) (e : Ext S O w O' w') (h1 : ¬ S 14) (h2 : ¬ S 15) : SwAt w' O' Z wd bt := by
  obtain ⟨L, a, b⟩ := h.ex
  exact ⟨L, a.ext e h1, b.ext e h2⟩
def SZ (t : Nat) : Prop := 14 ≤ t ∧ t ≤ 15
set_option maxHeartbeats 2000000 in
set_option maxRecDepth 100000 in
theorem c_NewSwap (v : Int) {w : World} {O : Om} (hhi : ∀ j, O j ≠ 0 → j < w.heap.size) (v0 : 0 ≤ v) (v1 : v < 18446744073709551616) (hn : plNow v ≠ 0) :
    Calls Tryz.prog 42 #[.int .u64 v] w fun e w' => ∃ Z, RP SZ w O (.pointer (some ⟨Z, 0, none⟩)) (fun W G => SwAt W G Z (plWord (plNow v) 0) (plNow v)) e w' := by
  obtain ⟨o, ho⟩ : ∃ o, o = plOld v := ⟨_, rfl⟩
  obtain ⟨n, hno⟩ : ∃ n, n = plNow v := ⟨_, rfl⟩
  have hA := c_As v w v0 v1
  rw [← ho, ← hno] at hA
  rw [← hno] at hn
  rw [← hno]
  have dn : (n == 0) = false := by simp [hn]
  obtain ⟨wd, hwd⟩ : ∃ wd, wd = plWord n 0 := ⟨_, rfl⟩
  have HW := Lib.hid hwd
  obtain ⟨O1, e1, l1, -⟩ := alloc_ob hhi 15 #[.int .i64 1] 172 w.heap.size rfl
  obtain ⟨O2, e2, z2, k2⟩ := alloc_ob e1.hi 14 (swCs (.slice (some ⟨w.heap.size, 0, none⟩) 1 1) wd n).toArray 171 (w.heap.size + 1) (by simp)
  have L2 := k2 _ _ _ l1
  have E2 : Ext SZ O w O2 _ := (e1.mono fun t _ h => by subst h; exact ⟨by decide, by decide⟩).trans (e2.mono fun t _ h => by subst h; exact ⟨by decide, by decide⟩)
  have HE := Lib.hid (And.intro E2 (And.intro z2 L2))
  rw [← hwd]
  clear ho hno hhi hn hwd e1 l1 e2 z2 k2 L2 E2
  go_enter Tryz.func42, Tryz.ntmps42
  go_wp2_with fail
  refine hA.mono ?_
  rintro e w' ⟨rfl, rfl⟩
  go_wp2_with fail
  refine (c_Word n 0 _).mono ?_
  rintro e w' ⟨rfl, rfl⟩
  rw [← HW.out]
  go_wp2_with fail
  go_ret
  exact ⟨w.heap.size + 1, rfl, O2, HE.out.1, ⟨w.heap.size, HE.out.2.1, HE.out.2.2⟩⟩
theorem c_SwOver {Z : Nat} {ao : Option Addr} {n c : Nat} {w : World} (h : w.cell? ⟨Z, 0, none⟩ = some (.slice ao n c)) : Calls Tryz.prog 80 #[.pointer (some ⟨Z, 0, none⟩)] w fun e w' => e = .returned (.bool (n == 0)) ∧ w = w' := by
  go_enter Tryz.func80, Tryz.ntmps80
  go_wp2
  go_ret
  exact ⟨ret_bool (by rw [Bool.eq_iff_iff]; simp), rfl⟩
theorem c_kind (w : World) : Calls Tryz.prog 244 #[.agg #[]] w fun e w' => e = .returned (.int .u8 5) ∧ Below w.heap.size w w' := by
  go_enter Tryz.func244, Tryz.ntmps244
  go_wp2
  go_ret
  exact ⟨rfl, (Below.refl _ _).alloc (Nat.le_refl _) _⟩
theorem mKind : ∀ W, (method 454 173 (.agg #[]) "nestbox/grows.kind").run Tryz.prog W = .ok (244, .agg #[]) W := fun W => by kernel_rfl
set_option maxHeartbeats 4000000 in
set_option maxRecDepth 100000 in
theorem c_swStep {Z : Nat} {wd bt : Int} {w : World} {O : Om} {B : Wb} {f : Cf} {s : AW} (hP : PW w O B f s) (hZ : SwAt w O Z wd bt) (hhi : ∀ j, O j ≠ 0 → j < w.heap.size) (d0 : 0 ≤ wd) (d1 : wd < 18446744073709551616) (n0 : 0 ≤ s.n) (n1 : s.n ≤ 4611686018427387904) :
    Calls Tryz.prog 81 #[.pointer (some ⟨Z, 0, none⟩), .pointer (some ⟨B.p, 0, none⟩)] w (RP (SX 14 15) w O (.tuple #[]) fun W G => PW W G B f (awNote 5 0 0 0 0 bt (awStore 2 wd s)) ∧ ∃ ao c, W.cell? ⟨Z, 0, none⟩ = some (.slice ao 0 c)) := by
  obtain ⟨L, hz, hl⟩ := hZ.ex
  have HM : Hid (Me 14 15 w O w O B f s 14 Z (swCs (.slice (some ⟨L, 0, none⟩) 1 1) wd bt)) := Lib.hid (Me.start hhi hP hz)
  have p0 := hP.wo.c0
  have z0 := hz.c 0 _ rfl
  have z1 := hz.c 1 _ rfl
  have z2 := hz.c 2 _ rfl
  have fz := hz.f 0
  have l0 := hl.c 0 _ rfl
  have hmk := mKind
  have hKK : ∀ args W, (callFunc 244 args).run Tryz.prog W = .ok (.enter 244 args) W := enters_of Tryz.func244 (by kernel_rfl) rfl
  clear hP hZ hz hl hhi
  go_enter Tryz.func81, Tryz.ntmps81
  go_wp2_with fail
  go_region_held3 (fun w' => w'.cell? ⟨B.p, 0, none⟩ = some (.pointer (some ⟨B.c, 0, none⟩)) ∧ w'.cell? ⟨Z, 1, none⟩ = some (.int .u64 wd)) (go_keep)
    ((go_at_call 27
      refine (c_StoreP 2 wd (w := w.drew) HM.out.drew.p HM.out.drew.e.hi (by decide) (by decide) d0 d1 n0 n1).mono ?_
      rintro e w1 ⟨rfl, G1, e1, P1⟩
      have M1 := Lib.hid (HM.out.drew.world (by decide) e1 P1)
      have p01 := M1.out.p.wo.c0
      have z01 := M1.out.t.c 0 _ rfl
      have z11 := M1.out.t.c 1 _ rfl
      have z21 := M1.out.t.c 2 _ rfl
      clear e1 P1))
  all_goals
    clear p0 z0 z1 z2 fz l0
    go_wp2_with fail
    obtain ⟨W, hW⟩ : ∃ W, W = w1.alloc (.cells #[] 173) := ⟨_, rfl⟩
    have MW : Hid (Me 14 15 w O W G1 B f (awStore 2 wd s) 14 Z (swCs (.slice (some ⟨L, 0, none⟩) 1 1) wd bt)) := Lib.hid (by rw [hW]; exact M1.out.below ((Below.refl _ _).alloc (Nat.le_refl _) _))
    have z2W := MW.out.t.c 2 _ rfl
    rw [← hW]
    clear p01 z01 z11 z21 hW
    go_region_held3 (fun w' => w'.cell? ⟨Z, 2, none⟩ = some (.int .i64 bt)) (go_keep)
      ((first
        | (go_at_call 244
           refine (c_kind W.drew).mono ?_
           rintro e w2 ⟨rfl, hb2⟩
           have M2 := Lib.hid (MW.out.drew.below hb2)
           have z2' := M2.out.t.c 2 _ rfl
           clear hb2)
        | (go_at_call 110
           refine (c_WNote 5 0 0 0 0 bt (w := w2) M2.out.p M2.out.e.hi (by decide) (by decide)).mono ?_
           rintro e w3 ⟨rfl, G3, e3, P3⟩
           have M3 := Lib.hid (M2.out.world (by decide) e3 P3)
           have z03 := M3.out.t.c 0 _ rfl
           have z23 := M3.out.t.c 2 _ rfl
           have f03 := M3.out.t.f 0
           clear e3 P3)))
    all_goals
      go_wp2_with fail
      go_end0
      have M4 := M3.out.set (by decide) (by decide) (by decide) 0 (.slice (some ⟨L, 0, none⟩) 0 0) (by simp [swCs])
      exact ⟨rfl, G3, M4.e, M4.p, _, _, M4.t.c 0 _ rfl⟩
theorem c_SwStep {Z : Nat} {wd bt : Int} {w : World} {O : Om} {B : Wb} {f : Cf} {s : AW} (hP : PW w O B f s) (hZ : SwAt w O Z wd bt) (hhi : ∀ j, O j ≠ 0 → j < w.heap.size) (d0 : 0 ≤ wd) (d1 : wd < 18446744073709551616) (n0 : 0 ≤ s.n) (n1 : s.n ≤ 4611686018427387904) :
    Calls Tryz.prog 43 #[.pointer (some ⟨Z, 0, none⟩), .pointer (some ⟨B.p, 0, none⟩)] w (RP (SX 14 15) w O (.bool true) fun W G => PW W G B f (awNote 5 0 0 0 0 bt (awStore 2 wd s))) := by
  have z0 : ∃ L, w.cell? ⟨Z, 0, none⟩ = some (.slice (some ⟨L, 0, none⟩) 1 1) := by
    obtain ⟨L, hz, hl⟩ := hZ.ex
    exact ⟨L, hz.c 0 _ rfl⟩
  obtain ⟨L, z0⟩ := z0
  have HT := Lib.hid (c_swStep hP hZ hhi d0 d1 n0 n1)
  clear hP hZ hhi
  go_enter Tryz.func43, Tryz.ntmps43
  go_wp2_with fail
  refine (c_SwOver z0).mono ?_
  rintro e w' ⟨rfl, rfl⟩
  go_wp2_with fail
  refine HT.out.mono ?_
  rintro e w2 ⟨rfl, G2, e2, P2, ao, c, hc⟩
  have E2 := Lib.hid e2
  have PP2 := Lib.hid P2
  clear HT e2 P2 z0
  go_wp2_with fail
  refine (c_SwOver hc).mono ?_
  rintro e w' ⟨rfl, rfl⟩
  go_wp2_with fail
  go_ret
  exact ⟨rfl, G2, E2.out, PP2.out⟩
end Go.Proofs.YtkamcgcpfnkodaaGreat
