/- 'ChangesVoid' returns true, whatever the input, and each argument reads as it did: no condition. The frame is the guide's own; the walk is 'w_ChangesVoid'. -/
import Derived.Test.YtifkfhnbkjkakaaGreatDoorHfChangesVoid
import Derived.Test.YtifkfhnbkjkakaaGreatDoorZcSJ
import Derived.Test.YtifkfhnbkjkakaaGreatDoorZcHva
import Derived.Test.YtifkfhnbkjkakaaGreatDoorHgo
import Derived.Test.YtifkfhnbkjkakaaGreatDoorCards
import Derived.Test.YtifkfhnbkjkakaaGreatDoorTie
import Derived.SevenTiedAt
import Derived.SizedLaws
import Derived.LaidLaws
import Derived.LaidMore
import Derived.Test.YtifkfhnbkjkakaaGreatDoorRows
import Derived.Test.YtifkfhnbkjkakaaGreatDoorPfA
import Derived.Test.YtifkfhnbkjkakaaGreatDoorPfB
namespace Go.Proofs.YtifkfhnbkjkakaaGreatDoor.lawChangesVoid
open Go.ChangeShapes Go.WideShapes Go.ChangeAt Go.RowKit
set_option linter.unusedVariables false

set_option maxRecDepth 100000 in
theorem lifted (os : Os) (started : os.Started) (H : Type) (enc : TypeId × Value → H) :
    ReturnsInHanded {} Tryz.checked os 5 .any (fun w args => (Rows.changesVoidSpec.pre enc Tryz.prog Tryz.f5 Rows.changesVoidRow.domain false w args ∧ laidMet Tryz.prog laidL w) ∧ sizedMet enc Tryz.prog Tryz.f5 (OpenSpec.ofChange Rows.changesVoidSpec) false w args) (Rows.changesVoidSpec.post enc Tryz.prog Tryz.f5 false true false false) := by
  refine returnsInHanded_of_change_and (C := Tryz.checked) (X := fun w _ => laidMet Tryz.prog laidL w) (fun _ _ _ hh h => h.of_heap hh) own started (by kernel_rfl) Tryz.func5
    (ChangeSpec.witness_shaped (enc := enc) (C := Tryz.checked) (os := os) (X := fun w _ => laidMet Tryz.prog laidL w) false (World.doorLaid Tryz.prog 62 os) #[.int .i64 0, .agg #[.int .u8 0, .string ⟨#[]⟩, .string ⟨#[]⟩, .int .u32 0, .int .i64 0, .int .u64 0, .int .u64 0]] 8 rfl (World.shaped_of_RefB (by kernel_rfl) (by kernel_rfl)) (by kernel_rfl) (by kernel_rfl) (by kernel_rfl) (door_met os _)) ?_
  intro W base args ds gs before hval0 hW hcnd _ hL _
  have hval : ∀ (j : Nat) t v, Tryz.f5.params[j]? = some t → args[j]? = some v → Value.okWide Tryz.prog W .any base t v := hval0
  have hW' := hW
  obtain ⟨p, q, hA0, hV, rfl, hfz, hnd⟩ := hW
  have hA : DataW.TrodAll enc Tryz.prog W 0 (fun _ => true) true Tryz.f5.params.toList args.toList ds p := hA0
  rw [Tryz.params5] at hA hval
  obtain ⟨v0, vs0, d0, ds0, p0, q0, hargs, rfl, rfl, h0, r0⟩ := trodAll_cons hA
  obtain ⟨v1, vs1, d1, ds1, p1, q1, rfl, rfl, rfl, h1, r1⟩ := trodAll_cons r0
  obtain ⟨rfl, rfl, rfl⟩ := trodAll_nil r1
  obtain rfl : args = #[v0, v1] := by cases args; simp_all
  obtain ⟨rfl, rfl⟩ := trodVars_none hV
  obtain ⟨a0, rfl, l_a0, u_a0⟩ := leaf_i64 Tryz.underlying3 (cell_of_int Tryz.underlying3 (hval 0 3 v0 rfl rfl))
  obtain ⟨l1, rfl, n1, c1⟩ := open_struct Tryz.underlying26 (ts := [22, 9, 9, 23, 2, 24, 24]) (by kernel_rfl) (by kernel_rfl) (hval 1 26 v1 rfl rfl)
  obtain ⟨y1x0, e1x0, o1x0⟩ := c1 0 22 rfl
  obtain ⟨a1x0, rfl, l_a1x0, u_a1x0⟩ := leaf_u8 Tryz.underlying22 o1x0
  obtain ⟨y1x1, e1x1, o1x1⟩ := c1 1 9 rfl
  obtain ⟨a1x1, rfl, l_a1x1⟩ := leaf_string Tryz.underlying9 o1x1
  obtain ⟨y1x2, e1x2, o1x2⟩ := c1 2 9 rfl
  obtain ⟨a1x2, rfl, l_a1x2⟩ := leaf_string Tryz.underlying9 o1x2
  obtain ⟨y1x3, e1x3, o1x3⟩ := c1 3 23 rfl
  obtain ⟨a1x3, rfl, l_a1x3, u_a1x3⟩ := leaf_u32 Tryz.underlying23 o1x3
  obtain ⟨y1x4, e1x4, o1x4⟩ := c1 4 2 rfl
  obtain ⟨a1x4, rfl, l_a1x4, u_a1x4⟩ := leaf_i64 Tryz.underlying2 o1x4
  obtain ⟨y1x5, e1x5, o1x5⟩ := c1 5 24 rfl
  obtain ⟨a1x5, rfl, l_a1x5, u_a1x5⟩ := leaf_u64 Tryz.underlying24 o1x5
  obtain ⟨y1x6, e1x6, o1x6⟩ := c1 6 24 rfl
  obtain ⟨a1x6, rfl, l_a1x6, u_a1x6⟩ := leaf_u64 Tryz.underlying24 o1x6
  obtain rfl : l1 = [.int .u8 a1x0, .string a1x1, .string a1x2, .int .u32 a1x3, .int .i64 a1x4, .int .u64 a1x5, .int .u64 a1x6] := list_of n1 (by intro i hi; match i with | 0 => exact e1x0 | 1 => exact e1x1 | 2 => exact e1x2 | 3 => exact e1x3 | 4 => exact e1x4 | 5 => exact e1x5 | 6 => exact e1x6 | (i + 7) => exact absurd hi (by simp))
  have lt0 : ∀ x ∈ p0, x.block < W.heap.size := by obtain ⟨m, hm⟩ := h0; exact DataW.trod_lt m _ _ _ hm
  have lt1 : ∀ x ∈ p1, x.block < W.heap.size := by obtain ⟨m, hm⟩ := h1; exact DataW.trod_lt m _ _ _ hm
  clear hA0 hval0
  refine (w_ChangesVoid a0 a1x0 a1x1 a1x2 a1x3 a1x4 a1x5 a1x6 W (va_of_laid hL) (by first | assumption | omega) (by first | assumption | omega) (by first | assumption | omega) (by first | assumption | omega) (by first | assumption | omega) (by first | assumption | omega) (by first | assumption | omega) (by first | assumption | omega) (by first | assumption | omega) (by first | assumption | omega) (by first | assumption | omega) (by first | assumption | omega) (by first | assumption | omega) (by first | assumption | omega)).mono fun e W' ⟨he, bel⟩ => ?_
  subst he
  exact ⟨_, rfl, _, _, _, [], _, [], hW', trodAll_mk1 (shut_bool Tryz.underlying4 _), (trodAll_cons_mk (Below.trod laidOut (by kernel_rfl) (of_decide_eq_true (by kernel_rfl)) h0 bel lt0) (trodAll_cons_mk (Below.trod laidOut (by kernel_rfl) (of_decide_eq_true (by kernel_rfl)) h1 bel lt1) trodAll_mk0)), rfl, bel.frame _, fun h => by cases h⟩

theorem over : Rows.changesVoidRow.holds Tryz.pinned (OpenSpec.ofChange Rows.changesVoidSpec) :=
  OpenClaim.holds_of_wide 5 Tryz.f5 rfl rfl rfl rfl rfl rfl rfl ⟨rfl, rfl, rfl, rfl, rfl⟩ rfl rfl rfl rfl rfl (by kernel_rfl) Tryz.func5 closed
    (of_decide_eq_true (by kernel_rfl)) (by unfold Func.isWrapper; first | (rw [if_pos (by decide +kernel)]; kernel_rfl) | (rw [if_neg (by decide +kernel)]; exact ⟨rfl, rfl⟩))
    (fun os started H enc _ => lifted os started H enc)

set_option maxRecDepth 100000 in
/-- The statement: the tied card. -/
theorem proved : Rows.ChangesVoidCardSaid :=
  Claim7.holds_tied_plain_at .later [] [.data, .data, .data, .sentinel, .sentinel] true (true, "ba1a0d1c97256539558859b5673ea669bddfd43b77f3510ad46825f7bfd956f9") true
    over (fun _ h => by cases h) cd_wf (fun _ h => by cases h) changesVoid_row_tie rfl ⟨rfl, rfl⟩ cd_main rfl
    (fun f fn hf hfn => by
      obtain rfl : f = 5 := (Option.some.inj (cd_func.symm.trans hf)).symm
      obtain rfl : fn = Tryz.f5 := (Option.some.inj (Tryz.func5.symm.trans hfn)).symm
      exact ⟨cd_looks, fun j t ht => by
        rw [Tryz.params5] at ht
        have h3 : t = 3 ∨ t = 26 := by
          rcases j with _ | _ | j
          all_goals first | exact .inl (by simpa using ht.symm) | exact .inr (by simpa using ht.symm) | exact .inr (.inl (by simpa using ht.symm)) | exact .inr (.inr (by simpa using ht.symm)) | (simp at ht; done)
        rcases h3 with rfl | rfl
        all_goals first | exact cd_w3 | exact cd_w26⟩)
    cd_goes
#print axioms proved
end Go.Proofs.YtifkfhnbkjkakaaGreatDoor.lawChangesVoid
