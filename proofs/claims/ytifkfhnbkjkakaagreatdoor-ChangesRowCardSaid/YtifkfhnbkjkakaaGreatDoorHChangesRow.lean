/- 'ChangesRow' returns true, whatever the input, and each argument reads as it did: no condition. The frame is the guide's own; the walk is 'w_ChangesRow'. -/
import Derived.Test.YtifkfhnbkjkakaaGreatDoorHfChangesRow
import Derived.Test.YtifkfhnbkjkakaaGreatDoorZrCrW
import Derived.Test.YtifkfhnbkjkakaaGreatDoorZrSK
import Derived.Test.YtifkfhnbkjkakaaGreatDoorZrHva
import Derived.Test.YtifkfhnbkjkakaaGreatDoorHgo
import Derived.Test.YtifkfhnbkjkakaaGreatDoorCards
import Derived.Test.YtifkfhnbkjkakaaGreatDoorTie
import Derived.SevenTiedAt
import Derived.SizedLaws
import Derived.LaidLaws
import Derived.LaidMore
import Derived.Test.YtifkfhnbkjkakaaGreatDoorRows
import Derived.Test.YtifkfhnbkjkakaaGreatDoorPfA
import Derived.Test.YtifkfhnbkjkakaaGreatDoorPfB
namespace Go.Proofs.YtifkfhnbkjkakaaGreatDoor.lawChangesRow
open Go.ChangeShapes Go.WideShapes Go.ChangeAt Go.RowKit
set_option linter.unusedVariables false

set_option maxRecDepth 100000 in
theorem lifted (os : Os) (started : os.Started) (H : Type) (enc : TypeId × Value → H) :
    ReturnsInHanded {} Tryz.checked os 3 .any (fun w args => (Rows.changesRowSpec.pre enc Tryz.prog Tryz.f3 Rows.changesRowRow.domain false w args ∧ laidMet Tryz.prog laidL w) ∧ sizedMet enc Tryz.prog Tryz.f3 (OpenSpec.ofChange Rows.changesRowSpec) false w args) (Rows.changesRowSpec.post enc Tryz.prog Tryz.f3 false true false false) := by
  refine returnsInHanded_of_change_and (C := Tryz.checked) (X := fun w _ => laidMet Tryz.prog laidL w) (fun _ _ _ hh h => h.of_heap hh) own started (by kernel_rfl) Tryz.func3
    (ChangeSpec.witness_shaped (enc := enc) (C := Tryz.checked) (os := os) (X := fun w _ => laidMet Tryz.prog laidL w) false (World.doorLaid Tryz.prog 62 os) #[.agg #[.int .u8 0, .string ⟨#[]⟩, .string ⟨#[]⟩, .int .u32 0, .int .i64 0, .int .u64 0, .int .u64 0], .slice none 0 0, .bool false] 8 rfl (World.shaped_of_RefB (by kernel_rfl) (by kernel_rfl)) (by kernel_rfl) (by kernel_rfl) (by kernel_rfl) (door_met os _)) ?_
  intro W base args ds gs before hval0 hW hcnd _ hL _
  have hval : ∀ (j : Nat) t v, Tryz.f3.params[j]? = some t → args[j]? = some v → Value.okWide Tryz.prog W .any base t v := hval0
  have hW' := hW
  obtain ⟨p, q, hA0, hV, rfl, hfz, hnd⟩ := hW
  have hA : DataW.TrodAll enc Tryz.prog W 0 (fun _ => true) true Tryz.f3.params.toList args.toList ds p := hA0
  rw [Tryz.params3] at hA hval
  obtain ⟨v0, vs0, d0, ds0, p0, q0, hargs, rfl, rfl, h0, r0⟩ := trodAll_cons hA
  obtain ⟨v1, vs1, d1, ds1, p1, q1, rfl, rfl, rfl, h1, r1⟩ := trodAll_cons r0
  obtain ⟨v2, vs2, d2, ds2, p2, q2, rfl, rfl, rfl, h2, r2⟩ := trodAll_cons r1
  obtain ⟨rfl, rfl, rfl⟩ := trodAll_nil r2
  obtain rfl : args = #[v0, v1, v2] := by cases args; simp_all
  obtain ⟨rfl, rfl⟩ := trodVars_none hV
  obtain ⟨l0, rfl, n0, c0⟩ := open_struct Tryz.underlying26 (ts := [22, 9, 9, 23, 2, 24, 24]) (by kernel_rfl) (by kernel_rfl) (hval 0 26 v0 rfl rfl)
  obtain ⟨y0x0, e0x0, o0x0⟩ := c0 0 22 rfl
  obtain ⟨a0x0, rfl, l_a0x0, u_a0x0⟩ := leaf_u8 Tryz.underlying22 o0x0
  obtain ⟨y0x1, e0x1, o0x1⟩ := c0 1 9 rfl
  obtain ⟨a0x1, rfl, l_a0x1⟩ := leaf_string Tryz.underlying9 o0x1
  obtain ⟨y0x2, e0x2, o0x2⟩ := c0 2 9 rfl
  obtain ⟨a0x2, rfl, l_a0x2⟩ := leaf_string Tryz.underlying9 o0x2
  obtain ⟨y0x3, e0x3, o0x3⟩ := c0 3 23 rfl
  obtain ⟨a0x3, rfl, l_a0x3, u_a0x3⟩ := leaf_u32 Tryz.underlying23 o0x3
  obtain ⟨y0x4, e0x4, o0x4⟩ := c0 4 2 rfl
  obtain ⟨a0x4, rfl, l_a0x4, u_a0x4⟩ := leaf_i64 Tryz.underlying2 o0x4
  obtain ⟨y0x5, e0x5, o0x5⟩ := c0 5 24 rfl
  obtain ⟨a0x5, rfl, l_a0x5, u_a0x5⟩ := leaf_u64 Tryz.underlying24 o0x5
  obtain ⟨y0x6, e0x6, o0x6⟩ := c0 6 24 rfl
  obtain ⟨a0x6, rfl, l_a0x6, u_a0x6⟩ := leaf_u64 Tryz.underlying24 o0x6
  obtain rfl : l0 = [.int .u8 a0x0, .string a0x1, .string a0x2, .int .u32 a0x3, .int .i64 a0x4, .int .u64 a0x5, .int .u64 a0x6] := list_of n0 (by intro i hi; match i with | 0 => exact e0x0 | 1 => exact e0x1 | 2 => exact e0x2 | 3 => exact e0x3 | 4 => exact e0x4 | 5 => exact e0x5 | 6 => exact e0x6 | (i + 7) => exact absurd hi (by simp))
  obtain ⟨l1, g1, c1⟩ := open_calls h1 (hval 1 27 v1 rfl rfl)
  obtain ⟨a2, rfl⟩ := leaf_bool Tryz.underlying4 (cell_of_bool Tryz.underlying4 (hval 2 4 v2 rfl rfl))
  have lt0 : ∀ x ∈ p0, x.block < W.heap.size := by obtain ⟨m, hm⟩ := h0; exact DataW.trod_lt m _ _ _ hm
  have lt1 : ∀ x ∈ p1, x.block < W.heap.size := by obtain ⟨m, hm⟩ := h1; exact DataW.trod_lt m _ _ _ hm
  have lt2 : ∀ x ∈ p2, x.block < W.heap.size := by obtain ⟨m, hm⟩ := h2; exact DataW.trod_lt m _ _ _ hm
  clear hA0 hval0
  refine (w_ChangesRow a0x0 a0x1 a0x2 a0x3 a0x4 a0x5 a0x6 v1 l1 a2 W (va_of_laid hL) (by first | assumption | omega) (by first | assumption | omega) (by first | assumption | omega) (by first | assumption | omega) (by first | assumption | omega) (by first | assumption | omega) (by first | assumption | omega) (by first | assumption | omega) (by first | assumption | omega) (by first | assumption | omega) (by first | assumption | omega) (by first | assumption | omega) (by first | assumption | omega) (by first | assumption | omega)).mono fun e W' ⟨he, bel⟩ => ?_
  subst he
  exact ⟨_, rfl, _, _, _, [], _, [], hW', trodAll_mk1 (shut_bool Tryz.underlying4 _), (trodAll_cons_mk (Below.trod laidOut (by kernel_rfl) (of_decide_eq_true (by kernel_rfl)) h0 bel lt0) (trodAll_cons_mk (Below.trod laidOut (by kernel_rfl) (of_decide_eq_true (by kernel_rfl)) h1 bel lt1) (trodAll_cons_mk (Below.trod laidOut (by kernel_rfl) (of_decide_eq_true (by kernel_rfl)) h2 bel lt2) trodAll_mk0))), rfl, bel.frame _, fun h => by cases h⟩

theorem over : Rows.changesRowRow.holds Tryz.pinned (OpenSpec.ofChange Rows.changesRowSpec) :=
  OpenClaim.holds_of_wide 3 Tryz.f3 rfl rfl rfl rfl rfl rfl rfl ⟨rfl, rfl, rfl, rfl, rfl⟩ rfl rfl rfl rfl rfl (by kernel_rfl) Tryz.func3 closed
    (of_decide_eq_true (by kernel_rfl)) (by unfold Func.isWrapper; first | (rw [if_pos (by decide +kernel)]; kernel_rfl) | (rw [if_neg (by decide +kernel)]; exact ⟨rfl, rfl⟩))
    (fun os started H enc _ => lifted os started H enc)

set_option maxRecDepth 100000 in
/-- The statement: the tied card. -/
theorem proved : Rows.ChangesRowCardSaid :=
  Claim7.holds_tied_plain_at .later [] [.data, .data, .data, .sentinel, .sentinel] true (true, "ba1a0d1c97256539558859b5673ea669bddfd43b77f3510ad46825f7bfd956f9") true
    over (fun _ h => by cases h) cd_wf (fun _ h => by cases h) changesRow_row_tie rfl ⟨rfl, rfl⟩ cd_main rfl
    (fun f fn hf hfn => by
      obtain rfl : f = 3 := (Option.some.inj (cd_func.symm.trans hf)).symm
      obtain rfl : fn = Tryz.f3 := (Option.some.inj (Tryz.func3.symm.trans hfn)).symm
      exact ⟨cd_looks, fun j t ht => by
        rw [Tryz.params3] at ht
        have h3 : t = 4 ∨ t = 26 ∨ t = 27 := by
          rcases j with _ | _ | _ | j
          all_goals first | exact .inl (by simpa using ht.symm) | exact .inr (by simpa using ht.symm) | exact .inr (.inl (by simpa using ht.symm)) | exact .inr (.inr (by simpa using ht.symm)) | (simp at ht; done)
        rcases h3 with rfl | rfl | rfl
        all_goals first | exact cd_w4 | exact cd_w26 | exact cd_w27⟩)
    cd_goes
#print axioms proved
end Go.Proofs.YtifkfhnbkjkakaaGreatDoor.lawChangesRow
