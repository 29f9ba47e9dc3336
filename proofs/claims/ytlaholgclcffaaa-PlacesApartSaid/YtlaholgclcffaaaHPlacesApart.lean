/- 'PlacesApart' returns true, whatever the input, and each argument reads as it did: no condition. The frame is the guide's own; the walk is 'w_PlacesApart'. -/
import Derived.Test.YtlaholgclcffaaaPlApart
import Derived.Test.YtlaholgclcffaaaFrame
namespace Go.Proofs.Ytlaholgclcffaaa.lawPlacesApart
open Go.ChangeShapes Go.WideShapes Go.ChangeAt Go.RowKit
set_option linter.unusedVariables false

theorem own : ownKnob Try.prog.godebug = none := by kernel_rfl
theorem laidOut : laidOutB Try.prog = true := by kernel_rfl
set_option maxRecDepth 100000 in
theorem lifted (os : Os) (started : os.Started) (H : Type) (enc : TypeId × Value → H) :
    ReturnsInHanded {} Try.checked os 13 .any (Rows.placesApartSpec.pre6 enc Try.prog Try.f13 Rows.placesApartRow.domain false) (Rows.placesApartSpec.post enc Try.prog Try.f13 false true false false) := by
  refine returnsInHanded_of_change (C := Try.checked) own started (by kernel_rfl) Try.func13
    (ChangeSpec.witness6 (enc := enc) (C := Try.checked) false ⟨#[], #[.agg #[.int .u16 0, .int .u16 0, .int .u16 0, .int .u16 0, .int .u16 0, .int .u16 0], .int .u32 0, .int .u32 0], []⟩ 8 (by kernel_rfl) (by kernel_rfl) (by kernel_rfl) (by kernel_rfl)) ?_
  intro W base args ds gs before hval0 hW hcnd _
  have hval : ∀ (j : Nat) t v, Try.f13.params[j]? = some t → args[j]? = some v → Value.okWide Try.prog W .any base t v := hval0
  have hW' := hW
  obtain ⟨p, q, hA0, hV, rfl, hfz, hnd⟩ := hW
  have hA : DataW.TrodAll enc Try.prog W 0 (fun _ => true) true Try.f13.params.toList args.toList ds p := hA0
  rw [Try.params13] at hA hval
  obtain ⟨v0, vs0, d0, ds0, p0, q0, hargs, rfl, rfl, h0, r0⟩ := trodAll_cons hA
  obtain ⟨v1, vs1, d1, ds1, p1, q1, rfl, rfl, rfl, h1, r1⟩ := trodAll_cons r0
  obtain ⟨v2, vs2, d2, ds2, p2, q2, rfl, rfl, rfl, h2, r2⟩ := trodAll_cons r1
  obtain ⟨rfl, rfl, rfl⟩ := trodAll_nil r2
  obtain rfl : args = #[v0, v1, v2] := by cases args; simp_all
  obtain ⟨rfl, rfl⟩ := trodVars_none hV
  obtain ⟨l0, rfl, n0, c0⟩ := open_array Try.underlying56 (ts := [36, 36, 36, 36, 36, 36]) (by kernel_rfl) (by kernel_rfl) (hval 0 56 v0 rfl rfl)
  obtain ⟨y0x0, e0x0, o0x0⟩ := c0 0 36 rfl
  obtain ⟨a0x0, rfl, l_a0x0, u_a0x0⟩ := leaf_u16 Try.underlying36 o0x0
  obtain ⟨y0x1, e0x1, o0x1⟩ := c0 1 36 rfl
  obtain ⟨a0x1, rfl, l_a0x1, u_a0x1⟩ := leaf_u16 Try.underlying36 o0x1
  obtain ⟨y0x2, e0x2, o0x2⟩ := c0 2 36 rfl
  obtain ⟨a0x2, rfl, l_a0x2, u_a0x2⟩ := leaf_u16 Try.underlying36 o0x2
  obtain ⟨y0x3, e0x3, o0x3⟩ := c0 3 36 rfl
  obtain ⟨a0x3, rfl, l_a0x3, u_a0x3⟩ := leaf_u16 Try.underlying36 o0x3
  obtain ⟨y0x4, e0x4, o0x4⟩ := c0 4 36 rfl
  obtain ⟨a0x4, rfl, l_a0x4, u_a0x4⟩ := leaf_u16 Try.underlying36 o0x4
  obtain ⟨y0x5, e0x5, o0x5⟩ := c0 5 36 rfl
  obtain ⟨a0x5, rfl, l_a0x5, u_a0x5⟩ := leaf_u16 Try.underlying36 o0x5
  obtain rfl : l0 = [.int .u16 a0x0, .int .u16 a0x1, .int .u16 a0x2, .int .u16 a0x3, .int .u16 a0x4, .int .u16 a0x5] := list_of n0 (by intro i hi; match i with | 0 => exact e0x0 | 1 => exact e0x1 | 2 => exact e0x2 | 3 => exact e0x3 | 4 => exact e0x4 | 5 => exact e0x5 | (i + 6) => exact absurd hi (by simp))
  obtain ⟨a1, rfl, l_a1, u_a1⟩ := leaf_u32 Try.underlying57 (cell_of_int Try.underlying57 (hval 1 57 v1 rfl rfl))
  obtain ⟨a2, rfl, l_a2, u_a2⟩ := leaf_u32 Try.underlying57 (cell_of_int Try.underlying57 (hval 2 57 v2 rfl rfl))
  have lt0 : ∀ x ∈ p0, x.block < W.heap.size := by obtain ⟨m, hm⟩ := h0; exact DataW.trod_lt m _ _ _ hm
  have lt1 : ∀ x ∈ p1, x.block < W.heap.size := by obtain ⟨m, hm⟩ := h1; exact DataW.trod_lt m _ _ _ hm
  have lt2 : ∀ x ∈ p2, x.block < W.heap.size := by obtain ⟨m, hm⟩ := h2; exact DataW.trod_lt m _ _ _ hm
  clear hA0 hval0
  refine (w_PlacesApart a0x0 a0x1 a0x2 a0x3 a0x4 a0x5 a1 a2 W (by first | assumption | omega) (by first | assumption | omega) (by first | assumption | omega) (by first | assumption | omega) (by first | assumption | omega) (by first | assumption | omega) (by first | assumption | omega) (by first | assumption | omega) (by first | assumption | omega) (by first | assumption | omega) (by first | assumption | omega) (by first | assumption | omega) (by first | assumption | omega) (by first | assumption | omega) (by first | assumption | omega) (by first | assumption | omega)).mono fun e W' ⟨he, bel⟩ => ?_
  subst he
  exact ⟨_, rfl, _, _, _, [], _, [], hW', trodAll_mk1 (shut_bool Try.underlying4 _), (trodAll_cons_mk (Below.trod laidOut (by kernel_rfl) (of_decide_eq_true (by kernel_rfl)) h0 bel lt0) (trodAll_cons_mk (Below.trod laidOut (by kernel_rfl) (of_decide_eq_true (by kernel_rfl)) h1 bel lt1) (trodAll_cons_mk (Below.trod laidOut (by kernel_rfl) (of_decide_eq_true (by kernel_rfl)) h2 bel lt2) trodAll_mk0))), rfl, bel.frame _, fun h => by cases h⟩

theorem over : Rows.placesApartRow.holds Try.pinned (OpenSpec.ofChange Rows.placesApartSpec) :=
  OpenClaim.holds_of_wide 13 Try.f13 rfl rfl rfl rfl rfl rfl rfl ⟨rfl, rfl, rfl, rfl, rfl⟩ rfl rfl rfl rfl rfl (by kernel_rfl) Try.func13 (by kernel_rfl)
    (of_decide_eq_true (by kernel_rfl)) (by unfold Func.isWrapper; first | (rw [if_pos (by decide +kernel)]; kernel_rfl) | (rw [if_neg (by decide +kernel)]; exact ⟨rfl, rfl⟩))
    (fun os started H enc _ => lifted os started H enc)

/-- The statement. -/
theorem proved : Rows.PlacesApartSaid := over
#print axioms proved
end Go.Proofs.Ytlaholgclcffaaa.lawPlacesApart
