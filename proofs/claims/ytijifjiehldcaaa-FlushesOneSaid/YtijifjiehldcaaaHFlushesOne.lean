/- 'FlushesOne' returns true, whatever the input, and each argument reads as it did: no condition. The frame is the guide's own; the walk is 'w_FlushesOne'. -/
import Derived.Test.YtijifjiehldcaaaFlOne
import Derived.Test.YtijifjiehldcaaaRows
import Derived.Test.YtijifjiehldcaaaFrame
namespace Go.Proofs.Ytijifjiehldcaaa.lawFlushesOne
open Go.ChangeShapes Go.WideShapes Go.ChangeAt Go.RowKit
set_option linter.unusedVariables false

theorem own : ownKnob Try.prog.godebug = none := by kernel_rfl
theorem laidOut : laidOutB Try.prog = true := by kernel_rfl
set_option maxRecDepth 100000 in
theorem lifted (os : Os) (started : os.Started) (H : Type) (enc : TypeId × Value → H) :
    ReturnsInHanded {} Try.checked os 7 .any (Rows.flushesOneSpec.pre6 enc Try.prog Try.f7 Rows.flushesOneRow.domain false) (Rows.flushesOneSpec.post enc Try.prog Try.f7 false true false false) := by
  refine returnsInHanded_of_change (C := Try.checked) own started (by kernel_rfl) Try.func7
    (ChangeSpec.witness6 (enc := enc) (C := Try.checked) false ⟨#[], #[.int .u64 0, .int .i64 0, .agg #[.int .u8 0, .int .u8 0, .int .u8 0, .int .u8 0]], []⟩ 8 (by kernel_rfl) (by kernel_rfl) (by kernel_rfl) (by kernel_rfl)) ?_
  intro W base args ds gs before hval0 hW hcnd _
  have hval : ∀ (j : Nat) t v, Try.f7.params[j]? = some t → args[j]? = some v → Value.okWide Try.prog W .any base t v := hval0
  have hW' := hW
  obtain ⟨p, q, hA0, hV, rfl, hfz, hnd⟩ := hW
  have hA : DataW.TrodAll enc Try.prog W 0 (fun _ => true) true Try.f7.params.toList args.toList ds p := hA0
  rw [Try.params7] at hA hval
  obtain ⟨v0, vs0, d0, ds0, p0, q0, hargs, rfl, rfl, h0, r0⟩ := trodAll_cons hA
  obtain ⟨v1, vs1, d1, ds1, p1, q1, rfl, rfl, rfl, h1, r1⟩ := trodAll_cons r0
  obtain ⟨v2, vs2, d2, ds2, p2, q2, rfl, rfl, rfl, h2, r2⟩ := trodAll_cons r1
  obtain ⟨rfl, rfl, rfl⟩ := trodAll_nil r2
  obtain rfl : args = #[v0, v1, v2] := by cases args; simp_all
  obtain ⟨rfl, rfl⟩ := trodVars_none hV
  obtain ⟨a0, rfl, l_a0, u_a0⟩ := leaf_u64 Try.underlying22 (cell_of_int Try.underlying22 (hval 0 22 v0 rfl rfl))
  obtain ⟨a1, rfl, l_a1, u_a1⟩ := leaf_i64 Try.underlying2 (cell_of_int Try.underlying2 (hval 1 2 v1 rfl rfl))
  obtain ⟨l2, rfl, n2, c2⟩ := open_array Try.underlying51 (ts := [5, 5, 5, 5]) (by kernel_rfl) (by kernel_rfl) (hval 2 51 v2 rfl rfl)
  obtain ⟨y2x0, e2x0, o2x0⟩ := c2 0 5 rfl
  obtain ⟨a2x0, rfl, l_a2x0, u_a2x0⟩ := leaf_u8 Try.underlying5 o2x0
  obtain ⟨y2x1, e2x1, o2x1⟩ := c2 1 5 rfl
  obtain ⟨a2x1, rfl, l_a2x1, u_a2x1⟩ := leaf_u8 Try.underlying5 o2x1
  obtain ⟨y2x2, e2x2, o2x2⟩ := c2 2 5 rfl
  obtain ⟨a2x2, rfl, l_a2x2, u_a2x2⟩ := leaf_u8 Try.underlying5 o2x2
  obtain ⟨y2x3, e2x3, o2x3⟩ := c2 3 5 rfl
  obtain ⟨a2x3, rfl, l_a2x3, u_a2x3⟩ := leaf_u8 Try.underlying5 o2x3
  obtain rfl : l2 = [.int .u8 a2x0, .int .u8 a2x1, .int .u8 a2x2, .int .u8 a2x3] := list_of n2 (by intro i hi; match i with | 0 => exact e2x0 | 1 => exact e2x1 | 2 => exact e2x2 | 3 => exact e2x3 | (i + 4) => exact absurd hi (by simp))
  have lt0 : ∀ x ∈ p0, x.block < W.heap.size := by obtain ⟨m, hm⟩ := h0; exact DataW.trod_lt m _ _ _ hm
  have lt1 : ∀ x ∈ p1, x.block < W.heap.size := by obtain ⟨m, hm⟩ := h1; exact DataW.trod_lt m _ _ _ hm
  have lt2 : ∀ x ∈ p2, x.block < W.heap.size := by obtain ⟨m, hm⟩ := h2; exact DataW.trod_lt m _ _ _ hm
  clear hA0 hval0
  refine (w_FlushesOne a0 a1 a2x0 a2x1 a2x2 a2x3 W (by first | assumption | omega) (by first | assumption | omega) (by first | assumption | omega) (by first | assumption | omega) (by first | assumption | omega) (by first | assumption | omega) (by first | assumption | omega) (by first | assumption | omega) (by first | assumption | omega) (by first | assumption | omega) (by first | assumption | omega) (by first | assumption | omega)).mono fun e W' ⟨he, bel⟩ => ?_
  subst he
  exact ⟨_, rfl, _, _, _, [], _, [], hW', trodAll_mk1 (shut_bool Try.underlying4 _), (trodAll_cons_mk (Below.trod laidOut (by kernel_rfl) (of_decide_eq_true (by kernel_rfl)) h0 bel lt0) (trodAll_cons_mk (Below.trod laidOut (by kernel_rfl) (of_decide_eq_true (by kernel_rfl)) h1 bel lt1) (trodAll_cons_mk (Below.trod laidOut (by kernel_rfl) (of_decide_eq_true (by kernel_rfl)) h2 bel lt2) trodAll_mk0))), rfl, bel.frame _, fun h => by cases h⟩

theorem over : Rows.flushesOneRow.holds Try.pinned (OpenSpec.ofChange Rows.flushesOneSpec) :=
  OpenClaim.holds_of_wide 7 Try.f7 rfl rfl rfl rfl rfl rfl rfl ⟨rfl, rfl, rfl, rfl, rfl⟩ rfl rfl rfl rfl rfl (by kernel_rfl) Try.func7 (by kernel_rfl)
    (of_decide_eq_true (by kernel_rfl)) (by unfold Func.isWrapper; first | (rw [if_pos (by decide +kernel)]; kernel_rfl) | (rw [if_neg (by decide +kernel)]; exact ⟨rfl, rfl⟩))
    (fun os started H enc _ => lifted os started H enc)

/-- The statement. -/
theorem proved : Rows.FlushesOneSaid := over
#print axioms proved
end Go.Proofs.Ytijifjiehldcaaa.lawFlushesOne
