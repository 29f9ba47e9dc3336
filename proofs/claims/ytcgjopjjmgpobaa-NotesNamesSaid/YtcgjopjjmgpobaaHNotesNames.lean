/- 'NotesNames' returns true, whatever the input, and each argument reads as it did: no condition. The frame is the guide's own; the walk is 'w_NotesNames'. -/
import Derived.Test.YtcgjopjjmgpobaaNtName
import Derived.Test.YtcgjopjjmgpobaaFrame
namespace Go.Proofs.Ytcgjopjjmgpobaa.lawNotesNames
open Go.ChangeShapes Go.WideShapes Go.ChangeAt Go.RowKit
set_option linter.unusedVariables false

theorem own : ownKnob Try.prog.godebug = none := by kernel_rfl
theorem laidOut : laidOutB Try.prog = true := by kernel_rfl
set_option maxRecDepth 100000 in
theorem lifted (os : Os) (started : os.Started) (H : Type) (enc : TypeId × Value → H) :
    ReturnsInHanded {} Try.checked os 13 .any (Rows.notesNamesSpec.pre6 enc Try.prog Try.f13 Rows.notesNamesRow.domain false) (Rows.notesNamesSpec.post enc Try.prog Try.f13 false true false false) := by
  refine returnsInHanded_of_change (C := Try.checked) own started (by kernel_rfl) Try.func13
    (ChangeSpec.witness6 (enc := enc) (C := Try.checked) false ⟨#[], #[.int .u8 0, .agg #[.int .i64 0, .int .i64 0, .int .u8 0, .int .i64 0, .int .i64 0, .int .i64 0, .int .i64 0, .int .i64 0], .int .i64 0], []⟩ 8 (by kernel_rfl) (by kernel_rfl) (by kernel_rfl) (by kernel_rfl)) ?_
  intro W base args ds gs before hval0 hW hcnd _
  have hval : ∀ (j : Nat) t v, Try.f13.params[j]? = some t → args[j]? = some v → Value.okWide Try.prog W .any base t v := hval0
  have hW' := hW
  obtain ⟨p, q, hA0, hV, rfl, hfz, hnd⟩ := hW
  have hA : DataW.TrodAll enc Try.prog W 0 (fun _ => true) true Try.f13.params.toList args.toList ds p := hA0
  rw [Try.params13] at hA hval
  obtain ⟨v0, vs0, d0, ds0, p0, q0, hargs, rfl, rfl, h0, r0⟩ := trodAll_cons hA
  obtain ⟨v1, vs1, d1, ds1, p1, q1, rfl, rfl, rfl, h1, r1⟩ := trodAll_cons r0
  obtain ⟨v2, vs2, d2, ds2, p2, q2, rfl, rfl, rfl, h2, r2⟩ := trodAll_cons r1
  obtain ⟨rfl, rfl, rfl⟩ := trodAll_nil r2
  obtain rfl : args = #[v0, v1, v2] := by cases args; simp_all
  obtain ⟨rfl, rfl⟩ := trodVars_none hV
  obtain ⟨a0, rfl, l_a0, u_a0⟩ := leaf_u8 Try.underlying5 (cell_of_int Try.underlying5 (hval 0 5 v0 rfl rfl))
  obtain ⟨l1, rfl, n1, c1⟩ := open_struct Try.underlying56 (ts := [3, 3, 50, 3, 3, 3, 3, 3]) (by kernel_rfl) (by kernel_rfl) (hval 1 56 v1 rfl rfl)
  obtain ⟨y1x0, e1x0, o1x0⟩ := c1 0 3 rfl
  obtain ⟨a1x0, rfl, l_a1x0, u_a1x0⟩ := leaf_i64 Try.underlying3 o1x0
  obtain ⟨y1x1, e1x1, o1x1⟩ := c1 1 3 rfl
  obtain ⟨a1x1, rfl, l_a1x1, u_a1x1⟩ := leaf_i64 Try.underlying3 o1x1
  obtain ⟨y1x2, e1x2, o1x2⟩ := c1 2 50 rfl
  obtain ⟨a1x2, rfl, l_a1x2, u_a1x2⟩ := leaf_u8 Try.underlying50 o1x2
  obtain ⟨y1x3, e1x3, o1x3⟩ := c1 3 3 rfl
  obtain ⟨a1x3, rfl, l_a1x3, u_a1x3⟩ := leaf_i64 Try.underlying3 o1x3
  obtain ⟨y1x4, e1x4, o1x4⟩ := c1 4 3 rfl
  obtain ⟨a1x4, rfl, l_a1x4, u_a1x4⟩ := leaf_i64 Try.underlying3 o1x4
  obtain ⟨y1x5, e1x5, o1x5⟩ := c1 5 3 rfl
  obtain ⟨a1x5, rfl, l_a1x5, u_a1x5⟩ := leaf_i64 Try.underlying3 o1x5
  obtain ⟨y1x6, e1x6, o1x6⟩ := c1 6 3 rfl
  obtain ⟨a1x6, rfl, l_a1x6, u_a1x6⟩ := leaf_i64 Try.underlying3 o1x6
  obtain ⟨y1x7, e1x7, o1x7⟩ := c1 7 3 rfl
  obtain ⟨a1x7, rfl, l_a1x7, u_a1x7⟩ := leaf_i64 Try.underlying3 o1x7
  obtain rfl : l1 = [.int .i64 a1x0, .int .i64 a1x1, .int .u8 a1x2, .int .i64 a1x3, .int .i64 a1x4, .int .i64 a1x5, .int .i64 a1x6, .int .i64 a1x7] := list_of n1 (by intro i hi; match i with | 0 => exact e1x0 | 1 => exact e1x1 | 2 => exact e1x2 | 3 => exact e1x3 | 4 => exact e1x4 | 5 => exact e1x5 | 6 => exact e1x6 | 7 => exact e1x7 | (i + 8) => exact absurd hi (by simp))
  obtain ⟨a2, rfl, l_a2, u_a2⟩ := leaf_i64 Try.underlying3 (cell_of_int Try.underlying3 (hval 2 3 v2 rfl rfl))
  have lt0 : ∀ x ∈ p0, x.block < W.heap.size := by obtain ⟨m, hm⟩ := h0; exact DataW.trod_lt m _ _ _ hm
  have lt1 : ∀ x ∈ p1, x.block < W.heap.size := by obtain ⟨m, hm⟩ := h1; exact DataW.trod_lt m _ _ _ hm
  have lt2 : ∀ x ∈ p2, x.block < W.heap.size := by obtain ⟨m, hm⟩ := h2; exact DataW.trod_lt m _ _ _ hm
  clear hA0 hval0
  refine (w_NotesNames a0 a1x0 a1x1 a1x2 a1x3 a1x4 a1x5 a1x6 a1x7 a2 W (by first | assumption | omega) (by first | assumption | omega) (by first | assumption | omega) (by first | assumption | omega) (by first | assumption | omega) (by first | assumption | omega) (by first | assumption | omega) (by first | assumption | omega) (by first | assumption | omega) (by first | assumption | omega) (by first | assumption | omega) (by first | assumption | omega) (by first | assumption | omega) (by first | assumption | omega) (by first | assumption | omega) (by first | assumption | omega) (by first | assumption | omega) (by first | assumption | omega) (by first | assumption | omega) (by first | assumption | omega)).mono fun e W' ⟨he, bel⟩ => ?_
  subst he
  exact ⟨_, rfl, _, _, _, [], _, [], hW', trodAll_mk1 (shut_bool Try.underlying4 _), (trodAll_cons_mk (Below.trod laidOut (by kernel_rfl) (of_decide_eq_true (by kernel_rfl)) h0 bel lt0) (trodAll_cons_mk (Below.trod laidOut (by kernel_rfl) (of_decide_eq_true (by kernel_rfl)) h1 bel lt1) (trodAll_cons_mk (Below.trod laidOut (by kernel_rfl) (of_decide_eq_true (by kernel_rfl)) h2 bel lt2) trodAll_mk0))), rfl, bel.frame _, fun h => by cases h⟩

theorem over : Rows.notesNamesRow.holds Try.pinned (OpenSpec.ofChange Rows.notesNamesSpec) :=
  OpenClaim.holds_of_wide 13 Try.f13 rfl rfl rfl rfl rfl rfl rfl ⟨rfl, rfl, rfl, rfl, rfl⟩ rfl rfl rfl rfl rfl (by kernel_rfl) Try.func13 (by kernel_rfl)
    (of_decide_eq_true (by kernel_rfl)) (by unfold Func.isWrapper; first | (rw [if_pos (by decide +kernel)]; kernel_rfl) | (rw [if_neg (by decide +kernel)]; exact ⟨rfl, rfl⟩))
    (fun os started H enc _ => lifted os started H enc)

/-- The statement. -/
theorem proved : Rows.NotesNamesSaid := over
#print axioms proved
end Go.Proofs.Ytcgjopjjmgpobaa.lawNotesNames
