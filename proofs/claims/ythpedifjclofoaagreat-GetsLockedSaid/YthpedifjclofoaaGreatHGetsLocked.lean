/- 'GetsLocked' returns true, whatever the input, and each argument reads as it did: no condition. The frame is the guide's own; the walk is 'w_GetsLocked'. -/
import Derived.Test.YthpedifjclofoaaGreatGmZ
import Derived.Test.YthpedifjclofoaaGreatBkZ
import Derived.Test.YthpedifjclofoaaGreatRows
import Derived.Test.YthpedifjclofoaaGreatPfA
import Derived.Test.YthpedifjclofoaaGreatPfB
namespace Go.Proofs.YthpedifjclofoaaGreat.lawGetsLocked
open Go.ChangeShapes Go.WideShapes Go.ChangeAt Go.RowKit
set_option linter.unusedVariables false

theorem own : ownKnob Tryz.prog.godebug = none := by kernel_rfl
theorem laidOut : laidOutB Tryz.prog = true := pf_laid
set_option maxRecDepth 100000 in
theorem lifted (os : Os) (started : os.Started) (H : Type) (enc : TypeId × Value → H) :
    ReturnsInHanded {} Tryz.checked os 5 .any (Rows.getsLockedSpec.pre6 enc Tryz.prog Tryz.f5 Rows.getsLockedRow.domain false) (Rows.getsLockedSpec.post enc Tryz.prog Tryz.f5 false true false false) := by
  refine returnsInHanded_of_change (C := Tryz.checked) own started (by kernel_rfl) Tryz.func5
    (ChangeSpec.witness6 (enc := enc) (C := Tryz.checked) false ⟨#[], #[.agg #[.int .u8 0, .string ⟨#[]⟩, .string ⟨#[]⟩, .int .u32 0, .int .i64 0, .int .u64 0, .int .u64 0], .agg #[.int .u8 0, .int .u8 0, .int .u8 0]], []⟩ 8 (by kernel_rfl) (by kernel_rfl) (by kernel_rfl) (by kernel_rfl)) ?_
  intro W base args ds gs before hval0 hW hcnd _
  have hval : ∀ (j : Nat) t v, Tryz.f5.params[j]? = some t → args[j]? = some v → Value.okWide Tryz.prog W .any base t v := hval0
  have hW' := hW
  obtain ⟨p, q, hA0, hV, rfl, hfz, hnd⟩ := hW
  have hA : DataW.TrodAll enc Tryz.prog W 0 (fun _ => true) true Tryz.f5.params.toList args.toList ds p := hA0
  rw [Tryz.params5] at hA hval
  obtain ⟨v0, vs0, d0, ds0, p0, q0, hargs, rfl, rfl, h0, r0⟩ := trodAll_cons hA
  obtain ⟨v1, vs1, d1, ds1, p1, q1, rfl, rfl, rfl, h1, r1⟩ := trodAll_cons r0
  obtain ⟨rfl, rfl, rfl⟩ := trodAll_nil r1
  obtain rfl : args = #[v0, v1] := by cases args; simp_all
  obtain ⟨rfl, rfl⟩ := trodVars_none hV
  obtain ⟨l0, rfl, n0, c0⟩ := open_struct Tryz.underlying26 (ts := [22, 9, 9, 23, 2, 24, 24]) (by kernel_rfl) (by kernel_rfl) (hval 0 26 v0 rfl rfl)
  obtain ⟨y0x0, e0x0, o0x0⟩ := c0 0 22 rfl
  obtain ⟨a0x0, rfl, l_a0x0, u_a0x0⟩ := leaf_u8 Tryz.underlying22 o0x0
  obtain ⟨y0x1, e0x1, o0x1⟩ := c0 1 9 rfl
  obtain ⟨a0x1, rfl, l_a0x1⟩ := leaf_string Tryz.underlying9 o0x1
  obtain ⟨y0x2, e0x2, o0x2⟩ := c0 2 9 rfl
  obtain ⟨a0x2, rfl, l_a0x2⟩ := leaf_string Tryz.underlying9 o0x2
  obtain ⟨y0x3, e0x3, o0x3⟩ := c0 3 23 rfl
  obtain ⟨a0x3, rfl, l_a0x3, u_a0x3⟩ := leaf_u32 Tryz.underlying23 o0x3
  obtain ⟨y0x4, e0x4, o0x4⟩ := c0 4 2 rfl
  obtain ⟨a0x4, rfl, l_a0x4, u_a0x4⟩ := leaf_i64 Tryz.underlying2 o0x4
  obtain ⟨y0x5, e0x5, o0x5⟩ := c0 5 24 rfl
  obtain ⟨a0x5, rfl, l_a0x5, u_a0x5⟩ := leaf_u64 Tryz.underlying24 o0x5
  obtain ⟨y0x6, e0x6, o0x6⟩ := c0 6 24 rfl
  obtain ⟨a0x6, rfl, l_a0x6, u_a0x6⟩ := leaf_u64 Tryz.underlying24 o0x6
  obtain rfl : l0 = [.int .u8 a0x0, .string a0x1, .string a0x2, .int .u32 a0x3, .int .i64 a0x4, .int .u64 a0x5, .int .u64 a0x6] := list_of n0 (by intro i hi; match i with | 0 => exact e0x0 | 1 => exact e0x1 | 2 => exact e0x2 | 3 => exact e0x3 | 4 => exact e0x4 | 5 => exact e0x5 | 6 => exact e0x6 | (i + 7) => exact absurd hi (by simp))
  obtain ⟨l1, rfl, n1, c1⟩ := open_array Tryz.underlying67 (ts := [5, 5, 5]) (by kernel_rfl) (by kernel_rfl) (hval 1 67 v1 rfl rfl)
  obtain ⟨y1x0, e1x0, o1x0⟩ := c1 0 5 rfl
  obtain ⟨a1x0, rfl, l_a1x0, u_a1x0⟩ := leaf_u8 Tryz.underlying5 o1x0
  obtain ⟨y1x1, e1x1, o1x1⟩ := c1 1 5 rfl
  obtain ⟨a1x1, rfl, l_a1x1, u_a1x1⟩ := leaf_u8 Tryz.underlying5 o1x1
  obtain ⟨y1x2, e1x2, o1x2⟩ := c1 2 5 rfl
  obtain ⟨a1x2, rfl, l_a1x2, u_a1x2⟩ := leaf_u8 Tryz.underlying5 o1x2
  obtain rfl : l1 = [.int .u8 a1x0, .int .u8 a1x1, .int .u8 a1x2] := list_of n1 (by intro i hi; match i with | 0 => exact e1x0 | 1 => exact e1x1 | 2 => exact e1x2 | (i + 3) => exact absurd hi (by simp))
  have lt0 : ∀ x ∈ p0, x.block < W.heap.size := by obtain ⟨m, hm⟩ := h0; exact DataW.trod_lt m _ _ _ hm
  have lt1 : ∀ x ∈ p1, x.block < W.heap.size := by obtain ⟨m, hm⟩ := h1; exact DataW.trod_lt m _ _ _ hm
  clear hA0 hval0
  refine (w_GetsLocked a0x0 a0x1 a0x2 a0x3 a0x4 a0x5 a0x6 a1x0 a1x1 a1x2 W (by first | assumption | omega) (by first | assumption | omega) (by first | assumption | omega) (by first | assumption | omega) (by first | assumption | omega) (by first | assumption | omega) (by first | assumption | omega) (by first | assumption | omega) (by first | assumption | omega) (by first | assumption | omega) (by first | assumption | omega) (by first | assumption | omega) (by first | assumption | omega) (by first | assumption | omega) (by first | assumption | omega) (by first | assumption | omega) (by first | assumption | omega) (by first | assumption | omega)).mono fun e W' ⟨he, bel⟩ => ?_
  subst he
  exact ⟨_, rfl, _, _, _, [], _, [], hW', trodAll_mk1 (shut_bool Tryz.underlying4 _), (trodAll_cons_mk (Below.trod laidOut (by kernel_rfl) (of_decide_eq_true (by kernel_rfl)) h0 bel lt0) (trodAll_cons_mk (Below.trod laidOut (by kernel_rfl) (of_decide_eq_true (by kernel_rfl)) h1 bel lt1) trodAll_mk0)), rfl, bel.frame _, fun h => by cases h⟩

theorem pf_lift : (Rows.getsLockedRow.lifted == Tryz.pinned.checked.prog.liftsFinal) = true := by kernel_rfl
theorem pf_make : (Tryz.pinned.checked.prog.make == some Rows.getsLockedRow.make) = true := by kernel_rfl
theorem pf_keys : (Rows.getsLockedRow.plainKeys == Tryz.pinned.checked.prog.plainKeys) = true := by kernel_rfl
set_option maxHeartbeats 8000000 in
set_option maxRecDepth 100000 in
theorem closed : joinedFacts Tryz.pinned.checked.prog 5 Tryz.f5 Rows.getsLockedSpec Rows.getsLockedRow = true := by
  simp only [joinedFacts, Bool.and_eq_true]
  repeat' (refine And.intro ?_ ?_)
  all_goals (first | (with_reducible exact pf_laid) | (with_reducible exact pf_maps) | (with_reducible exact pf_heard) | (with_reducible exact pf_enter) | (with_reducible exact pf_lift) | (with_reducible exact pf_make) | (with_reducible exact pf_keys) | (as_aux_lemma => kernel_rfl))

theorem over : Rows.getsLockedRow.holds Tryz.pinned (OpenSpec.ofChange Rows.getsLockedSpec) :=
  OpenClaim.holds_of_wide 5 Tryz.f5 rfl rfl rfl rfl rfl rfl rfl ⟨rfl, rfl, rfl, rfl, rfl⟩ rfl rfl rfl rfl rfl (by kernel_rfl) Tryz.func5 closed
    (of_decide_eq_true (by kernel_rfl)) (by unfold Func.isWrapper; first | (rw [if_pos (by decide +kernel)]; kernel_rfl) | (rw [if_neg (by decide +kernel)]; exact ⟨rfl, rfl⟩))
    (fun os started H enc _ => lifted os started H enc)

/-- The statement. -/
theorem proved : Rows.GetsLockedSaid := over
#print axioms proved
end Go.Proofs.YthpedifjclofoaaGreat.lawGetsLocked
