/- 'FlushesDie' returns true, whatever the input, and each argument reads as it did: no condition. The frame is the guide's own; the walk is 'w_FlushesDie'. -/
import Derived.Test.YtifkfhnbkjkakaaGreatDoorHfFlushesDie
import Derived.Test.YtifkfhnbkjkakaaGreatDoorZrFdW
import Derived.Test.YtifkfhnbkjkakaaGreatDoorZrSK
import Derived.Test.YtifkfhnbkjkakaaGreatDoorZrHva
import Derived.Test.YtifkfhnbkjkakaaGreatDoorHgo
import Derived.Test.YtifkfhnbkjkakaaGreatDoorCards
import Derived.Test.YtifkfhnbkjkakaaGreatDoorTie
import Derived.SevenTiedAt
import Derived.SizedLaws
import Derived.LaidLaws
import Derived.LaidMore
import Derived.Test.YtifkfhnbkjkakaaGreatDoorRows
import Derived.Test.YtifkfhnbkjkakaaGreatDoorPfA
import Derived.Test.YtifkfhnbkjkakaaGreatDoorPfB
namespace Go.Proofs.YtifkfhnbkjkakaaGreatDoor.lawFlushesDie
open Go.ChangeShapes Go.WideShapes Go.ChangeAt Go.RowKit
set_option linter.unusedVariables false

set_option maxRecDepth 100000 in
theorem lifted (os : Os) (started : os.Started) (H : Type) (enc : TypeId × Value → H) :
    ReturnsInHanded {} Tryz.checked os 4 .any (fun w args => (Rows.flushesDieSpec.pre enc Tryz.prog Tryz.f4 Rows.flushesDieRow.domain false w args ∧ laidMet Tryz.prog laidL w) ∧ sizedMet enc Tryz.prog Tryz.f4 (OpenSpec.ofChange Rows.flushesDieSpec) false w args) (Rows.flushesDieSpec.post enc Tryz.prog Tryz.f4 false true false false) := by
  refine returnsInHanded_of_change_and (C := Tryz.checked) (X := fun w _ => laidMet Tryz.prog laidL w) (fun _ _ _ hh h => h.of_heap hh) own started (by kernel_rfl) Tryz.func4
    (ChangeSpec.witness_shaped (enc := enc) (C := Tryz.checked) (os := os) (X := fun w _ => laidMet Tryz.prog laidL w) false (World.doorLaid Tryz.prog 62 os) #[.slice none 0 0, .int .i8 0] 8 rfl (World.shaped_of_RefB (by kernel_rfl) (by kernel_rfl)) (by kernel_rfl) (by kernel_rfl) (by kernel_rfl) (door_met os _)) ?_
  intro W base args ds gs before hval0 hW hcnd _ hL _
  have hval : ∀ (j : Nat) t v, Tryz.f4.params[j]? = some t → args[j]? = some v → Value.okWide Tryz.prog W .any base t v := hval0
  have hW' := hW
  obtain ⟨p, q, hA0, hV, rfl, hfz, hnd⟩ := hW
  have hA : DataW.TrodAll enc Tryz.prog W 0 (fun _ => true) true Tryz.f4.params.toList args.toList ds p := hA0
  rw [Tryz.params4] at hA hval
  obtain ⟨v0, vs0, d0, ds0, p0, q0, hargs, rfl, rfl, h0, r0⟩ := trodAll_cons hA
  obtain ⟨v1, vs1, d1, ds1, p1, q1, rfl, rfl, rfl, h1, r1⟩ := trodAll_cons r0
  obtain ⟨rfl, rfl, rfl⟩ := trodAll_nil r1
  obtain rfl : args = #[v0, v1] := by cases args; simp_all
  obtain ⟨rfl, rfl⟩ := trodVars_none hV
  obtain ⟨l0, g0, c0⟩ := open_calls h0 (hval 0 27 v0 rfl rfl)
  obtain ⟨a1, rfl, l_a1, u_a1⟩ := leaf_i8 Tryz.underlying55 (cell_of_int Tryz.underlying55 (hval 1 55 v1 rfl rfl))
  have lt0 : ∀ x ∈ p0, x.block < W.heap.size := by obtain ⟨m, hm⟩ := h0; exact DataW.trod_lt m _ _ _ hm
  have lt1 : ∀ x ∈ p1, x.block < W.heap.size := by obtain ⟨m, hm⟩ := h1; exact DataW.trod_lt m _ _ _ hm
  clear hA0 hval0
  refine (w_FlushesDie v0 l0 a1 W (va_of_laid hL) (by first | assumption | omega) (by first | assumption | omega) (by first | assumption | omega) (by first | assumption | omega)).mono fun e W' ⟨he, bel⟩ => ?_
  subst he
  exact ⟨_, rfl, _, _, _, [], _, [], hW', trodAll_mk1 (shut_bool Tryz.underlying4 _), (trodAll_cons_mk (Below.trod laidOut (by kernel_rfl) (of_decide_eq_true (by kernel_rfl)) h0 bel lt0) (trodAll_cons_mk (Below.trod laidOut (by kernel_rfl) (of_decide_eq_true (by kernel_rfl)) h1 bel lt1) trodAll_mk0)), rfl, bel.frame _, fun h => by cases h⟩

theorem over : Rows.flushesDieRow.holds Tryz.pinned (OpenSpec.ofChange Rows.flushesDieSpec) :=
  OpenClaim.holds_of_wide 4 Tryz.f4 rfl rfl rfl rfl rfl rfl rfl ⟨rfl, rfl, rfl, rfl, rfl⟩ rfl rfl rfl rfl rfl (by kernel_rfl) Tryz.func4 closed
    (of_decide_eq_true (by kernel_rfl)) (by unfold Func.isWrapper; first | (rw [if_pos (by decide +kernel)]; kernel_rfl) | (rw [if_neg (by decide +kernel)]; exact ⟨rfl, rfl⟩))
    (fun os started H enc _ => lifted os started H enc)

set_option maxRecDepth 100000 in
/-- The statement: the tied card. -/
theorem proved : Rows.FlushesDieCardSaid :=
  Claim7.holds_tied_plain_at .later [] [.data, .data, .data, .sentinel, .sentinel] true (true, "ba1a0d1c97256539558859b5673ea669bddfd43b77f3510ad46825f7bfd956f9") true
    over (fun _ h => by cases h) cd_wf (fun _ h => by cases h) flushesDie_row_tie rfl ⟨rfl, rfl⟩ cd_main rfl
    (fun f fn hf hfn => by
      obtain rfl : f = 4 := (Option.some.inj (cd_func.symm.trans hf)).symm
      obtain rfl : fn = Tryz.f4 := (Option.some.inj (Tryz.func4.symm.trans hfn)).symm
      exact ⟨cd_looks, fun j t ht => by
        rw [Tryz.params4] at ht
        have h3 : t = 27 ∨ t = 55 := by
          rcases j with _ | _ | j
          all_goals first | exact .inl (by simpa using ht.symm) | exact .inr (by simpa using ht.symm) | exact .inr (.inl (by simpa using ht.symm)) | exact .inr (.inr (by simpa using ht.symm)) | (simp at ht; done)
        rcases h3 with rfl | rfl
        all_goals first | exact cd_w27 | exact cd_w55⟩)
    cd_goes
#print axioms proved
end Go.Proofs.YtifkfhnbkjkakaaGreatDoor.lawFlushesDie
