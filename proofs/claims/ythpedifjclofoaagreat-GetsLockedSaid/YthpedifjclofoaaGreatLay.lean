/- Layer 13: Lay: an item is laid at a slot of one of its key's places, if that slot is free. -/
import Derived.Test.YthpedifjclofoaaGreatFil
import Derived.Test.YthpedifjclofoaaGreatFwA
import Derived.Test.YthpedifjclofoaaGreatSlo
namespace Go.Proofs.YthpedifjclofoaaGreat
set_option linter.unusedSimpArgs false
open Go.RowKit Go.Shelf
set_option linter.unusedVariables false

/-- What Lay leaves. -/
def LayPost (b : Int) (s : AW) (r : Nat) (key : ByteArray) (t : Bool) (s' : AW) : Prop :=
  (t = false → s' = s) ∧ (t = true → ∃ p : Spt, p.ok ∧ p.b = b ∧ (b, p.q) ∈ plPair (keyH key) b ∧ twTag (s.M p.tags) p.s = 0 ∧
    s' = ⟨putM s.M p (fnvTag (keyH key)) ((r : Int) + 1), s.n + 3, ⟨2, p.tags, s.M p.tags, twWith (s.M p.tags) p.s (fnvTag (keyH key))⟩, s.tk, s.ho, s.it, s.nt⟩)
theorem plOld_one {b : Int} (h0 : 1 ≤ b) (h1 : b ≤ 12) : plOld b = b := by unfold plOld; rw [if_pos (by omega)]; omega
theorem plNow_one {b : Int} (h0 : 1 ≤ b) (h1 : b ≤ 12) : plNow b = 0 := by unfold plNow; rw [plOld_one h0 h1, if_neg (by omega)]
theorem plPlaces_one {h b : Int} (h0 : 1 ≤ b) (h1 : b ≤ 12) (p : Int × Int) : p ∈ plPlaces h b ↔ p ∈ plPair h b := by
  unfold plPlaces
  rw [plNow_one h0 h1, plOld_one h0 h1, plOnce_mem, plPair_out (b := 0) (by omega), List.append_nil]
section
variable {w : World} {O : Om} {B : Wb} {f : Cf} {s : AW} {k : Nat}
end
end Go.Proofs.YthpedifjclofoaaGreat
