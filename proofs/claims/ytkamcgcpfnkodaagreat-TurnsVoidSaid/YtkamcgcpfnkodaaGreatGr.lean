/- Is a pair's First too great? -/
import Derived.Test.YtkamcgcpfnkodaaGreatFArg
namespace Go.Proofs.YtkamcgcpfnkodaaGreat
set_option linter.unusedSimpArgs false
open Go.RowKit
set_option linter.unusedVariables false

def GreatPost (w : World) (F : Fst) (e : Ending) (w' : World) : Prop :=
  ∃ b : Bool, e = .returned (.bool b) ∧ Below w.heap.size w w' ∧ (b = false → F.it.length ≤ 40 ∧ F.pu.length ≤ 60 ∧ F.st.length ≤ 60 ∧ ∀ x ∈ F.it, x.key.size ≤ 400)
theorem FstAt.into {w : World} {v : Value} {F : Fst} (h : FstAt w v F) (g : FstBd F) (b : F.it.length ≤ 40 ∧ F.pu.length ≤ 60 ∧ F.st.length ≤ 60 ∧ ∀ x ∈ F.it, x.key.size ≤ 400) : ∃ vi vp vs, v = fstV F vi vp vs ∧ FstIn w F vi vp vs := by
  obtain ⟨vi, vp, vs, rfl, h1, h2, h3⟩ := h.ex
  exact ⟨vi, vp, vs, rfl, ⟨h1, h2, h3, b.1, b.2.1, b.2.2.1, b.2.2.2, g.pub, g.stb, g.ti0, g.ti1⟩⟩
theorem FstAt.below {w w' : World} {v : Value} {F : Fst} (h : FstAt w v F) (hb : Below w.heap.size w w') : FstAt w' v F := by
  obtain ⟨vi, vp, vs, rfl, h1, h2, h3⟩ := h.ex
  exact ⟨vi, vp, vs, rfl, h1.below hb, h2.below hb, h3.below hb⟩
set_option maxHeartbeats 4000000 in
set_option maxRecDepth 100000 in
theorem c_Great {F : Fst} {v : Value} {w : World} (h : FstAt w v F) : Calls Tryz.prog 6 #[v] w (GreatPost w F) := by
  obtain ⟨⟨fb, fg, ft, fq, fy⟩, gr, it, pu, st, ti⟩ := F
  obtain ⟨vi, vp, vs, rfl, h1, h2, h3⟩ := h.ex
  unfold fstV
  dsimp only at h1 h2 h3 ⊢
  obtain ⟨ai, ci, rfl, hci, hmi⟩ := h1.shape
  obtain ⟨ap, cp, rfl, hcp, hmp⟩ := h2.shape
  obtain ⟨as', cs, rfl, hcs, hms⟩ := h3.shape
  have HA := Lib.hid h1
  clear h h1 h2 h3
  have hmm : ci ≤ 9223372036854775807 := by unfold maxLen at hmi; omega
  by_cases d1 : 40 < it.length
  · have t1 : decide ((40 : Int) < (it.length : Int)) = true := by simp; omega
    go_enter Tryz.func6, Tryz.ntmps6
    go_wp2_with fail
    go_ret
    exact ⟨true, rfl, (Below.refl _ _).alloc (Nat.le_refl _) _, fun h => by cases h⟩
  · have t1 : decide ((40 : Int) < (it.length : Int)) = false := by simp; omega
    by_cases d2 : 60 < pu.length
    · have t2 : decide ((60 : Int) < (pu.length : Int)) = true := by simp; omega
      go_enter Tryz.func6, Tryz.ntmps6
      go_wp2_with fail
      go_ret
      exact ⟨true, rfl, (Below.refl _ _).alloc (Nat.le_refl _) _, fun h => by cases h⟩
    · have t2 : decide ((60 : Int) < (pu.length : Int)) = false := by simp; omega
      by_cases d3 : 60 < st.length
      · have t3 : decide ((60 : Int) < (st.length : Int)) = true := by simp; omega
        go_enter Tryz.func6, Tryz.ntmps6
        go_wp2_with fail
        go_ret
        exact ⟨true, rfl, (Below.refl _ _).alloc (Nat.le_refl _) _, fun h => by cases h⟩
      · have t3 : decide ((60 : Int) < (st.length : Int)) = false := by simp; omega
        go_enter Tryz.func6, Tryz.ntmps6
        go_wp2_with fail
        obtain ⟨W1, hW1⟩ : ∃ W1, W1 = w.alloc (.cells #[.int .i64 fb, .int .i64 fg, .int .i64 ft, .int .i64 fq, .int .i64 fy, .bool gr, .slice ai it.length ci, .slice ap pu.length cp, .slice as' st.length cs, .int .i64 ti] 28) := ⟨_, rfl⟩
        have HB : Hid (Below w.heap.size w W1) := Lib.hid (by rw [hW1]; exact (Below.refl _ _).alloc (Nat.le_refl _) _)
        have y6 : W1.cell? ⟨w.heap.size, 6, none⟩ = some (.slice ai it.length ci) := by rw [hW1]; simp
        rw [← hW1]
        clear hW1 t1 t2 t3
        go_loopw [3] (fun i wr => ∃ k : Nat, k ≤ it.length ∧ i = .int .i64 k ∧ wr = W1 ∧ Hid (∀ j, (hj : j < it.length) → j < k → it[j].key.size ≤ 400)) (fun i _ => it.length - (intOf i).toNat)
        case atStart => exact ⟨0, Nat.zero_le _, rfl, rfl, Lib.hid fun j _ h => by omega⟩
        case round =>
          obtain ⟨k, hk, rfl, rfl, hno⟩ := hrel
          by_cases hk2 : k < it.length
          · obtain ⟨b', o', c', he, -, -, hlt, hx⟩ := HA.out.open (by omega) (by omega)
            cases he
            obtain ⟨x, hxe⟩ : ∃ x, x = it[k] := ⟨_, rfl⟩
            have hr : ∀ j, j < 6 → (rowOf itc it)[k * 6 + j]? = (itc x)[j]? := fun j hj => by rw [hxe]; exact rowOf_get itc_len it k j hk2 hj
            have v0 : wr.cell? ⟨b', o' + k * 6, none⟩ = some (.string x.key) := (HB.out.cell (p := ⟨b', o' + k * 6, none⟩) hlt).trans (hx _ _ (hr 0 (by omega)))
            have v1 : wr.cell? ⟨b', o' + k * 6 + 1, none⟩ = some (.string x.val) := (HB.out.cell (p := ⟨b', o' + k * 6 + 1, none⟩) hlt).trans (hx _ _ (hr 1 (by omega)))
            have HX := Lib.hid hxe
            clear hx hr hxe
            by_cases q1 : 400 < x.key.size
            · have s1 : decide ((400 : Int) < (x.key.size : Int)) = true := by simp; omega
              go_wp2_with fail
              go_ret
              exact ⟨true, rfl, HB.out, fun h => by cases h⟩
            · have s1 : decide ((400 : Int) < (x.key.size : Int)) = false := by simp; omega
              by_cases q2 : 2000 < x.val.size
              · have s2 : decide ((2000 : Int) < (x.val.size : Int)) = true := by simp; omega
                go_wp2_with fail
                go_ret
                exact ⟨true, rfl, HB.out, fun h => by cases h⟩
              · have s2 : decide ((2000 : Int) < (x.val.size : Int)) = false := by simp; omega
                go_wp2_with fail
                go_roundw
                case rel =>
                  refine ⟨k + 1, by omega, by go_num, (by first | trivial | rfl), Lib.hid fun j hj hjk => ?_⟩
                  by_cases e : j = k
                  · subst e; rw [← HX.out]; omega
                  · exact hno.out j hj (by omega)
                case measure => simp [intOf]; omega
          · obtain rfl : k = it.length := by omega
            go_wp2_with fail
            go_ret
            exact ⟨false, rfl, HB.out, fun _ => ⟨by show it.length ≤ 40; omega, by show pu.length ≤ 60; omega, by show st.length ≤ 60; omega, fun x hx => by
              obtain ⟨j, hj, rfl⟩ := List.getElem_of_mem hx
              exact hno.out j hj hj⟩⟩
end Go.Proofs.YtkamcgcpfnkodaaGreat
