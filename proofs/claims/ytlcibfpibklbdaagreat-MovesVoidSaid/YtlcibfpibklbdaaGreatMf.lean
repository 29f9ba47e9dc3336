/- Layer 16: the map of a Way: buckets to where they were reached from. -/
import Derived.Test.YtlcibfpibklbdaaGreatBaE
import Derived.Maps.OwnSet
namespace Go.Proofs.YtlcibfpibklbdaaGreat
set_option linter.unusedSimpArgs false
open Go.RowKit Go.Maps
set_option linter.unusedVariables false

/-- How an element reads: two integers. -/
def frElem : Value → Option (DataW Unit × List MemPlace)
  | .agg cs => match cs.toList with
    | [.int .i64 a, .int .i64 b] => some (.agg [.lit (.int .i64 a), .lit (.int .i64 b)], [])
    | _ => none
  | _ => none
def frD (x : Int × Int) : DataW Unit := .agg [.lit (.int .i64 x.1), .lit (.int .i64 x.2)]
theorem frElem_mk (a b : Int) : frElem (.agg #[.int .i64 a, .int .i64 b]) = some (frD (a, b), []) := rfl
theorem frElem_inv {v : Value} {z : DataW Unit × List MemPlace} (h : frElem v = some z) : ∃ a b, v = .agg #[.int .i64 a, .int .i64 b] ∧ z.1 = frD (a, b) := by
  unfold frElem at h
  split at h
  · rename_i cs
    split at h
    · rename_i a b hc
      cases h
      refine ⟨a, b, ?_, rfl⟩
      rw [show cs = #[.int .i64 a, .int .i64 b] from by rw [← Array.toList_inj, hc]]
    · cases h
  · cases h
def mapD (L : List (Int × Int × Int)) : DataW Unit := L.foldl (fun D x => D.put (.int .i64 x.1) (frD x.2)) (.map [])
theorem mapD_snoc (L : List (Int × Int × Int)) (x : Int × Int × Int) : mapD (L ++ [x]) = (mapD L).put (.int .i64 x.1) (frD x.2) := by
  unfold mapD; rw [List.foldl_append]; rfl
theorem isMap_mapD (L : List (Int × Int × Int)) : IsMap (mapD L) := by
  unfold mapD
  have : ∀ (L : List (Int × Int × Int)) (D : DataW Unit), IsMap D → IsMap (L.foldl (fun D x => D.put (.int .i64 x.1) (frD x.2)) D) := by
    intro L
    induction L with
    | nil => intro D h; exact h
    | cons x L ih => intro D h; exact ih _ (h.put _ _)
  exact this L _ isMap_empty
theorem rev_ind {α : Type} {p : List α → Prop} (h0 : p []) (h1 : ∀ l x, p l → p (l ++ [x])) (l : List α) : p l := by
  have : ∀ n (l : List α), l.length = n → p l := by
    intro n
    induction n with
    | zero => intro l h; rw [List.eq_nil_of_length_eq_zero h]; exact h0
    | succ n ih =>
      intro l h
      have hne : l ≠ [] := by intro e; rw [e] at h; cases h
      rw [← List.dropLast_concat_getLast hne]
      exact h1 _ _ (ih _ (by rw [List.length_dropLast, h]; rfl))
  exact this _ l rfl
theorem has_mapD (q : Int) (L : List (Int × Int × Int)) : has (mapD L) (.int .i64 q) = L.any fun x => x.1 == q := by
  refine rev_ind (p := fun L => has (mapD L) (.int .i64 q) = L.any fun x => x.1 == q) rfl (fun l x ih => ?_) L
  rw [mapD_snoc, List.any_append, List.any_cons, List.any_nil, Bool.or_false]
  by_cases h : x.1 = q
  · rw [← h, has_put_same (isMap_mapD l) (by trivial)]; simp
  · rw [has_put_other (fun e => h (by injection e with _ e; exact e.symm)), ih]; simp [h]
theorem at_mapD (z : DataW Unit) (L : List (Int × Int × Int)) (hn : (L.map (·.1)).Nodup) (x : Int × Int × Int) (hx : x ∈ L) : (mapD L).atKey (.int .i64 x.1) z = frD x.2 := by
  revert hn hx
  refine rev_ind (p := fun L => (L.map (·.1)).Nodup → x ∈ L → (mapD L).atKey (.int .i64 x.1) z = frD x.2) (fun _ h => by cases h) (fun l y ih hn hx => ?_) L
  rw [List.map_append, List.nodup_append] at hn
  rw [mapD_snoc]
  by_cases h : y.1 = x.1
  · rcases List.mem_append.1 hx with g | g
    · exact absurd h.symm (hn.2.2 _ (List.mem_map_of_mem g) _ (by simp))
    · rw [List.mem_singleton.1 g, atKey_put_same (isMap_mapD l) (by trivial)]
  · rw [atKey_put_other (fun e => h (by injection e with _ e; exact e.symm))]
    refine ih hn.1 ?_
    rcases List.mem_append.1 hx with g | g
    · exact g
    · exact absurd (by rw [List.mem_singleton.1 g]) h
/-- Block m is a map of buckets to where they were reached from. -/
def MapF (w : World) (m : Nat) (L : List (Int × Int × Int)) : Prop := w.ownsMap Tryz.prog 3 frElem m L.length (mapD L)
theorem MapF.lt {w : World} {m : Nat} {L : List (Int × Int × Int)} (h : MapF w m L) : m < w.heap.size := World.ownsMap.lt h
theorem MapF.block {w w' : World} {m : Nat} {L : List (Int × Int × Int)} (h : MapF w m L) (hb : w'.heap[m]? = w.heap[m]?) : MapF w' m L := by
  obtain ⟨es, clk, h1, h2⟩ := h
  exact ⟨es, clk, hb.trans h1, h2⟩
theorem MapF.made (w : World) : MapF (w.alloc (.map #[] 0)) w.heap.size [] := World.ownsMap_made _ _ _ _
theorem keyW : Keyed Tryz.prog 3 := int_keyed Tryz.underlying3
theorem wf_i64 {a : Int} (h0 : -9223372036854775808 ≤ a) (h1 : a ≤ 9223372036854775807) : (Lit.int .i64 a).wf = true := by
  simp [Lit.wf]; exact ⟨h0, h1⟩
theorem zero_from (w : World) : (zeroValue 360).run Tryz.prog w = .ok (.agg #[.int .i64 0, .int .i64 0]) w := by kernel_rfl
section
variable {w : World} {m : Nat} {L : List (Int × Int × Int)} {q : Int}
theorem MapF.look_ok (h : MapF w m L) (q0 : -9223372036854775808 ≤ q) (q1 : q ≤ 9223372036854775807) :
    ∃ a b, (Instr.lookup 356 (.map (some m)) (.int .i64 q) true).run Tryz.prog w = .ok (.tuple #[.agg #[.int .i64 a, .int .i64 b], .bool (L.any fun x => x.1 == q)]) w := by
  obtain ⟨v, ps, hrun, hv⟩ := World.ownsMap.look_ok h keyW Tryz.underlying356 (zero_from w) (frElem_mk 0 0) (keyOf_int_mk Tryz.underlying3 (wf_i64 q0 q1))
  obtain ⟨a, b, rfl, -⟩ := frElem_inv hv
  rw [has_mapD] at hrun
  exact ⟨a, b, hrun⟩
theorem MapF.look (h : MapF w m L) (hn : (L.map (·.1)).Nodup) (x : Int × Int × Int) (hx : x ∈ L) (q0 : -9223372036854775808 ≤ x.1) (q1 : x.1 ≤ 9223372036854775807) :
    (Instr.lookup 356 (.map (some m)) (.int .i64 x.1) false).run Tryz.prog w = .ok (.agg #[.int .i64 x.2.1, .int .i64 x.2.2]) w := by
  obtain ⟨v, ps, hrun, hv⟩ := World.ownsMap.lookup h keyW Tryz.underlying356 (zero_from w) (frElem_mk 0 0) (keyOf_int_mk Tryz.underlying3 (wf_i64 q0 q1))
  obtain ⟨a, b, rfl, hab⟩ := frElem_inv hv
  rw [at_mapD _ L hn x hx] at hab
  have : x.2.1 = a ∧ x.2.2 = b := by
    unfold frD at hab
    injection hab with e
    injection e with e1 e2
    injection e1 with e1
    injection e1 with _ e1
    injection e2 with e2
    injection e2 with e2
    injection e2 with _ e2
    exact ⟨e1, e2⟩
  rw [this.1, this.2]
  exact hrun
theorem MapF.store {O : Om} {g : Nat} (h : MapF w m L) (hl : L.length < 8192) (q0 : -9223372036854775808 ≤ q) (q1 : q ≤ 9223372036854775807) (a b : Int) (hg : g ≠ 0) (hO : O m = g) (hhi : ∀ j, O j ≠ 0 → j < w.heap.size) :
    ∃ w', (Instr.mapUpdate 356 (.map (some m)) (.int .i64 q) (.agg #[.int .i64 a, .int .i64 b])).run Tryz.prog w = .ok () w' ∧ MapF w' m (L ++ [(q, a, b)]) ∧ Ext (fun t => t = g) O w O w' := by
  obtain ⟨w', hrun, r1, r2⟩ := World.ownsMap.store h keyW Tryz.underlying356 (by unfold maxLen; omega) (keyOf_int_mk Tryz.underlying3 (wf_i64 q0 q1)) (frElem_mk a b)
  refine ⟨w', hrun, ?_, ?_⟩
  · unfold MapF
    rw [mapD_snoc, List.length_append]
    exact r1
  · have hw : Wrote (fun j => j = m) w w' := (Wrote.refl _ _).grown r2.grown fun k hk _ => by cases hk; rfl
    refine ⟨fun j _ => rfl, fun j hj => Nat.lt_of_lt_of_le (hhi j hj) hw.size, fun j hj hn => absurd (hhi j hn) (by omega), hw.mono fun j _ e => ?_⟩
    subst e
    exact ⟨hO, by rw [hO]; exact hg⟩
end
end Go.Proofs.YtlcibfpibklbdaaGreat
