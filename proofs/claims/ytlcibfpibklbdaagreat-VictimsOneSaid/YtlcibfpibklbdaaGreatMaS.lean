/- A map of strings that have come: each reads as 1, any other one as 0. -/
import Derived.Test.YtlcibfpibklbdaaGreatBaE
import Derived.Maps.OwnSet
import Derived.StringKeys
namespace Go.Proofs.YtlcibfpibklbdaaGreat
set_option linter.unusedSimpArgs false
open Go.RowKit Go.Maps Go.WideMaps
set_option linter.unusedVariables false
set_option maxRecDepth 100000

def hadD (L : List ByteArray) : DataW Unit := L.foldl (fun D x => D.put (.string x.data.toList) (.lit (.int .i64 1))) (.map [])
theorem hadD_snoc (L : List ByteArray) (x : ByteArray) : hadD (L ++ [x]) = (hadD L).put (.string x.data.toList) (.lit (.int .i64 1)) := by
  unfold hadD; rw [List.foldl_append]; rfl
theorem isMap_hadD (L : List ByteArray) : IsMap (hadD L) := by
  unfold hadD
  have : ∀ (L : List ByteArray) (D : DataW Unit), IsMap D → IsMap (L.foldl (fun D x => D.put (.string x.data.toList) (.lit (.int .i64 1))) D) := by
    intro L
    induction L with
    | nil => intro D h; exact h
    | cons x L ih => intro D h; exact ih _ (h.put _ _)
  exact this L _ isMap_empty
theorem lit_str_inj {x y : ByteArray} (h : (Lit.string x.data.toList) = .string y.data.toList) : x = y := by
  injection h with h
  have : x.data = y.data := Array.toList_inj.1 h
  cases x; cases y; simp_all
theorem hadD_in (z : DataW Unit) (k : ByteArray) : ∀ (n : Nat) (L : List ByteArray), L.length = n → k ∈ L → (hadD L).atKey (.string k.data.toList) z = .lit (.int .i64 1) := by
  intro n
  induction n with
  | zero => intro L h hk; rw [List.eq_nil_of_length_eq_zero h] at hk; cases hk
  | succ n ih =>
    intro L h hk
    have hne : L ≠ [] := by intro e; rw [e] at h; cases h
    obtain ⟨l, x, e⟩ : ∃ l x, L = l ++ [x] := ⟨_, _, (List.dropLast_concat_getLast hne).symm⟩
    subst e
    rw [hadD_snoc]
    by_cases e : x = k
    · rw [e, atKey_put_same (isMap_hadD l) (by trivial)]
    · rw [atKey_put_other (fun g => e (lit_str_inj g).symm)]
      refine ih l (by simpa using h) ?_
      rcases List.mem_append.1 hk with g | g
      · exact g
      · exact absurd (List.mem_singleton.1 g).symm e
theorem hadD_out (z : DataW Unit) (k : ByteArray) : ∀ (n : Nat) (L : List ByteArray), L.length = n → k ∉ L → (hadD L).atKey (.string k.data.toList) z = z := by
  intro n
  induction n with
  | zero => intro L h hk; rw [List.eq_nil_of_length_eq_zero h]; rfl
  | succ n ih =>
    intro L h hk
    have hne : L ≠ [] := by intro e; rw [e] at h; cases h
    obtain ⟨l, x, e⟩ : ∃ l x, L = l ++ [x] := ⟨_, _, (List.dropLast_concat_getLast hne).symm⟩
    subst e
    rw [hadD_snoc, atKey_put_other (fun g => hk (by rw [lit_str_inj g]; simp))]
    exact ih l (by simpa using h) fun g => hk (List.mem_append.2 (.inl g))
/-- Block m is the map. -/
def MapS (w : World) (m : Nat) (L : List ByteArray) : Prop := w.ownsMap Tryz.prog 9 (plainElem Tryz.prog 3) m L.length (hadD L)
theorem MapS.lt {w : World} {m : Nat} {L : List ByteArray} (h : MapS w m L) : m < w.heap.size := World.ownsMap.lt h
theorem MapS.block {w w' : World} {m : Nat} {L : List ByteArray} (h : MapS w m L) (hb : w'.heap[m]? = w.heap[m]?) : MapS w' m L := by
  obtain ⟨es, clk, h1, h2⟩ := h
  exact ⟨es, clk, hb.trans h1, h2⟩
theorem MapS.made (w : World) : MapS (w.alloc (.map #[] 0)) w.heap.size [] := World.ownsMap_made _ _ _ _
theorem keyS : Keyed Tryz.prog 9 := string_keyed Tryz.underlying9
theorem zero_int (w : World) : (zeroValue 3).run Tryz.prog w = .ok (.int .i64 0) w := by kernel_rfl
section
variable {w : World} {m : Nat} {L : List ByteArray} {k : ByteArray}
theorem MapS.look0 (h : MapS w m L) (hk : k.size ≤ maxLen) (hn : k ∉ L) : (Instr.lookup 178 (.map (some m)) (.string k) false).run Tryz.prog w = .ok (.int .i64 0) w := by
  obtain ⟨c, h1, h2, -⟩ := World.ownsMap.lookup_int h keyS Tryz.underlying178 Tryz.underlying3 (zero_int w) (keyOf_string_mk Tryz.underlying9 hk)
  rw [hadD_out _ k _ L rfl hn] at h2
  injection h2 with h2
  injection h2 with _ h2
  rw [h2]
  exact h1
theorem MapS.look1 (h : MapS w m L) (hk : k.size ≤ maxLen) (hn : k ∈ L) : (Instr.lookup 178 (.map (some m)) (.string k) false).run Tryz.prog w = .ok (.int .i64 1) w := by
  obtain ⟨c, h1, h2, -⟩ := World.ownsMap.lookup_int h keyS Tryz.underlying178 Tryz.underlying3 (zero_int w) (keyOf_string_mk Tryz.underlying9 hk)
  rw [hadD_in _ k _ L rfl hn] at h2
  injection h2 with h2
  injection h2 with _ h2
  rw [h2]
  exact h1
theorem MapS.store {O : Om} {g : Nat} (h : MapS w m L) (hl : L.length < 8192) (hk : k.size ≤ maxLen) (hg : g ≠ 0) (hO : O m = g) (hhi : ∀ j, O j ≠ 0 → j < w.heap.size) :
    ∃ w', (Instr.mapUpdate 178 (.map (some m)) (.string k) (.int .i64 1)).run Tryz.prog w = .ok () w' ∧ MapS w' m (L ++ [k]) ∧ Ext (fun t => t = g) O w O w' := by
  obtain ⟨w', hrun, r1, r2⟩ := World.ownsMap.store h keyS Tryz.underlying178 (by unfold maxLen; omega) (keyOf_string_mk Tryz.underlying9 hk) (plainElem_int Tryz.underlying3 (a := 1) (by decide))
  refine ⟨w', hrun, ?_, ?_⟩
  · unfold MapS
    rw [hadD_snoc, List.length_append]
    exact r1
  · have hw : Wrote (fun j => j = m) w w' := (Wrote.refl _ _).grown r2.grown fun k hk _ => by cases hk; rfl
    refine ⟨fun j _ => rfl, fun j hj => Nat.lt_of_lt_of_le (hhi j hj) hw.size, fun j hj hn => absurd (hhi j hn) (by omega), hw.mono fun j _ e => ?_⟩
    subst e
    exact ⟨hO, by rw [hO]; exact hg⟩
end
end Go.Proofs.YtlcibfpibklbdaaGreat
