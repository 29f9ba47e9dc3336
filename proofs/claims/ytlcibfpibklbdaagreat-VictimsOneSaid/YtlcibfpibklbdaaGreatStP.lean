/- Layer 18, plain: how often each item stands (nestboxlaw18.Stand); arrays of numbers that are compared. -/
import Derived.Test.YtlcibfpibklbdaaGreatMkP
import Derived.Test.YtlcibfpibklbdaaGreatLay
import Derived.Laws.StructEq
namespace Go.Proofs.YtlcibfpibklbdaaGreat
set_option linter.unusedSimpArgs false
open Go.RowKit
set_option linter.unusedVariables false
theorem all_range_int : ∀ (xs ys : List Int), xs.length = ys.length → ((List.range xs.length).all fun i => xs.getD i 0 == ys.getD i 0) = (xs == ys)
  | [], [], _ => rfl
  | x :: xs, y :: ys, h => by
    have ih := all_range_int xs ys (by simpa using h)
    rw [List.length_cons, List.range_succ_eq_map, List.all_cons, List.all_map]
    simp only [List.getD_cons_zero, Function.comp_def, List.getD_cons_succ, ih]
    simp [List.cons_beq_cons]
  | [], _ :: _, h => by simp at h
  | _ :: _, [], h => by simp at h
section
variable {P : Program} (w : World)
theorem run_equalIn_ints (d : Nat) (t e : TypeId) (n : Nat) (k : IntKind) (ht : P.underlying t = some (.array n e)) (he : P.underlying e = some (.int k)) (hsz : ∀ w, (sizeOf e).run P w = .ok 1 w)
    (xs ys : List Int) (hx : xs.length = n) (hy : ys.length = n) :
    (Op.equalIn (d + 2) t (.agg (xs.map (Value.int k)).toArray) (.agg (ys.map (Value.int k)).toArray)).run P w = .ok (xs == ys) w := by
  rw [← all_range_int xs ys (hx.trans hy.symm), hx, List.range_eq_range', Op.equalIn]
  simp only [Sem.run_bind, run_underlying ht, Result.andThen_ok, hsz, Std.Legacy.Range.forIn_eq_forIn_range', Std.Legacy.Range.size, Nat.sub_zero, Nat.add_sub_cancel, Nat.div_one]
  have hl : ∀ i ∈ List.range' 0 n 1, i < n := fun i hi => by simpa using (List.mem_range'_1.1 hi).2
  generalize List.range' 0 n 1 = l at hl ⊢
  induction l with
  | nil => simp
  | cons i l ih =>
    have hi : i < n := hl i (by simp)
    have px : (part e (xs.map (Value.int k)).toArray (i * 1)).run P w = .ok (Value.int k (xs.getD i 0)) w := by
      simp [part, isAgg, run_underlying he, List.getD, List.getElem?_eq_getElem (show i < xs.length by omega)]
    have py : (part e (ys.map (Value.int k)).toArray (i * 1)).run P w = .ok (Value.int k (ys.getD i 0)) w := by
      simp [part, isAgg, run_underlying he, List.getD, List.getElem?_eq_getElem (show i < ys.length by omega)]
    have pe : (Op.equalIn (d + 1) e (Value.int k (xs.getD i 0)) (Value.int k (ys.getD i 0))).run P w = .ok (xs.getD i 0 == ys.getD i 0) w := run_equalIn_int w d e k k _ _ he
    simp only [List.forIn_cons, Sem.run_bind, px, py, pe, Result.andThen_ok, List.all_cons]
    cases hb : (xs.getD i 0 == ys.getD i 0)
    · simp
    · simp only [Bool.not_true, Bool.false_eq_true, if_false, Sem.run_pure, Result.andThen_ok, Bool.true_and]
      exact ih fun j hj => hl j (by simp [hj])
theorem run_eql_ints (t e : TypeId) (n : Nat) (k : IntKind) (ht : P.underlying t = some (.array n e)) (he : P.underlying e = some (.int k)) (hsz : ∀ w, (sizeOf e).run P w = .ok 1 w)
    (xs ys : List Int) (hx : xs.length = n) (hy : ys.length = n) :
    (binOp .eql t (.agg (xs.map (Value.int k)).toArray) (.agg (ys.map (Value.int k)).toArray)).run P w = .ok (.bool (xs == ys)) w := by
  rw [run_eql_struct, run_equalIn_ints w 9998 t e n k ht he hsz xs ys hx hy]
  rfl
end
/-- How often item r stands in the first n spots of the tables of t. -/
def stC (t : Int) (M : Int → Int) : Nat → Nat → Int
  | 0, _ => 0
  | n + 1, r => stC t M n r + if M (plAt t n).item = r ∧ r ≠ 0 then 1 else 0
def stL (t : Int) (M : Int → Int) (n : Nat) : List Int := (List.range 64).map (stC t M n)
theorem stL_len (t : Int) (M : Int → Int) (n : Nat) : (stL t M n).length = 64 := by unfold stL; rw [List.length_map, List.length_range]
theorem stL_get (t : Int) (M : Int → Int) (n r : Nat) (hr : r < 64) : (stL t M n)[r]? = some (stC t M n r) := by unfold stL; rw [List.getElem?_map, List.getElem?_range hr]; rfl
theorem stC_bd (t : Int) (M : Int → Int) (n r : Nat) : 0 ≤ stC t M n r ∧ stC t M n r ≤ n := by
  induction n with
  | zero => exact ⟨Int.le_refl _, Int.le_refl _⟩
  | succ n ih => unfold stC; split <;> omega
/-- What a slot of the tables that count may have. -/
def StAt (t : Int) (ks : List ByteArray) (M : Int → Int) (p : Spt) : Prop :=
  (twTag (M p.tags) p.s = 0 ∧ M p.item = 0) ∨ ∃ (r : Nat) (k : ByteArray), ks[r]? = some k ∧ M p.item = (r : Int) + 1 ∧ twTag (M p.tags) p.s = fnvTag (keyH k) ∧ (p.b, p.q) ∈ plPlaces (keyH k) t
theorem StAt.of {b : Int} {ks : List ByteArray} {M : Int → Int} {p : Spt} (b0 : 1 ≤ b) (b1 : b ≤ 12) (hp : p.b = b) (h : FilAt b ks M p) : StAt b ks M p := by
  rcases h with h | ⟨r, k, h1, h2, h3, h4⟩
  · exact .inl h
  · exact .inr ⟨r, k, h1, h2, h3, by rw [plPlaces_one b0 b1, hp]; exact h4⟩
/-- One more slot. -/
theorem stL_skip {t : Int} {M : Int → Int} {n : Nat} (h : M (plAt t n).item = 0) : stL t M (n + 1) = stL t M n := by
  unfold stL
  refine List.map_congr_left fun r _ => ?_
  conv => lhs; unfold stC
  rw [if_neg (by omega)]; omega
theorem stL_more {t : Int} {M : Int → Int} {n r : Nat} (h : M (plAt t n).item = r) (hr : r < 64) (h0 : r ≠ 0) : stL t M (n + 1) = (stL t M n).set r (stC t M n r + 1) := by
  refine List.ext_getElem? fun i => ?_
  rw [List.getElem?_set, stL_len]
  by_cases hi : i < 64
  · rw [stL_get _ _ _ _ hi]
    by_cases c : r = i
    · subst c
      rw [if_pos rfl, if_pos hr]
      conv => lhs; unfold stC
      rw [if_pos ⟨h, h0⟩]
    · rw [if_neg c, stL_get _ _ _ _ hi]
      conv => lhs; unfold stC
      rw [if_neg (by rw [h]; omega)]
      simp
  · rw [List.getElem?_eq_none (by rw [stL_len]; omega), if_neg (by omega), List.getElem?_eq_none (by rw [stL_len]; omega)]
/-- The same items: as often. -/
theorem stL_same {t : Int} {M M' : Int → Int} {n : Nat} (h : ∀ i : Nat, i < n → M' (plAt t i).item = M (plAt t i).item) : stL t M' n = stL t M n := by
  unfold stL
  refine List.map_congr_left fun r _ => ?_
  induction n with
  | zero => rfl
  | succ n ih => unfold stC; rw [ih fun i hi => h i (by omega), h n (by omega)]
/-- One item less. -/
theorem stC_less {t : Int} {M M' : Int → Int} {n k r : Nat} (hk : k < n) (h : ∀ i : Nat, i < n → i ≠ k → M' (plAt t i).item = M (plAt t i).item) (h0 : M' (plAt t k).item = 0) (hr : M (plAt t k).item = r) (r0 : r ≠ 0) (x : Nat) :
    stC t M' n x = stC t M n x - if x = r then 1 else 0 := by
  induction n with
  | zero => omega
  | succ n ih =>
    unfold stC
    by_cases c : n = k
    · subst c
      have e : stC t M' n x = stC t M n x := by
        clear ih hk
        have h' : ∀ i : Nat, i < n → M' (plAt t i).item = M (plAt t i).item := fun i hi => h i (by omega) (by omega)
        clear h h0 hr
        induction n with
        | zero => rfl
        | succ n ih => unfold stC; rw [ih fun i hi => h' i (by omega), h' n (by omega)]
      rw [e, h0, hr]
      by_cases d : x = r
      · subst d; rw [if_neg (by omega), if_pos ⟨rfl, r0⟩, if_pos rfl]; omega
      · rw [if_neg (by omega), if_neg (by omega), if_neg d]; omega
    · rw [ih (by omega) (fun i hi => h i (by omega)), h n (by omega) c]; omega
theorem stL_less {t : Int} {M M' : Int → Int} {n k r : Nat} (hk : k < n) (h : ∀ i : Nat, i < n → i ≠ k → M' (plAt t i).item = M (plAt t i).item) (h0 : M' (plAt t k).item = 0) (hr : M (plAt t k).item = r) (r0 : r ≠ 0) (r1 : r < 64) :
    stL t M' n = (stL t M n).set r (stC t M n r - 1) := by
  refine List.ext_getElem? fun i => ?_
  rw [List.getElem?_set, stL_len]
  by_cases hi : i < 64
  · rw [stL_get _ _ _ _ hi, stC_less hk h h0 hr r0 i]
    by_cases c : r = i
    · subst c
      rw [if_pos rfl, if_pos r1, if_pos rfl]
    · rw [if_neg c, stL_get _ _ _ _ hi, if_neg (by omega)]; simp
  · rw [List.getElem?_eq_none (by rw [stL_len]; omega), if_neg (by omega), List.getElem?_eq_none (by rw [stL_len]; omega)]
end Go.Proofs.YtlcibfpibklbdaaGreat
