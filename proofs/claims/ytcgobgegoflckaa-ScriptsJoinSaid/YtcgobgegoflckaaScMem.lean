/- Layer 33: bytes and commands in memory; contracts of the library's functions that are called, and of may. -/
import Derived.Test.YtcgobgegoflckaaMem
import Derived.Test.YtcgobgegoflckaaScPlain
import Derived.Test.YtcgobgegoflckaaRows
import Derived.Deep.RegionHeld3
import Derived.Deep.DeepCutAuto
namespace Go.Proofs.Ytcgobgegoflckaa
open Go.RowKit
set_option linter.unusedVariables false

def byc (z : Int) : List Value := [.int .u8 z]
theorem byc_len (z : Int) : (byc z).length = 1 := rfl
/-- The slice v holds the bytes l. -/
def BArr (w : World) (v : Value) (l : List Int) : Prop := Arr w v l.length 1 (rowOf byc l)
/-- A command's cells, its bytes' slice among them. -/
def cmc (p : Cm × Value) : List Value := [.int .u8 p.1.kind, .int .i64 p.1.conn, p.2]
theorem cmc_len (p : Cm × Value) : (cmc p).length = 3 := rfl
def cmr (p : Cm × Value) : List Value := [.int .i64 p.1.kind, .int .i64 p.1.conn, p.2]
theorem cmr_len (p : Cm × Value) : (cmr p).length = 3 := rfl
/-- Each command's slice of bytes holds them. -/
def Byts (w : World) (L : List (Cm × Value)) : Prop := ∀ p ∈ L, BArr w p.2 p.1.bytes
theorem Byts.below {w w' : World} {L : List (Cm × Value)} (h : Byts w L) (hb : Below w.heap.size w w') : Byts w' L := fun p hp => Arr.below (h p hp) hb
theorem byc_cell {w : World} {b o : Nat} {l : List Int} (h : ∀ j u, (rowOf byc l)[j]? = some u → w.cell? ⟨b, o + j, none⟩ = some u) (i : Nat) (hi : i < l.length) : w.cell? ⟨b, o + i, none⟩ = some (.int .u8 l[i]) := by
  have := h (i * 1 + 0) _ (rowOf_get byc_len l i 0 hi (by omega))
  rwa [Nat.mul_one, Nat.add_zero] at this
theorem byc_one (l : List Int) : ∀ u ∈ rowOf byc l, u.oneCell' = true := by
  intro u hu
  obtain ⟨p, _, hp⟩ := List.mem_flatMap.1 hu
  simp [byc] at hp
  subst hp; rfl
theorem below_drewN {B : Nat} {a w : World} (h : Below B a w) (n : Nat) : Below B a (w.drewN n) := ⟨h.os, h.tape, h.output, h.size, h.block⟩

theorem c_bClip (ao : Option Addr) (n c : Nat) (w : World) (hn : n ≤ c) (hc : c ≤ maxLen) (ha : ao = none → c = 0) :
    Calls Try.prog 17 #[.slice ao n c] w fun e w' => e = .returned (.slice ao n n) ∧ w = w' := by
  unfold maxLen at hc
  cases ao with
  | none =>
    obtain rfl := ha rfl
    obtain rfl : n = 0 := by omega
    go_enter Try.func17, Try.ntmps17
    go_wp2
    go_ret
    exact ⟨rfl, rfl⟩
  | some a =>
    go_enter Try.func17, Try.ntmps17
    go_wp2
    go_ret
    exact ⟨rfl, rfl⟩
theorem c_cClip (ao : Option Addr) (n c : Nat) (w : World) (hn : n ≤ c) (hc : c ≤ maxLen) (ha : ao = none → c = 0) :
    Calls Try.prog 19 #[.slice ao n c] w fun e w' => e = .returned (.slice ao n n) ∧ w = w' := by
  unfold maxLen at hc
  cases ao with
  | none =>
    obtain rfl := ha rfl
    obtain rfl : n = 0 := by omega
    go_enter Try.func19, Try.ntmps19
    go_wp2
    go_ret
    exact ⟨rfl, rfl⟩
  | some a =>
    go_enter Try.func19, Try.ntmps19
    go_wp2
    go_ret
    exact ⟨rfl, rfl⟩
theorem infoB : (Try.prog.info? 5).map (fun i => (i.zero, i.size, i.bytes)) = some (some (.int .u8 0), 1, 1) := by kernel_rfl
theorem infoC : (Try.prog.info? 31).map (fun i => (i.zero, i.size, i.bytes)) = some (some (.agg #[.int .u8 0, .int .i64 0, .slice none 0 0]), 3, 40) := by kernel_rfl
theorem infoR : (Try.prog.info? 42).map (fun i => (i.zero, i.size, i.bytes)) = some (some (.agg #[.int .i64 0, .int .i64 0, .slice none 0 0]), 3, 40) := by kernel_rfl
/-- A clone that is not nil: new memory. -/
theorem c_Clone (ao : Option Addr) (c : Nat) (l : List Int) (w : World) (hv : BArr w (.slice ao l.length c) l) (hn : ao ≠ none) (hl : l.length ≤ 1000000) :
    Calls Try.prog 18 #[.slice ao l.length c] w fun e w' => (∃ v', e = .returned v' ∧ w'.ownsRow w.heap.size 5 1 v' l.length (rowOf byc l)) ∧ Below w.heap.size w w' := by
  obtain ⟨i0, hi, hz0, hz1, hz2⟩ := info_parts infoB
  obtain ⟨a, rfl⟩ : ∃ a, ao = some a := by cases ao <;> simp_all
  have hA := Arr.below hv ((Below.refl w.heap.size w).alloc (Nat.le_refl _) (.cells #[] 5))
  have hnews : ∀ j u, (rowOf byc l)[j]? = some u → (w.alloc (.cells #[] 5)).cell? (a.add j) = some u := by
    intro j u hu
    obtain ⟨_, ao', c', he, _, _, hx⟩ := hA
    cases he
    obtain ⟨b, o, e1, _, hc⟩ := hx j u hu
    cases e1
    unfold Addr.add
    split
    · rename_i h0; subst h0; exact hc
    · exact hc
  have hown := World.ownsRow_lit (base := w.heap.size) (e := 5) (size := 1) w #[] 0 (Nat.le_refl _) (by unfold maxLen; omega) (by simp)
  have HV := Lib.hid hv
  have HA := Lib.hid hA
  have HL := Lib.hid hl
  have HN := Lib.hid hnews
  clear hv hA hn hl hnews
  have hnil := fun (W : World) => Lib.run_eql_slice_nil (P := Try.prog) W 22 5 (some a) l.length c 0 0 Try.underlying22
  go_enter Try.func18, Try.ntmps18
  go_wp2_with (at_builtin; refine wpList_append_own _ rfl _ _ 22 rfl w.heap.size 5 i0 (.int .u8 0) 1 1 Try.underlying22 hi hz0 hz1 hz2 rfl (by decide) _ _ _ rfl hown a l.length c (rowOf byc l) rfl (by rw [rowOf_len byc_len]) HN.out (byc_one l) (by have := HL.out; unfold maxLen; omega) (by have := HL.out; omega) (by simp) ?_; intro v1 w1 hown1 hgr1 _)
  have hb := below_grown ((Below.refl w.heap.size w).alloc (Nat.le_refl _) _) (by simp) hown hgr1
  go_ret
  exact ⟨⟨_, rfl, by simpa using hown1⟩, hb⟩
theorem c_Clone_nil (w : World) : Calls Try.prog 18 #[.slice none 0 0] w fun e w' => e = .returned (.slice none 0 0) ∧ w = w' := by
  have hnil := fun (W : World) => Lib.run_eql_slice_nil (P := Try.prog) W 22 5 none 0 0 0 0 Try.underlying22
  go_enter Try.func18, Try.ntmps18
  go_wp2
  go_ret
  exact ⟨rfl, rfl⟩
/-- May a command of these numbers be said? -/
def csMayN (k n : Int) (m : Nat) : Bool := (decide (k = 0) && decide (0 ≤ n ∧ n < 64) && decide (m ≤ 255)) || (decide (k = 1) && decide (0 ≤ n ∧ n < 64) && decide (m = 0)) || (decide (k = 2) && decide (n = 0) && decide (m = 0))
theorem csMay_eq (c : Cm) : csMay c = csMayN c.kind c.conn c.bytes.length := rfl
theorem c_may (k n : Int) (ao : Option Addr) (m c : Nat) (w : World) :
    Calls Try.prog 20 #[.agg #[.int .u8 k, .int .i64 n, .slice ao m c]] w fun e w' => e = .returned (.bool (csMayN k n m)) ∧ Below w.heap.size w w' := by
  by_cases k0 : k = 0
  · subst k0
    go_enter Try.func20, Try.ntmps20
    go_wp2
    all_goals
      go_ret
      exact ⟨ret_bool (by unfold csMayN; rw [Bool.eq_iff_iff]; simp; omega), (Below.refl _ _).alloc (Nat.le_refl _) _⟩
  · have e0 : (k == 0) = false := by simp [k0]
    by_cases k1 : k = 1
    · subst k1
      go_enter Try.func20, Try.ntmps20
      go_wp2
      all_goals
        go_ret
        exact ⟨ret_bool (by unfold csMayN; rw [Bool.eq_iff_iff]; simp; omega), (Below.refl _ _).alloc (Nat.le_refl _) _⟩
    · have e1 : (k == 1) = false := by simp [k1]
      have K0 := Lib.hid k0
      have K1 := Lib.hid k1
      clear k0 k1
      go_enter Try.func20, Try.ntmps20
      go_wp2
      all_goals
        go_ret
        exact ⟨ret_bool (by have := K0.out; have := K1.out; unfold csMayN; rw [Bool.eq_iff_iff]; simp; omega), (Below.refl _ _).alloc (Nat.le_refl _) _⟩
end Go.Proofs.Ytcgobgegoflckaa
