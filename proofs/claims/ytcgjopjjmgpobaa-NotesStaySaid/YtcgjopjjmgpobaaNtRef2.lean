/- Layer 9: contracts of the document's list, more; Same and spoil of the laws. -/
import Derived.Test.YtcgjopjjmgpobaaNtRef
import Derived.BigQuiet
namespace Go.Proofs.Ytcgjopjjmgpobaa
open Go.RowKit
set_option linter.unusedVariables false

/-- A note of the document's: its cells, from an address on. -/
def NrAt (w : World) (b o : Nat) (n : Nt) : Prop := ∀ j u, (ntr n)[j]? = some u → w.cell? ⟨b, o + j, none⟩ = some u
theorem NrAt.all {w : World} {b o : Nat} {n : Nt} (h : NrAt w b o n) : w.cell? ⟨b, o, none⟩ = some (.int .i64 n.step) ∧ w.cell? ⟨b, o + 1, none⟩ = some (.int .i64 n.thread) ∧ w.cell? ⟨b, o + 2, none⟩ = some (.int .i64 n.kind) ∧ w.cell? ⟨b, o + 3, none⟩ = some (.int .i64 n.ref) ∧ w.cell? ⟨b, o + 4, none⟩ = some (.int .i64 n.bits) ∧ w.cell? ⟨b, o + 5, none⟩ = some (.int .i64 n.bucket) ∧ w.cell? ⟨b, o + 6, none⟩ = some (.int .i64 n.slot) ∧ w.cell? ⟨b, o + 7, none⟩ = some (.int .i64 n.value) :=
  ⟨h 0 _ rfl, h 1 _ rfl, h 2 _ rfl, h 3 _ rfl, h 4 _ rfl, h 5 _ rfl, h 6 _ rfl, h 7 _ rfl⟩
theorem NrAt.below {w w' : World} {b o B : Nat} {n : Nt} (h : NrAt w b o n) (hb : Below B w w') (hlt : b < B) : NrAt w' b o n := fun j u hu => (hb.cell (p := ⟨b, o + j, none⟩) hlt).trans (h j u hu)
theorem nrAt_row {w : World} {l : List Nt} {b o : Nat} (h : ∀ j u, (rowOf ntr l)[j]? = some u → w.cell? ⟨b, o + j, none⟩ = some u) (i : Nat) (hi : i < l.length) : NrAt w b (o + i * 8) l[i] := by
  intro j u hu
  have hj : j < 8 := (List.getElem?_eq_some_iff.1 hu).1
  have := nt_cells ntr_len h i hi j hj hu
  rwa [Nat.add_assoc]

set_option maxHeartbeats 1000000 in
set_option maxRecDepth 100000 in
theorem c_Same (va vb : Value) (l : List Nt) (w : World) (ha : Arr w va l.length 8 (rowOf ntc l)) (hb : Arr w vb l.length 8 (rowOf ntr l)) (hok : ∀ n ∈ l, 0 ≤ n.kind ∧ n.kind ≤ 255) :
    Calls Try.prog 45 #[va, vb] w fun e w' => e = .returned (.bool true) ∧ Below w.heap.size w w' := by
  obtain ⟨ao, cp, rfl, hcp, hm⟩ := ha.shape
  obtain ⟨bo, cq, rfl, hcq, hmq⟩ := hb.shape
  have hl2 : l.length ≤ 9223372036854775807 := by unfold maxLen at hm; omega
  go_enter Try.func45, Try.ntmps45
  go_wp2
  go_loopw [5] (fun i wr => ∃ k : Nat, k ≤ l.length ∧ i = .int .i64 k ∧ Below w.heap.size w wr) (fun i _ => l.length - (intOf i).toNat)
  case atStart => exact ⟨0, Nat.zero_le _, rfl, Below.refl _ _⟩
  case round =>
    obtain ⟨k, hk, rfl, hbel⟩ := hrel
    by_cases hk2 : k < l.length
    · obtain ⟨b, o, c', he, -, -, hlt, hx⟩ := ha.open (by omega) (by omega)
      cases he
      obtain ⟨d, p, c'', he, -, -, hlt2, hx2⟩ := hb.open (by omega) (by omega)
      cases he
      have at1 := (ntAt_row hx k hk2).below hbel hlt
      have at2 := (nrAt_row hx2 k hk2).below hbel hlt2
      have hkk := hok l[k] (List.getElem_mem _)
      obtain ⟨q, hq⟩ : ∃ q, q = l[k] := ⟨_, rfl⟩
      rw [← hq] at at1 at2 hkk
      obtain ⟨q0, q1, q2, q3, q4, q5, q6, q7⟩ := at1.all
      obtain ⟨p0, p1, p2, p3, p4, p5, p6, p7⟩ := at2.all
      have hl1 := Nat.lt_of_lt_of_le hlt hbel.size
      have hl3 := Nat.lt_of_lt_of_le hlt2 hbel.size
      have k0 := hkk.1
      have k1 := hkk.2
      clear hx hx2 ha hb at1 at2 hok hq hkk
      go_wp2
      refine wp_region_via (by kernel_rfl) (by kernel_rfl) ?_
      repeat (go_big_quiet_step ((first | (go_at_call 42; exact viaB (c_Other _ _ k0 k1)))))
      refine wpQuiet_nil ?_
      rintro _ ⟨e, rfl⟩
      go_wp2
      go_roundw
      case rel => exact ⟨k + 1, by omega, by go_num, below_via hbel _⟩
      case measure => simp [intOf]; omega
    · clear ha hb
      go_wp2
      go_ret
      exact ⟨rfl, hbel⟩

theorem some_setCell {w : World} {p q : Addr} {u : Value} (h : (w.cell? q).isSome) : ((w.setCell p u).cell? q).isSome := by
  by_cases hpq : p = q
  · subst hpq
    obtain ⟨x, hx⟩ := Option.isSome_iff_exists.1 h
    rw [World.cell?_setCell_same _ _ _ hx]
    rfl
  · rw [World.cell?_setCell_other _ _ _ _ hpq]
    exact h
set_option maxHeartbeats 1000000 in
set_option maxRecDepth 100000 in
theorem c_spoil (v : Value) (l : List Nt) (B : Nat) (w : World) (ha : Arr w v l.length 8 (rowOf ntc l)) (hF : 0 < l.length → Fresh w B v) :
    Calls Try.prog 48 #[v] w fun e w' => e = .returned (.tuple #[]) ∧ Wrote (fun k => 0 < l.length ∧ ∃ a n c, v = .slice (some a) n c ∧ k = a.block) w w' := by
  obtain ⟨ao, cp, rfl, hcp, hm⟩ := ha.shape
  have hl2 : l.length ≤ 9223372036854775807 := by unfold maxLen at hm; omega
  by_cases h0 : l.length = 0
  · have hd : decide (0 < l.length) = false := by simp [h0]
    go_enter Try.func48, Try.ntmps48
    go_wp2
    refine wp_loop_rounds 1 ?_
    rw [rounds_succ]
    go_wp2
    go_end0
    exact ⟨rfl, Wrote.refl _ _⟩
  · obtain ⟨b, o, c', he, -, -, hlt, hx⟩ := ha.open (by omega) (by omega)
    cases he
    obtain ⟨-, _, -, hfz⟩ := hF (by omega) _ _ _ rfl
    have hex : ∀ j, j < l.length * 8 → (w.cell? ⟨b, o + j, none⟩).isSome := by
      intro j hj
      rw [hx j _ (List.getElem?_eq_getElem (by rw [rowOf_len ntc_len]; exact hj))]
      rfl
    have Hex := Lib.hid hex
    have Hfz := Lib.hid hfz
    clear ha hx hF hex hfz
    go_enter Try.func48, Try.ntmps48
    go_wp2
    go_loopw [2] (fun i wr => ∃ k : Nat, k ≤ l.length ∧ i = .int .i64 k ∧ (∀ j, j < l.length * 8 → (wr.cell? ⟨b, o + j, none⟩).isSome) ∧ (∀ j, wr.frozen? ⟨b, j, none⟩ = false) ∧ Wrote (fun k => k = b) w wr) (fun i _ => l.length - (intOf i).toNat)
    case atStart => exact ⟨0, Nat.zero_le _, rfl, Hex.out, Hfz.out, Wrote.refl _ _⟩
    case round =>
      obtain ⟨k, hk, rfl, hex, hfz, hw⟩ := hrel
      by_cases hk2 : k < l.length
      · obtain ⟨x0, q0⟩ := Option.isSome_iff_exists.1 (hex (k * 8 + 0) (by omega))
        obtain ⟨x1, q1⟩ := Option.isSome_iff_exists.1 (hex (k * 8 + 1) (by omega))
        obtain ⟨x2, q2⟩ := Option.isSome_iff_exists.1 (hex (k * 8 + 2) (by omega))
        obtain ⟨x3, q3⟩ := Option.isSome_iff_exists.1 (hex (k * 8 + 3) (by omega))
        obtain ⟨x4, q4⟩ := Option.isSome_iff_exists.1 (hex (k * 8 + 4) (by omega))
        obtain ⟨x5, q5⟩ := Option.isSome_iff_exists.1 (hex (k * 8 + 5) (by omega))
        obtain ⟨x6, q6⟩ := Option.isSome_iff_exists.1 (hex (k * 8 + 6) (by omega))
        obtain ⟨x7, q7⟩ := Option.isSome_iff_exists.1 (hex (k * 8 + 7) (by omega))
        simp only [← Nat.add_assoc, Nat.add_zero] at q0 q1 q2 q3 q4 q5 q6 q7
        have f0 := hfz (o + k * 8)
        have f1 := hfz (o + k * 8 + 1)
        have f2 := hfz (o + k * 8 + 2)
        have f3 := hfz (o + k * 8 + 3)
        have f4 := hfz (o + k * 8 + 4)
        have f5 := hfz (o + k * 8 + 5)
        have f6 := hfz (o + k * 8 + 6)
        have f7 := hfz (o + k * 8 + 7)
        have He := Lib.hid hex
        have Hf := Lib.hid hfz
        clear hex hfz
        go_wp2
        go_roundw
        case rel => exact ⟨k + 1, by omega, by go_num, fun j hj => some_setCell (some_setCell (some_setCell (some_setCell (some_setCell (some_setCell (some_setCell (some_setCell (He.out j hj)))))))), fun j => by simp only [World.frozen?_setCell]; exact Hf.out j, (((((((hw.setCell (fun _ => rfl) _).setCell (fun _ => rfl) _).setCell (fun _ => rfl) _).setCell (fun _ => rfl) _).setCell (fun _ => rfl) _).setCell (fun _ => rfl) _).setCell (fun _ => rfl) _).setCell (fun _ => rfl) _⟩
        case measure => simp [intOf]; omega
      · go_wp2
        go_end0
        exact ⟨rfl, hw.mono fun k _ e => ⟨by omega, ⟨b, o, none⟩, _, _, rfl, e⟩⟩
end Go.Proofs.Ytcgjopjjmgpobaa
