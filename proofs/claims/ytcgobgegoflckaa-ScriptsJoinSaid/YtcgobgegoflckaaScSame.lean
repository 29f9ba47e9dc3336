/- Layer 33: bytes as a string; contracts of Same. -/
import Derived.Test.YtcgobgegoflckaaScParse
import Derived.Laws.BytesString
import Derived.Laws.Cells
namespace Go.Proofs.Ytcgobgegoflckaa
open Go.RowKit
set_option linter.unusedVariables false

theorem drewN_twice (w : World) (a b : Nat) : (w.drewN a).drewN b = w.drewN (a + b) := by simp [World.drewN, Nat.add_assoc]
/-- The string of some bytes. -/
def bstr (l : List Int) : ByteArray := l.foldl (fun r n => r.push (UInt8.ofNat n.toNat)) ByteArray.empty
theorem rowOf_byc (l : List Int) : rowOf byc l = l.map (Value.int .u8) := by
  induction l with
  | nil => rfl
  | cons a l ih => simp only [rowOf, List.flatMap_cons, List.map_cons] at ih ⊢; rw [ih]; rfl
theorem run_bstr {w : World} {v : Value} {l : List Int} (h : BArr w v l) (src dst e : TypeId) (hs : Try.prog.underlying src = some (.slice e)) (he : Try.prog.underlying e = some (.int .u8)) (hd : Try.prog.underlying dst = some .string) :
    (convert src dst v).run Try.prog w = .ok (.string (bstr l)) w := by
  obtain ⟨hl, ao, c, rfl, hc, hm, hx⟩ := h
  rw [run_convert_bytes_string w src dst e ao l.length c hs he hd]
  cases ao with
  | none =>
    cases l with
    | nil => rfl
    | cons z r =>
      obtain ⟨b, o, e, _⟩ := hx 0 (.int .u8 z) rfl
      cases e
  | some a =>
    refine run_bytesToString w a l.length c l ?_
    have hcell : ∀ (j : Nat) (v : Value), (l.map (Value.int .u8))[j]? = some v → w.cell? (a.add j) = some v := by
      intro j v hj
      rw [← rowOf_byc] at hj
      obtain ⟨b, o, e, _, hcell⟩ := hx j v hj
      cases e
      unfold Addr.add
      split
      · rename_i h0; subst h0; exact hcell
      · exact hcell
    have := run_loadCells_list (P := Try.prog) (w := w) a (l.map (Value.int .u8)) hcell
    simpa using this
/-- The program's commands and the document's, told in memory. -/
structure CmSame (w : World) (va : Value) (A : List (Cm × Value)) (vb : Value) (B : List (Cm × Value)) : Prop where
  aa : Arr w va A.length 3 (rowOf cmc A)
  ab : Byts w A
  ba : Arr w vb B.length 3 (rowOf cmr B)
  bb : Byts w B
  eq : A.map Prod.fst = B.map Prod.fst
  ka : ∀ p ∈ A, 0 ≤ p.1.kind ∧ p.1.kind ≤ 255
theorem c3_cells {f : Cm × Value → List Value} (hf : ∀ a, (f a).length = 3) {l : List (Cm × Value)} {w : World} {b o : Nat} (h : ∀ j u, (rowOf f l)[j]? = some u → w.cell? ⟨b, o + j, none⟩ = some u) (i : Nat) (hi : i < l.length) (j : Nat) (hj : j < 3) {u : Value} (hu : (f l[i])[j]? = some u) :
    w.cell? ⟨b, o + (i * 3 + j), none⟩ = some u := h _ _ ((rowOf_get hf l i j hi hj).trans hu)
set_option maxHeartbeats 1000000 in
set_option maxRecDepth 100000 in
theorem c_Same (va vb : Value) (A B : List (Cm × Value)) (w : World) (h : CmSame w va A vb B) :
    Calls Try.prog 11 #[va, vb] w fun e w' => e = .returned (.bool true) ∧ ∃ n, w' = w.drewN n := by
  have hlen : A.length = B.length := by have := congrArg List.length h.eq; simpa using this
  obtain ⟨ao, cp, rfl, hcp, hm⟩ := h.aa.shape
  obtain ⟨bo, cq, rfl, hcq, hmq⟩ := h.ba.shape
  have hl2 : A.length ≤ 9223372036854775807 := by unfold maxLen at hm; omega
  have H := Lib.hid h
  have Hlen := Lib.hid hlen
  rw [← hlen]
  clear h hlen
  go_enter Try.func11, Try.ntmps11
  go_wp2
  go_loopw [5] (fun i wr => ∃ k : Nat, k ≤ A.length ∧ i = .int .i64 k ∧ ∃ n, wr = w.drewN n) (fun i _ => A.length - (intOf i).toNat)
  case atStart => exact ⟨0, Nat.zero_le _, rfl, 0, rfl⟩
  case round =>
    obtain ⟨k, hk, rfl, n, rfl⟩ := hrel
    by_cases hk2 : k < A.length
    · obtain ⟨b, o, c', he, -, -, hlt, hx⟩ := H.out.aa.open (by omega) (by omega)
      cases he
      have hk3 : k < B.length := by have := Hlen.out; omega
      obtain ⟨d, p, c'', he, -, -, hlt2, hx2⟩ := H.out.ba.open (by omega) (by omega)
      have h1 := he
      simp only [Value.slice.injEq, Option.some.injEq] at h1
      obtain ⟨rfl, -, -⟩ := h1
      clear he
      obtain ⟨⟨⟨kd, cn, bs⟩, va⟩, hA⟩ : ∃ q, q = A[k] := ⟨_, rfl⟩
      obtain ⟨⟨c2, vb⟩, hB⟩ : ∃ q, q = B[k] := ⟨_, rfl⟩
      have hce : c2 = ⟨kd, cn, bs⟩ := by
        have h1 : (A.map Prod.fst)[k]? = (B.map Prod.fst)[k]? := by rw [H.out.eq]
        rw [List.getElem?_map, List.getElem?_map, List.getElem?_eq_getElem hk2, List.getElem?_eq_getElem hk3, ← hA, ← hB] at h1
        simp at h1
        exact h1.symm
      subst hce
      have hkk := H.out.ka _ (by rw [hA]; exact List.getElem_mem _ : ((⟨kd, cn, bs⟩, va) : Cm × Value) ∈ A)
      obtain ⟨wd, hwd⟩ : ∃ wd, wd = w.drewN n := ⟨_, rfl⟩
      have q0 : wd.cell? ⟨b, o + k * 3, none⟩ = some (.int .u8 kd) := by rw [hwd]; exact c3_cells cmc_len hx k hk2 0 (by omega) (by rw [← hA]; rfl)
      have q1 : wd.cell? ⟨b, o + k * 3 + 1, none⟩ = some (.int .i64 cn) := by rw [hwd, Nat.add_assoc]; exact c3_cells cmc_len hx k hk2 1 (by omega) (by rw [← hA]; rfl)
      have q2 : wd.cell? ⟨b, o + k * 3 + 2, none⟩ = some va := by rw [hwd, Nat.add_assoc]; exact c3_cells cmc_len hx k hk2 2 (by omega) (by rw [← hA]; rfl)
      have p0 : wd.cell? ⟨d, p + k * 3, none⟩ = some (.int .i64 kd) := by rw [hwd]; exact c3_cells cmr_len hx2 k hk3 0 (by omega) (by rw [← hB]; rfl)
      have p1 : wd.cell? ⟨d, p + k * 3 + 1, none⟩ = some (.int .i64 cn) := by rw [hwd, Nat.add_assoc]; exact c3_cells cmr_len hx2 k hk3 1 (by omega) (by rw [← hB]; rfl)
      have p2 : wd.cell? ⟨d, p + k * 3 + 2, none⟩ = some vb := by rw [hwd, Nat.add_assoc]; exact c3_cells cmr_len hx2 k hk3 2 (by omega) (by rw [← hB]; rfl)
      have sa : ∀ m, (convert 22 9 va).run Try.prog (wd.drewN m) = .ok (.string (bstr bs)) (wd.drewN m) := fun m => run_bstr (l := bs) (by rw [hwd]; exact Arr.below (H.out.ab _ (by rw [hA]; exact List.getElem_mem _ : ((⟨kd, cn, bs⟩, va) : Cm × Value) ∈ A)) (below_drewN (below_drewN (Below.refl _ _) n) m)) _ _ _ Try.underlying22 Try.underlying5 Try.underlying9
      have sb : ∀ m, (convert 22 9 vb).run Try.prog (wd.drewN m) = .ok (.string (bstr bs)) (wd.drewN m) := fun m => run_bstr (l := bs) (by rw [hwd]; exact Arr.below (H.out.bb _ (by rw [hB]; exact List.getElem_mem _ : ((⟨kd, cn, bs⟩, vb) : Cm × Value) ∈ B)) (below_drewN (below_drewN (Below.refl _ _) n) m)) _ _ _ Try.underlying22 Try.underlying5 Try.underlying9
      have k0 := hkk.1
      have k1 := hkk.2
      rw [← hwd]
      have Hwd := Lib.hid hwd
      clear hx hx2 hA hB hkk hwd
      go_wp2
      go_quiet (fail)
      go_wp2
      go_roundw
      case rel => exact ⟨k + 1, by omega, by go_num, _, by rw [Hwd.out]; exact drewN_twice _ _ _⟩
      case measure => simp [intOf]; omega
    · go_wp2
      go_ret
      exact ⟨rfl, n, rfl⟩
end Go.Proofs.Ytcgobgegoflckaa
