/- Layer 33: the contract of the document's Print. -/
import Derived.Test.YtcgobgegoflckaaScPW
namespace Go.Proofs.Ytcgobgegoflckaa
open Go.RowKit
set_option linter.unusedVariables false

section
variable {P : Program} {w : World}
/-- Nothing is appended, to whatever slice. -/
theorem wpList_append_none {ops : Array Oper} {rest : List Oper} {o : Oper} {a : Act} {Q : Exit → Act → World → Prop} (hgd : o.guard = none) (s x : Operand) (t : TypeId)
    (ho : o.op = .call { callee := .builtin .append, args := #[s, x], argTypes := #[t, t] })
    (e : TypeId) (i : TypeInfo) (ht : P.underlying t = some (.slice e)) (hi : P.info? e = some i)
    (b0 : Option Addr) (s0 c0 : Nat) (hs : a.eval s = .slice b0 s0 c0) (hle : s0 ≤ c0) (ao : Option Addr) (c : Nat) (hx : a.eval x = .slice ao 0 c)
    (h : wpList P ops Q rest (a.put o.dst (.slice b0 s0 c0)) w) : wpList P ops Q (o :: rest) a w := by
  refine wpList_plain hgd fun K hK => ?_
  have hsrc : Src P i.size t (.slice ao 0 c) 0 [] w := by
    cases ao with
    | none => exact Src.ofNil w ht c
    | some ad => exact Src.ofSlice w ht ad 0 c [] (by simp) (fun j u hu => by simp at hu) (fun u hu => by cases hu)
  have hrun := run_append_nothing (P := P) w t t o.type e i ht hi b0 s0 c0 hle _ hsrc
  unfold Oper.wp
  simp [execOp, ho, resolve, invoke, builtin, hs, hx, hrun, Result.andThen]
  exact hK _ _ h
end
theorem grown_self (w : World) (r : Option Nat) : w.grownBy w r := ⟨rfl, rfl, rfl, Nat.le_refl _, fun _ _ _ => rfl⟩
/-- Bytes, however many, are appended to a row of the call's own. -/
theorem append_bytes {ops : Array Oper} {rest : List Oper} {o : Oper} {a : Act} {Q : Exit → Act → World → Prop} (hgd : o.guard = none) (s x : Operand) (w : World)
    (ho : o.op = .call { callee := .builtin .append, args := #[s, x], argTypes := #[22, 22] })
    (base : Nat) (v : Value) (xs : List Int) (hs : a.eval s = v) (hown : w.ownsRow base 5 1 v xs.length (rowOf byc xs)) (xv : Value) (ys : List Int) (hx : a.eval x = xv) (hy : BArr w xv ys)
    (hl : xs.length + ys.length ≤ 2000000) (hb : base ≤ w.heap.size)
    (h : ∀ v' w', w'.ownsRow base 5 1 v' (xs ++ ys).length (rowOf byc (xs ++ ys)) → w.grownBy w' v.ownBlock → wpList Try.prog ops Q rest (a.put o.dst v') w') : wpList Try.prog ops Q (o :: rest) a w := by
  obtain ⟨i0, hi, hz0, hz1, hz2⟩ := info_parts infoB
  obtain ⟨ao, c, rfl, hc, hm⟩ := hy.shape
  by_cases h0 : ys.length = 0
  · obtain rfl := List.eq_nil_of_length_eq_zero h0
    obtain ⟨bo, bc, rfl, hbc, hbm⟩ := (Arr.of_own hown).shape
    exact wpList_append_none hgd s x 22 ho 5 i0 Try.underlying22 hi bo _ bc hs hbc ao c hx (h _ _ (by rw [List.append_nil]; exact hown) (grown_self _ _))
  · obtain ⟨b, off, c', he, -, -, hlt, hx2⟩ := Arr.open hy (by omega) (by omega)
    cases he
    refine wpList_append_own _ hgd s x 22 ho base 5 i0 (.int .u8 0) 1 1 Try.underlying22 hi hz0 hz1 hz2 rfl (by decide) v _ _ hs hown ⟨b, off, none⟩ ys.length c (rowOf byc ys) hx (by rw [rowOf_len byc_len]) (fun j u hu => ?_) (byc_one ys) (by unfold maxLen; omega) (by omega) hb fun v' w' h1 h2 _ => h v' w' (by rw [List.length_append, rowOf_append]; exact h1) h2
    have := hx2 j u hu
    unfold Addr.add
    split
    · rename_i h0; subst h0; exact this
    · exact this
theorem csPrint_take (L : List Cm) (k : Nat) : (csPrint (L.take k)).length ≤ (csPrint L).length := by
  conv => rhs; rw [← List.take_append_drop k L, csPrint_append, List.length_append]
  omega
theorem csPrint_snoc (L : List Cm) (k : Nat) (h : k < L.length) : csPrint (L.take (k + 1)) = csPrint (L.take k) ++ csSay L[k] := by
  rw [List.take_succ_eq_append_getElem h, csPrint_append]
  congr 1
  simp [csPrint]
/-- The document's three tests. -/
def mF (c : Cm) : Bool := decide (c.kind = 0 ∧ 0 ≤ c.conn ∧ c.conn ≤ 63 ∧ c.bytes.length ≤ 255)
def mP (c : Cm) : Bool := decide (c.kind = 1 ∧ 0 ≤ c.conn ∧ c.conn ≤ 63 ∧ c.bytes.length = 0)
def mT (c : Cm) : Bool := decide (c.kind = 2 ∧ c.conn = 0 ∧ c.bytes.length = 0)
theorem may_of (c : Cm) : csMay c = (mF c || mP c || mT c) := by
  unfold csMay mF mP mT
  rw [Bool.eq_iff_iff]
  simp only [Bool.or_eq_true, Bool.and_eq_true, decide_eq_true_eq]
  omega
theorem rcm_cells {w : World} {b o : Nat} {L : List (Cm × Value)} (h : ∀ j u, (rowOf cmr L)[j]? = some u → w.cell? ⟨b, o + j, none⟩ = some u) (i : Nat) (hi : i < L.length) :
    w.cell? ⟨b, o + i * 3, none⟩ = some (.int .i64 L[i].1.kind) ∧ w.cell? ⟨b, o + i * 3 + 1, none⟩ = some (.int .i64 L[i].1.conn) ∧ w.cell? ⟨b, o + i * 3 + 2, none⟩ = some L[i].2 :=
  ⟨by have := c3_cells cmr_len h i hi 0 (by omega) (u := .int .i64 L[i].1.kind) rfl; rwa [Nat.add_zero] at this, by have := c3_cells cmr_len h i hi 1 (by omega) (u := .int .i64 L[i].1.conn) rfl; rwa [← Nat.add_assoc] at this, by have := c3_cells cmr_len h i hi 2 (by omega) (u := L[i].2) rfl; rwa [← Nat.add_assoc] at this⟩
set_option maxHeartbeats 4000000 in
set_option maxRecDepth 100000 in
theorem c_rPrint (v : Value) (L : List (Cm × Value)) (w : World) (hv : Arr w v L.length 3 (rowOf cmr L)) (hy : Byts w L) (hl : (csPrint (L.map Prod.fst)).length ≤ 1000000) (hL : L.length ≤ 1000000) :
    Calls Try.prog 14 #[v] w fun e w' => (∃ v', e = .returned (.tuple #[v', .bool (L.all fun p => csMay p.1)]) ∧ ((L.all fun p => csMay p.1) = false → v' = .slice none 0 0) ∧ ((L.all fun p => csMay p.1) = true → BArr w' v' (csPrint (L.map Prod.fst)))) ∧ Below w.heap.size w w' := by
  obtain ⟨ao, cp, rfl, hcp, hm⟩ := hv.shape
  have hL9 : L.length ≤ 9223372036854775807 := by omega
  have HL := Lib.hid hL
  have HL2 := Lib.hid hl
  have HY := Lib.hid hy
  have HV := Lib.hid hv
  clear hl hL hy hv
  go_enter Try.func14, Try.ntmps14
  go_wp2
  go_loopw [4, 5] (fun vo i wr => ∃ k : Nat, k ≤ L.length ∧ i = .int .i64 k ∧ (∀ p ∈ L.take k, csMay p.1 = true) ∧ wr.ownsRow w.heap.size 5 1 vo (csPrint ((L.map Prod.fst).take k)).length (rowOf byc (csPrint ((L.map Prod.fst).take k))) ∧ Below w.heap.size w wr) (fun _ i _ => L.length - (intOf i).toNat)
  case atStart => exact ⟨0, Nat.zero_le _, rfl, (fun p h => by simp at h), World.ownsRow_nil _ _ _ _, Below.refl _ _⟩
  case round =>
    obtain ⟨k, hk, rfl, hmay, hown, hbel⟩ := hrel
    have HM := Lib.hid hmay
    have HO := Lib.hid hown
    have HB := Lib.hid hbel
    have HPl := Lib.hid (Nat.le_trans (csPrint_take (L.map Prod.fst) k) HL2.out)
    clear hmay hown hbel
    by_cases hk2 : k < L.length
    · obtain ⟨b, o, c', he, -, -, hb, hx⟩ := HV.out.open (by omega) (by omega)
      cases he
      obtain ⟨y0, y1, y2⟩ := rcm_cells hx k hk2
      have hby := HY.out _ (List.getElem_mem hk2)
      have hsn := csPrint_snoc (L.map Prod.fst) k (by rw [List.length_map]; exact hk2)
      rw [List.getElem_map] at hsn
      have htk : L.take (k + 1) = L.take k ++ [L[k]] := List.take_succ_eq_append_getElem hk2
      have hmem : L[k] ∈ L := List.getElem_mem hk2
      obtain ⟨q, hq⟩ : ∃ q, q = L[k] := ⟨_, rfl⟩
      rw [← hq] at y0 y1 y2 hby hsn htk hmem
      obtain ⟨⟨kd, cn, bs⟩, bv⟩ := q
      dsimp only at y0 y1 y2 hby hsn
      obtain ⟨ba, bc, rfl, hbc, hbm⟩ := hby.shape
      have hbn : bs.length ≤ 9223372036854775807 := by unfold maxLen at hbm; omega
      have z0 := (HB.out.cell (p := ⟨b, o + k * 3, none⟩) hb).trans y0
      have z1 := (HB.out.cell (p := ⟨b, o + k * 3 + 1, none⟩) hb).trans y1
      have z2 := (HB.out.cell (p := ⟨b, o + k * 3 + 2, none⟩) hb).trans y2
      have HBY := Lib.hid hby
      have HSN := Lib.hid hsn
      have HTK := Lib.hid htk
      have HMem := Lib.hid hmem
      clear hx y0 y1 y2 hby hsn htk hmem hq
      go_upto_region 8 with (fail)
      obtain ⟨W, hW⟩ : ∃ W, W = wr.alloc (.cells #[.int .i64 kd, .int .i64 cn, .slice ba bs.length bc] 42) := ⟨_, rfl⟩
      obtain ⟨N, hN⟩ : ∃ N, N = wr.heap.size := ⟨_, rfl⟩
      rw [← hW, ← hN]
      have g0 : W.cell? ⟨N, 0, none⟩ = some (.int .i64 kd) := by rw [hW]; exact (World.cell?_alloc_at _ _ _ _ hN).trans rfl
      have g1 : W.cell? ⟨N, 1, none⟩ = some (.int .i64 cn) := by rw [hW]; exact (World.cell?_alloc_at _ _ _ _ hN).trans rfl
      have g2 : W.cell? ⟨N, 2, none⟩ = some (.slice ba bs.length bc) := by rw [hW]; exact (World.cell?_alloc_at _ _ _ _ hN).trans rfl
      have HOW : Hid (W.ownsRow w.heap.size 5 1 u4 (csPrint ((L.map Prod.fst).take k)).length (rowOf byc (csPrint ((L.map Prod.fst).take k)))) := Lib.hid (by rw [hW]; exact HO.out.alloc _)
      have HBW : Hid (Below w.heap.size w W) := Lib.hid (by rw [hW]; exact HB.out.alloc HB.out.size _)
      have HNo : Hid (u4.ownBlock ≠ some N) := Lib.hid fun e => by have := (HO.out.lt N e).2; omega
      have HNs : Hid (N < W.heap.size) := Lib.hid (by rw [hW, hN]; simp)
      have HBYW : Hid (BArr W (.slice ba bs.length bc) bs) := Lib.hid (Arr.below HBY.out HBW.out)
      obtain ⟨xs, hxs⟩ : ∃ xs, xs = csPrint ((L.map Prod.fst).take k) := ⟨_, rfl⟩
      rw [← hxs] at HOW HPl HSN
      have hws : w.heap.size ≤ W.heap.size := HBW.out.size
      have HN2 := Lib.hid (show N = wr.heap.size from hN)
      clear hW hN HO HB hxs z0 z1 z2
      go_cut [21] (fun s wx => s = .bool (mF ⟨kd, cn, bs⟩) ∧ wx = W)
      case first =>
        as_aux_lemma =>
        by_cases a0 : kd = 0
        · by_cases a1 : 0 ≤ cn
          · by_cases a2 : cn ≤ 63
            · by_cases a3 : (bs.length : Int) ≤ 255
              · have HD := Lib.hid (show mF ⟨kd, cn, bs⟩ = true by unfold mF; simp only [decide_eq_true_eq, decide_eq_false_iff_not]; omega)
                have e0 : (kd == 0) = true := by first | (simp only [decide_eq_true_eq, decide_eq_false_iff_not, beq_iff_eq]; omega) | (rw [beq_eq_false_iff_ne]; omega)
                have e1 : decide (0 ≤ cn) = true := by first | (simp only [decide_eq_true_eq, decide_eq_false_iff_not, beq_iff_eq]; omega) | (rw [beq_eq_false_iff_ne]; omega)
                have e2 : decide (cn ≤ 63) = true := by first | (simp only [decide_eq_true_eq, decide_eq_false_iff_not, beq_iff_eq]; omega) | (rw [beq_eq_false_iff_ne]; omega)
                have e3 : decide ((bs.length : Int) ≤ 255) = true := by first | (simp only [decide_eq_true_eq, decide_eq_false_iff_not, beq_iff_eq]; omega) | (rw [beq_eq_false_iff_ne]; omega)
                clear a0 a1 a2 a3
                go_wp2
                go_meet
                exact ⟨by rw [HD.out], rfl⟩
              · have HD := Lib.hid (show mF ⟨kd, cn, bs⟩ = false by unfold mF; simp only [decide_eq_true_eq, decide_eq_false_iff_not]; omega)
                have e0 : (kd == 0) = true := by first | (simp only [decide_eq_true_eq, decide_eq_false_iff_not, beq_iff_eq]; omega) | (rw [beq_eq_false_iff_ne]; omega)
                have e1 : decide (0 ≤ cn) = true := by first | (simp only [decide_eq_true_eq, decide_eq_false_iff_not, beq_iff_eq]; omega) | (rw [beq_eq_false_iff_ne]; omega)
                have e2 : decide (cn ≤ 63) = true := by first | (simp only [decide_eq_true_eq, decide_eq_false_iff_not, beq_iff_eq]; omega) | (rw [beq_eq_false_iff_ne]; omega)
                have e3 : decide ((bs.length : Int) ≤ 255) = false := by first | (simp only [decide_eq_true_eq, decide_eq_false_iff_not, beq_iff_eq]; omega) | (rw [beq_eq_false_iff_ne]; omega)
                clear a0 a1 a2 a3
                go_wp2
                go_meet
                exact ⟨by rw [HD.out], rfl⟩
            · have HD := Lib.hid (show mF ⟨kd, cn, bs⟩ = false by unfold mF; simp only [decide_eq_true_eq, decide_eq_false_iff_not]; omega)
              have e0 : (kd == 0) = true := by first | (simp only [decide_eq_true_eq, decide_eq_false_iff_not, beq_iff_eq]; omega) | (rw [beq_eq_false_iff_ne]; omega)
              have e1 : decide (0 ≤ cn) = true := by first | (simp only [decide_eq_true_eq, decide_eq_false_iff_not, beq_iff_eq]; omega) | (rw [beq_eq_false_iff_ne]; omega)
              have e2 : decide (cn ≤ 63) = false := by first | (simp only [decide_eq_true_eq, decide_eq_false_iff_not, beq_iff_eq]; omega) | (rw [beq_eq_false_iff_ne]; omega)
              clear a0 a1 a2
              go_wp2
              go_meet
              exact ⟨by rw [HD.out], rfl⟩
          · have HD := Lib.hid (show mF ⟨kd, cn, bs⟩ = false by unfold mF; simp only [decide_eq_true_eq, decide_eq_false_iff_not]; omega)
            have e0 : (kd == 0) = true := by first | (simp only [decide_eq_true_eq, decide_eq_false_iff_not, beq_iff_eq]; omega) | (rw [beq_eq_false_iff_ne]; omega)
            have e1 : decide (0 ≤ cn) = false := by first | (simp only [decide_eq_true_eq, decide_eq_false_iff_not, beq_iff_eq]; omega) | (rw [beq_eq_false_iff_ne]; omega)
            clear a0 a1
            go_wp2
            go_meet
            exact ⟨by rw [HD.out], rfl⟩
        · have HD := Lib.hid (show mF ⟨kd, cn, bs⟩ = false by unfold mF; simp only [decide_eq_true_eq, decide_eq_false_iff_not]; omega)
          have e0 : (kd == 0) = false := by first | (simp only [decide_eq_true_eq, decide_eq_false_iff_not, beq_iff_eq]; omega) | (rw [beq_eq_false_iff_ne]; omega)
          clear a0
          go_wp2
          go_meet
          exact ⟨by rw [HD.out], rfl⟩
      case rest =>
        obtain ⟨rfl, rfl⟩ := hcut
        cases hF : mF ⟨kd, cn, bs⟩
        · have HF := Lib.hid hF
          clear hF
          go_upto_region 11 with (fail)
          obtain ⟨W, hW⟩ : ∃ W, W = wc := ⟨_, rfl⟩
          rw [← hW]
          subst hW
          go_cut [51] (fun s wx => s = .bool (mP ⟨kd, cn, bs⟩) ∧ wx = W)
          case first =>
            as_aux_lemma =>
            by_cases a0 : kd = 1
            · by_cases a1 : 0 ≤ cn
              · by_cases a2 : cn ≤ 63
                · by_cases a3 : bs.length = 0
                  · have HD := Lib.hid (show mP ⟨kd, cn, bs⟩ = true by unfold mP; simp only [decide_eq_true_eq, decide_eq_false_iff_not]; omega)
                    have e0 : (kd == 1) = true := by first | (simp only [decide_eq_true_eq, decide_eq_false_iff_not, beq_iff_eq]; omega) | (rw [beq_eq_false_iff_ne]; omega)
                    have e1 : decide (0 ≤ cn) = true := by first | (simp only [decide_eq_true_eq, decide_eq_false_iff_not, beq_iff_eq]; omega) | (rw [beq_eq_false_iff_ne]; omega)
                    have e2 : decide (cn ≤ 63) = true := by first | (simp only [decide_eq_true_eq, decide_eq_false_iff_not, beq_iff_eq]; omega) | (rw [beq_eq_false_iff_ne]; omega)
                    have e3 : ((bs.length : Int) == 0) = true := by first | (simp only [decide_eq_true_eq, decide_eq_false_iff_not, beq_iff_eq]; omega) | (rw [beq_eq_false_iff_ne]; omega)
                    clear a0 a1 a2 a3
                    go_wp2
                    go_meet
                    exact ⟨by rw [HD.out], rfl⟩
                  · have HD := Lib.hid (show mP ⟨kd, cn, bs⟩ = false by unfold mP; simp only [decide_eq_true_eq, decide_eq_false_iff_not]; omega)
                    have e0 : (kd == 1) = true := by first | (simp only [decide_eq_true_eq, decide_eq_false_iff_not, beq_iff_eq]; omega) | (rw [beq_eq_false_iff_ne]; omega)
                    have e1 : decide (0 ≤ cn) = true := by first | (simp only [decide_eq_true_eq, decide_eq_false_iff_not, beq_iff_eq]; omega) | (rw [beq_eq_false_iff_ne]; omega)
                    have e2 : decide (cn ≤ 63) = true := by first | (simp only [decide_eq_true_eq, decide_eq_false_iff_not, beq_iff_eq]; omega) | (rw [beq_eq_false_iff_ne]; omega)
                    have e3 : ((bs.length : Int) == 0) = false := by first | (simp only [decide_eq_true_eq, decide_eq_false_iff_not, beq_iff_eq]; omega) | (rw [beq_eq_false_iff_ne]; omega)
                    clear a0 a1 a2 a3
                    go_wp2
                    go_meet
                    exact ⟨by rw [HD.out], rfl⟩
                · have HD := Lib.hid (show mP ⟨kd, cn, bs⟩ = false by unfold mP; simp only [decide_eq_true_eq, decide_eq_false_iff_not]; omega)
                  have e0 : (kd == 1) = true := by first | (simp only [decide_eq_true_eq, decide_eq_false_iff_not, beq_iff_eq]; omega) | (rw [beq_eq_false_iff_ne]; omega)
                  have e1 : decide (0 ≤ cn) = true := by first | (simp only [decide_eq_true_eq, decide_eq_false_iff_not, beq_iff_eq]; omega) | (rw [beq_eq_false_iff_ne]; omega)
                  have e2 : decide (cn ≤ 63) = false := by first | (simp only [decide_eq_true_eq, decide_eq_false_iff_not, beq_iff_eq]; omega) | (rw [beq_eq_false_iff_ne]; omega)
                  clear a0 a1 a2
                  go_wp2
                  go_meet
                  exact ⟨by rw [HD.out], rfl⟩
              · have HD := Lib.hid (show mP ⟨kd, cn, bs⟩ = false by unfold mP; simp only [decide_eq_true_eq, decide_eq_false_iff_not]; omega)
                have e0 : (kd == 1) = true := by first | (simp only [decide_eq_true_eq, decide_eq_false_iff_not, beq_iff_eq]; omega) | (rw [beq_eq_false_iff_ne]; omega)
                have e1 : decide (0 ≤ cn) = false := by first | (simp only [decide_eq_true_eq, decide_eq_false_iff_not, beq_iff_eq]; omega) | (rw [beq_eq_false_iff_ne]; omega)
                clear a0 a1
                go_wp2
                go_meet
                exact ⟨by rw [HD.out], rfl⟩
            · have HD := Lib.hid (show mP ⟨kd, cn, bs⟩ = false by unfold mP; simp only [decide_eq_true_eq, decide_eq_false_iff_not]; omega)
              have e0 : (kd == 1) = false := by first | (simp only [decide_eq_true_eq, decide_eq_false_iff_not, beq_iff_eq]; omega) | (rw [beq_eq_false_iff_ne]; omega)
              clear a0
              go_wp2
              go_meet
              exact ⟨by rw [HD.out], rfl⟩
          case rest =>
            obtain ⟨rfl, rfl⟩ := hcut
            cases hP : mP ⟨kd, cn, bs⟩
            · have HP := Lib.hid hP
              clear hP
              go_upto_region 13 with (fail)
              obtain ⟨W, hW⟩ : ∃ W, W = wc := ⟨_, rfl⟩
              rw [← hW]
              subst hW
              go_cut [76] (fun s wx => s = .bool (mT ⟨kd, cn, bs⟩) ∧ wx = W)
              case first =>
                as_aux_lemma =>
                by_cases a0 : kd = 2
                · by_cases a1 : cn = 0
                  · by_cases a2 : bs.length = 0
                    · have HD := Lib.hid (show mT ⟨kd, cn, bs⟩ = true by unfold mT; simp only [decide_eq_true_eq, decide_eq_false_iff_not]; omega)
                      have e0 : (kd == 2) = true := by first | (simp only [decide_eq_true_eq, decide_eq_false_iff_not, beq_iff_eq]; omega) | (rw [beq_eq_false_iff_ne]; omega)
                      have e1 : (cn == 0) = true := by first | (simp only [decide_eq_true_eq, decide_eq_false_iff_not, beq_iff_eq]; omega) | (rw [beq_eq_false_iff_ne]; omega)
                      have e2 : ((bs.length : Int) == 0) = true := by first | (simp only [decide_eq_true_eq, decide_eq_false_iff_not, beq_iff_eq]; omega) | (rw [beq_eq_false_iff_ne]; omega)
                      clear a0 a1 a2
                      go_wp2
                      go_meet
                      exact ⟨by rw [HD.out], rfl⟩
                    · have HD := Lib.hid (show mT ⟨kd, cn, bs⟩ = false by unfold mT; simp only [decide_eq_true_eq, decide_eq_false_iff_not]; omega)
                      have e0 : (kd == 2) = true := by first | (simp only [decide_eq_true_eq, decide_eq_false_iff_not, beq_iff_eq]; omega) | (rw [beq_eq_false_iff_ne]; omega)
                      have e1 : (cn == 0) = true := by first | (simp only [decide_eq_true_eq, decide_eq_false_iff_not, beq_iff_eq]; omega) | (rw [beq_eq_false_iff_ne]; omega)
                      have e2 : ((bs.length : Int) == 0) = false := by first | (simp only [decide_eq_true_eq, decide_eq_false_iff_not, beq_iff_eq]; omega) | (rw [beq_eq_false_iff_ne]; omega)
                      clear a0 a1 a2
                      go_wp2
                      go_meet
                      exact ⟨by rw [HD.out], rfl⟩
                  · have HD := Lib.hid (show mT ⟨kd, cn, bs⟩ = false by unfold mT; simp only [decide_eq_true_eq, decide_eq_false_iff_not]; omega)
                    have e0 : (kd == 2) = true := by first | (simp only [decide_eq_true_eq, decide_eq_false_iff_not, beq_iff_eq]; omega) | (rw [beq_eq_false_iff_ne]; omega)
                    have e1 : (cn == 0) = false := by first | (simp only [decide_eq_true_eq, decide_eq_false_iff_not, beq_iff_eq]; omega) | (rw [beq_eq_false_iff_ne]; omega)
                    clear a0 a1
                    go_wp2
                    go_meet
                    exact ⟨by rw [HD.out], rfl⟩
                · have HD := Lib.hid (show mT ⟨kd, cn, bs⟩ = false by unfold mT; simp only [decide_eq_true_eq, decide_eq_false_iff_not]; omega)
                  have e0 : (kd == 2) = false := by first | (simp only [decide_eq_true_eq, decide_eq_false_iff_not, beq_iff_eq]; omega) | (rw [beq_eq_false_iff_ne]; omega)
                  clear a0
                  go_wp2
                  go_meet
                  exact ⟨by rw [HD.out], rfl⟩
              case rest =>
                obtain ⟨rfl, rfl⟩ := hcut
                cases hT : mT ⟨kd, cn, bs⟩
                · have hall : (L.all fun p => csMay p.1) = false := by
                    rw [List.all_eq_false]
                    exact ⟨_, HMem.out, by rw [may_of, HF.out, HP.out, hT]; simp⟩
                  have HA := Lib.hid hall
                  clear hall hT
                  go_wp2
                  go_ret2
                  exact ⟨⟨_, by rw [HA.out]; rfl, fun _ => rfl, (fun h => by rw [HA.out] at h; cases h)⟩, HBW.out⟩
                · as_aux_lemma =>
                  have HMk : Hid (∀ p ∈ L.take (k + 1), csMay p.1 = true) := Lib.hid fun p hp => by
                    rw [HTK.out] at hp
                    rcases List.mem_append.1 hp with h | h
                    · exact HM.out p h
                    · rw [List.mem_singleton] at h
                      subst h
                      rw [may_of, hT]
                      simp
                  obtain ⟨rfl, rfl, n0⟩ : kd = 2 ∧ cn = 0 ∧ bs.length = 0 := by simpa [mT] using hT
                  clear hT
                  have HE := Lib.hid (show csPrint ((L.map Prod.fst).take (k + 1)) = xs ++ [192] by rw [HSN.out]; unfold csSay; simp)
                  go_wp2_with (at_builtin; refine append_bytes rfl _ _ _ rfl w.heap.size u4 xs rfl (HOW.out.alloc _) _ [192] rfl (barr_new wc [192] 5 wc.heap.size rfl (by simp)) (by have := HPl.out; simp; omega) (by simp; omega) ?_; intro v1 w1 hown1 hgr1)
                  have H1 := Lib.hid hown1
                  have HB1 := Lib.hid (below_grown (HBW.out.alloc hws _) (by simp; omega) (HOW.out.alloc _) hgr1)
                  clear hown1 hgr1
                  go_roundw
                  case rel => exact ⟨k + 1, by omega, by go_num, HMk.out, by rw [HE.out]; exact H1.out, HB1.out⟩
                  case measure => simp [intOf]; omega
            · as_aux_lemma =>
              have HMk : Hid (∀ p ∈ L.take (k + 1), csMay p.1 = true) := Lib.hid fun p hp => by
                rw [HTK.out] at hp
                rcases List.mem_append.1 hp with h | h
                · exact HM.out p h
                · rw [List.mem_singleton] at h
                  subst h
                  rw [may_of, hP]
                  simp
              obtain ⟨rfl, c0, c1, n0⟩ : kd = 1 ∧ 0 ≤ cn ∧ cn ≤ 63 ∧ bs.length = 0 := by unfold mP at hP; exact of_decide_eq_true hP
              clear hP
              have HE := Lib.hid (show csPrint ((L.map Prod.fst).take (k + 1)) = xs ++ [64 + cn] by rw [HSN.out]; unfold csSay; simp)
              go_wp2_with (at_builtin; refine append_bytes rfl _ _ _ rfl w.heap.size u4 xs rfl (HOW.out.alloc _) _ [64 + cn] rfl (barr_new wc [64 + cn] 5 wc.heap.size rfl (by simp)) (by have := HPl.out; simp; omega) (by simp; omega) ?_; intro v1 w1 hown1 hgr1)
              have H1 := Lib.hid hown1
              have HB1 := Lib.hid (below_grown (HBW.out.alloc hws _) (by simp; omega) (HOW.out.alloc _) hgr1)
              clear hown1 hgr1
              go_roundw
              case rel => exact ⟨k + 1, by omega, by go_num, HMk.out, by rw [HE.out]; exact H1.out, HB1.out⟩
              case measure => simp [intOf]; omega
        · as_aux_lemma =>
          have HMk : Hid (∀ p ∈ L.take (k + 1), csMay p.1 = true) := Lib.hid fun p hp => by
            rw [HTK.out] at hp
            rcases List.mem_append.1 hp with h | h
            · exact HM.out p h
            · rw [List.mem_singleton] at h
              subst h
              rw [may_of, hF]
              simp
          obtain ⟨rfl, c0, c1, n0⟩ : kd = 0 ∧ 0 ≤ cn ∧ cn ≤ 63 ∧ bs.length ≤ 255 := by unfold mF at hF; exact of_decide_eq_true hF
          clear hF
          have HE := Lib.hid (show csPrint ((L.map Prod.fst).take (k + 1)) = (xs ++ [cn, (bs.length : Int)]) ++ bs by rw [HSN.out]; unfold csSay; simp)
          go_upto_region 10 with (at_builtin; refine append_bytes rfl _ _ _ rfl w.heap.size u4 xs rfl (HOW.out.alloc _) _ [cn, (bs.length : Int)] rfl (barr_new wc [cn, (bs.length : Int)] 5 wc.heap.size rfl (by simp)) (by have := HPl.out; simp; omega) (by simp; omega) ?_; intro v1 w1 hown1 hgr1)
          have H1 := Lib.hid hown1
          have HB1 := Lib.hid (below_grown (HBW.out.alloc hws _) (by simp; omega) (HOW.out.alloc _) hgr1)
          have q2 := (hgr1.cell_far _ (by have := HNs.out; simp; omega) (Ne.symm HNo.out)).trans ((((Below.refl wc.heap.size wc).alloc (Nat.le_refl _) _).cell (p := ⟨N, 2, none⟩) HNs.out).trans g2)
          have HBY1 := Lib.hid (Arr.below HBY.out HB1.out : BArr w1 (.slice ba bs.length bc) bs)
          have hw1 := HB1.out.size
          clear hown1 hgr1
          go_wp2_with (at_builtin; refine append_bytes rfl _ _ _ rfl w.heap.size v1 (xs ++ [cn, (bs.length : Int)]) rfl H1.out _ bs rfl HBY1.out (by have := HPl.out; simp; omega) hw1 ?_; intro v2 w2 hown2 hgr2)
          have H2 := Lib.hid hown2
          have HB2 := Lib.hid (below_grown HB1.out hw1 H1.out hgr2)
          clear hown2 hgr2
          go_roundw
          case rel => exact ⟨k + 1, by omega, by go_num, HMk.out, by rw [HE.out]; exact H2.out, HB2.out⟩
          case measure => simp [intOf]; omega
    · obtain rfl : k = L.length := by omega
      have hall : (L.all fun p => csMay p.1) = true := by
        rw [List.all_eq_true]
        intro p hp
        exact HM.out p (by rw [List.take_length]; exact hp)
      have hfin : BArr wr u4 (csPrint (L.map Prod.fst)) := by
        have := Arr.of_own HO.out
        rw [← List.length_map (f := Prod.fst), List.take_length] at this
        exact this
      have HA := Lib.hid hall
      have HF := Lib.hid hfin
      clear hall hfin
      go_wp2
      go_ret2
      exact ⟨⟨_, by rw [HA.out]; rfl, (fun h => by rw [HA.out] at h; cases h), fun _ => HF.out⟩, HB.out⟩
end Go.Proofs.Ytcgobgegoflckaa
