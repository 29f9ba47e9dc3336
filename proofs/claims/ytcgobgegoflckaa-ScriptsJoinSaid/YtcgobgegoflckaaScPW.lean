/- Layer 33: ScriptsParse. -/
import Derived.Test.YtcgobgegoflckaaScLives
import Derived.Deep.DeepCutAuto
import Derived.Deep.Upon
import Derived.Deep.AppendSrc
namespace Go.Proofs.Ytcgobgegoflckaa
open Go.RowKit
set_option linter.unusedVariables false

section
variable {P : Program} {w : World}
/-- Nothing is appended to nil. -/
theorem wpList_append_zero {ops : Array Oper} {rest : List Oper} {o : Oper} {a : Act} {Q : Exit → Act → World → Prop} (hgd : o.guard = none) (s x : Operand) (t : TypeId)
    (ho : o.op = .call { callee := .builtin .append, args := #[s, x], argTypes := #[t, t] })
    (e : TypeId) (i : TypeInfo) (ht : P.underlying t = some (.slice e)) (hi : P.info? e = some i)
    (hs : a.eval s = .slice none 0 0) (ao : Option Addr) (c : Nat) (hx : a.eval x = .slice ao 0 c)
    (h : wpList P ops Q rest (a.put o.dst (.slice none 0 0)) w) : wpList P ops Q (o :: rest) a w := by
  refine wpList_plain hgd fun K hK => ?_
  have hsrc : Src P i.size t (.slice ao 0 c) 0 [] w := by
    cases ao with
    | none => exact Src.ofNil w ht c
    | some ad => exact Src.ofSlice w ht ad 0 c [] (by simp) (fun j u hu => by simp at hu) (fun u hu => by cases hu)
  have hrun := run_append_nothing (P := P) w t t o.type e i ht hi none 0 0 (Nat.le_refl _) _ hsrc
  unfold Oper.wp
  simp [execOp, ho, resolve, invoke, builtin, hs, hx, hrun, Result.andThen]
  exact hK _ _ h
end
theorem cell_stays {w : World} {p q : Addr} {v : Value} (h : ∃ u, w.cell? q = some u) : ∃ u, (w.setCell p v).cell? q = some u := by
  obtain ⟨u, h⟩ := h
  by_cases e : p = q
  · subst e; exact ⟨_, World.cell?_setCell_same _ _ _ h⟩
  · exact ⟨u, (World.cell?_setCell_other _ _ _ _ e).trans h⟩
/-- Commands that may be written: their row, and their bytes. -/
structure AM (w : World) (base rb : Nat) (A : List (Cm × Value)) : Prop where
  c2 : ∀ i (hi : i < A.length), w.cell? ⟨rb, i * 3 + 2, none⟩ = some A[i].2
  c1 : ∀ i, i < A.length → ∃ u, w.cell? ⟨rb, i * 3 + 1, none⟩ = some u
  fr : ∀ j, w.frozen? ⟨rb, j, none⟩ = false
  by' : ∀ p ∈ A, ∃ ao n c, p.2 = .slice ao n c ∧ n ≤ c ∧ c ≤ maxLen ∧ (0 < n → ∃ b o, ao = some ⟨b, o, none⟩ ∧ base ≤ b ∧ b ≠ rb ∧ (∀ j, j < n → ∃ u, w.cell? ⟨b, o + j, none⟩ = some u) ∧ ∀ j, w.frozen? ⟨b, j, none⟩ = false)
  ba : base ≤ rb
theorem AM.set {w : World} {base rb : Nat} {A : List (Cm × Value)} (h : AM w base rb A) (b j : Nat) (v : Value) (hb : b ≠ rb ∨ j % 3 ≠ 2) : AM (w.setCell ⟨b, j, none⟩ v) base rb A := by
  refine ⟨fun i hi => (World.cell?_setCell_other _ _ _ _ (fun e => by injection e with e1 e2; omega)).trans (h.c2 i hi), fun i hi => cell_stays (h.c1 i hi), fun j => (World.frozen?_setCell _ _ _ _).trans (h.fr j), fun p hp => ?_, h.ba⟩
  obtain ⟨ao, n, c, g0, g1, g2, g3⟩ := h.by' p hp
  refine ⟨ao, n, c, g0, g1, g2, fun h0 => ?_⟩
  obtain ⟨b2, o, q0, q1, q2, q3, q4⟩ := g3 h0
  exact ⟨b2, o, q0, q1, q2, fun j hj => cell_stays (q3 j hj), fun j => (World.frozen?_setCell _ _ _ _).trans (q4 j)⟩
theorem AM.drewN {w : World} {base rb : Nat} {A : List (Cm × Value)} (h : AM w base rb A) (m : Nat) : AM (w.drewN m) base rb A := ⟨h.c2, h.c1, h.fr, h.by', h.ba⟩
/-- Behind writes to blocks that are not theirs. -/
theorem Arr.wrote0 {S : Nat → Prop} {w w' : World} {v : Value} {n size : Nat} {xs : List Value} (h : Arr w v n size xs) (hw : Wrote S w w') (hn : ∀ a m c, v = .slice (some a) m c → 0 < m → ¬ S a.block) : Arr w' v n size xs := by
  obtain ⟨hl, ao, c, rfl, hc, hm, hx⟩ := h
  refine ⟨hl, ao, c, rfl, hc, hm, fun j u hu => ?_⟩
  obtain ⟨b, o, rfl, hlt, hcell⟩ := hx j u hu
  have h0 : 0 < n := by
    rcases Nat.eq_zero_or_pos n with h | h
    · rw [h, Nat.zero_mul] at hl
      rw [List.eq_nil_of_length_eq_zero hl] at hu
      simp at hu
    · exact h
  exact ⟨b, o, rfl, Nat.lt_of_lt_of_le hlt hw.size, (hw.cell (p := ⟨b, o + j, none⟩) hlt (hn ⟨b, o, none⟩ _ _ rfl h0)).trans hcell⟩
/-- The commands' memory. -/
theorem CmOut.am {w : World} {base : Nat} {v : Value} {L : List (Cm × Value)} (h : CmOut w base v L) (h0 : 0 < L.length) : ∃ rb, v = .slice (some ⟨rb, 0, none⟩) L.length L.length ∧ AM w base rb L := by
  obtain ⟨b, o, c, he, -, -, hlt, hx⟩ := h.arr.open h0 (by omega)
  obtain ⟨ao, hsh⟩ := h.shape
  rw [hsh] at he
  cases he
  obtain ⟨g1, g2, g3⟩ := h.row ⟨b, o, none⟩ _ _ hsh
  have g2 : o = 0 := g2
  subst g2
  refine ⟨b, hsh, fun i hi => ?_, fun i hi => ⟨.int .i64 L[i].1.conn, ?_⟩, g3, fun p hp => ?_, g1⟩
  · have := c3_cells cmc_len hx i hi 2 (by omega) (u := L[i].2) rfl
    rwa [Nat.zero_add] at this
  · have := c3_cells cmc_len hx i hi 1 (by omega) (u := .int .i64 L[i].1.conn) rfl
    rwa [Nat.zero_add] at this
  · have hB := h.byt p hp
    obtain ⟨ao2, c2, he, hc, hm⟩ := hB.shape
    refine ⟨ao2, _, c2, he, hc, hm, fun h1 => ?_⟩
    obtain ⟨b', o', c', he2, _, _, _, hx2⟩ := Arr.open hB h1 (by omega)
    rw [he] at he2
    cases he2
    obtain ⟨q1, q2, q3⟩ := h.new p hp ⟨b', o', none⟩ _ _ he h1
    exact ⟨b', o', rfl, q1, fun e => q2 (by rw [hsh, e]; rfl), fun j hj => ⟨_, byc_cell hx2 j hj⟩, q3⟩
/-- The bytes of one's own, as they may be written. -/
theorem own_t {w : World} {base n : Nat} {e : TypeId} {v : Value} {xs : List Value} (h : w.ownsRow base e 1 v n xs) : ∃ ao c tg, v = .slice ao n c ∧ n ≤ c ∧ c ≤ maxLen ∧ (0 < n → ao = some ⟨tg, 0, none⟩ ∧ base ≤ tg ∧ tg < w.heap.size ∧ (∀ j, j < n → ∃ u, w.cell? ⟨tg, j, none⟩ = some u) ∧ ∀ j, w.frozen? ⟨tg, j, none⟩ = false) := by
  rcases h.2 with ⟨h1, h2⟩ | ⟨g, cap, cur, hv, hbs, hg, hc, hm, hs, hx⟩
  · exact ⟨none, 0, 0, by rw [h1, h2], by omega, by unfold maxLen; omega, fun h => by omega⟩
  · subst hv
    refine ⟨some ⟨g, 0, none⟩, cap, g, rfl, hc, hm, fun h0 => ⟨rfl, hbs, (h.lt g rfl).2, fun j hj => ?_, h.frozenAt⟩⟩
    have hl := h.1
    exact ⟨xs[j]'(by omega), (h.cellAt j (by omega)).trans (List.getElem?_eq_getElem _)⟩
theorem cs_kinds {l : List Int} (h : Bs l) : ∀ c ∈ csParse l, 0 ≤ c.kind ∧ c.kind ≤ 255 := fun c hc => by
  have := csParse_may l.length l (Nat.le_refl _) h c hc
  unfold csMay at this
  simp at this
  omega
/-- The second reading's world, told to Same. -/
theorem CmSame.of {w1 w : World} {b1 : Nat} {va vr : Value} {A R : List (Cm × Value)} {l : List Int} (ha : Arr w va A.length 3 (rowOf cmc A)) (hy : Byts w A) (hA : A.map Prod.fst = csParse l) (hR : R.map Prod.fst = csParse l) (hC : RCmds w1 b1 vr R) (hb : Below w1.heap.size w1 w) (hB : Bs l) : CmSame w va A vr R := by
  refine ⟨ha, hy, (Arr.of_own hC.own).below hb, hC.byt.below hb, by rw [hA, hR], fun p hp => cs_kinds hB p.1 ?_⟩
  rw [← hA]
  exact List.mem_map_of_mem hp
set_option maxHeartbeats 4000000 in
set_option maxRecDepth 100000 in
theorem w_ScriptsParse (v : Value) (l : List Int) (w : World) (hB : ∀ z ∈ l, 0 ≤ z ∧ z ≤ 255) (hv : Arr w v l.length 1 (rowOf byc l)) :
    Calls Try.prog 3 #[v] w fun e w' => e = .returned (.bool true) ∧ Below w.heap.size w w' := by
  obtain ⟨ao, cp, rfl, hcp, hm⟩ := hv.shape
  have hmx : l.length ≤ 9223372036854775807 := by unfold maxLen at hm; omega
  by_cases hbig : 5000 < l.length
  · as_aux_lemma =>
    have hd : decide ((5000 : Int) < (l.length : Int)) = true := by simp; omega
    clear hv hB
    go_enter Try.func3, Try.ntmps3
    go_wp2_with fail
    refine (c_lives33 _).mono ?_
    rintro e w' ⟨rfl, hb⟩
    go_wp2
    go_ret
    exact ⟨rfl, hb⟩
  · have hd : decide ((5000 : Int) < (l.length : Int)) = false := by simp; omega
    have hl : l.length ≤ 5000 := by omega
    have HL := Lib.hid hl
    have HV : Hid (BArr w (.slice ao l.length cp) l) := Lib.hid hv
    have HB : Hid (Bs l) := Lib.hid hB
    obtain ⟨i0, hi, hz0, hz1, hz2⟩ := info_parts infoB
    have HI := Lib.hid hi
    have HZ0 := Lib.hid hz0
    have HZ1 := Lib.hid hz1
    have HZ2 := Lib.hid hz2
    clear hv hB hi hz0 hz1 hz2 hbig
    go_enter Try.func3, Try.ntmps3
    go_wp2_with fail
    refine (c_rParse _ l w HV.out HB.out (by omega)).mono ?_
    rintro e w1 ⟨⟨vr, R, rfl, hR, hC⟩, hb1⟩
    have HR := Lib.hid hR
    have HC := Lib.hid hC
    have HB1 := Lib.hid hb1
    clear hR hC hb1
    go_upto_region 4 with (fail)
    go_cut [4] (fun t wx => wx.ownsRow w1.heap.size 5 1 t l.length (rowOf byc l) ∧ Below w1.heap.size w1 wx)
    case first =>
      as_aux_lemma =>
      have hvw : BArr w1 (.slice ao l.length cp) l := Arr.below HV.out HB1.out
      by_cases h0 : l.length = 0
      · obtain rfl := List.eq_nil_of_length_eq_zero h0
        clear hvw
        go_wp2_with (at_builtin; refine wpList_append_zero rfl _ _ 22 rfl 5 i0 Try.underlying22 HI.out rfl ao cp rfl ?_)
        go_meet
        exact ⟨World.ownsRow_nil _ _ _ _, Below.refl _ _⟩
      · obtain ⟨b, o, c', he, -, -, hlt, hx⟩ := Arr.open hvw (by omega) (by omega)
        cases he
        have hnews : ∀ j u, (rowOf byc l)[j]? = some u → w1.cell? ((⟨b, o, none⟩ : Addr).add j) = some u := by
          intro j u hu
          have := hx j u hu
          unfold Addr.add
          split
          · rename_i h0; subst h0; exact this
          · exact this
        have HN := Lib.hid hnews
        clear hvw hx hnews
        go_wp2_with (at_builtin; refine wpList_append_own _ rfl _ _ 22 rfl w1.heap.size 5 i0 (.int .u8 0) 1 1 Try.underlying22 HI.out HZ0.out HZ1.out HZ2.out rfl (by decide) _ 0 [] rfl (World.ownsRow_nil _ _ _ _) ⟨b, o, none⟩ l.length cp (rowOf byc l) rfl (by rw [rowOf_len byc_len]) HN.out (byc_one l) (by unfold maxLen; omega) (by omega) (Nat.le_refl _) ?_; intro v1 wx hown1 hgr1 _)
        have HO := Lib.hid hown1
        have HG := Lib.hid (below_grown (Below.refl w1.heap.size w1) (Nat.le_refl _) (World.ownsRow_nil w1 w1.heap.size 5 1) hgr1)
        clear hown1 hgr1
        go_meet
        exact ⟨by simpa using HO.out, HG.out⟩
    case rest =>
      obtain ⟨hT, hb2⟩ := hcut
      have hTB : BArr wc u4 l := Arr.of_own hT
      have HTB := Lib.hid hTB
      obtain ⟨ta0, tcap, tg, rfl, htc, htm, htg⟩ := own_t hT
      have HTG := Lib.hid htg
      have HB2 := Lib.hid hb2
      clear hTB hT htg hb2
      go_wp2_with fail
      refine (c_Parse _ l wc HTB.out HB.out (by omega)).mono ?_
      rintro e w3 ⟨⟨va, A, rfl, hA, hCA⟩, hb3⟩
      have hAl : A.length ≤ 5000 := by
        have h1 := congrArg List.length hA
        rw [List.length_map] at h1
        have := csParse_len l.length l (Nat.le_refl _)
        have := HL.out
        omega
      have hB3 := HB2.out.trans (hb3.mono HB2.out.size)
      have HCA := Lib.hid hCA
      have HA := Lib.hid hA
      have HB3 := Lib.hid hB3
      have Hb3 := Lib.hid hb3
      obtain ⟨ra, rfl⟩ := hCA.shape
      have HAM : Hid (0 < A.length → ∃ rb, ra = some ⟨rb, 0, none⟩ ∧ AM w3 wc.heap.size rb A) := Lib.hid fun h0 => by
        obtain ⟨rb, he, h1⟩ := hCA.am h0
        cases he
        exact ⟨rb, rfl, h1⟩
      clear hA hCA hb3 hB3
      go_wp2_with fail
      refine (c_Same _ _ A R w3 (CmSame.of HCA.out.arr HCA.out.byt HA.out HR.out HC.out HB3.out HB.out)).mono ?_
      rintro e w' ⟨rfl, m, rfl⟩
      have s1 := run_bstr (Arr.below HTB.out (below_drewN Hb3.out m)) _ _ _ Try.underlying22 Try.underlying5 Try.underlying9
      have s2 := run_bstr (Arr.below HV.out (HB1.out.trans ((below_drewN HB3.out m).mono HB1.out.size))) _ _ _ Try.underlying22 Try.underlying5 Try.underlying9
      obtain ⟨wd, hwd⟩ : ∃ wd, wd = w3.drewN m := ⟨_, rfl⟩
      rw [← hwd] at s1 s2 ⊢
      have HWD := Lib.hid hwd
      clear hwd
      go_wp2_with fail
      go_loopw [6] (fun i wr => ∃ k : Nat, k ≤ l.length ∧ i = .int .i64 k ∧ Below w1.heap.size w1 wr ∧ Wrote (fun b => b = tg ∧ 0 < l.length) w3 wr ∧ (0 < l.length → (∀ j, j < l.length → ∃ u, wr.cell? ⟨tg, j, none⟩ = some u) ∧ ∀ j, wr.frozen? ⟨tg, j, none⟩ = false) ∧ (0 < A.length → ∃ rb, ra = some ⟨rb, 0, none⟩ ∧ AM wr wc.heap.size rb A)) (fun i _ => l.length - (intOf i).toNat)
      case atStart =>
        as_aux_lemma =>
        refine ⟨0, Nat.zero_le _, rfl, ?_, ?_, fun h0 => ?_, fun h0 => ?_⟩
        · rw [HWD.out]; exact below_drewN HB3.out m
        · rw [HWD.out]; exact (Wrote.refl _ _).drewN m
        · obtain ⟨q0, q1, q2, q3, q4⟩ := HTG.out h0
          rw [HWD.out]
          exact ⟨fun j hj => by obtain ⟨u, hu⟩ := q3 j hj; exact ⟨u, (Hb3.out.cell (p := ⟨tg, j, none⟩) q2).trans hu⟩, fun j => (Hb3.out.frozen (p := ⟨tg, j, none⟩) q2).trans (q4 j)⟩
        · obtain ⟨rb, q0, q1⟩ := HAM.out h0
          rw [HWD.out]
          exact ⟨rb, q0, q1.drewN m⟩
      case round =>
        obtain ⟨k, hk, rfl, hbel, hwr, htc2, ham⟩ := hrel
        have Hbel := Lib.hid hbel
        have Hwr := Lib.hid hwr
        have Htc := Lib.hid htc2
        have Ham := Lib.hid ham
        clear hbel hwr htc2 ham s1 s2
        by_cases hk2 : k < l.length
        · as_aux_lemma =>
          obtain ⟨q0, q1, q2, q3, q4⟩ := HTG.out (by omega)
          subst q0
          obtain ⟨f1, f2⟩ := Htc.out (by omega)
          obtain ⟨x0, x1⟩ := f1 k hk2
          have x2 := f2 k
          clear f1 f2 q3 q4
          go_wp2
          go_roundw
          case rel =>
            refine ⟨k + 1, by omega, by go_num, Hbel.out.setCell (p := ⟨tg, k, none⟩) q1 _, Hwr.out.setCell (p := ⟨tg, k, none⟩) (fun _ => ⟨rfl, by omega⟩) _, fun h0 => ?_, fun h0 => ?_⟩
            · obtain ⟨f1, f2⟩ := Htc.out h0
              exact ⟨fun j hj => cell_stays (f1 j hj), fun j => (World.frozen?_setCell _ _ _ _).trans (f2 j)⟩
            · obtain ⟨rb, g0, g1⟩ := Ham.out h0
              exact ⟨rb, g0, g1.set tg k _ (.inl (by have := g1.ba; omega))⟩
          case measure => simp [intOf]; omega
        · have hS : CmSame wr (.slice ra A.length A.length) A vr R := CmSame.of
            (HCA.out.arr.wrote0 Hwr.out (fun a n c he h0 hs => by
              have := (HCA.out.row a n c he).1
              have := (HTG.out hs.2).2.2.1
              have := hs.1
              omega))
            (fun p hp => Arr.wrote0 (HCA.out.byt p hp) Hwr.out (fun a n c he h0 hs => by
              have := (HCA.out.new p hp a n c he h0).1
              have := (HTG.out hs.2).2.2.1
              have := hs.1
              omega)) HA.out HR.out HC.out Hbel.out HB.out
          have HS := Lib.hid hS
          clear hS
          go_wp2_with fail
          refine (c_Same _ _ A R wr HS.out).mono ?_
          rintro e w' ⟨rfl, m2, rfl⟩
          go_wp2_with fail
          go_loopw [7] (fun i wx => ∃ k : Nat, k ≤ A.length ∧ i = .int .i64 k ∧ Below w1.heap.size w1 wx ∧ (0 < A.length → ∃ rb, ra = some ⟨rb, 0, none⟩ ∧ AM wx wc.heap.size rb A)) (fun i _ => A.length - (intOf i).toNat)
          case atStart =>
            exact ⟨0, Nat.zero_le _, rfl, below_drewN Hbel.out m2, fun h0 => by
              obtain ⟨rb, g0, g1⟩ := Ham.out h0
              exact ⟨rb, g0, g1.drewN m2⟩⟩
          case round =>
            obtain ⟨i, hi, rfl, hbel2, ham2⟩ := hrel
            have Hbel2 := Lib.hid hbel2
            have Ham2 := Lib.hid ham2
            clear hbel2 ham2
            by_cases hi2 : i < A.length
            · as_aux_lemma =>
              obtain ⟨rb, g0, g1⟩ := Ham2.out (by omega)
              subst g0
              obtain ⟨bo, n, c, hbv, hnc, hcm, hby⟩ := g1.by' _ (List.getElem_mem hi2)
              have HBV := Lib.hid hbv
              have HBY := Lib.hid hby
              have hn9 : n ≤ 9223372036854775807 := by unfold maxLen at hcm; omega
              have HAM2 := Lib.hid g1
              have hba := g1.ba
              obtain ⟨wo, hwo⟩ : ∃ wo, wo = wr := ⟨_, rfl⟩
              clear g1 hbv hby hwo wo
              go_wp2_with fail
              go_loopw [8] (fun jj wx => ∃ j : Nat, j ≤ n ∧ jj = .int .i64 j ∧ Below w1.heap.size w1 wx ∧ AM wx wc.heap.size rb A) (fun jj _ => n - (intOf jj).toNat)
              case atStart => exact ⟨0, Nat.zero_le _, rfl, Hbel2.out, HAM2.out⟩
              case round =>
                obtain ⟨j, hj, rfl, hbel3, ham3⟩ := hrel
                have Hbel3 := Lib.hid hbel3
                have Ham3 := Lib.hid ham3
                have y2 := ham3.c2 i hi2
                rw [HBV.out] at y2
                clear hbel3
                by_cases hj2 : j < n
                · obtain ⟨bo', n', c', hbv', -, -, hby'⟩ := ham3.by' _ (List.getElem_mem hi2)
                  rw [HBV.out] at hbv'
                  cases hbv'
                  obtain ⟨b, o, rfl, r1, r2, r3, r4⟩ := hby' (by omega)
                  obtain ⟨x0, x1⟩ := r3 j hj2
                  have x2 := r4 (o + j)
                  clear ham3 hby' r3 r4
                  go_wp2
                  go_roundw
                  case rel => exact ⟨j + 1, by omega, by go_num, Hbel3.out.setCell (p := ⟨b, o + j, none⟩) (by have := HB2.out.size; show w1.heap.size ≤ b; omega) _, Ham3.out.set b (o + j) _ (.inl r2)⟩
                  case measure => simp [intOf]; omega
                · obtain ⟨x0, x1⟩ := ham3.c1 i hi2
                  have x2 := ham3.fr (i * 3 + 1)
                  clear ham3
                  go_wp2
                  go_roundw
                  case rel => exact ⟨i + 1, by omega, by go_num, Hbel3.out.setCell (p := ⟨rb, i * 3 + 1, none⟩) (by have := HB2.out.size; show w1.heap.size ≤ rb; omega) _, fun _ => ⟨rb, rfl, Ham3.out.set rb (i * 3 + 1) _ (.inr (by omega))⟩⟩
                  case measure => simp [intOf]; omega
            · have HVw : BArr wr (.slice ao l.length cp) l := Arr.below HV.out (HB1.out.trans (Hbel2.out.mono HB1.out.size))
              have HVW := Lib.hid HVw
              clear HVw
              go_wp2_with fail
              refine (c_Parse _ l _ HVW.out HB.out (by omega)).mono ?_
              rintro e w5 ⟨⟨v5, A5, rfl, hA5, hC5⟩, hb5⟩
              have hB5 := Hbel2.out.trans (hb5.mono Hbel2.out.size)
              have HS5 := Lib.hid (CmSame.of hC5.arr hC5.byt hA5 HR.out HC.out hB5 HB.out)
              have HB5 := Lib.hid hB5
              clear hA5 hC5 hb5 hB5
              go_wp2_with fail
              refine (c_Same _ _ A5 R _ HS5.out).mono ?_
              rintro e w' ⟨rfl, m5, rfl⟩
              go_wp2_with fail
              refine (c_lives33 _).mono ?_
              rintro e w6 ⟨rfl, hb6⟩
              have hB6 := HB1.out.trans (((below_drewN HB5.out m5).trans (hb6.mono (below_drewN HB5.out m5).size)).mono HB1.out.size)
              clear hb6
              go_wp2
              go_ret
              exact ⟨rfl, hB6⟩
end Go.Proofs.Ytcgobgegoflckaa
