/- Layer 33: the contract of Other. -/
import Derived.Test.YtcgobgegoflckaaScPr
namespace Go.Proofs.Ytcgobgegoflckaa
open Go.RowKit
set_option linter.unusedVariables false

theorem step_append_rcmd {ops : Array Oper} {o : Oper} {a : Act} {K : Act → World → Prop} {Q : Exit → Act → World → Prop} {E : Prop} (hgd : o.guard = none) (s x : Operand) (w : World)
    (ho : o.op = .call { callee := .builtin .append, args := #[s, x], argTypes := #[24, 24] })
    (base : Nat) (v : Value) (L : List (Cm × Value)) (hs : a.eval s = v) (hC : RCmds w base v L) (c : Cm) (bv : Value) (hx : a.eval x = .slice (some ⟨w.heap.size, 0, none⟩) 1 1) (hL : L.length ≤ 1000000) (hbase : base ≤ w.heap.size)
    (hb : BArr w bv c.bytes) (hbv : ∃ ao n c, bv = .slice ao n c) (hnew : ∀ a n c, bv = .slice (some a) n c → 0 < n → base ≤ a.block ∧ v.ownBlock ≠ some a.block ∧ ∀ j, w.frozen? ⟨a.block, j, none⟩ = false)
    (h : ∀ g cap w', RCmds w' base (.slice (some ⟨g, 0, none⟩) (L.length + 1) cap) (L ++ [(c, bv)]) → (∀ a : World, Below base a w → Below base a w') → K (a.put o.dst (.slice (some ⟨g, 0, none⟩) (L.length + 1) cap)) w') :
    if Region.wanted o (yielded ops a.tmps) = true then Oper.wp Try.prog o a (w.alloc (.cells #[.int .i64 c.kind, .int .i64 c.conn, bv] 42)) K Q else E := by
  obtain ⟨i0, hi, hz0, hz1, hz2⟩ := info_parts infoR
  refine step_append_lies _ hgd s x _ ho base 42 i0 _ 3 40 Try.underlying24 hi hz0 hz1 hz2 rfl (by omega) v L.length (rowOf cmr L) hs (hC.own.alloc _) ⟨w.heap.size, 0, none⟩ 1 1 (cmr (c, bv)) hx rfl
    (World.news_of_block (cs := (cmr (c, bv)).toArray) (t := 42) (fr := (0, 0)) (heap_alloc_new w _)) ?_ (by omega) (by unfold maxLen; omega) (by omega) (by simp; omega) (w.heap.size + 1) (by simp) ?_
  · obtain ⟨ao, n, cq, rfl⟩ := hbv
    simp [Value.oneCell', cmr]
  · intro g cap w' hown hgr hat _
    exact h g cap w' (hC.snoc hgr hown hat hb hbv hnew) fun a0 hB => (hB.alloc hbase _).grown hgr (by simp; omega) fun k hk => (hC.own.lt k hk).1
/-- A clone of bytes, put into a command. -/
theorem own_new {wr w1 : World} {base : Nat} {v v1 : Value} {L : List (Cm × Value)} {bs : List Int} (hC : RCmds wr base v L) (hb : base ≤ wr.heap.size) (h : w1.ownsRow wr.heap.size 5 1 v1 bs.length (rowOf byc bs)) :
    BArr w1 v1 bs ∧ (∃ ao n c, v1 = .slice ao n c) ∧ ∀ a n c, v1 = .slice (some a) n c → 0 < n → base ≤ a.block ∧ v.ownBlock ≠ some a.block ∧ ∀ j, w1.frozen? ⟨a.block, j, none⟩ = false := by
  refine ⟨Arr.of_own h, ?_, fun a n c he h0 => ?_⟩
  · obtain ⟨ao, c, _, he, _⟩ := own_t h
    exact ⟨ao, _, c, he⟩
  · obtain ⟨ao, c', tg, he2, _, _, ht⟩ := own_t h
    rw [he2] at he
    cases he
    obtain ⟨e, g1, g2, g3, g4⟩ := ht h0
    cases e
    exact ⟨Nat.le_trans hb g1, fun e => by have h1 := (hC.own.lt _ e).2; have h2 : wr.heap.size ≤ tg := g1; have h3 : tg < wr.heap.size := h1; omega, g4⟩
set_option maxHeartbeats 4000000 in
set_option maxRecDepth 100000 in
theorem c_Other (v : Value) (L : List (Cm × Value)) (w : World) (hv : Arr w v L.length 3 (rowOf cmc L)) (hy : Byts w L) (hL : L.length ≤ 1000000) (hb : ∀ p ∈ L, p.1.bytes.length ≤ 1000000) (hkk : ∀ p ∈ L, 0 ≤ p.1.kind ∧ p.1.kind ≤ 255) :
    Calls Try.prog 12 #[v] w fun e w' => (∃ v' R, e = .returned v' ∧ R.map Prod.fst = L.map Prod.fst ∧ RCmds w' w.heap.size v' R) ∧ Below w.heap.size w w' := by
  obtain ⟨ao, cp, rfl, hcp, hm⟩ := hv.shape
  have hL9 : L.length ≤ 9223372036854775807 := by omega
  have HL := Lib.hid hL
  have HY := Lib.hid hy
  have HV := Lib.hid hv
  have HBB := Lib.hid hb
  have HKK := Lib.hid hkk
  clear hL hy hv hb hkk
  go_enter Try.func12, Try.ntmps12
  go_wp2
  go_loopw [3, 4] (fun vo i wr => ∃ (k : Nat) (R : List (Cm × Value)), k ≤ L.length ∧ i = .int .i64 k ∧ R.map Prod.fst = (L.map Prod.fst).take k ∧ RCmds wr w.heap.size vo R ∧ Below w.heap.size w wr) (fun _ i _ => L.length - (intOf i).toNat)
  case atStart => exact ⟨0, [], Nat.zero_le _, rfl, rfl, RCmds.nil _ _, Below.refl _ _⟩
  case round =>
    obtain ⟨k, R, hk, rfl, hR, hC, hbel⟩ := hrel
    have HR := Lib.hid hR
    have HC := Lib.hid hC
    have HB := Lib.hid hbel
    have hRl : R.length ≤ 1000000 := by
      have h1 := congrArg List.length hR
      rw [List.length_map, List.length_take, List.length_map] at h1
      have := HL.out
      omega
    have HRl := Lib.hid hRl
    clear hR hC hbel hRl
    by_cases hk2 : k < L.length
    · obtain ⟨b, o, c', he, -, -, hb, hx⟩ := HV.out.open (by omega) (by omega)
      cases he
      obtain ⟨y0, y1, y2⟩ := cm_cells hx k hk2
      have hby := HY.out _ (List.getElem_mem hk2)
      have hbb := HBB.out _ (List.getElem_mem hk2)
      have hkb := HKK.out _ (List.getElem_mem hk2)
      have htk : (L.map Prod.fst).take (k + 1) = (L.map Prod.fst).take k ++ [L[k].1] := by
        rw [List.take_succ_eq_append_getElem (by rw [List.length_map]; exact hk2), List.getElem_map]
      obtain ⟨q, hq⟩ : ∃ q, q = L[k] := ⟨_, rfl⟩
      rw [← hq] at y0 y1 y2 hby hbb hkb htk
      obtain ⟨⟨kd, cn, bs⟩, bv⟩ := q
      dsimp only at y0 y1 y2 hby hbb hkb htk
      obtain ⟨ba, bc, rfl, hbc, hbm⟩ := hby.shape
      have z0 := (HB.out.cell (p := ⟨b, o + k * 3, none⟩) hb).trans y0
      have z1 := (HB.out.cell (p := ⟨b, o + k * 3 + 1, none⟩) hb).trans y1
      have z2 := (HB.out.cell (p := ⟨b, o + k * 3 + 2, none⟩) hb).trans y2
      have HBY := Lib.hid hby
      have HBb := Lib.hid hbb
      have HTK := Lib.hid htk
      have HWK := Lib.hid (show IntKind.i64.wrap kd = kd by rw [IntKind.wrap_i64]; omega)
      have Y0 := Lib.hid y0
      have Y1 := Lib.hid y1
      have Y2 := Lib.hid y2
      have hws := HB.out.size
      clear hx y0 y1 y2 hby hbb hkb htk hq
      go_wp2_with fail
      go_region_law (first
        | (refine step_append_bytes (by rfl) _ _ (by rfl) wr.heap.size (.slice none 0 0) [] (by rfl) (World.ownsRow_nil _ _ _ _) (.slice ba bs.length bc) bs (by rfl) (Arr.below HBY.out HB.out.drew) (by have := HBb.out; simp; omega) (Nat.le_refl _) ?_
           intro v1 w1 hown1 hgr1
           have H1 : Hid (w1.ownsRow wr.heap.size 5 1 v1 bs.length (rowOf byc bs)) := Lib.hid hown1
           have HBr := Lib.hid (below_grown (Below.refl wr.heap.size wr).drew (Nat.le_refl _) (World.ownsRow_nil wr.drew wr.heap.size 5 1) hgr1)
           have HB1 := Lib.hid (HB.out.trans (HBr.out.mono hws))
           have q0 := (HB1.out.cell (p := ⟨b, o + k * 3, none⟩) hb).trans Y0.out
           have q1 := (HB1.out.cell (p := ⟨b, o + k * 3 + 1, none⟩) hb).trans Y1.out
           have q2 := (HB1.out.cell (p := ⟨b, o + k * 3 + 2, none⟩) hb).trans Y2.out
           have HN := Lib.hid (own_new HC.out hws hown1)
           obtain ⟨va, vn, vc, rfl⟩ := HN.out.2.1)
        | (refine step_append_rcmd (by rfl) _ _ w1 (by rfl) w.heap.size _ R (by rfl) (HC.out.below HBr.out) ⟨IntKind.i64.wrap kd, cn, bs⟩ (.slice va vn vc) (by rfl) HRl.out HB1.out.size HN.out.1 HN.out.2.1 HN.out.2.2 ?_
           intro g cap w2 hC2 hb2))
      all_goals
        have HF := Lib.hid (show (R ++ [((⟨IntKind.i64.wrap kd, cn, bs⟩ : Cm), Value.slice va vn vc)]).map Prod.fst = (L.map Prod.fst).take (k + 1) by rw [HTK.out, List.map_append, HR.out, HWK.out]; rfl)
        go_wp2
        go_roundw
        case rel => exact ⟨k + 1, _, by omega, by go_num, HF.out, hC2, hb2 _ HB1.out⟩
        case measure => simp [intOf]; omega
    · obtain rfl : k = L.length := by omega
      have HF : Hid (R.map Prod.fst = L.map Prod.fst) := Lib.hid (by rw [HR.out, ← List.length_map (f := Prod.fst), List.take_length])
      go_wp2
      go_ret
      exact ⟨⟨_, R, rfl, HF.out, HC.out⟩, HB.out⟩
end Go.Proofs.Ytcgobgegoflckaa
