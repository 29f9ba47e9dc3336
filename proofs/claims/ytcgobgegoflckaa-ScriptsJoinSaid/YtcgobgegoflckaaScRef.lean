/- Layer 33: the contract of the document's Parse. -/
import Derived.Test.YtcgobgegoflckaaScSame
import Derived.Deep.RegionLaw
import Derived.BigRegion
namespace Go.Proofs.Ytcgobgegoflckaa
open Go.RowKit
set_option linter.unusedVariables false

/-- Commands that were read off bytes: a row of the call's own, each command's bytes in new memory that is not the row's. -/
structure RCmds (w : World) (base : Nat) (v : Value) (L : List (Cm × Value)) : Prop where
  own : w.ownsRow base 42 3 v L.length (rowOf cmr L)
  byt : Byts w L
  new : ∀ p ∈ L, ∀ a n c, p.2 = .slice (some a) n c → 0 < n → base ≤ a.block ∧ v.ownBlock ≠ some a.block ∧ ∀ j, w.frozen? ⟨a.block, j, none⟩ = false
  len : ∀ p ∈ L, ∃ ao n c, p.2 = .slice ao n c
theorem RCmds.nil (w : World) (base : Nat) : RCmds w base (.slice none 0 0) [] := ⟨World.ownsRow_nil _ _ _ _, (fun p h => by cases h), (fun p h => by cases h), (fun p h => by cases h)⟩
theorem RCmds.below {w w' : World} {base : Nat} {v : Value} {L : List (Cm × Value)} (h : RCmds w base v L) (hb : Below w.heap.size w w') : RCmds w' base v L := by
  refine ⟨ownsRow_below h.own hb, h.byt.below hb, fun p hp a n c he h0 => ?_, h.len⟩
  obtain ⟨h1, h2, h3⟩ := h.new p hp a n c he h0
  have hB := h.byt p hp
  rw [he] at hB
  have hlt := arr_lt hB hB.len h0
  exact ⟨h1, h2, fun j => (hb.frozen (p := ⟨a.block, j, none⟩) hlt).trans (h3 j)⟩
/-- A command more, whose bytes lie in new memory: the row may have moved. -/
theorem RCmds.snoc {w1 w2 : World} {base g cap : Nat} {v : Value} {L : List (Cm × Value)} {c : Cm} {bv : Value} {o : Obj} (h : RCmds w1 base v L) (hgr : (w1.alloc o).grownBy w2 v.ownBlock)
    (hown : w2.ownsRow base 42 3 (.slice (some ⟨g, 0, none⟩) (L.length + 1) cap) (L.length + 1) (rowOf cmr L ++ cmr (c, bv))) (hat : v.ownBlock = some g ∨ g = w1.heap.size + 1)
    (hb : BArr w1 bv c.bytes) (hbv : ∃ ao n c, bv = .slice ao n c) (hnew : ∀ a n c, bv = .slice (some a) n c → 0 < n → base ≤ a.block ∧ v.ownBlock ≠ some a.block ∧ ∀ j, w1.frozen? ⟨a.block, j, none⟩ = false) :
    RCmds w2 base (.slice (some ⟨g, 0, none⟩) (L.length + 1) cap) (L ++ [(c, bv)]) := by
  have hw : Wrote (fun k => v.ownBlock = some k) w1 w2 := ((Wrote.refl _ _).alloc o).grown hgr fun k hk _ => hk
  have key : ∀ (q : Cm × Value), BArr w1 q.2 q.1.bytes → (∃ ao n c, q.2 = .slice ao n c) → (∀ a n c, q.2 = .slice (some a) n c → 0 < n → base ≤ a.block ∧ v.ownBlock ≠ some a.block ∧ ∀ j, w1.frozen? ⟨a.block, j, none⟩ = false) →
      BArr w2 q.2 q.1.bytes ∧ ∀ a n c, q.2 = .slice (some a) n c → 0 < n → base ≤ a.block ∧ (Value.slice (some ⟨g, 0, none⟩) (L.length + 1) cap).ownBlock ≠ some a.block ∧ ∀ j, w2.frozen? ⟨a.block, j, none⟩ = false := by
    intro q hB ⟨ao, n, cq, hq⟩ hN
    rw [hq] at hB ⊢
    refine ⟨?_, ?_⟩
    · by_cases h0 : 0 < n
      · refine Arr.wrote hB hw fun a m c he => ?_
        cases he
        exact (hN a n cq hq h0).2.1
      · obtain ⟨hl, ao', c', he, h1, h2, hx⟩ := hB
        cases he
        have hz : q.1.bytes.length = 0 := by omega
        refine ⟨hl, _, _, rfl, h1, h2, fun j u hu => ?_⟩
        have := (List.getElem?_eq_some_iff.1 hu).1
        rw [hl, hz] at this
        omega
    · intro a m c' he h0
      cases he
      obtain ⟨h1, h2, h3⟩ := hN a n cq hq h0
      have hlt := arr_lt hB hB.len h0
      refine ⟨h1, ?_, fun j => (hw.frozen (p := ⟨a.block, j, none⟩) hlt h2).trans (h3 j)⟩
      intro e
      have e' : g = a.block := by injection e
      rcases hat with e2 | e2
      · exact h2 (by rw [e2, e'])
      · omega
  refine ⟨by rw [rowOf_snoc, List.length_append]; exact hown, fun p hp => ?_, fun p hp => ?_, fun p hp => ?_⟩
  · rcases List.mem_append.1 hp with hp | hp
    · exact (key p (h.byt p hp) (h.len p hp) (h.new p hp)).1
    · rw [List.mem_singleton] at hp; subst hp
      exact (key (c, bv) hb hbv hnew).1
  · rcases List.mem_append.1 hp with hp | hp
    · exact (key p (h.byt p hp) (h.len p hp) (h.new p hp)).2
    · rw [List.mem_singleton] at hp; subst hp
      exact (key (c, bv) hb hbv hnew).2
  · rcases List.mem_append.1 hp with hp | hp
    · exact h.len p hp
    · rw [List.mem_singleton] at hp; subst hp
      exact hbv
theorem rclone_new {w1 w2 : World} {base : Nat} {v : Value} {L : List (Cm × Value)} {ao : Option Addr} (ho : w1.ownsRow base 42 3 v L.length (rowOf cmr L)) (hb : base ≤ w1.heap.size) (hF : ∀ a, ao = some a → w1.heap.size ≤ a.block ∧ ∀ j, w2.frozen? ⟨a.block, j, none⟩ = false) (m : Nat) :
    ∀ a n c, Value.slice ao m m = .slice (some a) n c → 0 < n → base ≤ a.block ∧ v.ownBlock ≠ some a.block ∧ ∀ j, w2.frozen? ⟨a.block, j, none⟩ = false := by
  intro a n c he _
  cases he
  obtain ⟨h1, h2⟩ := hF a rfl
  exact ⟨by omega, fun e => by have := (ho.lt _ e).2; omega, h2⟩
theorem append_rcmd {ops : Array Oper} {rest : List Oper} {o : Oper} {a : Act} {Q : Exit → Act → World → Prop} (hgd : o.guard = none) (s x : Operand) (w : World)
    (ho : o.op = .call { callee := .builtin .append, args := #[s, x], argTypes := #[24, 24] })
    (base : Nat) (v : Value) (L : List (Cm × Value)) (hs : a.eval s = v) (hC : RCmds w base v L) (c : Cm) (bv : Value) (hx : a.eval x = .slice (some ⟨w.heap.size, 0, none⟩) 1 1) (hL : L.length ≤ 1000000) (hbase : base ≤ w.heap.size)
    (hb : BArr w bv c.bytes) (hbv : ∃ ao n c, bv = .slice ao n c) (hnew : ∀ a n c, bv = .slice (some a) n c → 0 < n → base ≤ a.block ∧ v.ownBlock ≠ some a.block ∧ ∀ j, w.frozen? ⟨a.block, j, none⟩ = false)
    (h : ∀ g cap w', RCmds w' base (.slice (some ⟨g, 0, none⟩) (L.length + 1) cap) (L ++ [(c, bv)]) → (∀ a : World, Below base a w → Below base a w') → wpList Try.prog ops Q rest (a.put o.dst (.slice (some ⟨g, 0, none⟩) (L.length + 1) cap)) w') :
    wpList Try.prog ops Q (o :: rest) a (w.alloc (.cells #[.int .i64 c.kind, .int .i64 c.conn, bv] 42)) := by
  obtain ⟨i0, hi, hz0, hz1, hz2⟩ := info_parts infoR
  refine wpList_append_lies _ hgd s x _ ho base 42 i0 _ 3 40 Try.underlying24 hi hz0 hz1 hz2 rfl (by omega) v L.length (rowOf cmr L) hs (hC.own.alloc _) ⟨w.heap.size, 0, none⟩ 1 1 (cmr (c, bv)) hx rfl
    (World.news_of_block (cs := (cmr (c, bv)).toArray) (t := 42) (fr := (0, 0)) (heap_alloc_new w _)) ?_ (by omega) (by unfold maxLen; omega) (by omega) (by simp; omega) (w.heap.size + 1) (by simp) ?_
  · obtain ⟨ao, n, cq, rfl⟩ := hbv
    simp [Value.oneCell', cmr]
  · intro g cap w' hown hgr hat _
    exact h g cap w' (hC.snoc hgr hown hat hb hbv hnew) fun a0 hB => (hB.alloc hbase _).grown hgr (by simp; omega) fun k hk => (hC.own.lt k hk).1

theorem rb_step {wr wq w1 : World} {N j gg cap : Nat} {bv : Value} {xs ys : List Value} {z : Int} {o : Obj} (hN : N = wr.heap.size) (hB : Below N wr wq) (hNq : N < wq.heap.size)
    (c0 : wq.cell? ⟨N, 0, none⟩ = some (.int .i64 0)) (c1 : wq.cell? ⟨N, 1, none⟩ = some (.int .i64 z)) (hown : wq.ownsRow (N + 1) 5 1 bv j xs)
    (hown1 : w1.ownsRow (N + 1) 5 1 (.slice (some ⟨gg, 0, none⟩) (j + 1) cap) (j + 1) ys) (hg : (wq.alloc o).drew.grownBy w1 bv.ownBlock) (hh1 : w1.cell? ⟨N, 2, none⟩ = some bv) (hh2 : w1.frozen? ⟨N, 2, none⟩ = false) :
    (w1.setCell ⟨N, 2, none⟩ (.slice (some ⟨gg, 0, none⟩) (j + 1) cap)).cell? ⟨N, 0, none⟩ = some (.int .i64 0) ∧ (w1.setCell ⟨N, 2, none⟩ (.slice (some ⟨gg, 0, none⟩) (j + 1) cap)).cell? ⟨N, 1, none⟩ = some (.int .i64 z) ∧ (w1.setCell ⟨N, 2, none⟩ (.slice (some ⟨gg, 0, none⟩) (j + 1) cap)).cell? ⟨N, 2, none⟩ = some (.slice (some ⟨gg, 0, none⟩) (j + 1) cap) ∧
    (w1.setCell ⟨N, 2, none⟩ (.slice (some ⟨gg, 0, none⟩) (j + 1) cap)).frozen? ⟨N, 2, none⟩ = false ∧ (w1.setCell ⟨N, 2, none⟩ (.slice (some ⟨gg, 0, none⟩) (j + 1) cap)).ownsRow (N + 1) 5 1 (.slice (some ⟨gg, 0, none⟩) (j + 1) cap) (j + 1) ys ∧ Below N wr (w1.setCell ⟨N, 2, none⟩ (.slice (some ⟨gg, 0, none⟩) (j + 1) cap)) ∧ N < (w1.setCell ⟨N, 2, none⟩ (.slice (some ⟨gg, 0, none⟩) (j + 1) cap)).heap.size := by
  have hap : some N ≠ bv.ownBlock := fun e => by have := (hown.lt N e.symm).1; omega
  have hz : wq.heap.size + 1 ≤ w1.heap.size := by have := hg.size; simpa using this
  have keep : ∀ i, w1.cell? ⟨N, i, none⟩ = wq.cell? ⟨N, i, none⟩ := fun i => (hg.cell_far ⟨N, i, none⟩ (by simp; omega) hap).trans (((Below.refl wq.heap.size wq).alloc (Nat.le_refl _) o).drew.cell (p := ⟨N, i, none⟩) hNq)
  have hgg := (hown1.lt gg rfl).1
  have hw : ∀ u, Wrote (fun k => k = N) w1 (w1.setCell ⟨N, 2, none⟩ u) := fun u => Wrote.setCell (S := fun k => k = N) (Wrote.refl _ _) (p := ⟨N, 2, none⟩) (fun _ => rfl) u
  refine ⟨(World.cell?_setCell_other _ _ _ _ (by simp)).trans ((keep 0).trans c0), (World.cell?_setCell_other _ _ _ _ (by simp)).trans ((keep 1).trans c1), World.cell?_setCell_same _ _ _ hh1, (World.frozen?_setCell _ _ _ _).trans hh2, (hw _).own hown1 (fun k hk e => by have h2 := (hown1.lt k hk).1; omega), ?_, by simp; omega⟩
  refine Below.setCell (p := ⟨N, 2, none⟩) ?_ (Nat.le_refl _) _
  exact ((hB.alloc (by omega) o).drew).grown hg (by simp; omega) fun k hk => by have := (hown.lt k hk).1; omega
theorem drop_cons {l : List Int} {p : Nat} (h : p < l.length) : l.drop p = l[p] :: l.drop (p + 1) := List.drop_eq_getElem_cons h
/-- A feed's number of bytes, and where they begin. -/
theorem feed_at (l : List Int) (hB : Bs l) (p : Nat) (hp : p < l.length) (z : Int) (hz : z = l[p]) (h64 : z < 64) : ∃ q y : Nat, q ≤ l.length ∧ p + 1 ≤ q ∧ y ≤ 255 ∧ csParse (l.drop p) = ⟨0, z, (l.drop q).take y⟩ :: csParse ((l.drop q).drop y) ∧ (∀ h : p + 1 < l.length, q = p + 2 ∧ (y : Int) = l[p + 1]) ∧ (¬ p + 1 < l.length → q = p + 1 ∧ y = 0) := by
  rw [drop_cons hp, ← hz]
  by_cases h : p + 1 < l.length
  · have hb := hB l[p + 1] (List.getElem_mem _)
    obtain ⟨y, hy⟩ := Int.eq_ofNat_of_zero_le hb.1
    refine ⟨p + 2, y, by omega, by omega, by omega, ?_, fun _ => ⟨rfl, hy.symm⟩, fun h2 => absurd h h2⟩
    rw [drop_cons h, hy, csParse_feed h64, Int.toNat_natCast]
  · have hz1 : l.drop (p + 1) = [] := List.drop_eq_nil_of_le (by omega)
    refine ⟨p + 1, 0, by omega, by omega, by omega, ?_, fun h2 => absurd h2 h, fun _ => ⟨rfl, rfl⟩⟩
    rw [hz1, csParse_last h64]
    simp [csParse_nil]
theorem feed_end (l : List Int) (q y j : Nat) (hq : q + j ≤ l.length) (hj : j ≤ y) (h : j = y ∨ q + j = l.length) : (l.drop q).take y = (l.drop q).take j ∧ (l.drop q).drop y = l.drop (q + j) := by
  rcases h with rfl | h
  · exact ⟨rfl, by rw [List.drop_drop]⟩
  · have hl : (l.drop q).length = j := by rw [List.length_drop]; omega
    refine ⟨by rw [List.take_of_length_le (by omega), List.take_of_length_le (by omega)], ?_⟩
    rw [List.drop_eq_nil_of_le (by omega), List.drop_eq_nil_of_le (by omega)]
theorem take_byte (l : List Int) (q j : Nat) (h : q + j < l.length) : (l.drop q).take (j + 1) = (l.drop q).take j ++ [l[q + j]] := by
  rw [List.take_succ_eq_append_getElem (by rw [List.length_drop]; omega), List.getElem_drop]
set_option maxHeartbeats 4000000 in
set_option maxRecDepth 100000 in
theorem c_rParse (v : Value) (l : List Int) (w : World) (hv : BArr w v l) (hB : Bs l) (hl : l.length ≤ 1000000) :
    Calls Try.prog 9 #[v] w fun e w' => (∃ v' L, e = .returned v' ∧ L.map Prod.fst = csParse l ∧ RCmds w' w.heap.size v' L) ∧ Below w.heap.size w w' := by
  obtain ⟨ao, cp, rfl, hcp, hm⟩ := hv.shape
  have hlen := csParse_len l.length l (Nat.le_refl _)
  have HL := Lib.hid hl
  have hl2 : l.length ≤ 9223372036854775807 := by omega
  have HLen := Lib.hid hlen
  clear hl hlen
  go_enter Try.func9, Try.ntmps9
  go_wp2
  go_loopw [3, 4] (fun vo at_ wr => ∃ (p : Nat) (L : List (Cm × Value)), p ≤ l.length ∧ at_ = .int .i64 p ∧ L.map Prod.fst ++ csParse (l.drop p) = csParse l ∧ RCmds wr w.heap.size vo L ∧ Below w.heap.size w wr) (fun _ at_ _ => l.length - (intOf at_).toNat)
  case atStart => exact ⟨0, [], Nat.zero_le _, rfl, rfl, RCmds.nil _ _, Below.refl _ _⟩
  case round =>
    obtain ⟨p, L, hp, rfl, hpar, hC, hbel⟩ := hrel
    have hLl : L.length ≤ 1000000 := by
      have h1 := congrArg List.length hpar
      rw [List.length_append, List.length_map] at h1
      have := HLen.out
      have := HL.out
      omega
    have hbs := hbel.size
    have Hpar := Lib.hid hpar
    clear hpar
    by_cases hp2 : p < l.length
    · obtain ⟨b, o, c', he, -, -, hb, hx⟩ := Arr.open hv (by omega) (by omega)
      cases he
      have hz := hB l[p] (List.getElem_mem _)
      have z0' := byc_cell hx p hp2
      have Hdc := Lib.hid (drop_cons hp2)
      obtain ⟨z, hze⟩ : ∃ z, z = l[p] := ⟨_, rfl⟩
      have Hze := Lib.hid hze
      rw [← hze] at hz z0' Hdc
      have z0 := (hbel.cell (p := ⟨b, o + p, none⟩) hb).trans z0'
      have hpar2 := Hpar.out
      rw [Hdc.out] at hpar2
      have Hpar2 := Lib.hid hpar2
      have Hx := Lib.hid hx
      have Hv := Lib.hid hv
      clear hx z0' hze hpar2 hv
      by_cases h192 : 192 ≤ z
      · have hP := Lib.hid (show (L ++ [((⟨2, 0, []⟩ : Cm), Value.slice none 0 0)]).map Prod.fst ++ csParse (l.drop (p + 1)) = csParse l by rw [← Hpar2.out, csParse_tick h192]; simp)
        go_wp2_with (at_builtin; refine append_rcmd rfl _ _ _ rfl w.heap.size _ L rfl hC ⟨2, 0, []⟩ (.slice none 0 0) rfl hLl hbs (barr_nil _) ⟨none, 0, 0, rfl⟩ (fun a n c h => by cases h) ?_; intro g cap w1 hC1 hb1)
        go_roundw
        case rel => exact ⟨p + 1, _, by omega, by go_num, hP.out, hC1, hb1 _ hbel⟩
        case measure => simp [intOf]; omega
      · by_cases h64 : 64 ≤ z
        · have hP := Lib.hid (show (L ++ [((⟨1, z % 64, []⟩ : Cm), Value.slice none 0 0)]).map Prod.fst ++ csParse (l.drop (p + 1)) = csParse l by rw [← Hpar2.out, csParse_pick h64 (by omega)]; simp)
          have h192' : z < 192 := by omega
          clear h192
          go_wp2_with (at_builtin; refine append_rcmd rfl _ _ _ rfl w.heap.size _ L rfl hC ⟨1, z % 64, []⟩ (.slice none 0 0) rfl hLl hbs (barr_nil _) ⟨none, 0, 0, rfl⟩ (fun a n c h => by cases h) ?_; intro g cap w1 hC1 hb1)
          go_roundw
          case rel => exact ⟨p + 1, _, by omega, by go_num, hP.out, hC1, hb1 _ hbel⟩
          case measure => simp [intOf]; omega
        · have hz64 : z < 64 := by omega
          clear h192 h64
          obtain ⟨q, y, hq, hpq, hy, hpar3, hqy1, hqy2⟩ := feed_at l hB p hp2 z Hze.out hz64
          have Hpar3 := Lib.hid (show L.map Prod.fst ++ (⟨0, z, (l.drop q).take y⟩ :: csParse ((l.drop q).drop y)) = csParse l by rw [← hpar3]; exact Hpar.out)
          have HC := Lib.hid hC
          have Hbel := Lib.hid hbel
          obtain ⟨N, hN⟩ : ∃ N, N = wr.heap.size := ⟨_, rfl⟩
          have hbN : b < N := by omega
          clear hpar3
          go_upto_if 39 with (fail)
          rw [← hN]
          have HN := Lib.hid hN
          have hwb0 : Below N wr (wr.alloc (.cells #[.int .i64 0, .int .i64 z, .slice none 0 0] 42)) := by rw [hN]; exact (Below.refl _ _).alloc (Nat.le_refl _) _
          have hcel : ∀ j u, [Value.int .i64 0, .int .i64 z, .slice none 0 0][j]? = some u → (wr.alloc (.cells #[.int .i64 0, .int .i64 z, .slice none 0 0] 42)).cell? ⟨N, j, none⟩ = some u := by
            intro j u hu
            rw [hN]
            unfold World.cell?
            rw [heap_alloc_new]
            simpa using hu
          have hfz : (wr.alloc (.cells #[.int .i64 0, .int .i64 z, .slice none 0 0] 42)).frozen? ⟨N, 2, none⟩ = false := by
            rw [hN]
            unfold World.frozen?
            rw [heap_alloc_new]
            simp
          have hszN : N < (wr.alloc (.cells #[.int .i64 0, .int .i64 z, .slice none 0 0] 42)).heap.size := by rw [hN]; simp
          obtain ⟨W, hW⟩ : ∃ W, W = wr.alloc (.cells #[.int .i64 0, .int .i64 z, .slice none 0 0] 42) := ⟨_, rfl⟩
          rw [← hW] at hwb0 hcel hfz hszN ⊢
          have Hcel := Lib.hid hcel
          clear hN hW hcel hC hbel
          go_cut [4, 7] (fun at_ many wx => at_ = .int .i64 q ∧ many = .int .i64 y ∧ wx = W)
          case first =>
            by_cases hlast : p + 1 < l.length
            · obtain ⟨e1, e2⟩ := hqy1 hlast
              have y0' := byc_cell Hx.out (p + 1) hlast
              rw [← e2] at y0'
              have y0 := (hwb0.cell (p := ⟨b, o + (p + 1), none⟩) hbN).trans ((Hbel.out.cell (p := ⟨b, o + (p + 1), none⟩) hb).trans y0')
              have Hq := Lib.hid e1
              have ed : decide (p + 1 < l.length) = true := by simpa using hlast
              clear e1 e2 y0' hqy1 hqy2
              go_wp2
              go_meet
              exact ⟨by rw [Hq.out]; go_num, rfl, rfl⟩
            · obtain ⟨e1, e2⟩ := hqy2 hlast
              have Hq := Lib.hid e1
              have Hy := Lib.hid e2
              have ed : decide (p + 1 < l.length) = false := by simpa using hlast
              clear e1 e2 hqy1 hqy2
              go_wp2
              go_meet
              exact ⟨by rw [Hq.out]; go_num, by rw [Hy.out]; rfl, rfl⟩
          case rest =>
            obtain ⟨rfl, rfl, rfl⟩ := hcut
            clear hqy1 hqy2
            obtain ⟨i0, hi, hz0, hz1, hz2⟩ := info_parts infoB
            obtain ⟨wo, rfl⟩ : ∃ wo : World, wo = wr := ⟨_, rfl⟩
            go_wp2_with fail
            go_loopw [8, 4] (fun i at_ wq => ∃ (j s : Nat) (bv : Value), j ≤ y ∧ s ≤ l.length ∧ Hid (s = q + j) ∧ i = .int .i64 j ∧ at_ = .int .i64 s ∧ wq.cell? ⟨N, 0, none⟩ = some (.int .i64 0) ∧ wq.cell? ⟨N, 1, none⟩ = some (.int .i64 z) ∧ wq.cell? ⟨N, 2, none⟩ = some bv ∧ wq.frozen? ⟨N, 2, none⟩ = false ∧ wq.ownsRow (N + 1) 5 1 bv j (rowOf byc ((l.drop q).take j)) ∧ Below N wo wq ∧ N < wq.heap.size) (fun i _ _ => y - (intOf i).toNat)
            case atStart => exact ⟨0, q, _, Nat.zero_le _, hq, Lib.hid rfl, rfl, rfl, Hcel.out 0 _ rfl, Hcel.out 1 _ rfl, Hcel.out 2 _ rfl, hfz, World.ownsRow_nil _ _ _ _, hwb0, hszN⟩
            case round =>
              obtain ⟨j, s, bv, hjy, hsl, hsj, rfl, rfl, g0, g1, g2, gf, gown, gbel, gsz⟩ := hrel
              obtain ⟨ba, bc, rfl, -, hbm⟩ := (Arr.of_own gown).shape
              clear hwb0 hszN hfz
              by_cases hgo : j < y ∧ s < l.length
              · obtain ⟨hj1, hj2⟩ := hgo
                have hbyte := byc_cell Hx.out s hj2
                have x0 := (gbel.cell (p := ⟨b, o + s, none⟩) hbN).trans ((Hbel.out.cell (p := ⟨b, o + s, none⟩) hb).trans hbyte)
                obtain ⟨u, hu⟩ : ∃ u, u = l[s] := ⟨_, rfl⟩
                rw [← hu] at x0
                have Htk := Lib.hid (show rowOf byc ((l.drop q).take (j + 1)) = rowOf byc ((l.drop q).take j) ++ byc u by
                  have hs := hsj.out
                  subst hs
                  rw [take_byte l q j hj2, rowOf_snoc, ← hu])
                have gap : (Value.slice ba j bc).ownBlock ≠ some N := fun e => by have := (gown.lt N e).1; omega
                have hL20 := HL.out
                have hj20 : j ≤ 1000000 := by have := hsj.out; omega
                have HJ := Lib.hid hj20
                have Gown := Lib.hid gown
                have Gbel := Lib.hid gbel
                have hne : ¬ N = wr.heap.size := by omega
                clear hbyte hu gown gbel hL20 hj20
                go_wp2_with fail
                go_region_law ((refine step_append_lies _ (by rfl) _ _ _ (by rfl) (N + 1) 5 i0 _ 1 1 Try.underlying22 hi hz0 hz1 hz2 rfl (by omega) (.slice ba j bc) j (rowOf byc ((l.drop q).take j)) (by rfl) ((Gown.out.alloc _).drew) ⟨wr.heap.size, 0, none⟩ 1 1 (byc u) (by rfl) (by rfl) (World.news_of_block (cs := (byc u).toArray) (t := 5) (fr := (0, 0)) (heap_alloc_new wr _)) (by simp [Value.oneCell', byc]) (by omega) (by have := HJ.out; unfold maxLen; omega) (by have := HJ.out; omega) (by simp; omega) (wr.heap.size + 1) (by simp) ?_; intro gg cap w1 hown1 hgrow hat hlt1; have hh1 : w1.cell? ⟨N, 2, none⟩ = some (.slice ba j bc) := (hgrow.cell_far _ (by simp; omega) (Ne.symm gap)).trans ((((Below.refl wr.heap.size wr).alloc (Nat.le_refl _) _).cell (p := ⟨N, 2, none⟩) gsz).trans g2); have hh2 : w1.frozen? ⟨N, 2, none⟩ = false := (hgrow.frozen_far _ (by simp; omega) (Ne.symm gap)).trans ((((Below.refl wr.heap.size wr).alloc (Nat.le_refl _) _).frozen (p := ⟨N, 2, none⟩) gsz).trans gf)))
                all_goals
                  have HR := Lib.hid (rb_step HN.out Gbel.out gsz g0 g1 Gown.out hown1 hgrow hh1 hh2)
                  clear hown1 hgrow hat hlt1 hh1 hh2
                  go_wp2
                  go_roundw
                  case rel => exact ⟨j + 1, s + 1, _, by omega, by omega, Lib.hid (by rw [hsj.out]; omega), by go_num, by go_num, HR.out.1, HR.out.2.1, HR.out.2.2.1, HR.out.2.2.2.1, by rw [Htk.out]; exact HR.out.2.2.2.2.1, HR.out.2.2.2.2.2.1, HR.out.2.2.2.2.2.2⟩
                  case measure => simp [intOf]; omega
              · have hend : j = y ∨ s = l.length := by
                  rcases Nat.lt_or_ge j y with h | h
                  · right; have := hsl; exact Nat.le_antisymm hsl (Nat.le_of_not_lt fun h2 => hgo ⟨h, h2⟩)
                  · left; omega
                have hfe := feed_end l q y j (by have := hsj.out; omega) hjy (hend.imp id fun h => by have := hsj.out; omega)
                rw [← hsj.out] at hfe
                have hC2 := HC.out.below (by rw [← HN.out]; exact gbel : Below wo.heap.size wo wr)
                have hbsz : w.heap.size ≤ wr.heap.size := by have := HN.out; have := gbel.size; omega
                have hbel2 : Below w.heap.size w wr := Hbel.out.trans (gbel.mono (by have := HN.out; omega))
                have hP := Lib.hid (show (L ++ [((⟨0, z, (l.drop q).take y⟩ : Cm), Value.slice ba j bc)]).map Prod.fst ++ csParse (l.drop s) = csParse l by rw [← Hpar3.out, hfe.2]; simp)
                have hlj : ((l.drop q).take j).length = j := by rw [List.length_take, List.length_drop]; have := hsj.out; omega
                have hA : BArr wr (.slice ba j bc) ((l.drop q).take y) := by
                  rw [hfe.1]
                  show Arr wr (.slice ba j bc) ((l.drop q).take j).length 1 _
                  rw [hlj]
                  exact Arr.of_own gown
                have hnw : ∀ a n c, Value.slice ba j bc = .slice (some a) n c → 0 < n → w.heap.size ≤ a.block ∧ u3.ownBlock ≠ some a.block ∧ ∀ j, wr.frozen? ⟨a.block, j, none⟩ = false := by
                  rintro ⟨ab, ao, asp⟩ n c he h0
                  rcases gown.2 with ⟨he2, _⟩ | ⟨g, cap, cur, he2, hbg, hgg, hnc, hcm, _⟩
                  · rw [he2] at he; cases he
                  · have e3 := he2.symm.trans he
                    injection e3 with e4
                    injection e4 with e5
                    injection e5 with e6
                    subst e6
                    have gown2 := gown
                    rw [he2] at gown2
                    refine ⟨?_, ?_, gown2.frozenAt⟩
                    · show w.heap.size ≤ g
                      have := HN.out; omega
                    · intro e
                      have := (HC.out.own.lt g e).2
                      have := HN.out
                      omega
                have HA := Lib.hid hA
                have HNw := Lib.hid hnw
                have HC2 := Lib.hid hC2
                have Hb2 := Lib.hid hbel2
                have HGz := Lib.hid hbsz
                have HLl := Lib.hid hLl
                have Hps := Lib.hid (show p + 1 ≤ s by have := hsj.out; omega)
                clear hfe hC2 hbel2 hlj hA hnw gown gbel hbsz hLl
                rcases hend with hend | hend
                · have hj3 : ¬ j < y := by omega
                  clear hend hgo
                  go_wp2_with (at_builtin; refine append_rcmd rfl _ _ _ rfl w.heap.size u3 L rfl HC2.out ⟨0, z, (l.drop q).take y⟩ (.slice ba j bc) rfl HLl.out HGz.out HA.out ⟨ba, j, bc, rfl⟩ HNw.out ?_; intro g cap w1 hC1 hb1)
                  go_roundw
                  case rel => exact ⟨s, _, hsl, rfl, hP.out, hC1, hb1 _ Hb2.out⟩
                  case measure => have := Hps.out; simp [intOf]; omega
                · have hj3 : ¬ s < l.length := by omega
                  clear hend hgo
                  go_wp2_with (at_builtin; refine append_rcmd rfl _ _ _ rfl w.heap.size u3 L rfl HC2.out ⟨0, z, (l.drop q).take y⟩ (.slice ba j bc) rfl HLl.out HGz.out HA.out ⟨ba, j, bc, rfl⟩ HNw.out ?_; intro g cap w1 hC1 hb1)
                  all_goals
                    go_roundw
                    case rel => exact ⟨s, _, hsl, rfl, hP.out, hC1, hb1 _ Hb2.out⟩
                    case measure => have := Hps.out; simp [intOf]; omega
    · obtain rfl : p = l.length := by omega
      have hfin : L.map Prod.fst = csParse l := by have := Hpar.out; rw [List.drop_length, csParse_nil, List.append_nil] at this; exact this
      have HF := Lib.hid hfin
      clear hfin hv
      go_wp2
      go_ret
      exact ⟨⟨_, L, rfl, HF.out, hC⟩, hbel⟩
end Go.Proofs.Ytcgobgegoflckaa
