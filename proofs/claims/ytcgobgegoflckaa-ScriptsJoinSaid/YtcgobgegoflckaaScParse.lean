/- Layer 33: the contract of scripts.Parse. -/
import Derived.Test.YtcgobgegoflckaaScMem
namespace Go.Proofs.Ytcgobgegoflckaa
open Go.RowKit
set_option linter.unusedVariables false

/-- What a slice of bytes that is the call's own says. -/
def OwnB (w : World) (base : Nat) (v : Value) (l : List Int) : Prop := w.ownsRow base 5 1 v l.length (rowOf byc l)
/-- Commands that were read off bytes: a row of the call's own, each command's bytes in new memory that is not the row's. -/
structure Cmds (w : World) (base : Nat) (v : Value) (L : List (Cm × Value)) : Prop where
  own : w.ownsRow base 31 3 v L.length (rowOf cmc L)
  byt : Byts w L
  new : ∀ p ∈ L, ∀ a n c, p.2 = .slice (some a) n c → 0 < n → base ≤ a.block ∧ v.ownBlock ≠ some a.block ∧ ∀ j, w.frozen? ⟨a.block, j, none⟩ = false
  len : ∀ p ∈ L, ∃ ao n, p.2 = .slice ao n n
theorem Cmds.nil (w : World) (base : Nat) : Cmds w base (.slice none 0 0) [] := ⟨World.ownsRow_nil _ _ _ _, (fun p h => by cases h), (fun p h => by cases h), (fun p h => by cases h)⟩
theorem arr_lt {w : World} {a : Addr} {n c : Nat} {l : List Int} (h : BArr w (.slice (some a) n c) l) (hn : n = l.length) (h0 : 0 < n) : a.block < w.heap.size := by
  obtain ⟨b, o, c', he, _, _, hlt, _⟩ := Arr.open (hn ▸ h) (by omega) (by omega)
  cases he
  exact hlt
theorem BArr.len {w : World} {ao : Option Addr} {n c : Nat} {l : List Int} (h : BArr w (.slice ao n c) l) : n = l.length := by
  obtain ⟨_, _, _, he, _⟩ := h
  cases he
  rfl
theorem Cmds.below {w w' : World} {base : Nat} {v : Value} {L : List (Cm × Value)} (h : Cmds w base v L) (hb : Below w.heap.size w w') : Cmds w' base v L := by
  refine ⟨ownsRow_below h.own hb, h.byt.below hb, fun p hp a n c he h0 => ?_, h.len⟩
  obtain ⟨h1, h2, h3⟩ := h.new p hp a n c he h0
  have hB := h.byt p hp
  rw [he] at hB
  have hlt := arr_lt hB hB.len h0
  exact ⟨h1, h2, fun j => (hb.frozen (p := ⟨a.block, j, none⟩) hlt).trans (h3 j)⟩
/-- A command more, whose bytes lie in new memory: the row may have moved. -/
theorem Cmds.snoc {w1 w2 : World} {base g cap : Nat} {v : Value} {L : List (Cm × Value)} {c : Cm} {bv : Value} {o : Obj} (h : Cmds w1 base v L) (hgr : (w1.alloc o).grownBy w2 v.ownBlock)
    (hown : w2.ownsRow base 31 3 (.slice (some ⟨g, 0, none⟩) (L.length + 1) cap) (L.length + 1) (rowOf cmc L ++ cmc (c, bv))) (hat : v.ownBlock = some g ∨ g = w1.heap.size + 1)
    (hb : BArr w1 bv c.bytes) (hbv : ∃ ao n, bv = .slice ao n n) (hnew : ∀ a n c, bv = .slice (some a) n c → 0 < n → base ≤ a.block ∧ v.ownBlock ≠ some a.block ∧ ∀ j, w1.frozen? ⟨a.block, j, none⟩ = false) :
    Cmds w2 base (.slice (some ⟨g, 0, none⟩) (L.length + 1) cap) (L ++ [(c, bv)]) := by
  have hw : Wrote (fun k => v.ownBlock = some k) w1 w2 := ((Wrote.refl _ _).alloc o).grown hgr fun k hk _ => hk
  have key : ∀ (q : Cm × Value), BArr w1 q.2 q.1.bytes → (∃ ao n, q.2 = .slice ao n n) → (∀ a n c, q.2 = .slice (some a) n c → 0 < n → base ≤ a.block ∧ v.ownBlock ≠ some a.block ∧ ∀ j, w1.frozen? ⟨a.block, j, none⟩ = false) →
      BArr w2 q.2 q.1.bytes ∧ ∀ a n c, q.2 = .slice (some a) n c → 0 < n → base ≤ a.block ∧ (Value.slice (some ⟨g, 0, none⟩) (L.length + 1) cap).ownBlock ≠ some a.block ∧ ∀ j, w2.frozen? ⟨a.block, j, none⟩ = false := by
    intro q hB ⟨ao, n, hq⟩ hN
    rw [hq] at hB ⊢
    refine ⟨?_, ?_⟩
    · by_cases h0 : 0 < n
      · refine Arr.wrote hB hw fun a m c he => ?_
        cases he
        exact (hN a n n hq h0).2.1
      · obtain ⟨hl, ao', c', he, h1, h2, hx⟩ := hB
        cases he
        have hz : q.1.bytes.length = 0 := by omega
        refine ⟨hl, _, _, rfl, h1, h2, fun j u hu => ?_⟩
        have := (List.getElem?_eq_some_iff.1 hu).1
        rw [hl, hz] at this
        omega
    · intro a m c' he h0
      cases he
      obtain ⟨h1, h2, h3⟩ := hN a n n hq h0
      have hlt := arr_lt hB hB.len h0
      refine ⟨h1, ?_, fun j => (hw.frozen (p := ⟨a.block, j, none⟩) hlt h2).trans (h3 j)⟩
      intro e
      have e' : g = a.block := by injection e
      rcases hat with e2 | e2
      · exact h2 (by rw [e2, e'])
      · omega
  refine ⟨by rw [rowOf_snoc, List.length_append]; exact hown, fun p hp => ?_, fun p hp => ?_, fun p hp => ?_⟩
  · rcases List.mem_append.1 hp with hp | hp
    · exact (key p (h.byt p hp) (h.len p hp) (h.new p hp)).1
    · rw [List.mem_singleton] at hp; subst hp
      exact (key (c, bv) hb hbv hnew).1
  · rcases List.mem_append.1 hp with hp | hp
    · exact (key p (h.byt p hp) (h.len p hp) (h.new p hp)).2
    · rw [List.mem_singleton] at hp; subst hp
      exact (key (c, bv) hb hbv hnew).2
  · rcases List.mem_append.1 hp with hp | hp
    · exact h.len p hp
    · rw [List.mem_singleton] at hp; subst hp
      exact hbv
/-- Commands that were read off bytes, as they are handed back: in new memory. -/
structure CmOut (w : World) (base : Nat) (v : Value) (L : List (Cm × Value)) : Prop where
  arr : Arr w v L.length 3 (rowOf cmc L)
  byt : Byts w L
  new : ∀ p ∈ L, ∀ a n c, p.2 = .slice (some a) n c → 0 < n → base ≤ a.block ∧ v.ownBlock ≠ some a.block ∧ ∀ j, w.frozen? ⟨a.block, j, none⟩ = false
  len : ∀ p ∈ L, ∃ ao n, p.2 = .slice ao n n
  row : ∀ a n c, v = .slice (some a) n c → base ≤ a.block ∧ a.off = 0 ∧ ∀ j, w.frozen? ⟨a.block, j, none⟩ = false
  shape : ∃ ao, v = .slice ao L.length L.length
theorem Cmds.out0 {w : World} {base : Nat} (h : Cmds w base (.slice none 0 0) []) : CmOut w base (.slice none 0 0) [] := ⟨Arr.nil w 3, h.byt, h.new, h.len, (fun a n c h => by cases h), none, rfl⟩
theorem Cmds.out {w : World} {base g cap : Nat} {L : List (Cm × Value)} (h : Cmds w base (.slice (some ⟨g, 0, none⟩) L.length cap) L) (hbg : base ≤ g) : CmOut w base (.slice (some ⟨g, 0, none⟩) L.length L.length) L :=
  ⟨(Arr.of_own h.own).clip, h.byt, h.new, h.len, (fun a n c he => by cases he; exact ⟨hbg, rfl, h.own.frozenAt⟩), _, rfl⟩
theorem clone_new {w1 w2 : World} {base : Nat} {v : Value} {L : List (Cm × Value)} {ao : Option Addr} (ho : w1.ownsRow base 31 3 v L.length (rowOf cmc L)) (hb : base ≤ w1.heap.size) (hF : ∀ a, ao = some a → w1.heap.size ≤ a.block ∧ ∀ j, w2.frozen? ⟨a.block, j, none⟩ = false) (m : Nat) :
    ∀ a n c, Value.slice ao m m = .slice (some a) n c → 0 < n → base ≤ a.block ∧ v.ownBlock ≠ some a.block ∧ ∀ j, w2.frozen? ⟨a.block, j, none⟩ = false := by
  intro a n c he _
  cases he
  obtain ⟨h1, h2⟩ := hF a rfl
  exact ⟨by omega, fun e => by have := (ho.lt _ e).2; omega, h2⟩
theorem barr_nil (w : World) : BArr w (.slice none 0 0) [] := Arr.nil w 1
theorem Bs.drop {l : List Int} (h : Bs l) (k : Nat) : Bs (l.drop k) := fun z hz => h z (List.mem_of_mem_drop hz)
/-- The rest of a slice of bytes. -/
theorem BArr.rest {w : World} {b o n c : Nat} {z : Int} {r : List Int} (h : BArr w (.slice (some ⟨b, o, none⟩) n c) (z :: r)) : BArr w (.slice (some ⟨b, o + 1, none⟩) (n - 1) (c - 1)) r := by
  obtain ⟨hl, ao, c', he, h1, h2, hx⟩ := h
  cases he
  refine ⟨by rw [rowOf_len byc_len], _, _, rfl, by simp at h1 ⊢; omega, by omega, fun j u hu => ?_⟩
  obtain ⟨b', o', e1, hlt, hc⟩ := hx (j + 1) u (by simpa [rowOf, byc] using hu)
  cases e1
  exact ⟨b, o + 1, rfl, hlt, by rw [show o + 1 + j = o + (j + 1) by omega]; exact hc⟩
theorem BArr.take {w : World} {ao : Option Addr} {n c : Nat} {l : List Int} (h : BArr w (.slice ao n c) l) (k : Nat) (hk : k ≤ l.length) : BArr w (.slice ao k c) (l.take k) := by
  obtain ⟨hl, ao', c', he, h1, h2, hx⟩ := h
  cases he
  refine ⟨by rw [rowOf_len byc_len], ao, c, by rw [List.length_take, Nat.min_eq_left hk], by rw [List.length_take]; omega, h2, fun j u hu => hx j u ?_⟩
  have e : rowOf byc l = rowOf byc (l.take k) ++ rowOf byc (l.drop k) := by rw [← rowOf_append, List.take_append_drop]
  rw [e, List.getElem?_append_left (List.getElem?_eq_some_iff.1 hu).1]
  exact hu
theorem BArr.drop {w : World} {b o n c : Nat} {l : List Int} (h : BArr w (.slice (some ⟨b, o, none⟩) n c) l) (k : Nat) (hk : k ≤ l.length) : BArr w (.slice (some ⟨b, o + k, none⟩) (n - k) (c - k)) (l.drop k) := by
  obtain ⟨hl, ao', c', he, h1, h2, hx⟩ := h
  cases he
  refine ⟨by rw [rowOf_len byc_len], _, c - k, by rw [List.length_drop], by rw [List.length_drop]; omega, by omega, fun j u hu => ?_⟩
  have e : rowOf byc l = rowOf byc (l.take k) ++ rowOf byc (l.drop k) := by rw [← rowOf_append, List.take_append_drop]
  have hlt : (rowOf byc (l.take k)).length = k := by rw [rowOf_len byc_len, List.length_take]; omega
  obtain ⟨b', o', e1, hb, hc⟩ := hx (k + j) u (by rw [e, List.getElem?_append_right (by omega), hlt, Nat.add_sub_cancel_left]; exact hu)
  cases e1
  exact ⟨b, o + k, rfl, hb, by rw [Nat.add_assoc]; exact hc⟩
theorem BArr.empty {w : World} {ao : Option Addr} {c : Nat} (hc : c ≤ maxLen) : BArr w (.slice ao 0 c) [] := ⟨by simp [rowOf], ao, c, rfl, Nat.zero_le _, hc, fun j u hu => by simp [rowOf] at hu⟩
theorem BArr.shape {w : World} {v : Value} {l : List Int} (h : BArr w v l) : ∃ ao c, v = .slice ao l.length c ∧ l.length ≤ c ∧ c ≤ maxLen := Arr.shape h

theorem append_cmd {ops : Array Oper} {rest : List Oper} {o : Oper} {a : Act} {Q : Exit → Act → World → Prop} (hgd : o.guard = none) (s x : Operand) (w : World)
    (ho : o.op = .call { callee := .builtin .append, args := #[s, x], argTypes := #[26, 26] })
    (base : Nat) (v : Value) (L : List (Cm × Value)) (hs : a.eval s = v) (hC : Cmds w base v L) (c : Cm) (bv : Value) (hx : a.eval x = .slice (some ⟨w.heap.size, 0, none⟩) 1 1) (hL : L.length ≤ 1000000) (hbase : base ≤ w.heap.size)
    (hb : BArr w bv c.bytes) (hbv : ∃ ao n, bv = .slice ao n n) (hnew : ∀ a n c, bv = .slice (some a) n c → 0 < n → base ≤ a.block ∧ v.ownBlock ≠ some a.block ∧ ∀ j, w.frozen? ⟨a.block, j, none⟩ = false)
    (h : ∀ g cap w', Cmds w' base (.slice (some ⟨g, 0, none⟩) (L.length + 1) cap) (L ++ [(c, bv)]) → (∀ a : World, Below base a w → Below base a w') → wpList Try.prog ops Q rest (a.put o.dst (.slice (some ⟨g, 0, none⟩) (L.length + 1) cap)) w') :
    wpList Try.prog ops Q (o :: rest) a (w.alloc (.cells #[.int .u8 c.kind, .int .i64 c.conn, bv] 31)) := by
  obtain ⟨i0, hi, hz0, hz1, hz2⟩ := info_parts infoC
  refine wpList_append_lies _ hgd s x _ ho base 31 i0 _ 3 40 Try.underlying26 hi hz0 hz1 hz2 rfl (by omega) v L.length (rowOf cmc L) hs (hC.own.alloc _) ⟨w.heap.size, 0, none⟩ 1 1 (cmc (c, bv)) hx rfl
    (World.news_of_block (cs := (cmc (c, bv)).toArray) (t := 31) (fr := (0, 0)) (heap_alloc_new w _)) ?_ (by omega) (by unfold maxLen; omega) (by omega) (by simp; omega) (w.heap.size + 1) (by simp) ?_
  · obtain ⟨ao, n, rfl⟩ := hbv
    simp [Value.oneCell', cmc]
  · intro g cap w' hown hgr hat _
    exact h g cap w' (hC.snoc hgr hown hat hb hbv hnew) fun a0 hB => (hB.alloc hbase _).grown hgr (by simp; omega) fun k hk => (hC.own.lt k hk).1
theorem c_Clone2 (ao : Option Addr) (c : Nat) (l : List Int) (n : Nat) (hn' : n = l.length) (w : World) (hv : BArr w (.slice ao n c) l) (hn : ao ≠ none) (hl : n ≤ 1000000) :
    Calls Try.prog 18 #[.slice ao n c] w fun e w' => (∃ ao' cap, e = .returned (.slice ao' n cap) ∧ n ≤ cap ∧ cap ≤ maxLen ∧ (ao' = none → cap = 0) ∧ BArr w' (.slice ao' n n) l ∧ ∀ a, ao' = some a → w.heap.size ≤ a.block ∧ ∀ j, w'.frozen? ⟨a.block, j, none⟩ = false) ∧ Below w.heap.size w w' := by
  subst hn'
  refine (c_Clone ao c l w hv hn hl).mono ?_
  rintro e w' ⟨⟨v', rfl, hown⟩, hb⟩
  refine ⟨?_, hb⟩
  have hA := Arr.of_own hown
  rcases hown.2 with ⟨rfl, h0⟩ | ⟨g, cap, cur, rfl, hbg, _, hnc, hcm, _⟩
  · have hl0 : l = [] := List.eq_nil_of_length_eq_zero h0
    subst hl0
    exact ⟨none, 0, rfl, Nat.le_refl _, by unfold maxLen; omega, fun _ => rfl, hA.clip, fun a h => by cases h⟩
  · have hfz := hown.frozenAt
    exact ⟨_, cap, rfl, hnc, hcm, (fun h => by cases h), hA.clip, fun a h => by cases h; exact ⟨hbg, hfz⟩⟩
def sliceLen : Value → Nat | .slice _ n _ => n | _ => 0

set_option maxHeartbeats 4000000 in
theorem c_Parse (v : Value) (l : List Int) (w : World) (hv : BArr w v l) (hB : Bs l) (hl : l.length ≤ 1000000) :
    Calls Try.prog 10 #[v] w fun e w' => (∃ v' L, e = .returned v' ∧ L.map Prod.fst = csParse l ∧ CmOut w' w.heap.size v' L) ∧ Below w.heap.size w w' := by
  obtain ⟨ao, cp, rfl, hcp, hm⟩ := hv.shape
  have hlen := csParse_len l.length l (Nat.le_refl _)
  have HL := Lib.hid hl
  have hl2 : l.length ≤ 9223372036854775807 := by omega
  have HLen := Lib.hid hlen
  have hv0 : BArr w (.slice ao l.length l.length) l := Arr.clip hv
  clear hv hl hlen
  go_enter Try.func10, Try.ntmps10
  go_wp2
  go_loopw [3, 4] (fun vo left wr => ∃ (r : List Int) (L : List (Cm × Value)) (ao' : Option Addr), left = .slice ao' r.length r.length ∧ BArr w left r ∧ Bs r ∧ L.map Prod.fst ++ csParse r = csParse l ∧ r.length ≤ l.length ∧ Cmds wr w.heap.size vo L ∧ Below w.heap.size w wr) (fun _ left _ => sliceLen left)
  case atStart => exact ⟨l, [], ao, rfl, hv0, hB, rfl, Nat.le_refl _, Cmds.nil _ _, Below.refl _ _⟩
  case round =>
    obtain ⟨r, L, ao', rfl, hr, hBr, hpar, hrl, hC, hbel⟩ := hrel
    have hLl : L.length ≤ 1000000 := by
      have h1 := congrArg List.length hpar
      rw [List.length_append, List.length_map] at h1
      have := HLen.out
      have := HL.out
      omega
    have hbs := hbel.size
    have Hpar := Lib.hid hpar
    clear hpar hv0
    match r, hr, hBr, hrl, Hpar with
    | [], hr, hBr, hrl, Hpar =>
      have hfin : L.map Prod.fst = csParse l := by have := Hpar.out; rw [csParse_nil, List.append_nil] at this; exact this
      have HF := Lib.hid hfin
      clear hfin hr
      have hA := Arr.of_own hC.own
      rcases hC.own.2 with ⟨rfl, h0⟩ | ⟨g, cap, cur, rfl, hbg, hgg, hnc, hcm, _⟩
      · have hL0 : L = [] := List.eq_nil_of_length_eq_zero h0
        subst hL0
        go_wp2_with (go_at_call 19; refine (c_cClip none 0 0 _ (Nat.le_refl _) (by unfold maxLen; omega) (fun _ => rfl)).mono ?_; rintro e w1 ⟨rfl, rfl⟩)
        go_ret
        exact ⟨⟨_, [], rfl, HF.out, hC.out0⟩, hbel⟩
      · have hCl := Lib.hid (hC.out hbg)
        clear hgg hA hC
        go_wp2_with (go_at_call 19; refine (c_cClip _ _ _ _ hnc hcm (fun h => by cases h)).mono ?_; rintro e w1 ⟨rfl, rfl⟩)
        go_ret
        exact ⟨⟨_, L, rfl, HF.out, Hid.out hCl⟩, hbel⟩
    | z :: r1, hr, hBr, hrl, Hpar =>
      have hz := hBr z (by simp)
      have hBr1 : Bs r1 := fun y hy => hBr y (by simp [hy])
      obtain ⟨b, o, c', he, -, -, hb, hx⟩ := Arr.open hr (by simp) (by omega)
      cases he
      have z0' := byc_cell hx 0 (by simp)
      simp only [Nat.add_zero, List.getElem_cons_zero] at z0'
      have z0 := (hbel.cell (p := ⟨b, o, none⟩) hb).trans z0'
      clear z0'
      have hr1 := BArr.rest hr
      have hlm : r1.length + 1 ≤ 1000001 := by have := HL.out; simp at hrl; omega
      simp only [List.length_cons] at hr1 hrl ⊢
      have e1 : r1.length + 1 - 1 = r1.length := by omega
      rw [e1] at hr1
      clear hr hx hBr e1
      by_cases h192 : 192 ≤ z
      · have hP := Lib.hid (show (L ++ [((⟨2, 0, []⟩ : Cm), Value.slice none 0 0)]).map Prod.fst ++ csParse r1 = csParse l by rw [← Hpar.out, csParse_tick h192]; simp)
        rcases Nat.eq_zero_or_pos r1.length with hn | hn
        · obtain rfl := List.eq_nil_of_length_eq_zero hn
          clear hn hr1
          go_wp2_with (at_builtin; refine append_cmd rfl _ _ _ rfl w.heap.size _ L rfl hC ⟨2, 0, []⟩ (.slice none 0 0) rfl hLl hbs (barr_nil _) ⟨none, 0, rfl⟩ (fun a n c h => by cases h) ?_; intro g cap w1 hC1 hb1)
          go_roundw
          case rel => exact ⟨[], _, _, rfl, BArr.empty (by unfold maxLen; omega), hBr1, hP.out, by simp, hC1, hb1 _ hbel⟩
          case measure => simp [sliceLen]
        · have hn1 : ¬ r1.length + 1 = 1 := by omega
          have hn2 : ¬ r1.length = 0 := by omega
          go_wp2_with (at_builtin; refine append_cmd rfl _ _ _ rfl w.heap.size _ L rfl hC ⟨2, 0, []⟩ (.slice none 0 0) rfl hLl hbs (barr_nil _) ⟨none, 0, rfl⟩ (fun a n c h => by cases h) ?_; intro g cap w1 hC1 hb1)
          go_roundw
          case rel => exact ⟨r1, _, _, rfl, hr1, hBr1, hP.out, by omega, hC1, hb1 _ hbel⟩
          case measure => simp [sliceLen]
      · by_cases h64 : 64 ≤ z
        · have hP := Lib.hid (show (L ++ [((⟨1, z % 64, []⟩ : Cm), Value.slice none 0 0)]).map Prod.fst ++ csParse r1 = csParse l by rw [← Hpar.out, csParse_pick h64 (by omega)]; simp)
          have h192' : z < 192 := by omega
          clear h192
          rcases Nat.eq_zero_or_pos r1.length with hn | hn
          · obtain rfl := List.eq_nil_of_length_eq_zero hn
            clear hn hr1
            go_wp2_with (at_builtin; refine append_cmd rfl _ _ _ rfl w.heap.size _ L rfl hC ⟨1, z % 64, []⟩ (.slice none 0 0) rfl hLl hbs (barr_nil _) ⟨none, 0, rfl⟩ (fun a n c h => by cases h) ?_; intro g cap w1 hC1 hb1)
            go_roundw
            case rel => exact ⟨[], _, _, rfl, BArr.empty (by unfold maxLen; omega), hBr1, hP.out, by simp, hC1, hb1 _ hbel⟩
            case measure => simp [sliceLen]
          · have hn1 : ¬ r1.length + 1 = 1 := by omega
            have hn2 : ¬ r1.length = 0 := by omega
            go_wp2_with (at_builtin; refine append_cmd rfl _ _ _ rfl w.heap.size _ L rfl hC ⟨1, z % 64, []⟩ (.slice none 0 0) rfl hLl hbs (barr_nil _) ⟨none, 0, rfl⟩ (fun a n c h => by cases h) ?_; intro g cap w1 hC1 hb1)
            go_roundw
            case rel => exact ⟨r1, _, _, rfl, hr1, hBr1, hP.out, by omega, hC1, hb1 _ hbel⟩
            case measure => simp [sliceLen]
        · have hz64 : z < 64 := by omega
          clear h192 h64
          have hlw : b < wr.heap.size := Nat.lt_of_lt_of_le hb hbs
          match r1, hr1, hBr1, hrl, hlm, Hpar with
          | [], hr1, hBr1, hrl, hlm, Hpar =>
            have hemp : BArr wr (.slice (some ⟨b, o, none⟩) 0 0) [] := BArr.empty (by unfold maxLen; omega)
            have hcl := Lib.hid (c_Clone2 (some ⟨b, o, none⟩) 0 [] 0 rfl wr hemp (by simp) (by omega))
            clear hemp hr1
            go_wp2_with (first | (go_at_call 18; refine (hcl.out).mono ?_; rintro e w2 ⟨⟨ao2, cap2, rfl, k1, k2, k3, hB2, hF2⟩, hb2⟩; have hC2 := hC.below hb2; have hbel2 := hbel.trans (hb2.mono hbs); have hbs2 := Nat.le_trans hbs hb2.size; have HN := Lib.hid (clone_new hC.own hbs hF2); clear hF2) | (go_at_call 17; refine (c_bClip _ _ _ _ k1 k2 k3).mono ?_; rintro e w3 ⟨rfl, rfl⟩) | (at_builtin; refine append_cmd rfl _ _ _ rfl w.heap.size _ L rfl hC2 ⟨0, z, []⟩ (.slice ao2 0 0) rfl hLl hbs2 hB2 ⟨ao2, 0, rfl⟩ (fun a n c h h0 => by cases h; exact absurd h0 (by omega)) ?_; intro g cap w1 hC1 hb1))
            go_roundw
            case rel => exact ⟨[], _, _, rfl, BArr.empty (by unfold maxLen; omega), hBr1, by rw [← Hpar.out, csParse_last hz64, csParse_nil]; simp, by simp, hC1, hb1 _ hbel2⟩
            case measure => simp [sliceLen]
          | y :: r2, hr1, hBr1, hrl, hlm, Hpar =>
            have hy := hBr1 y (by simp)
            have hBr2 : Bs r2 := fun u hu => hBr1 u (by simp [hu])
            obtain ⟨_, _, _, he, -, -, -, hx1⟩ := Arr.open hr1 (by simp) (by omega)
            cases he
            have y0' := byc_cell hx1 0 (by simp)
            simp only [Nat.add_zero, List.getElem_cons_zero] at y0'
            have y0 := (hbel.cell (p := ⟨b, o + 1, none⟩) hb).trans y0'
            have hr2 := BArr.rest hr1
            simp only [List.length_cons] at hr2 hrl hlm ⊢
            rw [show r2.length + 1 - 1 = r2.length by omega] at hr2
            obtain ⟨yn, rfl⟩ := Int.eq_ofNat_of_zero_le hy.1
            have hpar2 := Hpar.out
            rw [csParse_feed hz64, Int.toNat_natCast] at hpar2
            have Hpar2 := Lib.hid hpar2
            clear y0' hx1 hr1 hpar2 hBr1
            rcases Nat.eq_zero_or_pos r2.length with hn | hn
            · obtain rfl := List.eq_nil_of_length_eq_zero hn
              have hemp : BArr wr (.slice (some ⟨b, o + 1, none⟩) 0 0) [] := BArr.empty (by unfold maxLen; omega)
              have hcl := Lib.hid (c_Clone2 (some ⟨b, o + 1, none⟩) 0 [] 0 rfl wr hemp (by simp) (by omega))
              have hpar3 : (L ++ [((⟨0, z, []⟩ : Cm), Value.slice none 0 0)]).map Prod.fst ++ csParse [] = csParse l := by rw [← Hpar2.out]; simp
              have HP3 := Lib.hid hpar3
              clear hemp hr2 hn hpar3
              rcases Nat.eq_zero_or_pos yn with h0 | h0
              · subst h0
                have y0 : wr.cell? ⟨b, o + 1, none⟩ = some (.int .u8 0) := y0
                go_wp2_with (first | (go_at_call 18; refine (hcl.out).mono ?_; rintro e w2 ⟨⟨ao2, cap2, rfl, k1, k2, k3, hB2, hF2⟩, hb2⟩; have hC2 := hC.below hb2; have hbel2 := hbel.trans (hb2.mono hbs); have hbs2 := Nat.le_trans hbs hb2.size; have HN := Lib.hid (clone_new hC.own hbs hF2); clear hF2) | (go_at_call 17; refine (c_bClip _ _ _ _ k1 k2 k3).mono ?_; rintro e w3 ⟨rfl, rfl⟩) | (at_builtin; refine append_cmd rfl _ _ _ rfl w.heap.size _ L rfl hC2 ⟨0, z, []⟩ (.slice ao2 0 0) rfl hLl hbs2 hB2 ⟨ao2, _, rfl⟩ (HN.out _) ?_; intro g cap w1 hC1 hb1))
                all_goals
                  go_roundw
                  case rel => exact ⟨[], _, _, rfl, BArr.empty (by unfold maxLen; omega), hBr2, by rw [← HP3.out]; simp, by simp, hC1, hb1 _ hbel2⟩
                  case measure => simp [sliceLen] <;> omega
              · have hy1 : (0 : Int) < (yn : Int) := by omega
                have hy2 : ¬ (yn : Int) ≤ 0 := by omega
                go_wp2_with (first | (go_at_call 18; refine (hcl.out).mono ?_; rintro e w2 ⟨⟨ao2, cap2, rfl, k1, k2, k3, hB2, hF2⟩, hb2⟩; have hC2 := hC.below hb2; have hbel2 := hbel.trans (hb2.mono hbs); have hbs2 := Nat.le_trans hbs hb2.size; have HN := Lib.hid (clone_new hC.own hbs hF2); clear hF2) | (go_at_call 17; refine (c_bClip _ _ _ _ k1 k2 k3).mono ?_; rintro e w3 ⟨rfl, rfl⟩) | (at_builtin; refine append_cmd rfl _ _ _ rfl w.heap.size _ L rfl hC2 ⟨0, z, []⟩ (.slice ao2 0 0) rfl hLl hbs2 hB2 ⟨ao2, _, rfl⟩ (HN.out _) ?_; intro g cap w1 hC1 hb1))
                all_goals
                  go_roundw
                  case rel => exact ⟨[], _, _, rfl, BArr.empty (by unfold maxLen; omega), hBr2, by rw [← HP3.out]; simp, by simp, hC1, hb1 _ hbel2⟩
                  case measure => simp [sliceLen] <;> omega
            · have hn1 : ¬ r2.length + 1 = 1 := by omega
              have hn2 : ¬ r2.length = 0 := by omega
              have hr2w : BArr wr (.slice (some ⟨b, o + 1 + 1, none⟩) r2.length r2.length) r2 := by
                obtain ⟨hl, ao', c', he, h1, h2, hx⟩ := hr2
                cases he
                exact ⟨hl, _, _, rfl, h1, h2, fun j u hu => by obtain ⟨b', o', e1, h3, h4⟩ := hx j u hu; cases e1; exact ⟨b, o + 1 + 1, rfl, hlw, (hbel.cell (p := ⟨b, o + 1 + 1 + j, none⟩) hb).trans h4⟩⟩
              rcases Nat.lt_or_ge yn r2.length with hlt | hge
              · have hcl := Lib.hid (c_Clone2 (some ⟨b, o + 1 + 1, none⟩) r2.length (r2.take yn) yn (by rw [List.length_take]; omega) wr (BArr.take hr2w yn (by omega)) (by simp) (by omega))
                have hlen3 : (r2.drop yn).length = r2.length - yn := List.length_drop
                have hd := hr2.drop yn (by omega)
                have _u := trivial
                have HD := Lib.hid hd
                have HL3 := Lib.hid hlen3
                have hP3 : ∀ bv, (L ++ [((⟨0, z, r2.take yn⟩ : Cm), bv)]).map Prod.fst ++ csParse (r2.drop yn) = csParse l := by intro bv; rw [← Hpar2.out]; simp
                have HP3 := Lib.hid hP3
                have hy1 : (yn : Int) < (r2.length : Int) := by omega
                have hy3 : ¬ r2.length = yn := by omega
                clear hr2w hr2 hd hlen3 hP3
                go_wp2_with (first | (go_at_call 18; refine (hcl.out).mono ?_; rintro e w2 ⟨⟨ao2, cap2, rfl, k1, k2, k3, hB2, hF2⟩, hb2⟩; have hC2 := hC.below hb2; have hbel2 := hbel.trans (hb2.mono hbs); have hbs2 := Nat.le_trans hbs hb2.size; have HN := Lib.hid (clone_new hC.own hbs hF2); clear hF2) | (go_at_call 17; refine (c_bClip _ _ _ _ k1 k2 k3).mono ?_; rintro e w3 ⟨rfl, rfl⟩) | (at_builtin; refine append_cmd rfl _ _ _ rfl w.heap.size _ L rfl hC2 ⟨0, z, r2.take yn⟩ (.slice ao2 yn yn) rfl hLl hbs2 hB2 ⟨ao2, _, rfl⟩ (HN.out _) ?_; intro g cap w1 hC1 hb1))
                all_goals
                  go_roundw
                  case rel => exact ⟨r2.drop yn, _, _, by rw [HL3.out], HD.out, fun u hu => hBr2 u (List.mem_of_mem_drop hu), HP3.out _, by rw [HL3.out]; omega, hC1, hb1 _ hbel2⟩
                  case measure => simp [sliceLen] <;> omega
              · have hcl := Lib.hid (c_Clone2 (some ⟨b, o + 1 + 1, none⟩) r2.length r2 r2.length rfl wr hr2w (by simp) (by omega))
                have hP3 : ∀ bv, (L ++ [((⟨0, z, r2⟩ : Cm), bv)]).map Prod.fst ++ csParse [] = csParse l := by intro bv; rw [← Hpar2.out, List.take_of_length_le hge, List.drop_eq_nil_of_le hge]; simp
                have HP3 := Lib.hid hP3
                clear hr2w hr2 hP3
                rcases Nat.lt_or_ge r2.length yn with hlt | hle
                · have hy1 : (r2.length : Int) < (yn : Int) := by omega
                  clear hge
                  go_wp2_with (first | (go_at_call 18; refine (hcl.out).mono ?_; rintro e w2 ⟨⟨ao2, cap2, rfl, k1, k2, k3, hB2, hF2⟩, hb2⟩; have hC2 := hC.below hb2; have hbel2 := hbel.trans (hb2.mono hbs); have hbs2 := Nat.le_trans hbs hb2.size; have HN := Lib.hid (clone_new hC.own hbs hF2); clear hF2) | (go_at_call 17; refine (c_bClip _ _ _ _ k1 k2 k3).mono ?_; rintro e w3 ⟨rfl, rfl⟩) | (at_builtin; refine append_cmd rfl _ _ _ rfl w.heap.size _ L rfl hC2 ⟨0, z, r2⟩ (.slice ao2 r2.length r2.length) rfl hLl hbs2 hB2 ⟨ao2, _, rfl⟩ (HN.out _) ?_; intro g cap w1 hC1 hb1))
                  all_goals
                    go_roundw
                    case rel => exact ⟨[], _, _, rfl, BArr.empty (by unfold maxLen; omega), (fun u hu => by cases hu), HP3.out _, by simp, hC1, hb1 _ hbel2⟩
                    case measure => simp [sliceLen] <;> omega
                · obtain rfl : yn = r2.length := by omega
                  clear hge hle
                  go_wp2_with (first | (go_at_call 18; refine (hcl.out).mono ?_; rintro e w2 ⟨⟨ao2, cap2, rfl, k1, k2, k3, hB2, hF2⟩, hb2⟩; have hC2 := hC.below hb2; have hbel2 := hbel.trans (hb2.mono hbs); have hbs2 := Nat.le_trans hbs hb2.size; have HN := Lib.hid (clone_new hC.own hbs hF2); clear hF2) | (go_at_call 17; refine (c_bClip _ _ _ _ k1 k2 k3).mono ?_; rintro e w3 ⟨rfl, rfl⟩) | (at_builtin; refine append_cmd rfl _ _ _ rfl w.heap.size _ L rfl hC2 ⟨0, z, r2⟩ (.slice ao2 r2.length r2.length) rfl hLl hbs2 hB2 ⟨ao2, _, rfl⟩ (HN.out _) ?_; intro g cap w1 hC1 hb1))
                  all_goals
                    go_roundw
                    case rel => exact ⟨[], _, _, rfl, BArr.empty (by unfold maxLen; omega), (fun u hu => by cases hu), HP3.out _, by simp, hC1, hb1 _ hbel2⟩
                    case measure => simp [sliceLen] <;> omega
end Go.Proofs.Ytcgobgegoflckaa
