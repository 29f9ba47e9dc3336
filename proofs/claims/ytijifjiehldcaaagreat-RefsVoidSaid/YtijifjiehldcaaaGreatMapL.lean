/- Over any program: a map of numbers (uint64) to pointers, as a list; what a lookup and a store of an entry do. -/
import Derived.Test.YtijifjiehldcaaaGreatMem
import Derived.Maps.Own
namespace Go.Proofs.YtijifjiehldcaaaGreat
set_option linter.unusedSimpArgs false
open Go.RowKit Go.ChangeMaps Go.MapKept
set_option linter.unusedVariables false

def entL (x : Int × Nat) : Value × Value := (.int .u64 x.1, .pointer (some ⟨x.2, 0, none⟩))
/-- Block m is a map that holds these entries. -/
def MapL (w : World) (m : Nat) (L : List (Int × Nat)) : Prop :=
  ∃ es clk, w.heap[m]? = some (.map es clk) ∧ es.toList.map (fun e => (e.key, e.val)) = L.map entL ∧ (∀ e ∈ es.toList, e.born < clk) ∧ (es.toList.map (·.born)).Nodup
def lookL (L : List (Int × Nat)) (a : Int) : Option Nat := (L.find? fun x => x.1 == a).map Prod.snd
def ptrL : Option Nat → Value
  | some b => .pointer (some ⟨b, 0, none⟩)
  | none => .pointer none
theorem MapL.lt {w : World} {m : Nat} {L : List (Int × Nat)} (h : MapL w m L) : m < w.heap.size := by
  obtain ⟨es, clk, hb, _⟩ := h
  exact (Array.getElem?_eq_some_iff.1 hb).1
theorem MapL.block {w w' : World} {m : Nat} {L : List (Int × Nat)} (h : MapL w m L) (hb : w'.heap[m]? = w.heap[m]?) : MapL w' m L := by
  obtain ⟨es, clk, h1, h2⟩ := h
  exact ⟨es, clk, hb.trans h1, h2⟩
theorem findNow_spec (a : Int) : ∀ (es : List MapEntry) (L : List (Int × Nat)) (i : Nat), es.map (fun e => (e.key, e.val)) = L.map entL →
    Instr.findNow (.int .u64) (.int .u64 a) es i = some ((lookL L a).map fun b => (i + (L.findIdx fun x => x.1 == a), Value.pointer (some ⟨b, 0, none⟩))) := by
  intro es
  induction es with
  | nil =>
    intro L i h
    cases L with
    | nil => rfl
    | cons x L => simp at h
  | cons e es ih =>
    intro L i h
    cases L with
    | nil => simp at h
    | cons x L =>
      simp only [List.map_cons, List.cons.injEq, entL, Prod.mk.injEq] at h
      obtain ⟨⟨hk, hv⟩, h⟩ := h
      unfold Instr.findNow
      rw [hk, hv]
      by_cases hx : a = x.1
      · have e1 : (a == x.1) = true := by simp [hx]
        have e2 : (x.1 == a) = true := by simp [hx]
        simp [Instr.sameNow, e1, lookL, List.find?_cons, e2, List.findIdx_cons]
      · have e1 : (a == x.1) = false := by simp [hx]
        have e2 : (x.1 == a) = false := by simp; exact fun h => hx h.symm
        have := ih L (i + 1) h
        simp only [Instr.sameNow, e1, if_true, this]
        have e3 : i + 1 + List.findIdx (fun x => x.1 == a) L = i + (List.findIdx (fun x => x.1 == a) L + 1) := by omega
        rw [e3]
        simp [lookL, List.find?_cons, e2, List.findIdx_cons]
section
variable {P : Program} {w : World} {T kt et : TypeId} {m : Nat} {L : List (Int × Nat)}
theorem run_findKey (hk : P.underlying kt = some (.int .u64)) {es : List MapEntry} (h : es.map (fun e => (e.key, e.val)) = L.map entL) (a : Int) :
    (Instr.findKey kt (.int .u64 a) es).run P w = .ok ((lookL L a).map fun b => ((L.findIdx fun x => x.1 == a), Value.pointer (some ⟨b, 0, none⟩))) w := by
  have := findNow_spec a es L 0 h
  simp [Instr.findKey, run_underlying hk, this, Result.andThen]
theorem run_checkKey (hk : P.underlying kt = some (.int .u64)) (b : Bool) (n : Nat) (a : Int) : (Instr.checkKey b (n + 1) kt (.int .u64 a)).run P w = .ok () w := by
  simp [Instr.checkKey, run_underlying hk, Result.andThen]
theorem MapL.run_lookup (h : MapL w m L) (hT : P.underlying T = some (.map kt et)) (hk : P.underlying kt = some (.int .u64)) (hz : (zeroValue et).run P w = .ok (.pointer none) w) (a : Int) :
    (Instr.lookup T (.map (some m)) (.int .u64 a) false).run P w = .ok (ptrL (lookL L a)) w := by
  obtain ⟨es, clk, hb, he, hbn, hnd⟩ := h
  cases hl : lookL L a with
  | none => simp [Instr.lookup, run_underlying hT, MapKept.run_getObj_map hb, run_checkKey hk, run_findKey hk he, hl, hz, ptrL, Result.andThen]
  | some b => simp [Instr.lookup, run_underlying hT, MapKept.run_getObj_map hb, run_checkKey hk, run_findKey hk he, hl, hz, ptrL, Result.andThen]
theorem run_lookup_nil (hT : P.underlying T = some (.map kt et)) (hk : P.underlying kt = some (.int .u64)) (hz : (zeroValue et).run P w = .ok (.pointer none) w) (a : Int) :
    (Instr.lookup T (.map none) (.int .u64 a) false).run P w = .ok (.pointer none) w := by
  have := run_findKey (w := w) (L := []) hk (es := []) rfl a
  simp [Instr.lookup, run_underlying hT, run_checkKey hk, this, lookL, hz, Result.andThen]
/-- 'm[a] = p' of a new key. -/
theorem MapL.update (h : MapL w m L) (hT : P.underlying T = some (.map kt et)) (hk : P.underlying kt = some (.int .u64)) (a : Int) (b : Nat) (hn : lookL L a = none) :
    ∃ w', (Instr.mapUpdate T (.map (some m)) (.int .u64 a) (.pointer (some ⟨b, 0, none⟩))).run P w = .ok () w' ∧ MapL w' m (L ++ [(a, b)]) ∧ w.grownBy w' (some m) := by
  obtain ⟨es, clk, hb, he, hbn, hnd⟩ := h
  refine ⟨setBlock w m (.map (es.push { key := .int .u64 a, val := .pointer (some ⟨b, 0, none⟩), born := clk }) (clk + 1)), ?_, ⟨_, _, heap_setBlock_same hb _, ?_, ?_, ?_⟩, ⟨rfl, rfl, rfl, by simp [setBlock], fun i _ hi => heap_setBlock_other hb _ (fun e => hi (by rw [e]))⟩⟩
  · simp [Instr.mapUpdate, run_underlying hT, MapKept.run_getObj_map hb, run_checkKey hk, run_findKey hk he, hn, MapKept.run_setObj_map _ hb, setBlock, Result.andThen]
  · simp [he, entL]
  · intro e hm
    rw [Array.toList_push, List.mem_append] at hm
    rcases hm with hm | hm
    · exact Nat.lt_succ_of_lt (hbn e hm)
    · rw [List.mem_singleton] at hm
      subst hm
      exact Nat.lt_succ_self _
  · rw [Array.toList_push, List.map_append]
    refine List.nodup_append.2 ⟨hnd, by simp, ?_⟩
    intro a ha b hb' hab
    obtain ⟨e, hm, rfl⟩ := List.mem_map.1 ha
    have := hbn e hm
    simp at hb'
    omega
end
theorem wpList_mapUpdate_L {P : Program} (w : World) {ops : Array Oper} {rest : List Oper} {o : Oper} {a : Act} {Q : Exit → Act → World → Prop} (hg : o.guard = none) (m x v : Operand) (T : TypeId) (hop : o.op = Op.mapUpdate T m x v)
    (kt et : TypeId) (hT : P.underlying T = some (.map kt et)) (hk : P.underlying kt = some (.int .u64)) (r : Nat) (L : List (Int × Nat)) (hm : a.eval m = .map (some r)) (h : MapL w r L) (z : Int) (b : Nat) (hx : a.eval x = .int .u64 z) (hv : a.eval v = .pointer (some ⟨b, 0, none⟩)) (hn : lookL L z = none)
    (hK : ∀ w', MapL w' r (L ++ [(z, b)]) → w.grownBy w' (some r) → wpList P ops Q rest (a.put o.dst undef) w') :
    wpList P ops Q (o :: rest) a w := by
  refine wpList_plain hg fun K' hK' => ?_
  obtain ⟨w', hrun, r1, r2⟩ := h.update hT hk z b hn
  unfold Oper.wp
  simp [execOp, hop, hm, hx, hv, hrun, Result.andThen]
  exact hK' _ _ (hK w' r1 r2)
end Go.Proofs.YtijifjiehldcaaaGreat
