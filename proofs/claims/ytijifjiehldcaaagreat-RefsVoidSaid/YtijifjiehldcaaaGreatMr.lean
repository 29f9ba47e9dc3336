/- Over any program: a range over a map of numbers to pointers, as lists: what is still to come. -/
import Derived.Test.YtijifjiehldcaaaGreatMapL
import Derived.Maps.RangeRun
namespace Go.Proofs.YtijifjiehldcaaaGreat
set_option linter.unusedSimpArgs false
open Go.RowKit Go.ChangeMaps Go.MapKept
set_option linter.unusedVariables false

def decV : Value → Value → Int × Nat
  | .int _ z, .pointer (some a) => (z, a.block)
  | _, _ => (0, 0)
def decE (e : MapEntry) : Int × Nat := decV e.key e.val
theorem decE_of {e : MapEntry} {x : Int × Nat} (h : (e.key, e.val) = entL x) : decE e = x := by
  have h1 := congrArg Prod.fst h
  have h2 := congrArg Prod.snd h
  unfold decE
  rw [show e.key = (entL x).1 from h1, show e.val = (entL x).2 from h2]
  rfl
theorem entL_dec {E : List MapEntry} {L : List (Int × Nat)} (h : E.map (fun e => (e.key, e.val)) = L.map entL) {e : MapEntry} (he : e ∈ E) : (e.key, e.val) = entL (decE e) := by
  have : (e.key, e.val) ∈ L.map entL := by rw [← h]; exact List.mem_map.2 ⟨e, he, rfl⟩
  obtain ⟨x, _, hx⟩ := List.mem_map.1 this
  rw [decE_of hx.symm, hx]
theorem dec_map {E : List MapEntry} {L : List (Int × Nat)} (h : E.map (fun e => (e.key, e.val)) = L.map entL) : E.map decE = L := by
  induction E generalizing L with
  | nil => cases L with
    | nil => rfl
    | cons x L => simp at h
  | cons e E ih => cases L with
    | nil => simp at h
    | cons x L =>
      simp only [List.map_cons, List.cons.injEq] at h ⊢
      exact ⟨decE_of h.1, ih h.2⟩
theorem perm_pick (e : MapEntry) : ∀ (F : List MapEntry), (F.map (·.born)).Nodup → e ∈ F → F.Perm (e :: F.filter fun x => !(x.born == e.born))
  | y :: F, hn, he => by
    have hn' : y.born ∉ F.map (·.born) ∧ (F.map (·.born)).Nodup := List.nodup_cons.1 hn
    rcases List.mem_cons.1 he with rfl | h
    · have hf : (e :: F).filter (fun x => !(x.born == e.born)) = F := by
        rw [List.filter_cons_of_neg (by simp)]
        refine List.filter_eq_self.2 fun x hx => ?_
        have : x.born ≠ e.born := fun hc => hn'.1 (List.mem_map.2 ⟨x, hx, hc⟩)
        simp [this]
      rw [hf]
    · have hy : y.born ≠ e.born := fun hc => hn'.1 (by rw [hc]; exact List.mem_map.2 ⟨e, h, rfl⟩)
      rw [List.filter_cons_of_pos (by simp [hy])]
      exact ((perm_pick e F hn'.2 h).cons y).trans (List.Perm.swap _ _ _)
/-- Block r is an iterator over the map in block m, that holds L; 'left' is still to come. -/
def Rg (w : World) (m r : Nat) (L left : List (Int × Nat)) : Prop :=
  ∃ es clk since c0 seen, w.heap[m]? = some (.map es clk) ∧ es.toList.map (fun e => (e.key, e.val)) = L.map entL ∧ (es.toList.map (·.born)).Nodup ∧ w.heap[r]? = some (.mapIter (some m) since seen c0) ∧ (∀ e ∈ es.toList, e.born < since) ∧ since ≤ c0 ∧ since ≤ clk ∧ left = (es.toList.filter fun e => !seen.contains e.born).map decE
section
variable {P : Program} {w w' : World} {m r : Nat} {L left : List (Int × Nat)}
theorem Rg.start (h : MapL w m L) {t kt et : TypeId} (ht : P.underlying t = some (.map kt et)) :
    ∃ w', (Instr.range t (.map (some m))).run P w = .ok (.pointer (some ⟨w.heap.size, 0, none⟩)) w' ∧ Rg w' m w.heap.size L L ∧ Below w.heap.size w w' ∧ w'.heap.size = w.heap.size + 1 := by
  have hlt := h.lt
  obtain ⟨es, clk, hb, he, hbn, hnd⟩ := h
  refine ⟨w.alloc (.mapIter (some m) clk #[] clk), run_range_map w t kt et m es clk ht hb, ⟨es, clk, clk, clk, #[], ?_, he, hnd, heap_alloc_new w _, hbn, Nat.le_refl _, Nat.le_refl _, ?_⟩, (Below.refl _ _).alloc (Nat.le_refl _) _, by simp⟩
  · rw [heap_alloc_old w _ hlt, hb]
  · have : es.toList.filter (fun e => !(#[] : Array Nat).contains e.born) = es.toList := List.filter_eq_self.2 fun x _ => by simp
    rw [this, dec_map he]
theorem Rg.keep (h : Rg w m r L left) (hm : w'.heap[m]? = w.heap[m]?) (hr : w'.heap[r]? = w.heap[r]?) : Rg w' m r L left := by
  obtain ⟨es, clk, since, c0, seen, h1, h2, h3, h4, h5, h6, h8, h7⟩ := h
  exact ⟨es, clk, since, c0, seen, hm.trans h1, h2, h3, hr.trans h4, h5, h6, h8, h7⟩
theorem Rg.lt (h : Rg w m r L left) : m < w.heap.size ∧ r < w.heap.size := by
  obtain ⟨es, clk, since, c0, seen, h1, h2, h3, h4, h5, h6, h7⟩ := h
  exact ⟨(Array.getElem?_eq_some_iff.1 h1).1, (Array.getElem?_eq_some_iff.1 h4).1⟩
theorem setBlock_grown {o o' : Obj} {w1 : World} (h1 : w1 = w ∨ w1 = w.drew) (hr : w.heap[r]? = some o) : w.grownBy (setBlock w1 r o') (some r) ∧ (setBlock w1 r o').heap.size = w.heap.size ∧ (setBlock w1 r o').heap[r]? = some o' ∧ ∀ k, k ≠ r → (setBlock w1 r o').heap[k]? = w.heap[k]? := by
  have hz : w1.heap = w.heap := by rcases h1 with rfl | rfl <;> rfl
  have hlt := (Array.getElem?_eq_some_iff.1 hr).1
  have hk : ∀ k, k ≠ r → (setBlock w1 r o').heap[k]? = w.heap[k]? := fun k hne => by
    show (w1.heap.setIfInBounds r o')[k]? = _
    rw [hz, Array.getElem?_setIfInBounds_ne (Ne.symm hne)]
  refine ⟨⟨by rcases h1 with rfl | rfl <;> rfl, by rcases h1 with rfl | rfl <;> rfl, by rcases h1 with rfl | rfl <;> rfl, ?_, fun k _ hne => hk k fun e => hne (by rw [e])⟩, ?_, ?_, hk⟩
  · show w.heap.size ≤ (w1.heap.setIfInBounds r o').size
    rw [hz]; simp
  · show (w1.heap.setIfInBounds r o').size = _
    rw [hz]; simp
  · show (w1.heap.setIfInBounds r o')[r]? = _
    rw [hz, Array.getElem?_setIfInBounds_self_of_lt hlt]
theorem Rg.next (h : Rg w m r L left) (hne : m ≠ r) (ty : TypeId) :
    (left = [] ∧ (Instr.next (.pointer (some ⟨r, 0, none⟩)) false ty).run P w = .ok (.tuple #[.bool false]) w) ∨
    ∃ x left' w', left.Perm (x :: left') ∧ (Instr.next (.pointer (some ⟨r, 0, none⟩)) false ty).run P w = .ok (.tuple #[.bool true, .int .u64 x.1, .pointer (some ⟨x.2, 0, none⟩)]) w' ∧ Rg w' m r L left' ∧ (Instr.entry (.pointer (some ⟨r, 0, none⟩))).run P w' = .ok (.tuple #[.int .u64 x.1, .pointer (some ⟨x.2, 0, none⟩)]) w' ∧ w.grownBy w' (some r) ∧ w'.heap.size = w.heap.size := by
  obtain ⟨es, clk, since, c0, seen, h1, h2, h3, h4, h5, h6, h8, rfl⟩ := h
  have hle : (leftOf es seen).toList = es.toList.filter fun e => !seen.contains e.born := by unfold leftOf; rw [Array.toList_filter]
  rcases run_next_at (P := P) w ty r m since c0 seen es clk h4 h1 h5 h6 with ⟨hz, hrun⟩ | ⟨e, he, w1, hw1, hrun⟩
  · left
    refine ⟨?_, hrun⟩
    have : (leftOf es seen).toList = [] := by rw [Array.eq_empty_of_size_eq_zero hz]
    rw [← hle, this]
    rfl
  · right
    have heE : e ∈ es.toList := (mem_left he).1
    have hen := entL_dec h2 heE
    have hk : e.key = .int .u64 (decE e).1 := congrArg Prod.fst hen
    have hv : e.val = .pointer (some ⟨(decE e).2, 0, none⟩) := congrArg Prod.snd hen
    obtain ⟨g1, g2, g3, g4⟩ := setBlock_grown (o' := .mapIter (some m) since (seen.push e.born) clk) hw1 h4
    have hm2 := (g4 m hne).trans h1
    rw [hle] at he
    have hpk := perm_pick e _ (List.Nodup.sublist ((List.filter_sublist (l := es.toList) (p := fun e => !seen.contains e.born)).map (·.born)) h3) he
    refine ⟨decE e, ((es.toList.filter fun e => !seen.contains e.born).filter fun x => !(x.born == e.born)).map decE, _, by simpa using hpk.map decE, by rw [← hk, ← hv]; exact hrun, ⟨es, clk, since, clk, seen.push e.born, hm2, h2, h3, g3, h5, h8, h8, ?_⟩, by rw [← hk, ← hv]; exact run_entry_at _ r m since seen es clk e g3 hm2 heE h3, g1, g2⟩
    rw [List.filter_filter]
    congr 1
    refine List.filter_congr fun x _ => ?_
    rw [contains_push]
    cases seen.contains x.born <;> cases x.born == e.born <;> rfl
end
end Go.Proofs.YtijifjiehldcaaaGreat
