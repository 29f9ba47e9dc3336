/- Layer 5: Words of cells, whole: what it hands back, by the document's list. -/
import Derived.Test.YtijifjiehldcaaaGreatWs
namespace Go.Proofs.YtijifjiehldcaaaGreat
set_option linter.unusedSimpArgs false
open Go.RowKit Go.Shelf Go.Lib Go.Sort
set_option linter.unusedVariables false

def nz (M : Int → Int) (l : List (Int × Nat)) : List Int := (l.map Prod.fst).filter fun a => decide (M a ≠ 0)
theorem nz_snoc_pos {M : Int → Int} {l : List (Int × Nat)} {x : Int × Nat} (h : M x.1 ≠ 0) : nz M (l ++ [x]) = nz M l ++ [x.1] := by
  unfold nz
  rw [List.map_append, List.filter_append]
  simp [h]
theorem nz_snoc_neg {M : Int → Int} {l : List (Int × Nat)} {x : Int × Nat} (h : M x.1 = 0) : nz M (l ++ [x]) = nz M l := by
  unfold nz
  rw [List.map_append, List.filter_append]
  simp [h]
theorem cval_mem_ne {L : List Wde} {a : Int} (h : cval L a ≠ 0) : a ∈ L.map Wde.a := by
  unfold cval at h
  cases hf : L.find? (fun d => d.a == a) with
  | none => rw [hf] at h; exact absurd rfl h
  | some d =>
    have h1 := List.mem_of_find?_eq_some hf
    have h2 := List.find?_some hf
    exact List.mem_map.2 ⟨d, h1, by simpa using h2⟩
theorem cval_at {L : List Wde} (hn : (L.map Wde.a).Nodup) {d : Wde} (hd : d ∈ L) : cval L d.a = d.v := by
  induction L with
  | nil => cases hd
  | cons y L ih =>
    have hn2 : y.a ∉ L.map Wde.a ∧ (L.map Wde.a).Nodup := List.nodup_cons.1 hn
    unfold cval
    rw [List.find?_cons]
    rcases List.mem_cons.1 hd with rfl | hd
    · simp
    · have : (y.a == d.a) = false := by
        simp
        intro h
        exact hn2.1 (by rw [h]; exact List.mem_map.2 ⟨d, hd, rfl⟩)
      rw [this]
      exact ih hn2.2 hd
/-- What was found, in whatever order, sorted, is the document's list. -/
theorem ws_sorted {M : Int → Int} {L : List Wde} {Lr : List Wv} {done : List (Int × Nat)} (hM : ∀ y, cval L y = M y) (hn : (L.map Wde.a).Nodup) (hp : (L.map wdk).Perm done) (hris : Ris Lr) (hlook : ∀ y, rlook Lr y = M y) (hok : ∀ x ∈ Lr, WvOk x) :
    (nz M done).mergeSort (fun x y => !(ltOf wsC) y x) = Lr.map Wv.a := by
  have hfst : (L.map wdk).map Prod.fst = L.map Wde.a := by rw [List.map_map]; rfl
  have hpa : (L.map Wde.a).Perm (done.map Prod.fst) := by rw [← hfst]; exact hp.map _
  have hnd : (nz M done).Nodup := List.Nodup.sublist List.filter_sublist (hpa.nodup_iff.1 hn)
  have hmem : ∀ a, a ∈ nz M done ↔ M a ≠ 0 := by
    intro a
    unfold nz
    rw [List.mem_filter]
    constructor
    · intro h; simpa using h.2
    · intro h
      exact ⟨hpa.mem_iff.1 (cval_mem_ne (by rw [hM]; exact h)), by simpa using h⟩
  have hmem2 : ∀ a, a ∈ Lr.map Wv.a ↔ M a ≠ 0 := by
    intro a
    constructor
    · intro h
      obtain ⟨x, hx, rfl⟩ := List.mem_map.1 h
      rw [← hlook, rlook_mem hris hx]
      have := (hok x hx).2.1
      omega
    · intro h
      refine Classical.byContradiction fun hc => h ?_
      rw [← hlook]
      exact rlook_none fun x hx he => hc (List.mem_map.2 ⟨x, hx, he⟩)
  have hpw : (Lr.map Wv.a).Pairwise (· < ·) := List.pairwise_map.2 hris
  have hnd2 : (Lr.map Wv.a).Nodup := hpw.imp fun h => by omega
  have hperm : (nz M done).Perm (Lr.map Wv.a) := (List.perm_ext_iff_of_nodup hnd hnd2).2 fun a => by rw [hmem, hmem2]
  have hle : (fun x y : Int => !(ltOf wsC) y x) = fun x y => decide (x ≤ y) := by
    funext x y
    rw [wsLt]
    by_cases h : y < x
    · have : ¬ x ≤ y := by omega
      simp [h]
    · have : x ≤ y := by omega
      simp [h]; omega
  rw [hle]
  refine List.Perm.eq_of_pairwise (le := fun x y : Int => x ≤ y) (fun a b _ _ h1 h2 => by omega) ?_ (hpw.imp fun h => by omega) ((List.mergeSort_perm _ _).trans hperm)
  have := List.pairwise_mergeSort (le := fun x y : Int => decide (x ≤ y)) (fun a b c h1 h2 => by simp at h1 h2 ⊢; omega) (fun a b => by simp; omega) (nz M done)
  exact this.imp fun h => by simpa using h
theorem rowOf_at {α : Type} [Inhabited α] {f : α → List Value} (hf : ∀ a, (f a).length = 2) (l : List α) (t : Nat) (ht : t < l.length * 2) : (rowOf f l)[t]? = some ((flatK f 2 l.toArray)[t]!) := by
  rw [get_flatK f 2 l.toArray t (by simpa using ht)]
  have hi : t / 2 < l.length := by omega
  have hr := rowOf_get hf l (t / 2) (t % 2) hi (by omega)
  rw [show t / 2 * 2 + t % 2 = t by omega] at hr
  rw [hr]
  have he : (l.toArray)[t / 2]! = l[t / 2] := by rw [getElem!_pos _ _ (by simpa using hi)]; simp
  rw [he, List.getElem?_eq_getElem (by rw [hf]; omega), getElem!_pos _ _ (by rw [hf]; omega)]
theorem holdsK_own {α : Type} [Inhabited α] {f : α → List Value} (hf : ∀ a, (f a).length = 2) {w : World} {base g n cap : Nat} {e : TypeId} (l : List α) (h : w.ownsRow base e 2 (.slice (some ⟨g, 0, none⟩) n cap) l.length (rowOf f l)) : HoldsK f 2 w g 0 l.toArray ∧ base ≤ g ∧ g < w.heap.size := by
  refine ⟨?_, (h.lt g rfl)⟩
  intro t ht
  rw [size_flatK] at ht
  have ht2 : t < l.length * 2 := by simpa using ht
  have hx := rowOf_at hf l t ht2
  have hc := h.cells (g := g) rfl t _ hx
  have hadd : (⟨g, 0, none⟩ : Addr).add t = ⟨g, t, none⟩ := by unfold Addr.add; split <;> simp_all
  rw [hadd] at hc
  refine ⟨by rw [Nat.zero_add]; exact hc, ?_⟩
  rcases h.2 with ⟨hv, _⟩ | ⟨g', cap', cur, hv, _, hg, _⟩
  · cases hv
  · cases hv
    unfold World.frozen?
    simp [hg]
theorem sortK_below {α : Type} [Inhabited α] {f : α → List Value} {k : Nat} {w0 w : World} {B blk off n : Nat} {d : Array α} {os : Array Obj} (h : Below B w0 w) (hb : B ≤ blk) (hB : B ≤ w.heap.size) : Below B w0 (sortWorldK f k w blk off n d os) := by
  refine ⟨h.os, h.tape, h.output, Nat.le_trans h.size (size_sortWorldK_c f k w blk off n d os), fun j hj => ?_⟩
  rw [← h.block j hj]
  unfold sortWorldK
  rw [heap_grow_old _ _ (by rw [size_putRowK]; exact Nat.lt_of_lt_of_le hj hB)]
  show (w.heap.modify blk _)[j]? = _
  rw [Array.getElem?_modify, if_neg (by omega)]
def rgLeft (w : World) (m r : Nat) : Nat :=
  match w.heap[m]?, w.heap[r]? with
  | some (.map es _), some (.mapIter _ _ seen _) => (es.toList.filter fun e => !seen.contains e.born).length
  | _, _ => 0
theorem Rg.left_eq {w : World} {m r : Nat} {L left : List (Int × Nat)} (h : Rg w m r L left) : rgLeft w m r = left.length := by
  obtain ⟨es, clk, since, c0, seen, h1, h2, h3, h4, h5, h6, h8, rfl⟩ := h
  unfold rgLeft
  rw [h1, h4]
  simp
/-- What Words hands back. -/
def WsPost (w : World) (Lr : List Wv) (e : Ending) (w' : World) : Prop :=
  ∃ v, e = .returned v ∧ Below w.heap.size w w' ∧ Arr w' v Lr.length 2 (rowOf wvc Lr) ∧ ((Lr = [] ∧ v = .slice none 0 0) ∨ ∃ b, v = .slice (some ⟨b, 0, none⟩) Lr.length Lr.length ∧ w.heap.size ≤ b ∧ b < w'.heap.size ∧ ∀ j, j < Lr.length * 2 → w'.frozen? ⟨b, j, none⟩ = false)
theorem infoCw : (Tryz.prog.info? 176).map (fun i => (i.zero, i.size, i.bytes)) = some (some (.agg #[.int .u64 0, .int .u64 0]), 2, 16) := by kernel_rfl
theorem ws_post {w W : World} {M : Int → Int} {Lr : List Wv} {b cap : Nat} {d : Array Int} (hlook : ∀ y, rlook Lr y = M y) (hris : Ris Lr) (hd : d = (Lr.map Wv.a).toArray) (hH : HoldsK (wsE M) 2 W b 0 d) (hb : Below w.heap.size w W) (hwb : w.heap.size ≤ b) (hbW : b < W.heap.size) (h0 : Lr ≠ []) (hm : Lr.length ≤ 1000000) :
    WsPost w Lr (.returned (.slice (some ⟨b, 0, none⟩) Lr.length Lr.length)) W := by
  have hcell : ∀ t, t < Lr.length * 2 → W.cell? ⟨b, t, none⟩ = (rowOf wvc Lr)[t]? ∧ W.frozen? ⟨b, t, none⟩ = false := by
    intro t ht
    have hi : t / 2 < Lr.length := by omega
    have hsz : d.size = Lr.length := by rw [hd]; simp
    have hc := hH.cell (i := t / 2) (c := t % 2) (by rw [hsz]; exact hi) (by omega)
    rw [show 0 + t / 2 * 2 + t % 2 = t by omega] at hc
    refine ⟨?_, hc.2⟩
    rw [hc.1]
    have hr := rowOf_get wvc_len Lr (t / 2) (t % 2) hi (by omega)
    rw [show t / 2 * 2 + t % 2 = t by omega] at hr
    rw [hr]
    have he : d[t / 2]! = (Lr[t / 2]).a := by rw [hd, getElem!_pos _ _ (by simpa using hi)]; simp
    have hv : wsE M d[t / 2]! = wvc Lr[t / 2] := by
      rw [he]
      unfold wsE wvc
      rw [← hlook, rlook_mem hris (List.getElem_mem hi)]
    rw [hv, List.getElem?_eq_getElem (by rw [wvc_len]; omega), getElem!_pos _ _ (by rw [wvc_len]; omega)]
  refine ⟨_, rfl, hb, ⟨rowOf_len wvc_len Lr, some ⟨b, 0, none⟩, Lr.length, rfl, Nat.le_refl _, by unfold maxLen; omega, fun j u hu => ?_⟩, .inr ⟨b, rfl, hwb, hbW, fun j hj => (hcell j hj).2⟩⟩
  have hj : j < Lr.length * 2 := by have := (List.getElem?_eq_some_iff.1 hu).1; rwa [rowOf_len wvc_len] at this
  refine ⟨b, 0, rfl, hbW, ?_⟩
  rw [Nat.zero_add, (hcell j hj).1]
  exact hu
end Go.Proofs.YtijifjiehldcaaaGreat
