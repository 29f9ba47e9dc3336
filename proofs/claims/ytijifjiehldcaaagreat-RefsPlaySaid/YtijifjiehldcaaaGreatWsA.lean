/- Over any program: a range over a map of numbers to pointers, as lists: what is still to come. Layer 5: Words of cells: by rising addresses, whatever order the map's range has. Layer 5: Words of cells, whole: what it hands back, by the document's list. Layer 5: the contract of Words. -/
import Derived.Test.YtijifjiehldcaaaGreatMapL
import Derived.Maps.RangeRun
import Derived.Test.YtijifjiehldcaaaGreatOw
import Derived.Test.YtijifjiehldcaaaGreatRcP
import Derived.Test.YtijifjiehldcaaaGreatRc
import Derived.Maps.RangeWalk
import Derived.Shelf.SlSortCmp.NoneTotal
import Derived.Lib.Small
import Derived.Shelf.Lay
import Derived.Ground.SlsfProg
namespace Go.Proofs.YtijifjiehldcaaaGreat
set_option linter.unusedSimpArgs false
section
open Go.RowKit Go.ChangeMaps Go.MapKept
set_option linter.unusedVariables false

def decV : Value → Value → Int × Nat
  | .int _ z, .pointer (some a) => (z, a.block)
  | _, _ => (0, 0)
def decE (e : MapEntry) : Int × Nat := decV e.key e.val
theorem decE_of {e : MapEntry} {x : Int × Nat} (h : (e.key, e.val) = entL x) : decE e = x := by
  have h1 := congrArg Prod.fst h
  have h2 := congrArg Prod.snd h
  unfold decE
  rw [show e.key = (entL x).1 from h1, show e.val = (entL x).2 from h2]
  rfl
theorem entL_dec {E : List MapEntry} {L : List (Int × Nat)} (h : E.map (fun e => (e.key, e.val)) = L.map entL) {e : MapEntry} (he : e ∈ E) : (e.key, e.val) = entL (decE e) := by
  have : (e.key, e.val) ∈ L.map entL := by rw [← h]; exact List.mem_map.2 ⟨e, he, rfl⟩
  obtain ⟨x, _, hx⟩ := List.mem_map.1 this
  rw [decE_of hx.symm, hx]
theorem dec_map {E : List MapEntry} {L : List (Int × Nat)} (h : E.map (fun e => (e.key, e.val)) = L.map entL) : E.map decE = L := by
  induction E generalizing L with
  | nil => cases L with
    | nil => rfl
    | cons x L => simp at h
  | cons e E ih => cases L with
    | nil => simp at h
    | cons x L =>
      simp only [List.map_cons, List.cons.injEq] at h ⊢
      exact ⟨decE_of h.1, ih h.2⟩
theorem perm_pick (e : MapEntry) : ∀ (F : List MapEntry), (F.map (·.born)).Nodup → e ∈ F → F.Perm (e :: F.filter fun x => !(x.born == e.born))
  | y :: F, hn, he => by
    have hn' : y.born ∉ F.map (·.born) ∧ (F.map (·.born)).Nodup := List.nodup_cons.1 hn
    rcases List.mem_cons.1 he with rfl | h
    · have hf : (e :: F).filter (fun x => !(x.born == e.born)) = F := by
        rw [List.filter_cons_of_neg (by simp)]
        refine List.filter_eq_self.2 fun x hx => ?_
        have : x.born ≠ e.born := fun hc => hn'.1 (List.mem_map.2 ⟨x, hx, hc⟩)
        simp [this]
      rw [hf]
    · have hy : y.born ≠ e.born := fun hc => hn'.1 (by rw [hc]; exact List.mem_map.2 ⟨e, h, rfl⟩)
      rw [List.filter_cons_of_pos (by simp [hy])]
      exact ((perm_pick e F hn'.2 h).cons y).trans (List.Perm.swap _ _ _)
/-- Block r is an iterator over the map in block m, that holds L; 'left' is still to come. -/
def Rg (w : World) (m r : Nat) (L left : List (Int × Nat)) : Prop :=
  ∃ es clk since c0 seen, w.heap[m]? = some (.map es clk) ∧ es.toList.map (fun e => (e.key, e.val)) = L.map entL ∧ (es.toList.map (·.born)).Nodup ∧ w.heap[r]? = some (.mapIter (some m) since seen c0) ∧ (∀ e ∈ es.toList, e.born < since) ∧ since ≤ c0 ∧ since ≤ clk ∧ left = (es.toList.filter fun e => !seen.contains e.born).map decE
section
variable {P : Program} {w w' : World} {m r : Nat} {L left : List (Int × Nat)}
theorem Rg.start (h : MapL w m L) {t kt et : TypeId} (ht : P.underlying t = some (.map kt et)) :
    ∃ w', (Instr.range t (.map (some m))).run P w = .ok (.pointer (some ⟨w.heap.size, 0, none⟩)) w' ∧ Rg w' m w.heap.size L L ∧ Below w.heap.size w w' ∧ w'.heap.size = w.heap.size + 1 := by
  have hlt := h.lt
  obtain ⟨es, clk, hb, he, hbn, hnd⟩ := h
  refine ⟨w.alloc (.mapIter (some m) clk #[] clk), run_range_map w t kt et m es clk ht hb, ⟨es, clk, clk, clk, #[], ?_, he, hnd, heap_alloc_new w _, hbn, Nat.le_refl _, Nat.le_refl _, ?_⟩, (Below.refl _ _).alloc (Nat.le_refl _) _, by simp⟩
  · rw [heap_alloc_old w _ hlt, hb]
  · have : es.toList.filter (fun e => !(#[] : Array Nat).contains e.born) = es.toList := List.filter_eq_self.2 fun x _ => by simp
    rw [this, dec_map he]
theorem Rg.keep (h : Rg w m r L left) (hm : w'.heap[m]? = w.heap[m]?) (hr : w'.heap[r]? = w.heap[r]?) : Rg w' m r L left := by
  obtain ⟨es, clk, since, c0, seen, h1, h2, h3, h4, h5, h6, h8, h7⟩ := h
  exact ⟨es, clk, since, c0, seen, hm.trans h1, h2, h3, hr.trans h4, h5, h6, h8, h7⟩
theorem Rg.lt (h : Rg w m r L left) : m < w.heap.size ∧ r < w.heap.size := by
  obtain ⟨es, clk, since, c0, seen, h1, h2, h3, h4, h5, h6, h7⟩ := h
  exact ⟨(Array.getElem?_eq_some_iff.1 h1).1, (Array.getElem?_eq_some_iff.1 h4).1⟩
theorem setBlock_grown {o o' : Obj} {w1 : World} (h1 : w1 = w ∨ w1 = w.drew) (hr : w.heap[r]? = some o) : w.grownBy (setBlock w1 r o') (some r) ∧ (setBlock w1 r o').heap.size = w.heap.size ∧ (setBlock w1 r o').heap[r]? = some o' ∧ ∀ k, k ≠ r → (setBlock w1 r o').heap[k]? = w.heap[k]? := by
  have hz : w1.heap = w.heap := by rcases h1 with rfl | rfl <;> rfl
  have hlt := (Array.getElem?_eq_some_iff.1 hr).1
  have hk : ∀ k, k ≠ r → (setBlock w1 r o').heap[k]? = w.heap[k]? := fun k hne => by
    show (w1.heap.setIfInBounds r o')[k]? = _
    rw [hz, Array.getElem?_setIfInBounds_ne (Ne.symm hne)]
  refine ⟨⟨by rcases h1 with rfl | rfl <;> rfl, by rcases h1 with rfl | rfl <;> rfl, by rcases h1 with rfl | rfl <;> rfl, ?_, fun k _ hne => hk k fun e => hne (by rw [e])⟩, ?_, ?_, hk⟩
  · show w.heap.size ≤ (w1.heap.setIfInBounds r o').size
    rw [hz]; simp
  · show (w1.heap.setIfInBounds r o').size = _
    rw [hz]; simp
  · show (w1.heap.setIfInBounds r o')[r]? = _
    rw [hz, Array.getElem?_setIfInBounds_self_of_lt hlt]
theorem Rg.next (h : Rg w m r L left) (hne : m ≠ r) (ty : TypeId) :
    (left = [] ∧ (Instr.next (.pointer (some ⟨r, 0, none⟩)) false ty).run P w = .ok (.tuple #[.bool false]) w) ∨
    ∃ x left' w', left.Perm (x :: left') ∧ (Instr.next (.pointer (some ⟨r, 0, none⟩)) false ty).run P w = .ok (.tuple #[.bool true, .int .u64 x.1, .pointer (some ⟨x.2, 0, none⟩)]) w' ∧ Rg w' m r L left' ∧ (Instr.entry (.pointer (some ⟨r, 0, none⟩))).run P w' = .ok (.tuple #[.int .u64 x.1, .pointer (some ⟨x.2, 0, none⟩)]) w' ∧ w.grownBy w' (some r) ∧ w'.heap.size = w.heap.size := by
  obtain ⟨es, clk, since, c0, seen, h1, h2, h3, h4, h5, h6, h8, rfl⟩ := h
  have hle : (leftOf es seen).toList = es.toList.filter fun e => !seen.contains e.born := by unfold leftOf; rw [Array.toList_filter]
  rcases run_next_at (P := P) w ty r m since c0 seen es clk h4 h1 h5 h6 with ⟨hz, hrun⟩ | ⟨e, he, w1, hw1, hrun⟩
  · left
    refine ⟨?_, hrun⟩
    have : (leftOf es seen).toList = [] := by rw [Array.eq_empty_of_size_eq_zero hz]
    rw [← hle, this]
    rfl
  · right
    have heE : e ∈ es.toList := (mem_left he).1
    have hen := entL_dec h2 heE
    have hk : e.key = .int .u64 (decE e).1 := congrArg Prod.fst hen
    have hv : e.val = .pointer (some ⟨(decE e).2, 0, none⟩) := congrArg Prod.snd hen
    obtain ⟨g1, g2, g3, g4⟩ := setBlock_grown (o' := .mapIter (some m) since (seen.push e.born) clk) hw1 h4
    have hm2 := (g4 m hne).trans h1
    rw [hle] at he
    have hpk := perm_pick e _ (List.Nodup.sublist ((List.filter_sublist (l := es.toList) (p := fun e => !seen.contains e.born)).map (·.born)) h3) he
    refine ⟨decE e, ((es.toList.filter fun e => !seen.contains e.born).filter fun x => !(x.born == e.born)).map decE, _, by simpa using hpk.map decE, by rw [← hk, ← hv]; exact hrun, ⟨es, clk, since, clk, seen.push e.born, hm2, h2, h3, g3, h5, h8, h8, ?_⟩, by rw [← hk, ← hv]; exact run_entry_at _ r m since seen es clk e g3 hm2 heE h3, g1, g2⟩
    rw [List.filter_filter]
    congr 1
    refine List.filter_congr fun x _ => ?_
    rw [contains_push]
    cases seen.contains x.born <;> cases x.born == e.born <;> rfl
end
end
section
open Go.RowKit Go.Shelf Go.Lib Go.Sort
set_option linter.unusedVariables false

theorem lay_eq {α : Type} {a b : α} {o : Option α} (h : o = some a) (e : a = b := by kernel_rfl) : o = some b := h.trans (congrArg some e)
def ws_sort_ren : Go.Shelf.Ren := ⟨fun | 6 => 140 | 15 => 156 | 14 => 155 | 28 => 169 | 29 => 170 | 20 => 161 | 21 => 162 | 22 => 163 | 23 => 164 | 24 => 165 | 25 => 166 | 26 => 167 | 27 => 168 | 46 => 171 | 47 => 172 | 48 => 173 | 49 => 174 | 50 => 175 | 57 => 176 | n => n, fun | 22 => 192 | 24 => 176 | 25 => 235 | 3 => 3 | 39 => 239 | 0 => 0 | 53 => 73 | 55 => 37 | 4 => 4 | 46 => 250 | 45 => 249 | 50 => 254 | 5 => 5 | 9 => 9 | 66 => 257 | 70 => 260 | 76 => 262 | 77 => 224 | n => n, fun | n => n⟩
open _root_.Go.Proofs.Tryz in
theorem ws_sort : Go.Proofs.SlLaysF0.n6 Tryz.prog ws_sort_ren := {mixed := by kernel_rfl, f6 := ⟨f140.name, by decide, lay_eq func140⟩, f14 := ⟨f155.name, by decide, lay_eq func155⟩, f15 := lay_eq func156, f20 := ⟨f161.name, by decide, lay_eq func161⟩, f21 := ⟨f162.name, by decide, lay_eq func162⟩, f22 := ⟨f163.name, by decide, lay_eq func163⟩, f23 := ⟨f164.name, by decide, lay_eq func164⟩, f24 := ⟨f165.name, by decide, lay_eq func165⟩, f25 := ⟨f166.name, by decide, lay_eq func166⟩, f26 := ⟨f167.name, by decide, lay_eq func167⟩, f27 := ⟨f168.name, by decide, lay_eq func168⟩, f28 := lay_eq func169, f29 := lay_eq func170, f46 := ⟨f171.name, by decide, lay_eq func171⟩, f47 := lay_eq func172, f48 := lay_eq func173, f49 := ⟨f174.name, by decide, lay_eq func174⟩, f50 := ⟨f175.name, by decide, lay_eq func175⟩, f57 := ⟨f176.name, by decide, lay_eq func176⟩, t0 := underlying0, a0 := isAgg0, z0 := sizeOf0, v0 := zeroValue0, t3 := underlying3, a3 := isAgg3, z3 := sizeOf3, v3 := zeroValue3, t4 := underlying4, a4 := isAgg4, z4 := sizeOf4, v4 := zeroValue4, t5 := underlying5, a5 := isAgg5, z5 := sizeOf5, v5 := zeroValue5, t9 := underlying9, a9 := isAgg9, z9 := sizeOf9, v9 := zeroValue9, t22 := underlying192, a22 := isAgg192, z22 := sizeOf192, v22 := zeroValue192, t25 := underlying235, a25 := isAgg235, z25 := sizeOf235, v25 := zeroValue235, t39 := underlying239, a39 := isAgg239, z39 := sizeOf239, v39 := zeroValue239, t45 := underlying249, a45 := isAgg249, z45 := sizeOf249, v45 := zeroValue249, t46 := underlying250, a46 := isAgg250, z46 := sizeOf250, v46 := zeroValue250, t50 := underlying254, a50 := isAgg254, z50 := sizeOf254, v50 := zeroValue254, t53 := underlying73, a53 := isAgg73, z53 := sizeOf73, v53 := zeroValue73, t55 := underlying37, a55 := isAgg37, z55 := sizeOf37, v55 := zeroValue37, t66 := underlying257, a66 := isAgg257, z66 := sizeOf257, v66 := zeroValue257, t70 := underlying260, a70 := isAgg260, z70 := sizeOf260, v70 := zeroValue260, t76 := underlying262, a76 := isAgg262, z76 := sizeOf262, v76 := zeroValue262, t77 := underlying224, a77 := isAgg224, z77 := sizeOf224, v77 := zeroValue224}
theorem c_isNaN (x : Int) (w : World) : Calls Tryz.prog 157 #[.int .u64 x] w fun e w' => e = .returned (.bool false) ∧ w = w' := by
  have hx : (x != x) = false := by simp
  go_enter Tryz.func157, Tryz.ntmps157
  go_wp2
  go_ret
  exact ⟨rfl, rfl⟩
theorem c_cmp (x y : Int) (w : World) : Calls Tryz.prog 142 #[.int .u64 x, .int .u64 y] w fun e w' => e = .returned (.int .i64 (Lib.compareInt x y)) ∧ w = w' := by
  unfold Lib.compareInt
  by_cases h1 : x < y
  · have d1 : decide (x < y) = true := by simp [h1]
    go_enter Tryz.func142, Tryz.ntmps142
    go_wp2_with (go_at_call 157; refine (c_isNaN _ _).mono ?_; rintro e w' ⟨rfl, rfl⟩)
    go_ret
    exact ⟨by simp [h1], rfl⟩
  · have d1 : decide (x < y) = false := by simp [h1]
    by_cases h2 : y < x
    · have d2 : decide (x > y) = true := by simp [h2]
      go_enter Tryz.func142, Tryz.ntmps142
      go_wp2_with (go_at_call 157; refine (c_isNaN _ _).mono ?_; rintro e w' ⟨rfl, rfl⟩)
      go_ret
      exact ⟨by simp [h1, h2], rfl⟩
    · have d2 : decide (x > y) = false := by simp; omega
      go_enter Tryz.func142, Tryz.ntmps142
      go_wp2_with (go_at_call 157; refine (c_isNaN _ _).mono ?_; rintro e w' ⟨rfl, rfl⟩)
      go_ret
      exact ⟨by simp [h1, h2], rfl⟩
/-- A word of cells whose memory is M, by its address. -/
def wsE (M : Int → Int) (a : Int) : List Value := [.int .u64 a, .int .u64 (M a)]
def wsC (x y : Int) : Int := Lib.compareInt x y
theorem wsLt (x y : Int) : ltOf wsC x y = decide (x < y) := by
  unfold ltOf wsC Lib.compareInt
  by_cases h1 : x < y
  · simp [h1]
  · by_cases h2 : y < x <;> simp [h1, h2]
theorem wsO : SWO (ltOf wsC) where
  irrefl x := by rw [wsLt]; simp
  trans x y z h1 h2 := by rw [wsLt] at *; simp at *; omega
  ntrans x y z h1 h2 := by rw [wsLt] at *; simp at *; omega
theorem ws_closure (x y p q : Int) (W : World) : Calls Tryz.prog 141 #[.agg #[.int .u64 x, .int .u64 p], .agg #[.int .u64 y, .int .u64 q]] W fun e w' => e = .returned (.int .i64 (Lib.compareInt x y)) ∧ ∃ n os', w' = grow (W.drewN n) os' := by
  have hcon := fun W' => c_cmp x y W'
  generalize Lib.compareInt x y = r at hcon ⊢
  go_enter Tryz.func141, Tryz.ntmps141
  go_wp2_with (go_at_call 142; refine (hcon _).mono ?_; rintro e w' ⟨rfl, rfl⟩)
  go_ret
  exact ⟨rfl, 0, _, by rw [alloc_eq_grow, alloc_eq_grow, grow_grow]; rfl⟩
theorem ws_lays (M : Int → Int) (blk off size : Nat) (w : World) : CmpLays Tryz.prog 141 #[] (wsE M) 2 wsC blk off size w :=
  fun _ _ _ _ x y => ws_closure x y _ _ _
theorem ws_agg : ∀ w, (isAgg 176).run Tryz.prog w = .ok true w := by intro w; kernel_rfl
theorem ws_size : ∀ w, (Go.sizeOf 176).run Tryz.prog w = .ok 2 w := by intro w; kernel_rfl
/-- Words are sorted. -/
theorem c_SortW (M : Int → Int) (blk off cap : Nat) (d : Array Int) (w : World) (hH : HoldsK (wsE M) 2 w blk off d) (hblk : blk < w.heap.size) (hsz : d.size < 4611686018427387904) :
    Calls Tryz.prog 140 #[.slice (some ⟨blk, off, none⟩) d.size cap, .func (.func 141) #[] #[]] w fun e w' =>
      e = .returned (.tuple #[]) ∧ ∃ n os, w' = sortWorldK (wsE M) 2 w blk off n (d.toList.mergeSort fun x y => !(ltOf wsC) y x).toArray os :=
  AnyQ.slices_SortFunc_total ws_sort 2 ws_agg ws_size (wsE M) (fun _ => rfl) (fun x v hv => by simp [wsE] at hv; rcases hv with rfl | rfl <;> rfl) wsC wsO 141 #[] blk off cap d w
    (enters_of Tryz.func141 (by kernel_rfl) rfl) (ws_lays M blk off d.size w) hH hblk hsz (fun x y h1 h2 => by rw [wsLt] at h1 h2; simp at h1 h2; omega)
theorem c_SortW0 (p : Option Addr) (cap : Nat) (fv : Value) (w : World) :
    Calls Tryz.prog 140 #[.slice p 0 cap, fv] w fun e w' => e = .returned (.tuple #[]) ∧ w = w' :=
  (AnyF.slices_SortFunc_none ws_sort p cap fv w).mono fun _ _ h => ⟨h.1, h.2.symm⟩
theorem c_ClipW (ao : Option Addr) (n c : Nat) (w : World) (hn : n ≤ c) (hc : c ≤ maxLen) (ha : ao = none → c = 0) :
    Calls Tryz.prog 143 #[.slice ao n c] w fun e w' => e = .returned (.slice ao n n) ∧ w = w' := by
  unfold maxLen at hc
  cases ao with
  | none =>
    obtain rfl := ha rfl
    obtain rfl : n = 0 := by omega
    go_enter Tryz.func143, Tryz.ntmps143
    go_wp2
    go_ret
    exact ⟨rfl, rfl⟩
  | some a =>
    go_enter Tryz.func143, Tryz.ntmps143
    go_wp2
    go_ret
    exact ⟨rfl, rfl⟩
end
section
open Go.RowKit Go.Shelf Go.Lib Go.Sort
set_option linter.unusedVariables false

def nz (M : Int → Int) (l : List (Int × Nat)) : List Int := (l.map Prod.fst).filter fun a => decide (M a ≠ 0)
theorem nz_snoc_pos {M : Int → Int} {l : List (Int × Nat)} {x : Int × Nat} (h : M x.1 ≠ 0) : nz M (l ++ [x]) = nz M l ++ [x.1] := by
  unfold nz
  rw [List.map_append, List.filter_append]
  simp [h]
theorem nz_snoc_neg {M : Int → Int} {l : List (Int × Nat)} {x : Int × Nat} (h : M x.1 = 0) : nz M (l ++ [x]) = nz M l := by
  unfold nz
  rw [List.map_append, List.filter_append]
  simp [h]
theorem cval_mem_ne {L : List Wde} {a : Int} (h : cval L a ≠ 0) : a ∈ L.map Wde.a := by
  unfold cval at h
  cases hf : L.find? (fun d => d.a == a) with
  | none => rw [hf] at h; exact absurd rfl h
  | some d =>
    have h1 := List.mem_of_find?_eq_some hf
    have h2 := List.find?_some hf
    exact List.mem_map.2 ⟨d, h1, by simpa using h2⟩
theorem cval_at {L : List Wde} (hn : (L.map Wde.a).Nodup) {d : Wde} (hd : d ∈ L) : cval L d.a = d.v := by
  induction L with
  | nil => cases hd
  | cons y L ih =>
    have hn2 : y.a ∉ L.map Wde.a ∧ (L.map Wde.a).Nodup := List.nodup_cons.1 hn
    unfold cval
    rw [List.find?_cons]
    rcases List.mem_cons.1 hd with rfl | hd
    · simp
    · have : (y.a == d.a) = false := by
        simp
        intro h
        exact hn2.1 (by rw [h]; exact List.mem_map.2 ⟨d, hd, rfl⟩)
      rw [this]
      exact ih hn2.2 hd
/-- What was found, in whatever order, sorted, is the document's list. -/
theorem ws_sorted {M : Int → Int} {L : List Wde} {Lr : List Wv} {done : List (Int × Nat)} (hM : ∀ y, cval L y = M y) (hn : (L.map Wde.a).Nodup) (hp : (L.map wdk).Perm done) (hris : Ris Lr) (hlook : ∀ y, rlook Lr y = M y) (hok : ∀ x ∈ Lr, WvOk x) :
    (nz M done).mergeSort (fun x y => !(ltOf wsC) y x) = Lr.map Wv.a := by
  have hfst : (L.map wdk).map Prod.fst = L.map Wde.a := by rw [List.map_map]; rfl
  have hpa : (L.map Wde.a).Perm (done.map Prod.fst) := by rw [← hfst]; exact hp.map _
  have hnd : (nz M done).Nodup := List.Nodup.sublist List.filter_sublist (hpa.nodup_iff.1 hn)
  have hmem : ∀ a, a ∈ nz M done ↔ M a ≠ 0 := by
    intro a
    unfold nz
    rw [List.mem_filter]
    constructor
    · intro h; simpa using h.2
    · intro h
      exact ⟨hpa.mem_iff.1 (cval_mem_ne (by rw [hM]; exact h)), by simpa using h⟩
  have hmem2 : ∀ a, a ∈ Lr.map Wv.a ↔ M a ≠ 0 := by
    intro a
    constructor
    · intro h
      obtain ⟨x, hx, rfl⟩ := List.mem_map.1 h
      rw [← hlook, rlook_mem hris hx]
      have := (hok x hx).2.1
      omega
    · intro h
      refine Classical.byContradiction fun hc => h ?_
      rw [← hlook]
      exact rlook_none fun x hx he => hc (List.mem_map.2 ⟨x, hx, he⟩)
  have hpw : (Lr.map Wv.a).Pairwise (· < ·) := List.pairwise_map.2 hris
  have hnd2 : (Lr.map Wv.a).Nodup := hpw.imp fun h => by omega
  have hperm : (nz M done).Perm (Lr.map Wv.a) := (List.perm_ext_iff_of_nodup hnd hnd2).2 fun a => by rw [hmem, hmem2]
  have hle : (fun x y : Int => !(ltOf wsC) y x) = fun x y => decide (x ≤ y) := by
    funext x y
    rw [wsLt]
    by_cases h : y < x
    · have : ¬ x ≤ y := by omega
      simp [h]
    · have : x ≤ y := by omega
      simp [h]; omega
  rw [hle]
  refine List.Perm.eq_of_pairwise (le := fun x y : Int => x ≤ y) (fun a b _ _ h1 h2 => by omega) ?_ (hpw.imp fun h => by omega) ((List.mergeSort_perm _ _).trans hperm)
  have := List.pairwise_mergeSort (le := fun x y : Int => decide (x ≤ y)) (fun a b c h1 h2 => by simp at h1 h2 ⊢; omega) (fun a b => by simp; omega) (nz M done)
  exact this.imp fun h => by simpa using h
theorem rowOf_at {α : Type} [Inhabited α] {f : α → List Value} (hf : ∀ a, (f a).length = 2) (l : List α) (t : Nat) (ht : t < l.length * 2) : (rowOf f l)[t]? = some ((flatK f 2 l.toArray)[t]!) := by
  rw [get_flatK f 2 l.toArray t (by simpa using ht)]
  have hi : t / 2 < l.length := by omega
  have hr := rowOf_get hf l (t / 2) (t % 2) hi (by omega)
  rw [show t / 2 * 2 + t % 2 = t by omega] at hr
  rw [hr]
  have he : (l.toArray)[t / 2]! = l[t / 2] := by rw [getElem!_pos _ _ (by simpa using hi)]; simp
  rw [he, List.getElem?_eq_getElem (by rw [hf]; omega), getElem!_pos _ _ (by rw [hf]; omega)]
theorem holdsK_own {α : Type} [Inhabited α] {f : α → List Value} (hf : ∀ a, (f a).length = 2) {w : World} {base g n cap : Nat} {e : TypeId} (l : List α) (h : w.ownsRow base e 2 (.slice (some ⟨g, 0, none⟩) n cap) l.length (rowOf f l)) : HoldsK f 2 w g 0 l.toArray ∧ base ≤ g ∧ g < w.heap.size := by
  refine ⟨?_, (h.lt g rfl)⟩
  intro t ht
  rw [size_flatK] at ht
  have ht2 : t < l.length * 2 := by simpa using ht
  have hx := rowOf_at hf l t ht2
  have hc := h.cells (g := g) rfl t _ hx
  have hadd : (⟨g, 0, none⟩ : Addr).add t = ⟨g, t, none⟩ := by unfold Addr.add; split <;> simp_all
  rw [hadd] at hc
  refine ⟨by rw [Nat.zero_add]; exact hc, ?_⟩
  rcases h.2 with ⟨hv, _⟩ | ⟨g', cap', cur, hv, _, hg, _⟩
  · cases hv
  · cases hv
    unfold World.frozen?
    simp [hg]
theorem sortK_below {α : Type} [Inhabited α] {f : α → List Value} {k : Nat} {w0 w : World} {B blk off n : Nat} {d : Array α} {os : Array Obj} (h : Below B w0 w) (hb : B ≤ blk) (hB : B ≤ w.heap.size) : Below B w0 (sortWorldK f k w blk off n d os) := by
  refine ⟨h.os, h.tape, h.output, Nat.le_trans h.size (size_sortWorldK_c f k w blk off n d os), fun j hj => ?_⟩
  rw [← h.block j hj]
  unfold sortWorldK
  rw [heap_grow_old _ _ (by rw [size_putRowK]; exact Nat.lt_of_lt_of_le hj hB)]
  show (w.heap.modify blk _)[j]? = _
  rw [Array.getElem?_modify, if_neg (by omega)]
def rgLeft (w : World) (m r : Nat) : Nat :=
  match w.heap[m]?, w.heap[r]? with
  | some (.map es _), some (.mapIter _ _ seen _) => (es.toList.filter fun e => !seen.contains e.born).length
  | _, _ => 0
theorem Rg.left_eq {w : World} {m r : Nat} {L left : List (Int × Nat)} (h : Rg w m r L left) : rgLeft w m r = left.length := by
  obtain ⟨es, clk, since, c0, seen, h1, h2, h3, h4, h5, h6, h8, rfl⟩ := h
  unfold rgLeft
  rw [h1, h4]
  simp
/-- What Words hands back. -/
def WsPost (w : World) (Lr : List Wv) (e : Ending) (w' : World) : Prop :=
  ∃ v, e = .returned v ∧ Below w.heap.size w w' ∧ Arr w' v Lr.length 2 (rowOf wvc Lr) ∧ ((Lr = [] ∧ v = .slice none 0 0) ∨ ∃ b, v = .slice (some ⟨b, 0, none⟩) Lr.length Lr.length ∧ w.heap.size ≤ b ∧ b < w'.heap.size ∧ ∀ j, j < Lr.length * 2 → w'.frozen? ⟨b, j, none⟩ = false)
theorem infoCw : (Tryz.prog.info? 176).map (fun i => (i.zero, i.size, i.bytes)) = some (some (.agg #[.int .u64 0, .int .u64 0]), 2, 16) := by kernel_rfl
theorem ws_post {w W : World} {M : Int → Int} {Lr : List Wv} {b cap : Nat} {d : Array Int} (hlook : ∀ y, rlook Lr y = M y) (hris : Ris Lr) (hd : d = (Lr.map Wv.a).toArray) (hH : HoldsK (wsE M) 2 W b 0 d) (hb : Below w.heap.size w W) (hwb : w.heap.size ≤ b) (hbW : b < W.heap.size) (h0 : Lr ≠ []) (hm : Lr.length ≤ 1000000) :
    WsPost w Lr (.returned (.slice (some ⟨b, 0, none⟩) Lr.length Lr.length)) W := by
  have hcell : ∀ t, t < Lr.length * 2 → W.cell? ⟨b, t, none⟩ = (rowOf wvc Lr)[t]? ∧ W.frozen? ⟨b, t, none⟩ = false := by
    intro t ht
    have hi : t / 2 < Lr.length := by omega
    have hsz : d.size = Lr.length := by rw [hd]; simp
    have hc := hH.cell (i := t / 2) (c := t % 2) (by rw [hsz]; exact hi) (by omega)
    rw [show 0 + t / 2 * 2 + t % 2 = t by omega] at hc
    refine ⟨?_, hc.2⟩
    rw [hc.1]
    have hr := rowOf_get wvc_len Lr (t / 2) (t % 2) hi (by omega)
    rw [show t / 2 * 2 + t % 2 = t by omega] at hr
    rw [hr]
    have he : d[t / 2]! = (Lr[t / 2]).a := by rw [hd, getElem!_pos _ _ (by simpa using hi)]; simp
    have hv : wsE M d[t / 2]! = wvc Lr[t / 2] := by
      rw [he]
      unfold wsE wvc
      rw [← hlook, rlook_mem hris (List.getElem_mem hi)]
    rw [hv, List.getElem?_eq_getElem (by rw [wvc_len]; omega), getElem!_pos _ _ (by rw [wvc_len]; omega)]
  refine ⟨_, rfl, hb, ⟨rowOf_len wvc_len Lr, some ⟨b, 0, none⟩, Lr.length, rfl, Nat.le_refl _, by unfold maxLen; omega, fun j u hu => ?_⟩, .inr ⟨b, rfl, hwb, hbW, fun j hj => (hcell j hj).2⟩⟩
  have hj : j < Lr.length * 2 := by have := (List.getElem?_eq_some_iff.1 hu).1; rwa [rowOf_len wvc_len] at this
  refine ⟨b, 0, rfl, hbW, ?_⟩
  rw [Nat.zero_add, (hcell j hj).1]
  exact hu
end
section
open Go.RowKit Go.Shelf Go.Lib Go.Sort
set_option linter.unusedVariables false

theorem next_ty (p : Value) (ty : TypeId) : Instr.next p false ty = Instr.next p false 0 := rfl
theorem rg_next {P : Program} {w : World} {m r : Nat} {L left : List (Int × Nat)} (h : Rg w m r L left) (hne : m ≠ r) :
    (left = [] ∧ ∀ ty, (Instr.next (.pointer (some ⟨r, 0, none⟩)) false ty).run P w = .ok (.tuple #[.bool false]) w) ∨
    ∃ x left' w', left.Perm (x :: left') ∧ (∀ ty, (Instr.next (.pointer (some ⟨r, 0, none⟩)) false ty).run P w = .ok (.tuple #[.bool true, .int .u64 x.1, .pointer (some ⟨x.2, 0, none⟩)]) w') ∧ Rg w' m r L left' ∧ (Instr.entry (.pointer (some ⟨r, 0, none⟩))).run P w' = .ok (.tuple #[.int .u64 x.1, .pointer (some ⟨x.2, 0, none⟩)]) w' ∧ w.grownBy w' (some r) ∧ w'.heap.size = w.heap.size := by
  rcases Rg.next (P := P) h hne 0 with ⟨h1, h2⟩ | ⟨x, l, w', h1, h2, h3⟩
  · exact .inl ⟨h1, fun ty => by rw [next_ty]; exact h2⟩
  · exact .inr ⟨x, l, w', h1, fun ty => by rw [next_ty]; exact h2, h3⟩
theorem nz_append (M : Int → Int) (a b : List (Int × Nat)) : nz M (a ++ b) = nz M a ++ nz M b := by unfold nz; simp
theorem nz_len {M : Int → Int} {L : List Wde} {Lr : List Wv} {done left : List (Int × Nat)} (hM : ∀ y, cval L y = M y) (hn : (L.map Wde.a).Nodup) (hp : (L.map wdk).Perm (done ++ left)) (hris : Ris Lr) (hlook : ∀ y, rlook Lr y = M y) (hok : ∀ x ∈ Lr, WvOk x) : (nz M done).length ≤ Lr.length := by
  have h1 := congrArg List.length (ws_sorted hM hn hp hris hlook hok)
  rw [List.length_mergeSort, nz_append, List.length_append, List.length_map] at h1
  omega
theorem nz_step {done left left' Lw : List (Int × Nat)} {x : Int × Nat} (h1 : Lw.Perm (done ++ left)) (h2 : left.Perm (x :: left')) : Lw.Perm ((done ++ [x]) ++ left') := by
  rw [List.append_assoc]
  exact h1.trans (h2.append_left done)
set_option maxHeartbeats 2000000 in
set_option maxRecDepth 100000 in
theorem c_Words {w : World} {O : Om} {g c : Nat} {M : Int → Int} {n : Int} {la : La} (h : CO w O g c M n la) (Lr : List Wv) (hris : Ris Lr) (hlook : ∀ y, rlook Lr y = M y) (hok : ∀ x ∈ Lr, WvOk x) (hm : Lr.length ≤ 1000000) :
    Calls Tryz.prog 107 #[.pointer (some ⟨c, 0, none⟩)] w (WsPost w Lr) := by
  obtain ⟨i0, hi, hz0, hz1, hz2⟩ := info_parts infoCw
  obtain ⟨L, hL, hv⟩ := Ce.ex (F := fun j => O j = g) h
  have hs := fun d : List (Int × Nat) => fun hp => ws_sorted (done := d) hv hL.na hp hris hlook hok
  rcases hL.mp with ⟨h0, h1⟩ | ⟨m, h1, h2, h3, h4, h5⟩
  · have hlr : Lr = [] := by
      have := hs [] (by rw [h0]; exact List.Perm.refl _)
      rw [show nz M [] = [] from rfl, List.mergeSort_nil] at this
      exact List.map_eq_nil_iff.1 this.symm
    subst hlr
    have r1 := run_range_nilMap (P := Tryz.prog) w 163 _ _ Tryz.underlying163
    have n1 := fun ty => run_next_nilMap (P := Tryz.prog) w ty 0 0 #[]
    clear h hL hv hs h0 hlook hok hris hi hz0 hz1 hz2
    go_enter Tryz.func107, Tryz.ntmps107
    go_wp2_with fail
    refine wp_loop_rounds 1 ?_
    rw [rounds_succ]
    go_wp2_with (first | (go_at_call 140; refine (c_SortW0 _ _ _ _).mono ?_; rintro e w' ⟨rfl, rfl⟩) | (go_at_call 143; refine (c_ClipW none 0 0 _ (Nat.le_refl _) (by unfold maxLen; omega) (fun _ => rfl)).mono ?_; rintro e w' ⟨rfl, rfl⟩))
    go_ret
    exact ⟨_, rfl, (Below.refl _ _).alloc (Nat.le_refl _) _, Arr.nil _ 2, .inl ⟨rfl, rfl⟩⟩
  · obtain ⟨w1, hrun, hrg, hbel, hsz⟩ := Rg.start (P := Tryz.prog) h2 Tryz.underlying163
    have hml := h2.lt
    have hmr : m ≠ w.heap.size := by omega
    have HL := Lib.hid hL
    have HV := Lib.hid hv
    have HS := Lib.hid hs
    have HK := Lib.hid hok
    have HR := Lib.hid hris
    have HLo := Lib.hid hlook
    have HG := Lib.hid hrg
    have HB := Lib.hid hbel
    clear h hL hv hs h2 h3 h4 h5 hok hris hlook hrg hbel
    go_enter Tryz.func107, Tryz.ntmps107
    go_wp2_with fail
    go_loopw [3] (fun s wr => ∃ o left done, o = s ∧ Rg wr m w.heap.size (L.map wdk) left ∧ (L.map wdk).Perm (done ++ left) ∧ wr.ownsRow (w.heap.size + 1) 176 2 o (nz M done).length (rowOf (wsE M) (nz M done)) ∧ Below w.heap.size w wr ∧ w.heap.size + 1 ≤ wr.heap.size ∧ (nz M done = [] → o = .slice none 0 0))
      (fun _ wr => rgLeft wr m w.heap.size)
    case atStart => exact ⟨_, L.map wdk, [], rfl, HG.out, List.Perm.refl _, World.ownsRow_nil _ _ _ _, HB.out, by omega, fun _ => rfl⟩
    case round =>
      clear hrun HG HB
      obtain ⟨o, left, done, rfl, hrg, hperm, hown, hbel, hsw, hnl0⟩ := hrel
      have HG := Lib.hid hrg
      have HP := Lib.hid hperm
      have HO := Lib.hid hown
      have HB := Lib.hid hbel
      clear hperm hown hbel
      rcases rg_next (P := Tryz.prog) hrg hmr with ⟨rfl, hnx⟩ | ⟨x, left', w2, hpk, hnx, hrg2, hen, hgr, hsz2⟩
      · clear hrg
        have hp := HP.out
        rw [List.append_nil] at hp
        have hso := HS.out done hp
        have hln : (nz M done).length = Lr.length := by have := congrArg List.length hso; rw [List.length_mergeSort, List.length_map] at this; exact this
        by_cases hd : Lr = []
        · subst hd
          have hov := hnl0 (List.length_eq_zero_iff.1 hln)
          subst hov
          clear HG HP HO HS HL HV HK HR HLo hp hso hln hnl0
          go_wp2_with (first | (go_at_call 140; refine (c_SortW0 _ _ _ _).mono ?_; rintro e w' ⟨rfl, rfl⟩) | (go_at_call 143; refine (c_ClipW none 0 0 _ (Nat.le_refl _) (by unfold maxLen; omega) (fun _ => rfl)).mono ?_; rintro e w' ⟨rfl, rfl⟩))
          go_ret
          exact ⟨_, rfl, HB.out, Arr.nil _ 2, .inl ⟨rfl, rfl⟩⟩
        · have hpos : 0 < Lr.length := List.length_pos_iff.2 hd
          obtain ⟨gg, cap, hov, hnc, hcm⟩ : ∃ gg cap, o = .slice (some ⟨gg, 0, none⟩) Lr.length cap ∧ Lr.length ≤ cap ∧ cap ≤ maxLen := by
            rcases HO.out.2 with ⟨_, hz⟩ | ⟨gg, cap, cur, hov, hgb, hgc, hnc, hcm, hcs, hct⟩
            · omega
            · exact ⟨gg, cap, by rw [hov, hln], by omega, hcm⟩
          subst hov
          have hown := HO.out
          rw [hln] at hown
          rw [← hln] at hown
          obtain ⟨hH, hgb, hgl⟩ := holdsK_own (f := wsE M) (fun _ => rfl) (nz M done) (by rw [hln]; exact hln ▸ HO.out)
          have hsrt := c_SortW M gg 0 cap (nz M done).toArray wr hH hgl (by simp; omega)
          have hsd : (nz M done).toArray.size = Lr.length := by simp [hln]
          rw [hsd] at hsrt
          have hdd : ((nz M done).toArray.toList.mergeSort fun x y => !(ltOf wsC) y x).toArray = (Lr.map Wv.a).toArray := by rw [show (nz M done).toArray.toList = nz M done from rfl, hso]
          rw [hdd] at hsrt
          have HF := Lib.hid (fun nn os => ws_post (W := sortWorldK (wsE M) 2 wr gg 0 nn (Lr.map Wv.a).toArray os) (cap := cap) HLo.out HR.out rfl (holdsK_sortWorldK_c (wsE M) 2 wr gg 0 _ _ nn os hH hgl (by simp [hln])) (sortK_below HB.out (by omega) (by have := HB.out.size; omega)) (by omega) (Nat.lt_of_lt_of_le hgl (size_sortWorldK_c (wsE M) 2 wr gg 0 nn _ os)) hd hm)
          have HSo := Lib.hid hsrt
          clear HG HP HO HS HL HV HK HR HLo HB hp hso hln hnl0 hown hH hsrt hdd hsd
          go_wp2_with (first | (go_at_call 140; refine HSo.out.mono ?_; rintro e w' ⟨rfl, nn, os, rfl⟩) | (go_at_call 143; refine (c_ClipW _ _ _ _ hnc hcm (fun h => by cases h)).mono ?_; rintro e w' ⟨rfl, rfl⟩))
          go_ret
          exact HF.out nn os
      · have hpm := nz_step HP.out hpk
        have hxm : x ∈ L.map wdk := hpm.mem_iff.2 (by simp)
        obtain ⟨d, hd, rfl⟩ := List.mem_map.1 hxm
        have hwd := HL.out.wd d hd
        have hval : M d.a = d.v := by rw [← HV.out, cval_mem HL.out.na hd]
        have hdl : d.b < w.heap.size := hwd.lt
        have cw : w2.cell? ⟨d.b, 0, none⟩ = some (.int .u64 d.v) := by
          have h1 : wr.cell? ⟨d.b, 0, none⟩ = some (.int .u64 d.v) := (HB.out.cell (p := ⟨d.b, 0, none⟩) hdl).trans hwd.cell
          rw [← h1]
          exact World.cell?_of_block (hgr.block d.b (by omega) (by simp; omega))
        have HO2 : Hid (w2.ownsRow (w.heap.size + 1) 176 2 o (nz M done).length (rowOf (wsE M) (nz M done))) := Lib.hid ((Wrote.own (S := fun k => k = w.heap.size) ((Wrote.refl _ _).grown hgr (fun k hk _ => by cases hk; rfl)) HO.out fun k hk => by have := (HO.out.lt k hk).1; omega))
        have HB2 : Hid (Below w.heap.size w w2) := Lib.hid (HB.out.grown hgr (by omega) fun k hk => by cases hk; exact Nat.le_refl _)
        have HG2 := Lib.hid hrg2
        have hln := nz_len HV.out HL.out.na HP.out HR.out HLo.out HK.out
        have hms : rgLeft wr m w.heap.size = left'.length + 1 := by rw [HG.out.left_eq, hpk.length_eq]; rfl
        have HPM := Lib.hid hpm
        dsimp only [wdk] at hnx hen HPM
        have hle2 : w.heap.size + 1 ≤ w2.heap.size := by omega
        clear hrg hrg2 hpk hpm hxm hgr HO HB HG HP hsw hsz2
        by_cases hz : d.v = 0
        · have hzz : (d.v != 0) = false := by simp [hz]
          have hnn : nz M (done ++ [(d.a, d.b)]) = nz M done := nz_snoc_neg (by show M d.a = 0; rw [hval, hz])
          have HN := Lib.hid hnn
          clear hz hnn
          go_wp2_with (go_at_call 81; refine (c_aLoad cw).mono ?_; rintro e w' ⟨rfl, rfl⟩)
          go_roundw
          case rel => exact ⟨_, left', done ++ [(d.a, d.b)], rfl, HG2.out, HPM.out, by rw [HN.out]; exact HO2.out, HB2.out, hle2, by rw [HN.out]; exact hnl0⟩
          case measure => rw [HG2.out.left_eq, hms]; omega
        · have hzz : (d.v != 0) = true := by simp [hz]
          have hnn : nz M (done ++ [(d.a, d.b)]) = nz M done ++ [d.a] := nz_snoc_pos (by show M d.a ≠ 0; rw [hval]; exact hz)
          have HN := Lib.hid hnn
          have HVl := Lib.hid hval
          clear hz hnn hval hnl0
          go_wp2_with (first
            | (go_at_call 81; refine (c_aLoad cw).mono ?_; rintro e w' ⟨rfl, rfl⟩)
            | (at_builtin; refine append_one _ rfl _ _ 192 rfl (w.heap.size + 1) 176 i0 _ 2 16 Tryz.underlying192 hi hz0 hz1 hz2 rfl (by decide) (by decide) _ _ _ rfl HO2.out [.int .u64 d.a, .int .u64 d.v] _ rfl rfl (by simp [Value.oneCell']) (by omega) hle2 ?_; intro gg cap w3 hown3 hgr3
               have HO3 := Lib.hid hown3
               have HG3 : Hid (Rg w3 m w.heap.size (L.map wdk) left') := Lib.hid (HG2.out.keep (hgr3.block m (by omega) fun e => by have := (HO2.out.lt m e.symm).1; omega) (hgr3.block w.heap.size (by omega) fun e => by have := (HO2.out.lt w.heap.size e.symm).1; omega))
               have HB3 : Hid (Below w.heap.size w w3) := Lib.hid (HB2.out.grown hgr3 (by omega) fun k hk => by have := (HO2.out.lt k hk).1; omega)
               have hsz3 := hgr3.size
               clear hown3 hgr3))
          go_roundw
          case rel => exact ⟨_, left', done ++ [(d.a, d.b)], rfl, HG3.out, HPM.out, by rw [HN.out, rowOf_snoc, List.length_append]; have := HO3.out; unfold wsE; rw [HVl.out]; exact this, HB3.out, by omega, by rw [HN.out]; intro he; simp at he⟩
          case measure => rw [HG3.out.left_eq, hms]; omega
end
end Go.Proofs.YtijifjiehldcaaaGreat
