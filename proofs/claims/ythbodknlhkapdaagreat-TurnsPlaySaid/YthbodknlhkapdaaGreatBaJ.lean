/- Parts of the walk. -/
import Derived.Test.YthbodknlhkapdaaGreatBaB
import Derived.Test.YthbodknlhkapdaaGreatBaC
import Derived.Test.YthbodknlhkapdaaGreatBaF
import Derived.Test.YthbodknlhkapdaaGreatBaI
import Derived.Test.YthbodknlhkapdaaGreatBaH
import Derived.Test.YthbodknlhkapdaaGreatBaK
import Derived.BigQuiet
import Derived.ChangeKeysEq
import Derived.Deep.QuietTactic
import Derived.Deep.RegionHeld3
import Derived.Ground.SlsfProg
import Derived.Laws.StructEq
import Derived.Lib.Small
import Derived.Maps.RangeRun
import Derived.Maps.RangeWalk
import Derived.Shelf.Lay
import Derived.Shelf.SlSortCmp.NoneTotal
namespace Go.Proofs.YthbodknlhkapdaaGreat
set_option linter.unusedVariables false
set_option linter.unusedSimpArgs false
set_option maxHeartbeats 4000000
set_option maxRecDepth 100000
section
section
open Go.RowKit Go.ChangeMaps Go.MapKept
def decV : Value → Value → Int × Nat
 | .int _ z, .pointer (some a) => (z, a.block)
 | _, _ => (0, 0)
def Aug (e : MapEntry) : Int × Nat := decV e.key e.val
theorem Asn {e : MapEntry} {x : Int × Nat} (h : (e.key, e.val) = Aql x) : Aug e = x := by
 have h1 := congrArg Prod.fst h
 have h2 := congrArg Prod.snd h
 unfold Aug
 rw [show e.key = (Aql x).1 from h1, show e.val = (Aql x).2 from h2]
 rfl
theorem Avj {E : List MapEntry} {L : List (Int × Nat)} (h : E.map (fun e => (e.key, e.val)) = L.map Aql) {e : MapEntry} (he : e ∈ E) : (e.key, e.val) = Aql (Aug e) := by
 have : (e.key, e.val) ∈ L.map Aql := by rw [← h]; exact List.mem_map.2 ⟨e, he, rfl⟩
 obtain ⟨x, _, hx⟩ := List.mem_map.1 this
 rw [Asn hx.symm, hx]
theorem Ax4 {E : List MapEntry} {L : List (Int × Nat)} (h : E.map (fun e => (e.key, e.val)) = L.map Aql) : E.map Aug = L := by
 induction E generalizing L with
 | nil => cases L with
   | nil => rfl
   | cons x L => simp at h
 | cons e E ih => cases L with
   | nil => simp at h
   | cons x L =>
     simp only [List.map_cons, List.cons.injEq] at h ⊢
     exact ⟨Asn h.1, ih h.2⟩
theorem Als (e : MapEntry) : ∀ (F : List MapEntry), (F.map (·.born)).Nodup → e ∈ F → F.Perm (e :: F.filter fun x => !(x.born == e.born))
 | y :: F, hn, he => by
   have hn' : y.born ∉ F.map (·.born) ∧ (F.map (·.born)).Nodup := List.nodup_cons.1 hn
   rcases List.mem_cons.1 he with rfl | h
   · have hf : (e :: F).filter (fun x => !(x.born == e.born)) = F := by
      rw [List.filter_cons_of_neg (by simp)]
      refine List.filter_eq_self.2 fun x hx => ?_
      have : x.born ≠ e.born := fun hc => hn'.1 (List.mem_map.2 ⟨x, hx, hc⟩)
      simp [this]
     rw [hf]
   have hy : y.born ≠ e.born := fun hc => hn'.1 (by rw [hc]; exact List.mem_map.2 ⟨e, h, rfl⟩)
   rw [List.filter_cons_of_pos (by simp [hy])]
   exact ((Als e F hn'.2 h).cons y).trans (List.Perm.swap _ _ _)
def Rg (w : World) (m r : Nat) (L left : List (Int × Nat)) : Prop :=
 ∃ es clk since c0 seen, w.heap[m]? = some (.map es clk) ∧ es.toList.map (fun e => (e.key, e.val)) = L.map Aql ∧ (es.toList.map (·.born)).Nodup ∧ w.heap[r]? = some (.mapIter (some m) since seen c0) ∧ (∀ e ∈ es.toList, e.born < since) ∧ since ≤ c0 ∧ since ≤ clk ∧ left = (es.toList.filter fun e => !seen.contains e.born).map Aug
section
variable {P : Program} {w w' : World} {m r : Nat} {L left : List (Int × Nat)}
theorem Rg.start (h : Afs w m L) {t kt et : TypeId} (ht : P.underlying t = some (.map kt et)) :
 ∃ w', (Instr.range t (.map (some m))).run P w = .ok (.pointer (some ⟨w.heap.size, 0, none⟩)) w' ∧ Rg w' m w.heap.size L L ∧ Below w.heap.size w w' ∧ w'.heap.size = w.heap.size + 1 := by
 have hlt := h.lt
 obtain ⟨es, clk, hb, he, hbn, hnd⟩ := h
 refine ⟨w.alloc (.mapIter (some m) clk #[] clk), run_range_map w t kt et m es clk ht hb, ⟨es, clk, clk, clk, #[], ?_, he, hnd, heap_alloc_new w _, hbn, Nat.le_refl _, Nat.le_refl _, ?_⟩, bal _ _, by simp⟩
 · rw [heap_alloc_old w _ hlt, hb]
 have : es.toList.filter (fun e => !(#[] : Array Nat).contains e.born) = es.toList := List.filter_eq_self.2 fun x _ => by simp
 rw [this, Ax4 he]
theorem Rg.keep (h : Rg w m r L left) (hm : w'.heap[m]? = w.heap[m]?) (hr : w'.heap[r]? = w.heap[r]?) : Rg w' m r L left := by
 obtain ⟨es, clk, since, c0, seen, h1, h2, h3, h4, h5, h6, h8, h7⟩ := h
 exact ⟨es, clk, since, c0, seen, hm.trans h1, h2, h3, hr.trans h4, h5, h6, h8, h7⟩
theorem Rg.lt (h : Rg w m r L left) : m < w.heap.size ∧ r < w.heap.size := by
 obtain ⟨es, clk, since, c0, seen, h1, h2, h3, h4, h5, h6, h7⟩ := h
 exact ⟨(Array.getElem?_eq_some_iff.1 h1).1, (Array.getElem?_eq_some_iff.1 h4).1⟩
theorem Ai9 {o o' : Obj} {w1 : World} (h1 : w1 = w ∨ w1 = w.drew) (hr : w.heap[r]? = some o) : w.grownBy (setBlock w1 r o') (some r) ∧ (setBlock w1 r o').heap.size = w.heap.size ∧ (setBlock w1 r o').heap[r]? = some o' ∧ ∀ k, k ≠ r → (setBlock w1 r o').heap[k]? = w.heap[k]? := by
 have hz : w1.heap = w.heap := by rcases h1 with rfl | rfl <;> rfl
 have hlt := (Array.getElem?_eq_some_iff.1 hr).1
 have hk : ∀ k, k ≠ r → (setBlock w1 r o').heap[k]? = w.heap[k]? := fun k hne => by
  show (w1.heap.setIfInBounds r o')[k]? = _
  rw [hz, Array.getElem?_setIfInBounds_ne (Ne.symm hne)]
 refine ⟨⟨by rcases h1 with rfl | rfl <;> rfl, by rcases h1 with rfl | rfl <;> rfl, by rcases h1 with rfl | rfl <;> rfl, ?_, fun k _ hne => hk k fun e => hne (by rw [e])⟩, ?_, ?_, hk⟩
 · show w.heap.size ≤ (w1.heap.setIfInBounds r o').size
   rw [hz]; simp
 · show (w1.heap.setIfInBounds r o').size = _
   rw [hz]; simp
 show (w1.heap.setIfInBounds r o')[r]? = _
 rw [hz, Array.getElem?_setIfInBounds_self_of_lt hlt]
theorem Rg.next (h : Rg w m r L left) (hne : m ≠ r) (ty : TypeId) :
 (left = [] ∧ (Instr.next (.pointer (some ⟨r, 0, none⟩)) false ty).run P w = .ok (.tuple #[.bool false]) w) ∨
 ∃ x left' w', left.Perm (x :: left') ∧ (Instr.next (.pointer (some ⟨r, 0, none⟩)) false ty).run P w = .ok (.tuple #[.bool true, .int .u64 x.1, .pointer (some ⟨x.2, 0, none⟩)]) w' ∧ Rg w' m r L left' ∧ (Instr.entry (.pointer (some ⟨r, 0, none⟩))).run P w' = .ok (.tuple #[.int .u64 x.1, .pointer (some ⟨x.2, 0, none⟩)]) w' ∧ w.grownBy w' (some r) ∧ w'.heap.size = w.heap.size := by
 obtain ⟨es, clk, since, c0, seen, h1, h2, h3, h4, h5, h6, h8, rfl⟩ := h
 have hle : (leftOf es seen).toList = es.toList.filter fun e => !seen.contains e.born := by unfold leftOf; rw [Array.toList_filter]
 rcases run_next_at (P := P) w ty r m since c0 seen es clk h4 h1 h5 h6 with ⟨hz, hrun⟩ | ⟨e, he, w1, hw1, hrun⟩
 · left
   refine ⟨?_, hrun⟩
   have : (leftOf es seen).toList = [] := by rw [Array.eq_empty_of_size_eq_zero hz]
   rw [← hle, this]
   rfl
 right
 have heE : e ∈ es.toList := (mem_left he).1
 have hen := Avj h2 heE
 have hk : e.key = .int .u64 (Aug e).1 := congrArg Prod.fst hen
 have hv : e.val = .pointer (some ⟨(Aug e).2, 0, none⟩) := congrArg Prod.snd hen
 obtain ⟨g1, g2, g3, g4⟩ := Ai9 (o' := .mapIter (some m) since (seen.push e.born) clk) hw1 h4
 have hm2 := (g4 m hne).trans h1
 rw [hle] at he
 have hpk := Als e _ (List.Nodup.sublist ((List.filter_sublist (l := es.toList) (p := fun e => !seen.contains e.born)).map (·.born)) h3) he
 refine ⟨Aug e, ((es.toList.filter fun e => !seen.contains e.born).filter fun x => !(x.born == e.born)).map Aug, _, by simpa using hpk.map Aug, by rw [← hk, ← hv]; exact hrun, ⟨es, clk, since, clk, seen.push e.born, hm2, h2, h3, g3, h5, h8, h8, ?_⟩, by rw [← hk, ← hv]; exact run_entry_at _ r m since seen es clk e g3 hm2 heE h3, g1, g2⟩
 rw [List.filter_filter]
 congr 1
 refine List.filter_congr fun x _ => ?_
 rw [contains_push]
 cases seen.contains x.born <;> cases x.born == e.born <;> rfl
end
end
section
open Go.RowKit Go.Shelf Go.Lib Go.Sort
theorem ws_sort_eq {α : Type} {a b : α} {o : Option α} (h : o = some a) (e : a = b := by kernel_rfl) : o = some b := h.trans (congrArg some e)
def ws_sort_ren : Go.Shelf.Ren := ⟨fun | 6 => 127 | 15 => 160 | 14 => 159 | 28 => 179 | 29 => 180 | 20 => 171 | 21 => 172 | 22 => 173 | 23 => 174 | 24 => 175 | 25 => 176 | 26 => 177 | 27 => 178 | 46 => 186 | 47 => 187 | 48 => 188 | 49 => 189 | 50 => 190 | 57 => 197 | n => n, fun | 22 => 194 | 24 => 144 | 25 => 241 | 3 => 3 | 39 => 271 | 0 => 0 | 53 => 56 | 55 => 37 | 4 => 4 | 46 => 286 | 45 => 285 | 50 => 290 | 5 => 5 | 9 => 9 | 66 => 297 | 70 => 300 | 76 => 308 | 77 => 86 | n => n, fun | n => n⟩
open _root_.Go.Proofs.Tryz in
theorem ws_sort : Go.Proofs.SlLaysF0.n6 Tryz.prog ws_sort_ren := {mixed := by kernel_rfl, f6 := ⟨f127.name, by decide, ws_sort_eq func127⟩, f14 := ⟨f159.name, by decide, ws_sort_eq func159⟩, f15 := ws_sort_eq func160, f20 := ⟨f171.name, by decide, ws_sort_eq func171⟩, f21 := ⟨f172.name, by decide, ws_sort_eq func172⟩, f22 := ⟨f173.name, by decide, ws_sort_eq func173⟩, f23 := ⟨f174.name, by decide, ws_sort_eq func174⟩, f24 := ⟨f175.name, by decide, ws_sort_eq func175⟩, f25 := ⟨f176.name, by decide, ws_sort_eq func176⟩, f26 := ⟨f177.name, by decide, ws_sort_eq func177⟩, f27 := ⟨f178.name, by decide, ws_sort_eq func178⟩, f28 := ws_sort_eq func179, f29 := ws_sort_eq func180, f46 := ⟨f186.name, by decide, ws_sort_eq func186⟩, f47 := ws_sort_eq func187, f48 := ws_sort_eq func188, f49 := ⟨f189.name, by decide, ws_sort_eq func189⟩, f50 := ⟨f190.name, by decide, ws_sort_eq func190⟩, f57 := ⟨f197.name, by decide, ws_sort_eq func197⟩, t0 := underlying0, a0 := isAgg0, z0 := sizeOf0, v0 := zeroValue0, t3 := underlying3, a3 := isAgg3, z3 := sizeOf3, v3 := zeroValue3, t4 := underlying4, a4 := isAgg4, z4 := sizeOf4, v4 := zeroValue4, t5 := underlying5, a5 := isAgg5, z5 := sizeOf5, v5 := zeroValue5, t9 := underlying9, a9 := isAgg9, z9 := sizeOf9, v9 := zeroValue9, t22 := underlying194, a22 := isAgg194, z22 := sizeOf194, v22 := zeroValue194, t25 := underlying241, a25 := isAgg241, z25 := sizeOf241, v25 := zeroValue241, t39 := underlying271, a39 := isAgg271, z39 := sizeOf271, v39 := zeroValue271, t45 := underlying285, a45 := isAgg285, z45 := sizeOf285, v45 := zeroValue285, t46 := underlying286, a46 := isAgg286, z46 := sizeOf286, v46 := zeroValue286, t50 := underlying290, a50 := isAgg290, z50 := sizeOf290, v50 := zeroValue290, t53 := underlying56, a53 := isAgg56, z53 := sizeOf56, v53 := zeroValue56, t55 := underlying37, a55 := isAgg37, z55 := sizeOf37, v55 := zeroValue37, t66 := underlying297, a66 := isAgg297, z66 := sizeOf297, v66 := zeroValue297, t70 := underlying300, a70 := isAgg300, z70 := sizeOf300, v70 := zeroValue300, t76 := underlying308, a76 := isAgg308, z76 := sizeOf308, v76 := zeroValue308, t77 := underlying86, a77 := isAgg86, z77 := sizeOf86, v77 := zeroValue86}
theorem Anx (x : Int) (w : World) : Calls Tryz.prog 161 #[.int .u64 x] w fun e w' => e = .returned (.bool false) ∧ w = w' := by
 have hx : (x != x) = false := by simp
 go_enter Tryz.func161, Tryz.ntmps161
 go_wp2
 go_ret
 exact ⟨rfl, rfl⟩
theorem Bcv (x y : Int) (w : World) : Calls Tryz.prog 129 #[.int .u64 x, .int .u64 y] w fun e w' => e = .returned (.int .i64 (Lib.compareInt x y)) ∧ w = w' := by
 unfold Lib.compareInt
 by_cases h1 : x < y
 · have d1 : decide (x < y) = true := by simp [h1]
   go_enter Tryz.func129, Tryz.ntmps129
   go_wp2_with (go_at_call 161; refine (Anx _ _).mono ?_; rintro e w' ⟨rfl, rfl⟩)
   go_ret
   exact ⟨by simp [h1], rfl⟩
 have d1 : decide (x < y) = false := by simp [h1]
 by_cases h2 : y < x
 · have d2 : decide (x > y) = true := by simp [h2]
   go_enter Tryz.func129, Tryz.ntmps129
   go_wp2_with (go_at_call 161; refine (Anx _ _).mono ?_; rintro e w' ⟨rfl, rfl⟩)
   go_ret
   exact ⟨by simp [h1, h2], rfl⟩
 have d2 : decide (x > y) = false := by simp; omega
 go_enter Tryz.func129, Tryz.ntmps129
 go_wp2_with (go_at_call 161; refine (Anx _ _).mono ?_; rintro e w' ⟨rfl, rfl⟩)
 go_ret
 exact ⟨by simp [h1, h2], rfl⟩
def wsE (M : Int → Int) (a : Int) : List Value := [.int .u64 a, .int .u64 (M a)]
def wsC (x y : Int) : Int := Lib.compareInt x y
theorem Az4 (x y : Int) : ltOf wsC x y = decide (x < y) := by
 unfold ltOf wsC Lib.compareInt
 by_cases h1 : x < y
 · simp [h1]
 by_cases h2 : y < x <;> simp [h1, h2]
theorem wsO : SWO (ltOf wsC) where
 irrefl x := by rw [Az4]; simp
 trans x y z h1 h2 := by rw [Az4] at *; simp at *; omega
 ntrans x y z h1 h2 := by rw [Az4] at *; simp at *; omega
theorem Ap4 (x y p q : Int) (W : World) : Calls Tryz.prog 128 #[.agg #[.int .u64 x, .int .u64 p], .agg #[.int .u64 y, .int .u64 q]] W fun e w' => e = .returned (.int .i64 (Lib.compareInt x y)) ∧ ∃ n os', w' = grow (W.drewN n) os' := by
 have hcon := fun W' => Bcv x y W'
 generalize Lib.compareInt x y = r at hcon ⊢
 go_enter Tryz.func128, Tryz.ntmps128
 go_wp2_with (go_at_call 129; refine (hcon _).mono ?_; rintro e w' ⟨rfl, rfl⟩)
 go_ret
 exact ⟨rfl, 0, _, by rw [alloc_eq_grow, alloc_eq_grow, grow_grow]; rfl⟩
theorem Axa (M : Int → Int) (blk off size : Nat) (w : World) : CmpLays Tryz.prog 128 #[] (wsE M) 2 wsC blk off size w :=
 fun _ _ _ _ x y => Ap4 x y _ _ _
theorem Az3 : ∀ w, (isAgg 144).run Tryz.prog w = .ok true w := by intro w; kernel_rfl
theorem Aw8 : ∀ w, (Go.sizeOf 144).run Tryz.prog w = .ok 2 w := by intro w; kernel_rfl
theorem Ay8 (M : Int → Int) (blk off cap : Nat) (d : Array Int) (w : World) (hH : HoldsK (wsE M) 2 w blk off d) (hblk : blk < w.heap.size) (hsz : d.size < 4611686018427387904) :
 Calls Tryz.prog 127 #[.slice (some ⟨blk, off, none⟩) d.size cap, .func (.func 128) #[] #[]] w fun e w' =>
  e = .returned (.tuple #[]) ∧ ∃ n os, w' = sortWorldK (wsE M) 2 w blk off n (d.toList.mergeSort fun x y => !(ltOf wsC) y x).toArray os :=
 AnyQ.slices_SortFunc_total ws_sort 2 Az3 Aw8 (wsE M) (fun _ => rfl) (fun x v hv => by simp [wsE] at hv; rcases hv with rfl | rfl <;> rfl) wsC wsO 128 #[] blk off cap d w
  (enters_of Tryz.func128 (by kernel_rfl) rfl) (Axa M blk off d.size w) hH hblk hsz (fun x y h1 h2 => by rw [Az4] at h1 h2; simp at h1 h2; omega)
theorem App (p : Option Addr) (cap : Nat) (fv : Value) (w : World) :
 Calls Tryz.prog 127 #[.slice p 0 cap, fv] w fun e w' => e = .returned (.tuple #[]) ∧ w = w' :=
 (AnyF.slices_SortFunc_none ws_sort p cap fv w).mono fun _ _ h => ⟨h.1, h.2.symm⟩
theorem Aoa (ao : Option Addr) (n c : Nat) (w : World) (hn : n ≤ c) (hc : c ≤ maxLen) (ha : ao = none → c = 0) :
 Calls Tryz.prog 130 #[.slice ao n c] w fun e w' => e = .returned (.slice ao n n) ∧ w = w' := by
 unfold maxLen at hc
 cases ao with
 | none =>
   obtain rfl := ha rfl
   obtain rfl : n = 0 := by omega
   go_enter Tryz.func130, Tryz.ntmps130
   go_wp2
   go_ret
   exact ⟨rfl, rfl⟩
 | some a =>
   go_enter Tryz.func130, Tryz.ntmps130
   go_wp2
   go_ret
   exact ⟨rfl, rfl⟩
end
section
open Go.RowKit Go.Shelf Go.Lib Go.Sort
def nz (M : Int → Int) (l : List (Int × Nat)) : List Int := (l.map Prod.fst).filter fun a => decide (M a ≠ 0)
theorem Anm {M : Int → Int} {l : List (Int × Nat)} {x : Int × Nat} (h : M x.1 ≠ 0) : nz M (l ++ [x]) = nz M l ++ [x.1] := by
 unfold nz
 rw [List.map_append, List.filter_append]
 simp [h]
theorem Ann {M : Int → Int} {l : List (Int × Nat)} {x : Int × Nat} (h : M x.1 = 0) : nz M (l ++ [x]) = nz M l := by
 unfold nz
 rw [List.map_append, List.filter_append]
 simp [h]
theorem Anv {L : List Wde} {a : Int} (h : Afh L a ≠ 0) : a ∈ L.map Wde.a := by
 unfold Afh at h
 cases hf : L.find? (fun d => d.a == a) with
 | none => rw [hf] at h; exact absurd rfl h
 | some d =>
   have h1 := List.mem_of_find?_eq_some hf
   have h2 := List.find?_some hf
   exact List.mem_map.2 ⟨d, h1, by simpa using h2⟩
theorem Alf {M : Int → Int} {L : List Wde} {Lr : List Wv} {done : List (Int × Nat)} (hM : ∀ y, Afh L y = M y) (hn : (L.map Wde.a).Nodup) (hp : (L.map wdk).Perm done) (hris : Ris Lr) (hlook : ∀ y, Ads Lr y = M y) (hok : ∀ x ∈ Lr, Azz x) :
 (nz M done).mergeSort (fun x y => !(ltOf wsC) y x) = Lr.map Wv.a := by
 have hfst : (L.map wdk).map Prod.fst = L.map Wde.a := by rw [List.map_map]; rfl
 have hpa : (L.map Wde.a).Perm (done.map Prod.fst) := by rw [← hfst]; exact hp.map _
 have hnd : (nz M done).Nodup := List.Nodup.sublist List.filter_sublist (hpa.nodup_iff.1 hn)
 have hmem : ∀ a, a ∈ nz M done ↔ M a ≠ 0 := by
  intro a
  unfold nz
  rw [List.mem_filter]
  constructor
  · intro h; simpa using h.2
  intro h
  exact ⟨hpa.mem_iff.1 (Anv (by rw [hM]; exact h)), by simpa using h⟩
 have hmem2 : ∀ a, a ∈ Lr.map Wv.a ↔ M a ≠ 0 := by
  intro a
  constructor
  · intro h
    obtain ⟨x, hx, rfl⟩ := List.mem_map.1 h
    rw [← hlook, Ah2 hris hx]
    have := (hok x hx).2.1
    omega
  intro h
  refine Classical.byContradiction fun hc => h ?_
  rw [← hlook]
  exact Ap6 fun x hx he => hc (List.mem_map.2 ⟨x, hx, he⟩)
 have hpw : (Lr.map Wv.a).Pairwise (· < ·) := List.pairwise_map.2 hris
 have hnd2 : (Lr.map Wv.a).Nodup := hpw.imp fun h => by omega
 have hperm : (nz M done).Perm (Lr.map Wv.a) := (List.perm_ext_iff_of_nodup hnd hnd2).2 fun a => by rw [hmem, hmem2]
 have hle : (fun x y : Int => !(ltOf wsC) y x) = fun x y => decide (x ≤ y) := by
  funext x y
  rw [Az4]
  by_cases h : y < x
  · have : ¬ x ≤ y := by omega
    simp [h]
  have : x ≤ y := by omega
  simp [h]; omega
 rw [hle]
 refine List.Perm.eq_of_pairwise (le := fun x y : Int => x ≤ y) (fun a b _ _ h1 h2 => by omega) ?_ (hpw.imp fun h => by omega) ((List.mergeSort_perm _ _).trans hperm)
 have := List.pairwise_mergeSort (le := fun x y : Int => decide (x ≤ y)) (fun a b c h1 h2 => by simp at h1 h2 ⊢; omega) (fun a b => by simp; omega) (nz M done)
 exact this.imp fun h => by simpa using h
theorem Aur {α : Type} [Inhabited α] {f : α → List Value} (hf : ∀ a, (f a).length = 2) (l : List α) (t : Nat) (ht : t < l.length * 2) : (Aa2 f l)[t]? = some ((flatK f 2 l.toArray)[t]!) := by
 rw [get_flatK f 2 l.toArray t (by simpa using ht)]
 have hi : t / 2 < l.length := by omega
 have hr := Abk hf l (t / 2) (t % 2) hi (by omega)
 rw [show t / 2 * 2 + t % 2 = t by omega] at hr
 rw [hr]
 have he : (l.toArray)[t / 2]! = l[t / 2] := by rw [getElem!_pos _ _ (by simpa using hi)]; simp
 rw [he, List.getElem?_eq_getElem (by rw [hf]; omega), getElem!_pos _ _ (by rw [hf]; omega)]
theorem Aqf {α : Type} [Inhabited α] {f : α → List Value} (hf : ∀ a, (f a).length = 2) {w : World} {base g n cap : Nat} {e : TypeId} (l : List α) (h : w.ownsRow base e 2 (.slice (some ⟨g, 0, none⟩) n cap) l.length (Aa2 f l)) : HoldsK f 2 w g 0 l.toArray ∧ base ≤ g ∧ g < w.heap.size := by
 refine ⟨?_, (h.lt g rfl)⟩
 intro t ht
 rw [size_flatK] at ht
 have ht2 : t < l.length * 2 := by simpa using ht
 have hx := Aur hf l t ht2
 have hc := h.cells (g := g) rfl t _ hx
 have hadd : (⟨g, 0, none⟩ : Addr).add t = ⟨g, t, none⟩ := by unfold Addr.add; split <;> simp_all
 rw [hadd] at hc
 refine ⟨by rw [Nat.zero_add]; exact hc, ?_⟩
 rcases h.2 with ⟨hv, _⟩ | ⟨g', cap', cur, hv, _, hg, _⟩
 · cases hv
 cases hv
 unfold World.frozen?
 simp [hg]
theorem Ane {α : Type} [Inhabited α] {f : α → List Value} {k : Nat} {w0 w : World} {B blk off n : Nat} {d : Array α} {os : Array Obj} (h : Below B w0 w) (hb : B ≤ blk) (hB : B ≤ w.heap.size) : Below B w0 (sortWorldK f k w blk off n d os) := by
 refine ⟨h.os, h.tape, h.output, Nat.le_trans h.size (size_sortWorldK_c f k w blk off n d os), fun j hj => ?_⟩
 rw [← h.block j hj]
 unfold sortWorldK
 rw [heap_grow_old _ _ (by rw [size_putRowK]; exact Nat.lt_of_lt_of_le hj hB)]
 show (w.heap.modify blk _)[j]? = _
 rw [Array.getElem?_modify, if_neg (by omega)]
def Aoq (w : World) (m r : Nat) : Nat :=
 match w.heap[m]?, w.heap[r]? with
 | some (.map es _), some (.mapIter _ _ seen _) => (es.toList.filter fun e => !seen.contains e.born).length
 | _, _ => 0
theorem Rg.left_eq {w : World} {m r : Nat} {L left : List (Int × Nat)} (h : Rg w m r L left) : Aoq w m r = left.length := by
 obtain ⟨es, clk, since, c0, seen, h1, h2, h3, h4, h5, h6, h8, rfl⟩ := h
 unfold Aoq
 rw [h1, h4]
 simp
def Aw5 (w : World) (Lr : List Wv) (e : Ending) (w' : World) : Prop :=
 ∃ v, e = .returned v ∧ Below w.heap.size w w' ∧ Arr w' v Lr.length 2 (Aa2 wvc Lr) ∧ ((Lr = [] ∧ v = .slice none 0 0) ∨ ∃ b, v = .slice (some ⟨b, 0, none⟩) Lr.length Lr.length ∧ w.heap.size ≤ b ∧ b < w'.heap.size ∧ ∀ j, j < Lr.length * 2 → w'.frozen? ⟨b, j, none⟩ = false)
theorem Bat : (Tryz.prog.info? 144).map (fun i => (i.zero, i.size, i.bytes)) = some (some (.agg #[.int .u64 0, .int .u64 0]), 2, 16) := by kernel_rfl
theorem Aw9 {w W : World} {M : Int → Int} {Lr : List Wv} {b cap : Nat} {d : Array Int} (hlook : ∀ y, Ads Lr y = M y) (hris : Ris Lr) (hd : d = (Lr.map Wv.a).toArray) (hH : HoldsK (wsE M) 2 W b 0 d) (hb : Below w.heap.size w W) (hwb : w.heap.size ≤ b) (hbW : b < W.heap.size) (h0 : Lr ≠ []) (hm : Lr.length ≤ 1000000) :
 Aw5 w Lr (.returned (.slice (some ⟨b, 0, none⟩) Lr.length Lr.length)) W := by
 have hcell : ∀ t, t < Lr.length * 2 → W.cell? ⟨b, t, none⟩ = (Aa2 wvc Lr)[t]? ∧ W.frozen? ⟨b, t, none⟩ = false := by
  intro t ht
  have hi : t / 2 < Lr.length := by omega
  have hsz : d.size = Lr.length := by rw [hd]; simp
  have hc := hH.cell (i := t / 2) (c := t % 2) (by rw [hsz]; exact hi) (by omega)
  rw [show 0 + t / 2 * 2 + t % 2 = t by omega] at hc
  refine ⟨?_, hc.2⟩
  rw [hc.1]
  have hr := Abk Ad6 Lr (t / 2) (t % 2) hi (by omega)
  rw [show t / 2 * 2 + t % 2 = t by omega] at hr
  rw [hr]
  have he : d[t / 2]! = (Lr[t / 2]).a := by rw [hd, getElem!_pos _ _ (by simpa using hi)]; simp
  have hv : wsE M d[t / 2]! = wvc Lr[t / 2] := by
   rw [he]
   unfold wsE wvc
   rw [← hlook, Ah2 hris (List.getElem_mem hi)]
  rw [hv, List.getElem?_eq_getElem (by rw [Ad6]; omega), getElem!_pos _ _ (by rw [Ad6]; omega)]
 refine ⟨_, rfl, hb, ⟨Afw Ad6 Lr, some ⟨b, 0, none⟩, Lr.length, rfl, Nat.le_refl _, by unfold maxLen; omega, fun j u hu => ?_⟩, .inr ⟨b, rfl, hwb, hbW, fun j hj => (hcell j hj).2⟩⟩
 have hj : j < Lr.length * 2 := by have := (List.getElem?_eq_some_iff.1 hu).1; rwa [Afw Ad6] at this
 refine ⟨b, 0, rfl, hbW, ?_⟩
 rw [Nat.zero_add, (hcell j hj).1]
 exact hu
end
section
open Go.RowKit Go.Shelf Go.Lib Go.Sort
theorem Ar8 (p : Value) (ty : TypeId) : Instr.next p false ty = Instr.next p false 0 := rfl
theorem Axm {P : Program} {w : World} {m r : Nat} {L left : List (Int × Nat)} (h : Rg w m r L left) (hne : m ≠ r) :
 (left = [] ∧ ∀ ty, (Instr.next (.pointer (some ⟨r, 0, none⟩)) false ty).run P w = .ok (.tuple #[.bool false]) w) ∨
 ∃ x left' w', left.Perm (x :: left') ∧ (∀ ty, (Instr.next (.pointer (some ⟨r, 0, none⟩)) false ty).run P w = .ok (.tuple #[.bool true, .int .u64 x.1, .pointer (some ⟨x.2, 0, none⟩)]) w') ∧ Rg w' m r L left' ∧ (Instr.entry (.pointer (some ⟨r, 0, none⟩))).run P w' = .ok (.tuple #[.int .u64 x.1, .pointer (some ⟨x.2, 0, none⟩)]) w' ∧ w.grownBy w' (some r) ∧ w'.heap.size = w.heap.size := by
 rcases Rg.next (P := P) h hne 0 with ⟨h1, h2⟩ | ⟨x, l, w', h1, h2, h3⟩
 · exact .inl ⟨h1, fun ty => by rw [Ar8]; exact h2⟩
 exact .inr ⟨x, l, w', h1, fun ty => by rw [Ar8]; exact h2, h3⟩
theorem Ar3 (M : Int → Int) (a b : List (Int × Nat)) : nz M (a ++ b) = nz M a ++ nz M b := by unfold nz; simp
theorem Bah {M : Int → Int} {L : List Wde} {Lr : List Wv} {done left : List (Int × Nat)} (hM : ∀ y, Afh L y = M y) (hn : (L.map Wde.a).Nodup) (hp : (L.map wdk).Perm (done ++ left)) (hris : Ris Lr) (hlook : ∀ y, Ads Lr y = M y) (hok : ∀ x ∈ Lr, Azz x) : (nz M done).length ≤ Lr.length := by
 have h1 := congrArg List.length (Alf hM hn hp hris hlook hok)
 rw [List.length_mergeSort, Ar3, List.length_append, List.length_map] at h1
 omega
theorem Axr {done left left' Lw : List (Int × Nat)} {x : Int × Nat} (h1 : Lw.Perm (done ++ left)) (h2 : left.Perm (x :: left')) : Lw.Perm ((done ++ [x]) ++ left') := by
 rw [List.append_assoc]
 exact h1.trans (h2.append_left done)
theorem Ay3 {w : World} {O : Om} {g c : Nat} {M : Int → Int} {n : Int} {la : La} (h : CO w O g c M n la) (Lr : List Wv) (hris : Ris Lr) (hlook : ∀ y, Ads Lr y = M y) (hok : ∀ x ∈ Lr, Azz x) (hm : Lr.length ≤ 1000000) :
 C1 94 c w (Aw5 w Lr) := by
 obtain ⟨i0, hi, hz0, hz1, hz2⟩ := info_parts Bat
 obtain ⟨L, hL, hv⟩ := Ce.ex (F := fun j => O j = g) h
 have hs := fun d : List (Int × Nat) => fun hp => Alf (done := d) hv hL.na hp hris hlook hok
 rcases hL.mp with ⟨h0, h1⟩ | ⟨m, h1, h2, h3, h4, h5⟩
 · have hlr : Lr = [] := by
    have := hs [] (by rw [h0]; exact List.Perm.refl _)
    rw [show nz M [] = [] from rfl, List.mergeSort_nil] at this
    exact List.map_eq_nil_iff.1 this.symm
   subst hlr
   have r1 := run_range_nilMap (P := Tryz.prog) w 135 _ _ Tryz.underlying135
   have n1 := fun ty => run_next_nilMap (P := Tryz.prog) w ty 0 0 #[]
   clear h hL hv hs h0 hlook hok hris hi hz0 hz1 hz2
   go_enter Tryz.func94, Tryz.ntmps94
   go_wp2_with fail
   refine wp_loop_rounds 1 ?_
   rw [rounds_succ]
   go_wp2_with (first | (go_at_call 127; refine (App _ _ _ _).mono ?_; rintro e w' ⟨rfl, rfl⟩) | (go_at_call 130; refine (Aoa none 0 0 _ (Nat.le_refl _) (by unfold maxLen; omega) (fun _ => rfl)).mono ?_; rintro e w' ⟨rfl, rfl⟩))
   go_ret
   exact ⟨_, rfl, bal _ _, Arr.nil _ 2, .inl ⟨rfl, rfl⟩⟩
 obtain ⟨w1, hrun, hrg, hbel, hsz⟩ := Rg.start (P := Tryz.prog) h2 Tryz.underlying135
 have hml := h2.lt
 have hmr : m ≠ w.heap.size := by omega
 have HL := hQd hL
 have HV := hQd hv
 have HS := hQd hs
 have HK := hQd hok
 have HR := hQd hris
 have HLo := hQd hlook
 have HG := hQd hrg
 have HB := hQd hbel
 clear h hL hv hs h2 h3 h4 h5 hok hris hlook hrg hbel
 go_enter Tryz.func94, Tryz.ntmps94
 go_wp2_with fail
 go_loopw [3] (fun s wr => ∃ o left done, o = s ∧ Rg wr m w.heap.size (L.map wdk) left ∧ (L.map wdk).Perm (done ++ left) ∧ wr.ownsRow (w.heap.size + 1) 144 2 o (nz M done).length (Aa2 (wsE M) (nz M done)) ∧ Below w.heap.size w wr ∧ w.heap.size + 1 ≤ wr.heap.size ∧ (nz M done = [] → o = .slice none 0 0))
  (fun _ wr => Aoq wr m w.heap.size)
 case atStart => exact ⟨_, L.map wdk, [], rfl, HG.out, List.Perm.refl _, World.ownsRow_nil _ _ _ _, HB.out, by omega, fun _ => rfl⟩
 clear hrun HG HB
 obtain ⟨o, left, done, rfl, hrg, hperm, hown, hbel, hsw, hnl0⟩ := hrel
 have HG := hQd hrg
 have HP := hQd hperm
 have HO := hQd hown
 have HB := hQd hbel
 clear hperm hown hbel
 rcases Axm (P := Tryz.prog) hrg hmr with ⟨rfl, hnx⟩ | ⟨x, left', w2, hpk, hnx, hrg2, hen, hgr, hsz2⟩
 · clear hrg
   have hp := HP.out
   rw [List.append_nil] at hp
   have hso := HS.out done hp
   have hln : (nz M done).length = Lr.length := by have := congrArg List.length hso; rw [List.length_mergeSort, List.length_map] at this; exact this
   by_cases hd : Lr = []
   · subst hd
     have hov := hnl0 (List.length_eq_zero_iff.1 hln)
     subst hov
     clear HG HP HO HS HL HV HK HR HLo hp hso hln hnl0
     go_wp2_with (first | (go_at_call 127; refine (App _ _ _ _).mono ?_; rintro e w' ⟨rfl, rfl⟩) | (go_at_call 130; refine (Aoa none 0 0 _ (Nat.le_refl _) (by unfold maxLen; omega) (fun _ => rfl)).mono ?_; rintro e w' ⟨rfl, rfl⟩))
     go_ret
     exact ⟨_, rfl, HB.out, Arr.nil _ 2, .inl ⟨rfl, rfl⟩⟩
   have hpos : 0 < Lr.length := List.length_pos_iff.2 hd
   obtain ⟨gg, cap, hov, hnc, hcm⟩ : ∃ gg cap, o = .slice (some ⟨gg, 0, none⟩) Lr.length cap ∧ Lr.length ≤ cap ∧ cap ≤ maxLen := by
    rcases HO.out.2 with ⟨_, hz⟩ | ⟨gg, cap, cur, hov, hgb, hgc, hnc, hcm, hcs, hct⟩
    · omega
    exact ⟨gg, cap, by rw [hov, hln], by omega, hcm⟩
   subst hov
   have hown := HO.out
   rw [hln] at hown
   rw [← hln] at hown
   obtain ⟨hH, hgb, hgl⟩ := Aqf (f := wsE M) (fun _ => rfl) (nz M done) (by rw [hln]; exact hln ▸ HO.out)
   have hsrt := Ay8 M gg 0 cap (nz M done).toArray wr hH hgl (by simp; omega)
   have hsd : (nz M done).toArray.size = Lr.length := by simp [hln]
   rw [hsd] at hsrt
   have hdd : ((nz M done).toArray.toList.mergeSort fun x y => !(ltOf wsC) y x).toArray = (Lr.map Wv.a).toArray := by rw [show (nz M done).toArray.toList = nz M done from rfl, hso]
   rw [hdd] at hsrt
   have HF := hQd (fun nn os => Aw9 (W := sortWorldK (wsE M) 2 wr gg 0 nn (Lr.map Wv.a).toArray os) (cap := cap) HLo.out HR.out rfl (holdsK_sortWorldK_c (wsE M) 2 wr gg 0 _ _ nn os hH hgl (by simp [hln])) (Ane HB.out (by omega) (by have := HB.out.size; omega)) (by omega) (Nat.lt_of_lt_of_le hgl (size_sortWorldK_c (wsE M) 2 wr gg 0 nn _ os)) hd hm)
   have HSo := hQd hsrt
   clear HG HP HO HS HL HV HK HR HLo HB hp hso hln hnl0 hown hH hsrt hdd hsd
   go_wp2_with (first | (go_at_call 127; refine HSo.out.mono ?_; rintro e w' ⟨rfl, nn, os, rfl⟩) | (go_at_call 130; refine (Aoa _ _ _ _ hnc hcm (fun h => by cases h)).mono ?_; rintro e w' ⟨rfl, rfl⟩))
   go_ret
   exact HF.out nn os
 have hpm := Axr HP.out hpk
 have hxm : x ∈ L.map wdk := hpm.mem_iff.2 (by simp)
 obtain ⟨d, hd, rfl⟩ := List.mem_map.1 hxm
 have hwd := HL.out.wd d hd
 have hval : M d.a = d.v := by rw [← HV.out, Aky HL.out.na hd]
 have hdl : d.b < w.heap.size := hwd.lt
 have cw : w2.cell? ⟨d.b, 0, none⟩ = some (.int .u64 d.v) := by
  have h1 : wr.cell? ⟨d.b, 0, none⟩ = some (.int .u64 d.v) := (HB.out.cell (p := ⟨d.b, 0, none⟩) hdl).trans hwd.cell
  rw [← h1]
  exact World.cell?_of_block (hgr.block d.b (by omega) (by simp; omega))
 have HO2 : Hid (w2.ownsRow (w.heap.size + 1) 144 2 o (nz M done).length (Aa2 (wsE M) (nz M done))) := hQd ((Aag.own (S := fun k => k = w.heap.size) ((Aag.refl _ _).grown hgr (fun k hk _ => by cases hk; rfl)) HO.out fun k hk => by have := (HO.out.lt k hk).1; omega))
 have HB2 : Hid (Below w.heap.size w w2) := hQd (HB.out.grown hgr (by omega) fun k hk => by cases hk; exact Nat.le_refl _)
 have HG2 := hQd hrg2
 have hln := Bah HV.out HL.out.na HP.out HR.out HLo.out HK.out
 have hms : Aoq wr m w.heap.size = left'.length + 1 := by rw [HG.out.left_eq, hpk.length_eq]; rfl
 have HPM := hQd hpm
 dsimp only [wdk] at hnx hen HPM
 have hle2 : w.heap.size + 1 ≤ w2.heap.size := by omega
 clear hrg hrg2 hpk hpm hxm hgr HO HB HG HP hsw hsz2
 by_cases hz : d.v = 0
 · have hzz : (d.v != 0) = false := by simp [hz]
   have hnn : nz M (done ++ [(d.a, d.b)]) = nz M done := Ann (by show M d.a = 0; rw [hval, hz])
   have HN := hQd hnn
   clear hz hnn
   go_wp2_with (go_at_call 56; refine (Ais cw).mono ?_; rintro e w' ⟨rfl, rfl⟩)
   go_roundw
   case rel => exact ⟨_, left', done ++ [(d.a, d.b)], rfl, HG2.out, HPM.out, by rw [HN.out]; exact HO2.out, HB2.out, hle2, by rw [HN.out]; exact hnl0⟩
   case measure => rw [HG2.out.left_eq, hms]; omega
 have hzz : (d.v != 0) = true := by simp [hz]
 have hnn : nz M (done ++ [(d.a, d.b)]) = nz M done ++ [d.a] := Anm (by show M d.a ≠ 0; rw [hval]; exact hz)
 have HN := hQd hnn
 have HVl := hQd hval
 clear hz hnn hval hnl0
 go_wp2_with (first
  | (go_at_call 56; refine (Ais cw).mono ?_; rintro e w' ⟨rfl, rfl⟩)
  | (at_builtin; refine Acf _ rfl _ _ 194 rfl (w.heap.size + 1) 144 i0 _ 2 16 Tryz.underlying194 hi hz0 hz1 hz2 rfl (by decide) (by decide) _ _ _ rfl HO2.out [.int .u64 d.a, .int .u64 d.v] _ rfl rfl (by simp [Value.oneCell']) (by omega) hle2 ?_; intro gg cap w3 hown3 hgr3
     have HO3 := hQd hown3
     have HG3 : Hid (Rg w3 m w.heap.size (L.map wdk) left') := hQd (HG2.out.keep (hgr3.block m (by omega) fun e => by have := (HO2.out.lt m e.symm).1; omega) (hgr3.block w.heap.size (by omega) fun e => by have := (HO2.out.lt w.heap.size e.symm).1; omega))
     have HB3 : Hid (Below w.heap.size w w3) := hQd (HB2.out.grown hgr3 (by omega) fun k hk => by have := (HO2.out.lt k hk).1; omega)
     have hsz3 := hgr3.size
     clear hown3 hgr3))
 go_roundw
 case rel => exact ⟨_, left', done ++ [(d.a, d.b)], rfl, HG3.out, HPM.out, by rw [HN.out, Abw, List.length_append]; have := HO3.out; unfold wsE; rw [HVl.out]; exact this, HB3.out, by omega, by rw [HN.out]; intro he; simp at he⟩
 case measure => rw [HG3.out.left_eq, hms]; omega
end
end
section
section
open Go.RowKit
theorem Ay9 {w : World} {O : Om} {g c g2 r m : Nat} {M : Int → Int} {n : Int} {la : La} (h : CO w O g c M n la) (h2 : RC w O g2 r M n la m) (hm : m ≤ 1000000) :
 C2 50 c r w fun e w' => e = .returned (.bool true) ∧ Below w.heap.size w w' := by
 obtain ⟨v, L, hris, hok, hlook, hlm, hob, hown, -⟩ := h2.ex
 have hW := Ay3 h L hris hlook hok (by omega)
 have hArr := Arr.of_own hown
 obtain ⟨ao, cp, rfl, hc1, hc2⟩ := hArr.shape
 have hcl : c < w.heap.size := Ce.lts h _ (Ce.mem (F := fun j => O j = g) h)
 have hrl := hob.lt
 have hl : L.length ≤ 1000000 := by omega
 have HC := hQd h
 have HO := hQd hob
 have HA := hQd hArr
 have HK := hQd hok
 have HM := hQd (fun x (hx : x ∈ L) => show M x.a = x.v by rw [← hlook]; exact Ah2 hris hx)
 have e1 : (n != n) = false := by simp
 have e2 : (L.length != L.length) = false := by simp
 have e3 : decide ((L.length : Int) < (L.length : Int)) = false := by simp
 clear h h2 hris hok hlook hob hown hArr hlm
 go_enter Tryz.func50, Tryz.ntmps50
 go_wp2_with fail
 refine hW.mono ?_
 rintro e w1 ⟨v, rfl, hb, hv, hcs⟩
 have hz := hb.size
 have HC1 := hQd (Ce.below (F := fun j => O j = g) HC.out hb)
 have d0 := (hb.cell (p := ⟨r, 0, none⟩) hrl).trans (HO.out.c 0 _ rfl)
 have d1 := (hb.cell (p := ⟨r, 1, none⟩) hrl).trans (HO.out.c 1 _ rfl)
 have d2 := (hb.cell (p := ⟨r, 2, none⟩) hrl).trans (HO.out.c 2 _ rfl)
 have d3 := (hb.cell (p := ⟨r, 3, none⟩) hrl).trans (HO.out.c 3 _ rfl)
 have d4 := (hb.cell (p := ⟨r, 4, none⟩) hrl).trans (HO.out.c 4 _ rfl)
 have d5 := (hb.cell (p := ⟨r, 5, none⟩) hrl).trans (HO.out.c 5 _ rfl)
 have hr1 : r < w1.heap.size := by omega
 have HB := hQd hb
 have HV := hQd hv
 obtain ⟨aw, hvv⟩ : ∃ aw, v = .slice aw L.length L.length := by
  rcases hcs with ⟨hL0, hv0⟩ | ⟨b, hv0, _⟩
  · exact ⟨none, by rw [hv0, hL0]; rfl⟩
  exact ⟨_, hv0⟩
 subst hvv
 have HCS := hQd hcs
 clear hW hb hv hcs
 go_wp2_with fail
 refine Abh (by kernel_rfl) (by kernel_rfl) ?_
 repeat (go_big_quiet_step ((first | (go_at_call 92; exact Axc (Apt (Ce.below HC1.out (Abv _ _)))) | (go_at_call 46; exact Auj (Aww (Ce.below HC1.out (Abv _ _)))))))
 refine wpQuiet_nil ?_
 rintro _ ⟨e, rfl⟩
 have HB2 : Hid (Below w.heap.size w (via w1 e)) := hQd (HB.out.trans ((Abv w1 e).mono hz))
 have HV2 := hQd (HV.out.below (Abv w1 e))
 have hz2 := Aj4 w1 e
 have HF2 : Hid (L = [] ∨ ∃ b, aw = some ⟨b, 0, none⟩ ∧ w.heap.size ≤ b ∧ b < (via w1 e).heap.size ∧ ∀ j, j < L.length * 2 → (via w1 e).frozen? ⟨b, j, none⟩ = false) := hQd (by
  rcases HCS.out with ⟨hL0, hv0⟩ | ⟨b, hv0, h1, h2, h3⟩
  · exact .inl hL0
  cases hv0
  exact .inr ⟨b, rfl, h1, by omega, fun j hj => by rw [frozen?_via _ _ _ _ h2]; exact h3 j hj⟩)
 obtain ⟨W, hWe⟩ := exq (via w1 e)
 rw [← hWe] at HB2 HV2 hz2 HF2 ⊢
 clear hWe HB HV HCS d0 d1 d2 d3 d4 d5 HC1
 go_wp2_with fail
 go_loopw [6] (fun i wr => ∃ k : Nat, k ≤ L.length ∧ i = .int .i64 k ∧ Below w.heap.size w wr ∧ (k < L.length → ∃ b, aw = some ⟨b, 0, none⟩ ∧ w.heap.size ≤ b ∧ b < wr.heap.size ∧ (∀ j, j < L.length * 2 → wr.frozen? ⟨b, j, none⟩ = false) ∧ ∀ j u, k * 2 ≤ j → (Aa2 wvc L)[j]? = some u → wr.cell? ⟨b, j, none⟩ = some u))
  (fun i _ => L.length - (intOf i).toNat)
 case atStart =>
  refine ⟨0, Nat.zero_le _, rfl, HB2.out, fun h0 => ?_⟩
  rcases HF2.out with hL | ⟨b, rfl, h1, h2, h3⟩
  · rw [hL] at h0; cases h0
  obtain ⟨b', o', c', he, -, -, hbl, hx⟩ := HV2.out.open h0 (by decide)
  cases he
  exact ⟨b, rfl, h1, h2, h3, fun j u _ hu => by have := hx j u hu; rwa [Nat.zero_add] at this⟩
 clear HB2 HV2 HF2 hz2
 obtain ⟨k, hk, rfl, hb, hF⟩ := hrel
 have HB := hQd hb
 have hzr := hb.size
 by_cases hk2 : k < L.length
 · obtain ⟨b, rfl, hbl, hbw, hfz, hx⟩ := hF hk2
   obtain ⟨b', o', c', he, -, -, hlt, hx2⟩ := HA.out.open (by omega) (by omega)
   cases he
   obtain ⟨y0, y1⟩ := Aj1 hx2 k hk2
   obtain ⟨x, hxe⟩ := exq (L[k])
   have hxm : x ∈ L := by rw [hxe]; exact List.getElem_mem _
   have g0 : wr.cell? ⟨b, k * 2, none⟩ = some (.int .u64 x.a) := by
    have := hx (k * 2 + 0) _ (by omega) ((Abk Ad6 L k 0 hk2 (by omega)).trans (show (wvc L[k])[0]? = some (.int .u64 L[k].a) from rfl))
    rw [hxe]; exact this
   have g1 : wr.cell? ⟨b, k * 2 + 1, none⟩ = some (.int .u64 x.v) := by
    have := hx (k * 2 + 1) _ (by omega) ((Abk Ad6 L k 1 hk2 (by omega)).trans (show (wvc L[k])[1]? = some (.int .u64 L[k].v) from rfl))
    rw [hxe]; exact this
   rw [← hxe] at y0 y1
   have t0 := (hb.cell (p := ⟨b', o' + k * 2, none⟩) hlt).trans y0
   have t1 := (hb.cell (p := ⟨b', o' + k * 2 + 1, none⟩) hlt).trans y1
   have d0 := (hb.cell (p := ⟨r, 0, none⟩) hrl).trans (HO.out.c 0 _ rfl)
   have hMx := HM.out x hxm
   have hxo := HK.out x hxm
   have HCr := hQd (Ce.below (F := fun j => O j = g) HC.out hb)
   have HX := hQd hx
   have HFz := hQd hfz
   have z0 := hfz (k * 2) (by omega)
   have z1 := hfz (k * 2 + 1) (by omega)
   have hpk : ∀ e : Adv wr, Calls Tryz.prog 19 #[.pointer (some ⟨c, 0, none⟩), .int .u64 x.a] (via wr e) fun x' w' => x' = .returned (.int .u64 x.v) ∧ via wr e = w' := fun e => by
    have := Amp x.a (Ce.below HCr.out (Abv wr e)) hxo.1.1 hxo.1.2
    rwa [hMx] at this
   have HPk := hQd hpk
   have hbr : b' < wr.heap.size := by omega
   have hrr : r < wr.heap.size := by omega
   clear hF hx hx2 y0 y1 hxe hb hfz hpk hxo hMx hxm
   go_wp2_with fail
   refine Abh (by kernel_rfl) (by kernel_rfl) ?_
   repeat (go_big_quiet_step ((go_at_call 19; exact Axc (HPk.out _))))
   refine wpQuiet_nil ?_
   rintro _ ⟨e, rfl⟩
   have HB3 : Hid (Below w.heap.size w (via wr e)) := hQd (HB.out.trans ((Abv wr e).mono hzr))
   have hz3 := Aj4 wr e
   have f0 : (via wr e).frozen? ⟨b, k * 2, none⟩ = false := by rw [frozen?_via _ _ _ _ hbw]; exact z0
   have f1 : (via wr e).frozen? ⟨b, k * 2 + 1, none⟩ = false := by rw [frozen?_via _ _ _ _ hbw]; exact z1
   have w0 : (via wr e).cell? ⟨b, k * 2, none⟩ = some (.int .u64 x.a) := by rw [cell?_via _ _ _ _ hbw]; exact g0
   have w1' : (via wr e).cell? ⟨b, k * 2 + 1, none⟩ = some (.int .u64 x.v) := by rw [cell?_via _ _ _ _ hbw]; exact g1
   have hX3 : Hid (∀ j u, (k + 1) * 2 ≤ j → (Aa2 wvc L)[j]? = some u → (via wr e).cell? ⟨b, j, none⟩ = some u) := hQd (fun j u hj hu => by rw [cell?_via _ _ _ _ hbw]; exact HX.out j u (by omega) hu)
   have hF3 : Hid (∀ j, j < L.length * 2 → (via wr e).frozen? ⟨b, j, none⟩ = false) := hQd (fun j hj => by rw [frozen?_via _ _ _ _ hbw]; exact HFz.out j hj)
   have hbw3 : b < (via wr e).heap.size := by omega
   obtain ⟨W, hWe⟩ := exq (via wr e)
   rw [← hWe] at HB3 hz3 f0 f1 w0 w1' hX3 hF3 hbw3 ⊢
   clear hWe HX HFz HB t0 t1 d0 z0 z1 g0 g1 HPk HCr
   go_wp2_with fail
   go_roundw
   case rel =>
    refine ⟨k + 1, by omega, by go_num, ((HB3.out.setCell (p := ⟨b, k * 2, none⟩) hbl _).setCell (p := ⟨b, k * 2 + 1, none⟩) hbl _), fun _ => ⟨b, rfl, hbl, by simpa using hbw3, fun j hj => ?_, fun j u hj hu => ?_⟩⟩
    · rw [World.frozen?_setCell, World.frozen?_setCell]; exact hF3.out j hj
    rw [World.cell?_setCell_other _ _ _ _ (by simp <;> omega), World.cell?_setCell_other _ _ _ _ (by simp <;> omega)]
    exact hX3.out j u hj hu
   case measure => simp [intOf]; omega
 obtain rfl : k = L.length := by omega
 clear hF hb
 go_wp2_with fail
 go_ret
 exact ⟨rfl, HB.out⟩
theorem Ahy {w : World} {p c ip np : Nat} {f : Cf} {tk : Nat → Int} {ho : Int} (h : Wo w p c ip np f tk ho) :
 (loadCellsFrom ⟨p, 8, none⟩ 0 64 #[]).run Tryz.prog w = .ok ((List.range 64).map fun j => Value.int .u64 (tk j)).toArray w := by
 have := run_loadCells_list (P := Tryz.prog) (w := w) ⟨p, 8, none⟩ ((List.range 64).map fun j => Value.int .u64 (tk j)) (fun j v hv => by
  rw [List.getElem?_map] at hv
  by_cases hj : j < 64
  · rw [List.getElem?_eq_getElem (by simpa using hj)] at hv
    simp at hv
    have hadd : (⟨p, 8, none⟩ : Addr).add j = ⟨p, 8 + j, none⟩ := by unfold Addr.add; split <;> simp_all
    rw [hadd, h.tk j hj, hv]
  rw [List.getElem?_eq_none (by simpa using hj)] at hv; cases hv)
 simpa [loadCells] using this
def Bb5 (tk : Nat → Int) : Value := .agg ((List.range 64).map fun j => Value.int .u64 (tk j)).toArray
theorem Ajw (X : Array Value) (w : World) : ∀ is : List Nat, (∀ i ∈ is, ∃ z, X[i]? = some (.int .u64 z)) → (Op.eqItems 9999 37 (Tryz.prog.cellsOf 37) X X is).run Tryz.prog w = .ok true w
 | [], _ => by simp [Op.eqItems]
 | i :: is, h => by
   obtain ⟨z, hz⟩ := h i (by simp)
   have hc : Tryz.prog.cellsOf 37 = 1 := by kernel_rfl
   have hp := run_part_plain (P := Tryz.prog) (e := 37) (w := w) (by kernel_rfl) (xs := X) (off := i * Tryz.prog.cellsOf 37) (v := .int .u64 z) (by rw [hc, Nat.mul_one]; exact hz)
   have he := run_equalIn_int (P := Tryz.prog) (w := w) 9998 37 .u64 .u64 z z Tryz.underlying37
   have ih := Ajw X w is fun j hj => h j (by simp [hj])
   simp only [Op.eqItems, Sem.run_bind, hp, Result.andThen_ok, he]
   simpa using ih
theorem Bcj (tk : Nat → Int) (w : World) : (Op.equalIn 10000 64 (Bb5 tk) (Bb5 tk)).run Tryz.prog w = .ok true w := by
 obtain ⟨i, hi⟩ : ∃ i, Tryz.prog.info? 37 = some i := Option.isSome_iff_exists.1 (by kernel_rfl)
 unfold Bb5
 rw [run_equalIn_array (P := Tryz.prog) (w := w) 9999 _ _ Tryz.underlying64 hi]
 exact Ajw _ w _ fun j hj => ⟨tk j, by simp at hj; simp [hj]⟩
theorem Av6 (h : Nat) (ao : Option Addr) (n c : Nat) (w : World) (hc : w.cell? ⟨h, 0, none⟩ = some (.slice ao n c)) :
 C1 47 h w fun e w' => e = .returned (.int .i64 n) ∧ w = w' := by
 have hn : C1 93 h w fun e w' => e = .returned (.slice ao n c) ∧ w = w' := by
  go_enter Tryz.func93, Tryz.ntmps93
  go_wp2
  go_ret
  exact ⟨rfl, rfl⟩
 go_enter Tryz.func47, Tryz.ntmps47
 go_wp2_with (go_at_call 93; refine hn.mono ?_; rintro e w' ⟨rfl, rfl⟩)
 go_ret
 exact ⟨rfl, rfl⟩
def Azy (a : Addr) : Sem (Array Value) := loadCellsFrom a 0 64 #[]
@[go_sem ↓] theorem Bb0 (P : Program) (a : Addr) (W : World) : Sem.run P (loadCellsFrom a 0 64 #[]) W = Sem.run P (Azy a) W := rfl
@[go_sem ↓] theorem Bab (P : Program) (a : Addr) (W : World) : Sem.run P (loadCells a 64) W = Sem.run P (Azy a) W := rfl
structure SmF (w : World) (B C : Wb) (s : AW) (la : La) (an ar : Option Addr) (cn cr : Nat) : Prop where
 p0 : w.cell? ⟨B.p, 0, none⟩ = some (.pointer (some ⟨B.c, 0, none⟩))
 p1 : w.cell? ⟨B.p, 1, none⟩ = some (.pointer (some ⟨B.ip, 0, none⟩))
 p2 : w.cell? ⟨B.p, 2, none⟩ = some (.pointer (some ⟨B.np, 0, none⟩))
 ph : w.cell? ⟨B.p, 72, none⟩ = some (.int .i64 s.ho)
 pt : (Azy ⟨B.p, 8, none⟩).run Tryz.prog w = .ok ((List.range 64).map fun j => Value.int .u64 (s.tk j)).toArray w
 r0 : w.cell? ⟨C.p, 0, none⟩ = some (.pointer (some ⟨C.c, 0, none⟩))
 r1 : w.cell? ⟨C.p, 1, none⟩ = some (.pointer (some ⟨C.ip, 0, none⟩))
 r2 : w.cell? ⟨C.p, 2, none⟩ = some (.pointer (some ⟨C.np, 0, none⟩))
 rh : w.cell? ⟨C.p, 72, none⟩ = some (.int .i64 s.ho)
 rt : (Azy ⟨C.p, 8, none⟩).run Tryz.prog w = .ok ((List.range 64).map fun j => Value.int .u64 (s.tk j)).toArray w
 q2 : w.cell? ⟨C.c, 2, none⟩ = some (.int .u8 la.k)
 q3 : w.cell? ⟨C.c, 3, none⟩ = some (.int .u64 la.a)
 q4 : w.cell? ⟨C.c, 4, none⟩ = some (.int .u64 la.s)
 q5 : w.cell? ⟨C.c, 5, none⟩ = some (.int .u64 la.i)
 n0 : w.cell? ⟨B.np, 0, none⟩ = some (.slice an s.nt.length cn)
 m0 : w.cell? ⟨C.np, 0, none⟩ = some (.slice ar s.nt.length cr)
theorem PR.sm {w : World} {O : Om} {B C : Wb} {f : Cf} {s : AW} {m : Nat} (h : PR w O B C f s m) : ∃ an ar cn cr, ∀ w', Below w.heap.size w w' → SmF w' B C s s.la an ar cn cr := by
 obtain ⟨v, L, hris, hok, hlook, hlm, hob, hown, -⟩ := h.r.ce.ex
 obtain ⟨vn, hn, -⟩ := h.p.no.ex
 obtain ⟨vr, hr1, hr2, -⟩ := h.r.no.ex
 obtain ⟨an, cn, rfl, -, -⟩ := (Arr.of_own hn.own).shape
 obtain ⟨ar, cr, rfl, -, -⟩ := (Arr.of_own hr2).shape
 refine ⟨an, ar, cn, cr, fun w' hb => ?_⟩
 have P := h.p.wo.wrote (S := fun _ => False) (Aag.of_below hb) id
 have R := h.r.wo.wrote (S := fun _ => False) (Aag.of_below hb) id
 have Q := hob.below hb
 exact ⟨P.c0, P.c1, P.c2, P.ho, Ahy P, R.c0, R.c1, R.c2, R.ho, Ahy R, Q.c 2 _ rfl, Q.c 3 _ rfl, Q.c 4 _ rfl, Q.c 5 _ rfl, (hn.below hb).head, (hr1.below hb).c 0 _ rfl⟩
theorem Aix {w : World} {O : Om} {B C : Wb} {f : Cf} {s : AW} {m : Nat} (h : PR w O B C f s m) (hhi : Hh O w) (hm : m ≤ 1000000) :
 Calls Tryz.prog 13 #[.agg #[.pointer (some ⟨B.p, 0, none⟩), .pointer (some ⟨C.p, 0, none⟩)]] w fun e w' => e = .returned (.bool true) ∧ Below w.heap.size w w' := by
 obtain ⟨an, ar, cn, cr, hsm⟩ := h.sm
 have HS := hQd hsm
 have HP := hQd h
 have HH := hQd hhi
 have e0 : ∀ W, (Op.equalIn 10000 64 (.agg ((List.range 64).map fun j => Value.int .u64 (s.tk j)).toArray) (.agg ((List.range 64).map fun j => Value.int .u64 (s.tk j)).toArray)).run Tryz.prog W = .ok true W := fun W => Bcj s.tk W
 obtain ⟨X, hX⟩ := exq (((List.range 64).map fun j => Value.int .u64 (s.tk j)).toArray)
 rw [← hX] at e0
 have HX := hQd hX
 clear h hsm hhi hX
 go_enter Tryz.func13, Tryz.ntmps13
 go_wp2_with fail
 obtain ⟨W1, hW1⟩ := exq (w.alloc (.cells #[.pointer (some ⟨B.p, 0, none⟩), .pointer (some ⟨C.p, 0, none⟩)] 34))
 have y0 : W1.cell? ⟨w.heap.size, 0, none⟩ = some (.pointer (some ⟨B.p, 0, none⟩)) := by rw [hW1]; simp
 have y1 : W1.cell? ⟨w.heap.size, 1, none⟩ = some (.pointer (some ⟨C.p, 0, none⟩)) := by rw [hW1]; simp
 have hlt : w.heap.size < W1.heap.size := by rw [hW1]; simp
 have HB1 : Hid (Below w.heap.size w W1) := hQd (by rw [hW1]; exact bal w _)
 rw [← hW1]
 clear hW1
 have l1 : B.p < W1.heap.size := by have := HP.out.p.wo.lt; omega
 have l2 : C.p < W1.heap.size := by have := HP.out.r.wo.lt; omega
 have l3 : C.c < W1.heap.size := by have := HP.out.r.ce.lt; omega
 have l4 : B.np < W1.heap.size := by obtain ⟨vn, hn, -⟩ := HP.out.p.no.ex; have := hn.lt; omega
 have l5 : C.np < W1.heap.size := by obtain ⟨vr, hr1, hr2, -⟩ := HP.out.r.no.ex; have := hr1.lt; omega
 have hP1 : Hid (∀ e : Adv W1, Below w.heap.size w (via W1 e)) := hQd fun e => HB1.out.trans ((Abv W1 e).mono HB1.out.size)
 have ptv : ∀ e : Adv W1, (Azy ⟨B.p, 8, none⟩).run Tryz.prog (via W1 e) = .ok X (via W1 e) := fun e => by rw [HX.out]; exact (HS.out _ (hP1.out e)).pt
 have rtv : ∀ e : Adv W1, (Azy ⟨C.p, 8, none⟩).run Tryz.prog (via W1 e) = .ok X (via W1 e) := fun e => by rw [HX.out]; exact (HS.out _ (hP1.out e)).rt
 obtain ⟨p0, p1, p2, ph, -, r0, r1, r2, rh, -, q2, q3, q4, q5, n0, m0⟩ := HS.out _ HB1.out
 refine Abh (by kernel_rfl) (by kernel_rfl) ?_
 try simp only [List.append_eq, List.cons_append, List.nil_append]
 repeat (go_big_quiet_step ((first
  | (go_at_call 44; exact Axc (Apl _ O B f s (HP.out.p.below HH.out (hP1.out _))))
  | (go_at_call 45; exact Axc (Amb (HP.out.r.below HH.out (hP1.out _))))
  | (go_at_call 46; exact Auj (Aww (F := fun j => O j = 2) (Ce.below HP.out.p.ce (hP1.out _))))
  | (go_at_call 47; exact Axc (Av6 B.np an s.nt.length cn _ (HS.out _ (hP1.out _)).n0))
  | (go_at_call 48; exact Axc (Awd (HP.out.p.ar.ext (S := fun _ => False) (Ext.of_below HH.out (hP1.out _)) id)))
  | (go_at_call 49; exact Axc (Amf (HP.out.r.ar.ext (S := fun _ => False) (Ext.of_below HH.out (hP1.out _)) id))))))
 refine wpQuiet_nil ?_
 rintro _ ⟨e, rfl⟩
 go_wp2_with fail
 go_ret
 exact ⟨rfl, hP1.out e⟩
end
section
open Go.RowKit
theorem Azl {w : World} {O : Om} {B C : Wb} {f : Cf} {s : AW} {m : Nat} (h : PR w O B C f s m) (hhi : Hh O w) (hl : s.it.length ≤ 1000000) (r : Int) :
 ∃ (x : It) (b : Bool), ∀ w', Below w.heap.size w w' →
  (Calls Tryz.prog 52 #[.pointer (some ⟨B.ip, 0, none⟩), .int .i64 r] w' fun e w'' => e = .returned (.tuple #[.agg #[.string x.key, .string x.val, .int .u32 x.fl, .int .u64 x.id, .int .i64 x.dies, .int .i64 x.gen], .bool b]) ∧ Below w'.heap.size w' w'') ∧
  (Calls Tryz.prog 53 #[.pointer (some ⟨C.ip, 0, none⟩), .int .i64 r] w' fun e w'' => e = .returned (.tuple #[.agg #[.string x.key, .string x.val, .int .u32 x.fl, .int .u64 x.id, .int .i64 x.dies, .int .i64 x.gen], .bool b]) ∧ Below w'.heap.size w' w'') := by
 have hA := fun w' (hb : Below w.heap.size w w') => h.p.ar.ext (S := fun _ => False) (Ext.of_below hhi hb) id
 have hB := fun w' (hb : Below w.heap.size w w') => h.r.ar.ext (S := fun _ => False) (Ext.of_below hhi hb) id
 by_cases hr : 1 ≤ r ∧ r ≤ s.it.length
 · have hk : (r - 1).toNat < s.it.length := by omega
   exact ⟨s.it[(r - 1).toNat], true, fun w' hb => ⟨Ams r (r - 1).toNat _ (hA w' hb) hl (List.getElem?_eq_getElem hk) (by omega), Agr r (r - 1).toNat _ (hB w' hb) hl (List.getElem?_eq_getElem hk) (by omega)⟩⟩
 exact ⟨it0, false, fun w' hb => ⟨Aps r (hA w' hb) hl hr, Amg r (hB w' hb) hl hr⟩⟩
end
end
section
open Go.RowKit
theorem An6 {w : World} {O : Om} {B C : Wb} {f : Cf} {s : AW} {m : Nat} (h : PR w O B C f s m) (hhi : Hh O w) (hm : m ≤ 1000000) (hnt : s.nt.length ≤ 1000000) (hnk : ∀ n ∈ s.nt, 0 ≤ n.kind ∧ n.kind ≤ 255) (hl : s.it.length ≤ 1000000) :
 Calls Tryz.prog 14 #[.agg #[.pointer (some ⟨B.p, 0, none⟩), .pointer (some ⟨C.p, 0, none⟩)]] w fun e w' => e = .returned (.bool true) ∧ Below w.heap.size w w' := by
 obtain ⟨an, ar, cn, cr, hsm⟩ := h.sm
 have HS := hQd hsm
 have HP := hQd h
 have HH := hQd hhi
 have HI := hQd (Azl h hhi hl)
 have hb4 : B.np < w.heap.size := by obtain ⟨vn, hn, -⟩ := h.p.no.ex; exact hn.lt
 obtain ⟨vn, hno, -⟩ := h.p.no.ex
 obtain ⟨vm, hmo, hmr, -⟩ := h.r.no.ex
 have hnv := hno.head
 have hmv := hmo.c 0 _ rfl
 have hml := hmo.lt
 have HN := hQd (aN (Arr.of_own hno.own) (aN hnv hnt))
 have HM := hQd (aN (Arr.of_own hmr) (aN hmv hml))
 have HNK := hQd hnk
 have hlen9 : s.nt.length ≤ 9223372036854775807 := by omega
 clear h hsm hhi hnt hnk hno hmo hmr hnv hmv
 go_enter Tryz.func14, Tryz.ntmps14
 go_wp2_with fail
 obtain ⟨W1, hW1⟩ := exq (w.alloc (.cells #[.pointer (some ⟨B.p, 0, none⟩), .pointer (some ⟨C.p, 0, none⟩)] 34))
 have y0 : W1.cell? ⟨w.heap.size, 0, none⟩ = some (.pointer (some ⟨B.p, 0, none⟩)) := by rw [hW1]; simp
 have y1 : W1.cell? ⟨w.heap.size, 1, none⟩ = some (.pointer (some ⟨C.p, 0, none⟩)) := by rw [hW1]; simp
 have hlt : w.heap.size < W1.heap.size := by rw [hW1]; simp
 have HB1 : Hid (Below w.heap.size w W1) := hQd (by rw [hW1]; exact bal w _)
 rw [← hW1]
 clear hW1
 have l1 : B.p < W1.heap.size := by have := HP.out.p.wo.lt; omega
 have l2 : C.p < W1.heap.size := by have := HP.out.r.wo.lt; omega
 have hP1 : Hid (∀ e : Adv W1, Below w.heap.size w (via W1 e)) := hQd fun e => HB1.out.trans ((Abv W1 e).mono HB1.out.size)
 have hhi1 : Hid (∀ e : Adv W1, ∀ j, O j ≠ 0 → j < (via W1 e).heap.size) := hQd fun e j hj => by have := HH.out j hj; have := (hP1.out e).size; omega
 have p0 := (HS.out _ HB1.out).p0
 have r0 := (HS.out _ HB1.out).r0
 refine Abh (by kernel_rfl) (by kernel_rfl) ?_
 repeat (go_big_quiet_step ((first
  | (go_at_call 13; exact Auj (Aix (HP.out.below HH.out (hP1.out _)) (hhi1.out _) hm))
  | (go_at_call 50; exact Auj (Ay9 (Ce.below (F := fun j => O j = 2) HP.out.p.ce (hP1.out _)) (HP.out.r.ce.below (hP1.out _)) hm)))))
 refine wpQuiet_nil ?_
 rintro _ ⟨e, rfl⟩
 have HB2 : Hid (Below w.heap.size w (via W1 e)) := hQd (hP1.out e)
 have z0 := (cell?_via W1 e w.heap.size 0 hlt).trans y0
 have z1 := (cell?_via W1 e w.heap.size 1 hlt).trans y1
 have hlt2 : w.heap.size < (via W1 e).heap.size := Nat.lt_of_lt_of_le hlt (Aj4 W1 e)
 obtain ⟨W2, hW2⟩ := exq (via W1 e)
 rw [← hW2] at HB2 z0 z1 hlt2 ⊢
 clear hW2 y0 y1 p0 r0 hP1 hhi1 HB1 l1 l2 hlt
 obtain ⟨p0, p1, p2, -, -, r0, r1, r2, -, -, -, -, -, -, n0, m0⟩ := HS.out _ HB2.out
 have n0' := (HB2.out.cell (p := ⟨B.np, 0, none⟩) hb4).trans HN.out.2.1
 have HA2 := hQd (HN.out.1.below HB2.out)
 have hnp2 : B.np < W2.heap.size := by have := HB2.out.size; omega
 go_wp2_with fail
 refine (Azd B.np vn s.nt W2 n0' hnp2 HA2.out (by have := HN.out.2.2; omega)).mono ?_
 rintro e w3 ⟨⟨va, rfl, hnew⟩, hb3⟩
 have HB3 : Hid (Below w.heap.size w w3) := hQd (HB2.out.trans (hb3.mono HB2.out.size))
 have y0 := (hb3.cell (p := ⟨w.heap.size, 0, none⟩) hlt2).trans z0
 have y1 := (hb3.cell (p := ⟨w.heap.size, 1, none⟩) hlt2).trans z1
 have hlt3 : w.heap.size < w3.heap.size := Nat.lt_of_lt_of_le hlt2 hb3.size
 obtain ⟨av, rfl⟩ := hnew.shape
 have HNA := hQd hnew.arr
 clear hb3 z0 z1 p0 p1 p2 r0 r1 r2 n0 m0 n0' HB2 hlt2 HA2 hnp2 hnew
 obtain ⟨p0, p1, p2, -, -, r0, r1, r2, -, -, -, -, -, -, n0, m0⟩ := HS.out _ HB3.out
 go_wp2_with fail
 clear p0 p1 p2 r0 r1 r2 n0 m0
 go_loopw [4] (fun i wr => ∃ k : Nat, k ≤ s.nt.length ∧ i = .int .i64 k ∧ Below w.heap.size w wr ∧ Below w3.heap.size w3 wr ∧ w.heap.size < wr.heap.size ∧ wr.cell? ⟨w.heap.size, 0, none⟩ = some (.pointer (some ⟨B.p, 0, none⟩)) ∧ wr.cell? ⟨w.heap.size, 1, none⟩ = some (.pointer (some ⟨C.p, 0, none⟩)))
  (fun i _ => s.nt.length - (intOf i).toNat)
 case atStart => exact ⟨0, Nat.zero_le _, rfl, HB3.out, Below.refl _ _, hlt3, y0, y1⟩
 clear hlt3 y0 y1
 obtain ⟨k, hk, rfl, hb, hb', hlt, y0, y1⟩ := hrel
 have HB := hQd hb
 have HB' := hQd hb'
 clear hb hb'
 by_cases hk2 : k < s.nt.length
 · obtain ⟨b, o, c', he, -, -, hbl, hx⟩ := HNA.out.open (by omega) (by omega)
   cases he
   obtain ⟨d, p, c'', he, -, -, hdl, hx2⟩ := (HM.out.1.below HB.out).open (by omega) (by omega)
   subst he
   have at1 := (Aot hx k hk2).below HB'.out hbl
   have at2 := Au0 hx2 k hk2
   have hkk := HNK.out s.nt[k] (List.getElem_mem _)
   obtain ⟨q, hq⟩ := exq (s.nt[k])
   rw [← hq] at at1 at2 hkk
   obtain ⟨q0, q1, q2, q3, q4, q5, q6, q7⟩ := at1.all
   obtain ⟨p0, p1, p2, p3, p4, p5, p6, p7⟩ := at2.all
   have hl1 := Nat.lt_of_lt_of_le hbl HB'.out.size
   have hw8 : IntKind.i64.wrap q.kind = q.kind := by have := hkk.1; have := hkk.2; simp [IntKind.wrap, IntKind.bits, IntKind.signed]; omega
   have m0 := (HB.out.cell (p := ⟨C.np, 0, none⟩) hml).trans HM.out.2.1
   have r2 := (HS.out _ HB.out).r2
   clear hx hx2 at1 at2 hq hkk
   go_wp2_with fail
   go_quiet (fail)
   go_wp2_with fail
   go_roundw
   case rel => exact ⟨k + 1, by omega, by go_num, by first | exact HB.out.alloc (by omega) _ | exact Abn (HB.out.alloc (by omega) _) _, by first | exact HB'.out.alloc (by have := HB'.out.size; omega) _ | exact Abn (HB'.out.alloc (by have := HB'.out.size; omega) _) _, by simp; omega, ((bal wr _).cell (p := ⟨w.heap.size, 0, none⟩) hlt).trans y0, ((bal wr _).cell (p := ⟨w.heap.size, 1, none⟩) hlt).trans y1⟩
   case measure => simp [intOf]; omega
 obtain ⟨wo, rfl⟩ := exq wr
 have HB3 := HB
 have hlt3 := hlt
 clear HB HB' hlt HNA
 go_wp2_with fail
 go_loopw [6] (fun i wr => ∃ k : Nat, k ≤ s.it.length + 2 ∧ i = .int .i64 k ∧ Below w.heap.size w wr ∧ w.heap.size < wr.heap.size ∧ wr.cell? ⟨w.heap.size, 0, none⟩ = some (.pointer (some ⟨B.p, 0, none⟩)) ∧ wr.cell? ⟨w.heap.size, 1, none⟩ = some (.pointer (some ⟨C.p, 0, none⟩)))
  (fun i _ => s.it.length + 2 - (intOf i).toNat)
 case atStart => exact ⟨0, Nat.zero_le _, rfl, HB3.out, hlt3, y0, y1⟩
 clear HB3 hlt3 y0 y1
 obtain ⟨k, hk, rfl, hb, hlt, y0, y1⟩ := hrel
 have HB := hQd hb
 clear hb
 obtain ⟨p0, p1, -, -, -, r0, r1, -, -, -, -, -, -, -, -, -⟩ := HS.out _ HB.out
 go_wp2_with fail
 refine (Amf (HP.out.r.ar.ext (S := fun _ => False) (Ext.of_below HH.out HB.out) id)).mono ?_
 rintro e w' ⟨rfl, rfl⟩
 by_cases hk2 : k ≤ s.it.length + 1
 · have ht : decide ((k : Int) ≤ (s.it.length : Int) + 1) = true := by simp; omega
   obtain ⟨x, b, hx⟩ := HI.out k
   have HX := hQd hx
   clear hx
   go_wp2_with fail
   refine ((HX.out wr HB.out).1).mono ?_
   rintro e w4 ⟨rfl, hb4'⟩
   have HB4 : Hid (Below w.heap.size w w4) := hQd (HB.out.trans (hb4'.mono HB.out.size))
   have z0 := (hb4'.cell (p := ⟨w.heap.size, 0, none⟩) hlt).trans y0
   have z1 := (hb4'.cell (p := ⟨w.heap.size, 1, none⟩) hlt).trans y1
   have hlt4 : w.heap.size < w4.heap.size := Nat.lt_of_lt_of_le hlt hb4'.size
   clear hb4' y0 y1 p0 p1 r0 r1
   obtain ⟨p0, p1, -, -, -, r0, r1, -, -, -, -, -, -, -, -, -⟩ := HS.out _ HB4.out
   have l2 : C.p < w4.heap.size := by have := HP.out.r.wo.lt; omega
   go_wp2_with fail
   refine ((HX.out _ (HB4.out.alloc (by omega) _)).2).mono ?_
   rintro e w5 ⟨rfl, hb5⟩
   have HB5 : Hid (Below w.heap.size w w5) := hQd ((HB4.out.alloc (by omega) _).trans (hb5.mono (by simp; omega)))
   have y0 : w5.cell? ⟨w.heap.size, 0, none⟩ = some (.pointer (some ⟨B.p, 0, none⟩)) := (hb5.cell (p := ⟨w.heap.size, 0, none⟩) (by simp; omega)).trans (((bal w4 _).cell (p := ⟨w.heap.size, 0, none⟩) hlt4).trans z0)
   have y1 : w5.cell? ⟨w.heap.size, 1, none⟩ = some (.pointer (some ⟨C.p, 0, none⟩)) := (hb5.cell (p := ⟨w.heap.size, 1, none⟩) (by simp; omega)).trans (((bal w4 _).cell (p := ⟨w.heap.size, 1, none⟩) hlt4).trans z1)
   have v0 := (hb5.cell (p := ⟨w4.heap.size, 0, none⟩) (by simp))
   have v1 := (hb5.cell (p := ⟨w4.heap.size, 1, none⟩) (by simp))
   have v2 := (hb5.cell (p := ⟨w4.heap.size, 2, none⟩) (by simp))
   have v3 := (hb5.cell (p := ⟨w4.heap.size, 3, none⟩) (by simp))
   have v4 := (hb5.cell (p := ⟨w4.heap.size, 4, none⟩) (by simp))
   have v5 := (hb5.cell (p := ⟨w4.heap.size, 5, none⟩) (by simp))
   have hl5 : w4.heap.size < w5.heap.size := Nat.lt_of_lt_of_le (by simp) hb5.size
   simp at v0 v1 v2 v3 v4 v5
   clear hb5 z0 z1 p0 p1 r0 r1
   go_wp2_with fail
   go_roundw
   case rel => exact ⟨k + 1, by omega, by go_num, HB5.out.alloc (by omega) _, by simp; omega, ((bal w5 _).cell (p := ⟨w.heap.size, 0, none⟩) (show w.heap.size < w5.heap.size by omega)).trans y0, ((bal w5 _).cell (p := ⟨w.heap.size, 1, none⟩) (show w.heap.size < w5.heap.size by omega)).trans y1⟩
   case measure => simp [intOf]; omega
 have ht : decide ((k : Int) ≤ (s.it.length : Int) + 1) = false := by simp; omega
 clear p0 p1 r0 r1
 go_wp2_with fail
 go_ret
 exact ⟨rfl, HB.out⟩
end
section
open Go.RowKit
structure OpK (Q : Type) where
 x : Q → Nat
 R : Q → Nat
 A : World → Om → Nat → Q → Prop
 wd : Nat
 ext : ∀ {S : Nat → Prop} {O O' : Om} {w w' : World} {k : Nat} {q : Q}, A w O k q → Ext S O w O' w' → (∀ t, k ≤ t → t < k + wd → ¬ S t) → A w' O' k q
def opc {Q : Type} (K : OpK Q) (q : Q) : List Value := [.pointer (some ⟨K.x q, 0, none⟩), .pointer (some ⟨K.R q, 0, none⟩)]
theorem Ar1 {Q : Type} (K : OpK Q) (q : Q) : (opc K q).length = 2 := rfl
def opb (d i : Nat) : Nat := 11 + d * i
theorem Alu {d i j : Nat} (h : i ≠ j) : opb d i + d ≤ opb d j ∨ opb d j + d ≤ opb d i := by
 unfold opb
 rcases Nat.lt_or_gt_of_ne h with h | h
 · left
   have := Nat.mul_le_mul_left d (show i + 1 ≤ j from h)
   rw [Nat.mul_add, Nat.mul_one] at this
   omega
 right
 have := Nat.mul_le_mul_left d (show j + 1 ≤ i from h)
 rw [Nat.mul_add, Nat.mul_one] at this
 omega
theorem Ah8 (d i : Nat) : 11 ≤ opb d i := by unfold opb; omega
structure QI {Q : Type} (K : OpK Q) (E : TypeId) (w0 : World) (B C : Wb) (f : Cf) (N k : Nat) (w : World) (vo : Value) (G : Om) (s : AW) (m : Nat) (l : List Q) : Prop where
 env : Env w0 G w
 pr : PR w G B C f s m
 n0 : 0 ≤ s.n
 n1 : s.n ≤ 1000 + 4 * (k : Int)
 m1 : m ≤ 1000 + 4 * k
 hit : s.it.length ≤ 40 + k
 hnt : s.nt.length ≤ 4 * k
 hnk : ∀ n ∈ s.nt, 0 ≤ n.kind ∧ n.kind ≤ 255
 row : Row w G 9 E 2 vo l.length (Aa2 (opc K) l)
 len : l.length ≤ k
 ops : ∀ (j : Nat) (q : Q), l[j]? = some q → K.A w G (opb K.wd j) q
 pN : N < w.heap.size
 oN : G N = 0
 p0 : w.cell? ⟨N, 0, none⟩ = some (.pointer (some ⟨B.p, 0, none⟩))
 p1 : w.cell? ⟨N, 1, none⟩ = some (.pointer (some ⟨C.p, 0, none⟩))
section
variable {Q : Type} {K : OpK Q} {E : TypeId} {S : Nat → Prop} {w0 w w' : World} {B C : Wb} {f : Cf} {N k k' : Nat} {vo : Value} {G G' : Om} {s s' : AW} {m m' : Nat} {l : List Q}
theorem QI.below (h : QI K E w0 B C f N k w vo G s m l) (hb : Below w.heap.size w w') : QI K E w0 B C f N k w' vo G s m l :=
 ⟨h.env.ext (S := fun _ => True) (Ext.of_below h.env.hi hb), h.pr.below h.env.hi hb, h.n0, h.n1, h.m1, h.hit, h.hnt, h.hnk, h.row.below hb, h.len, fun j q hj => K.ext (S := fun _ => False) (h.ops j q hj) (Ext.of_below h.env.hi hb) fun _ _ _ => id, Nat.lt_of_lt_of_le h.pN hb.size, h.oN, (hb.cell (p := ⟨N, 0, none⟩) h.pN).trans h.p0, (hb.cell (p := ⟨N, 1, none⟩) h.pN).trans h.p1⟩
theorem QI.p01 (h : QI K E w0 B C f N k w vo G s m l) : w.cell? ⟨N, 0, none⟩ = some (.pointer (some ⟨B.p, 0, none⟩)) ∧ w.cell? ⟨N, 1, none⟩ = some (.pointer (some ⟨C.p, 0, none⟩)) := ⟨h.p0, h.p1⟩
theorem QI.up (h : QI K E w0 B C f N k w vo G s m l) (hk : k ≤ k') : QI K E w0 B C f N k' w vo G s m l :=
 ⟨h.env, h.pr, h.n0, by have := h.n1; omega, by have := h.m1; omega, by have := h.hit; omega, by have := h.hnt; omega, h.hnk, h.row, by have := h.len; omega, h.ops, h.pN, h.oN, h.p0, h.p1⟩
theorem QI.sp (h : QI K E w0 B C f N k w vo G s m l) (e : Ext SP G w G' w') (pr : PR w' G' B C f s' m') (n0 : 0 ≤ s'.n) (n1 : s'.n ≤ 1000 + 4 * ((k + 1 : Nat) : Int)) (m1 : m' ≤ 1000 + 4 * (k + 1)) (hit : s'.it.length ≤ 40 + (k + 1)) (hnt : s'.nt.length ≤ 4 * (k + 1)) (hnk : ∀ n ∈ s'.nt, 0 ≤ n.kind ∧ n.kind ≤ 255) : QI K E w0 B C f N (k + 1) w' vo G' s' m' l :=
 ⟨h.env.ext e, pr, n0, n1, m1, hit, hnt, hnk, h.row.ext e sp9, by have := h.len; omega, fun j q hj => K.ext (h.ops j q hj) e (fun t ht _ k => by have := k.2; have := Ah8 K.wd j; omega), Nat.lt_of_lt_of_le h.pN e.size, (e.lo N h.pN).trans h.oN, (e.nob sp0 h.pN h.oN 0).trans h.p0, (e.nob sp0 h.pN h.oN 1).trans h.p1⟩
theorem QI.mk2 (h : QI K E w0 B C f N k w vo G s m l) (e : Ext (fun t => t = 10 ∨ (opb K.wd l.length ≤ t ∧ t < opb K.wd l.length + K.wd)) G w G' w') : QI K E w0 B C f N k w' vo G' s m l :=
 have hb := Ah8 K.wd l.length
 ⟨h.env.ext e, h.pr.ext e (fun t ht => by have := ht.2; omega), h.n0, h.n1, h.m1, h.hit, h.hnt, h.hnk, h.row.ext e, h.len, fun j q hj => by
   have hjl := (List.getElem?_eq_some_iff.1 hj).1
   refine K.ext (h.ops j q hj) e fun t h1 h2 h3 => ?_
   have := Alu (d := K.wd) (show j ≠ l.length by omega)
   have := Ah8 K.wd j
   omega, Nat.lt_of_lt_of_le h.pN e.size, (e.lo N h.pN).trans h.oN, (e.nob (by omega) h.pN h.oN 0).trans h.p0, (e.nob (by omega) h.pN h.oN 1).trans h.p1⟩
theorem QI.snoc {q : Q} {g cap : Nat} (h : QI K E w0 B C f N k w vo G s m l) (hq : K.A w G (opb K.wd l.length) q) (e : Ext (fun t => t = 9) G w G' w') (hr : Row w' G' 9 E 2 (.slice (some ⟨g, 0, none⟩) (l.length + 1) cap) (l.length + 1) (Aa2 (opc K) l ++ opc K q)) :
 QI K E w0 B C f N (k + 1) w' (.slice (some ⟨g, 0, none⟩) (l.length + 1) cap) G' s m (l ++ [q]) :=
 ⟨h.env.ext e, h.pr.ext e (fun t ht => by have := ht.2; omega), h.n0, by have := h.n1; omega, by have := h.m1; omega, by have := h.hit; omega, by have := h.hnt; omega, h.hnk, by rw [Abw, List.length_append]; exact hr, by rw [List.length_append]; have := h.len; simp; omega, fun j p hj => by
   by_cases e2 : j < l.length
   · rw [List.getElem?_append_left e2] at hj
     exact K.ext (h.ops j p hj) e fun t h1 _ h3 => by have := Ah8 K.wd j; omega
   have e3 : j = l.length := by have := (List.getElem?_eq_some_iff.1 hj).1; simp at this; omega
   subst e3
   rw [List.getElem?_concat_length] at hj
   cases hj
   exact K.ext hq e fun t h1 _ h3 => by have := Ah8 K.wd l.length; omega, Nat.lt_of_lt_of_le h.pN e.size, (e.lo N h.pN).trans h.oN, (e.nob (by decide) h.pN h.oN 0).trans h.p0, (e.nob (by decide) h.pN h.oN 1).trans h.p1⟩
def SO (b d t : Nat) : Prop := (1 ≤ t ∧ t ≤ 8) ∨ t = 10 ∨ (b ≤ t ∧ t < b + d)
theorem QI.step {i : Nat} {q q' : Q} (h : QI K E w0 B C f N k w vo G s m l) (hi : l[i]? = some q) (e : Ext (SO (opb K.wd i) K.wd) G w G' w') (pr : PR w' G' B C f s' m') (hq : K.A w' G' (opb K.wd i) q') (ex : K.x q' = K.x q) (eR : K.R q' = K.R q)
 (n0 : 0 ≤ s'.n) (n1 : s'.n ≤ s.n + 4) (m1 : m' ≤ m + 4) (hit : s'.it.length ≤ s.it.length + 1) (hnt : s'.nt.length ≤ s.nt.length + 4) (hnk : ∀ n ∈ s'.nt, 0 ≤ n.kind ∧ n.kind ≤ 255) :
 QI K E w0 B C f N (k + 1) w' vo G' s' m' (l.set i q') := by
 have hil := (List.getElem?_eq_some_iff.1 hi).1
 have hb := Ah8 K.wd i
 have hrow : Aa2 (opc K) (l.set i q') = Aa2 (opc K) l := by
  unfold Aa2
  rw [List.flatMap_def, List.flatMap_def, List.map_set]
  congr 1
  refine List.ext_getElem? fun j => ?_
  rw [List.getElem?_set]
  split
  · rename_i e
    subst e
    rw [if_pos (by simpa using hil), List.getElem?_map, hi]
    show some (opc K q') = some (opc K q)
    unfold opc
    rw [ex, eR]
  rfl
 have h0 : ¬ SO (opb K.wd i) K.wd 0 := fun h => by unfold SO at h; omega
 refine ⟨h.env.ext e, pr, n0, by have := h.n1; omega, by have := h.m1; omega, by have := h.hit; omega, by have := h.hnt; omega, hnk, by rw [hrow, List.length_set]; exact h.row.ext e (fun h => by unfold SO at h; omega), by rw [List.length_set]; have := h.len; omega, fun j p hj => ?_, Nat.lt_of_lt_of_le h.pN e.size, (e.lo N h.pN).trans h.oN, (e.nob h0 h.pN h.oN 0).trans h.p0, (e.nob h0 h.pN h.oN 1).trans h.p1⟩
 rw [List.getElem?_set] at hj
 split at hj
 · rename_i e
   subst e
   try rw [if_pos hil] at hj
   cases hj
   exact hq
 rename_i e2
 refine K.ext (h.ops j p hj) e fun t h1 h2 h3 => ?_
 have := Alu (d := K.wd) (show i ≠ j from e2)
 have := Ah8 K.wd j
 unfold SO at h3
 omega
end
end
end Go.Proofs.YthbodknlhkapdaaGreat
