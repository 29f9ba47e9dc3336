/- Parts of the walk. -/
import Derived.Test.YthbodknlhkapdaaGreatBaE
import Derived.Deep.RegionHeld3
import Derived.Test.YthbodknlhkapdaaGreatBaD
import Derived.ArgAppend
import Derived.Test.YthbodknlhkapdaaGreatBaA
import Derived.Test.YthbodknlhkapdaaGreatBaH
import Derived.Deep.RegionWith
import Derived.Laws.AppendOwnNone
namespace Go.Proofs.YthbodknlhkapdaaGreat
set_option linter.unusedVariables false
set_option linter.unusedSimpArgs false
set_option maxHeartbeats 4000000
set_option maxRecDepth 100000
section
open Go.RowKit
section
variable {P : Program} {ops : Array Oper} {Q : Exit → Act → World → Prop} {md : Region.Mode} {S : World → Prop} {F : Nat}
def Ac3 (P : Program) (md : Region.Mode) (ops : Array Oper) (Q : Exit → Act → World → Prop) (S : World → Prop) (F : Nat) : Nat → Array Bool → Act → World → Prop
 | 0, listed, a, w => Region.ready md ops listed = [] ∧ Q .normal a w
 | fuel + 1, listed, a, w =>
   (Region.ready md ops listed = [] → Q .normal a w) ∧
   ∀ i ∈ Region.ready md ops listed, wpOp P ops Q i (fun a' w' => (i ≠ F → S w') ∧ Ac3 P md ops Q S F fuel (listed.setIfInBounds i true) a' w') a w
theorem Ajg : ∀ (fuel : Nat) (listed : Array Bool) (a : Act) (w : World), Ac3 P md ops Q S F fuel listed a w → wpAny P md ops Q fuel listed a w
 | 0, _, _, _, h => h
 | fuel + 1, _, _, _, h => ⟨h.1, fun i hi => wpOp_mono (fun a' w' h' => Ajg fuel _ a' w' h'.2) (h.2 i hi)⟩
def Ajh (md : Region.Mode) (ops : Array Oper) (F i : Nat) : Bool := match ops[F]? with
 | some o => o.after.any fun e => Region.binds md e && e.on == i
 | none => false
theorem Am9 {i : Nat} {o : Oper} (h : Ajh md ops F i = true) (ho : ops[F]? = some o) : ∃ e ∈ o.after, Region.binds md e = true ∧ e.on = i := by
 unfold Ajh at h
 rw [ho] at h
 obtain ⟨e, he, hh⟩ := Array.any_eq_true'.1 h
 rw [Bool.and_eq_true] at hh
 exact ⟨e, he, hh.1, by simpa using hh.2⟩
theorem Alg {i : Nat} {oi : Oper} {v : Value} (hi : ops[i]? = some oi) (hsel : ∀ (j : Nat) (o : Oper) cs b, ops[j]? = some o → o.op ≠ .select cs b)
 (hQ : ∀ c a w, Q (.panic c) (a.put oi.dst v) w → Q (.panic c) a w) (hF : Ajh md ops F i = true) :
 ∀ (fuel : Nat) (listed : Array Bool) (a : Act) (w : World),
  (∀ j oj, ops[j]? = some oj → j ≠ i → listed.getD j true = false → (∀ e ∈ oj.after, Region.binds md e = true → e.on ≠ i) → oi.apart ops oj = true) →
  i ∈ Region.ready md ops listed → YieldsIf P ops S oi v a → S w →
  Ac3 P md ops Q S F fuel (listed.setIfInBounds i true) (a.put oi.dst v) w → Ac3 P md ops Q S F (fuel + 1) listed a w := by
 intro fuel
 induction fuel with
 | zero =>
   intro listed a w _ hr hy hS H
   refine ⟨fun h => (by rw [h] at hr; cases hr), fun j hj => ?_⟩
   by_cases hji : j = i
   · subst hji; exact hy.wpOp hi hS ⟨fun _ => hS, H⟩
   have := ready_mono hj hji
   rw [H.1] at this
   cases this
 | succ fuel ih =>
   intro listed a w hfree hr hy hS H
   refine ⟨fun h => (by rw [h] at hr; cases hr), fun j hj => ?_⟩
   by_cases hji : j = i
   · subst hji; exact hy.wpOp hi hS ⟨fun _ => hS, H⟩
   have h1 := H.2 j (ready_mono hj hji)
   obtain ⟨hjun, oj, hoj, hall⟩ := mem_ready.1 hj
   have hnot : ∀ e ∈ oj.after, Region.binds md e = true → e.on ≠ i := fun e he hb heq => by
    have h1 := hall e he hb
    have h0 := (mem_ready.1 hr).1
    rw [heq] at h1
    rcases Nat.lt_or_ge i listed.size with h' | h'
    · simp [h'] at h0 h1; rw [h0] at h1; cases h1
    simp [Array.getElem?_eq_none h'] at h1
   have hjF : j ≠ F := fun e => by
    subst e
    obtain ⟨e, he, hb, ho⟩ := Am9 hF hoj
    exact hnot e he hb ho
   have h2 := wpOp_putIf hoj (hfree j oj hoj hji hjun hnot) (fun cs b => hsel i oi cs b hi) (fun cs b => hsel j oj cs b hoj) hQ hy h1
   have hfree' : ∀ k ok, ops[k]? = some ok → k ≠ i → (listed.setIfInBounds j true).getD k true = false →
    (∀ e ∈ ok.after, Region.binds md e = true → e.on ≠ i) → oi.apart ops ok = true := fun k ok hk hki hun hno => by
    refine hfree k ok hk hki ?_ hno
    by_cases hjk : j = k
    · subst hjk; exact hjun
    rw [getD_set_ne true hjk] at hun; exact hun
   refine wpOp_mono (fun a' w' h3 => ⟨h3.2.1, ih (listed.setIfInBounds j true) a' w' hfree' (ready_mono hr (Ne.symm hji)) h3.1 (h3.2.1 hjF) ?_⟩) h2
   rw [Array.setIfInBounds_comm _ _ hji]
   exact h3.2.2
theorem Am8 {i : Nat} {oi : Oper} {v : Value} {fuel : Nat} {listed : Array Bool} {a : Act} {w : World} (hi : ops[i]? = some oi)
 (hs : Region.noSelect ops = true) (hf : Region.free md ops listed i = true) (hr : (Region.ready md ops listed).contains i = true) (hF : Ajh md ops F i = true)
 (hQ : ∀ c a w, Q (.panic c) (a.put oi.dst v) w → Q (.panic c) a w) (hy : YieldsIf P ops S oi v a) (hS : S w)
 (h : Ac3 P md ops Q S F fuel (listed.setIfInBounds i true) (a.put oi.dst v) w) : Ac3 P md ops Q S F (fuel + 1) listed a w :=
 Alg hi (Region.noSelect_spec hs) hQ hF fuel listed a w (Region.free_spec hi hf) (by simpa using hr) hy hS h
theorem Ad8 {listed : Array Bool} {a : Act} {w : World} (hr : Region.ready md ops listed = []) (h : Q .normal a w) :
 ∀ fuel, Ac3 P md ops Q S F fuel listed a w
 | 0 => ⟨hr, h⟩
 | _ + 1 => ⟨fun _ => h, by rw [hr]; simp⟩
def Aab (P : Program) (md : Region.Mode) (ops : Array Oper) (Q : Exit → Act → World → Prop) (S : World → Prop) (F : Nat) (fuel : Nat) (listed : Array Bool) (a : Act) (w : World) (rs : List Nat) : Prop :=
 ∀ i ∈ rs, wpOp P ops Q i (fun a' w' => (i ≠ F → S w') ∧ Ac3 P md ops Q S F fuel (listed.setIfInBounds i true) a' w') a w
theorem Aab.nil {fuel : Nat} {listed : Array Bool} {a : Act} {w : World} : Aab P md ops Q S F fuel listed a w [] := fun _ h => by cases h
theorem Aab.cons {fuel : Nat} {listed : Array Bool} {a : Act} {w : World} {i : Nat} {o : Oper} {rs : List Nat} (ho : ops[i]? = some o)
 (h : ∀ K' : Act → World → Prop, Shut (∀ a w, S w → (S w → Ac3 P md ops Q S F fuel (listed.setIfInBounds i true) a w) → K' a w) → if Region.wanted o (yielded ops a.tmps) = true then Oper.wp P o a w K' Q else K' (a.put o.dst undef) w)
 (hs : Aab P md ops Q S F fuel listed a w rs) : Aab P md ops Q S F fuel listed a w (i :: rs) := fun j hj => by
 rcases List.mem_cons.1 hj with rfl | hj
 · exact wpOp_step ho (fun K' hK => h K' (fun a w hS hW => hK a w ⟨fun _ => hS, hW hS⟩))
 exact hs j hj
theorem Aab.last {fuel : Nat} {listed : Array Bool} {a : Act} {w : World} {o : Oper} {rs : List Nat} (ho : ops[F]? = some o)
 (h : ∀ K' : Act → World → Prop, Shut (∀ a w, Ac3 P md ops Q S F fuel (listed.setIfInBounds F true) a w → K' a w) → if Region.wanted o (yielded ops a.tmps) = true then Oper.wp P o a w K' Q else K' (a.put o.dst undef) w)
 (hs : Aab P md ops Q S F fuel listed a w rs) : Aab P md ops Q S F fuel listed a w (F :: rs) := fun j hj => by
 rcases List.mem_cons.1 hj with rfl | hj
 · exact wpOp_step ho (fun K' hK => h K' (fun a w hW => hK a w ⟨fun h => absurd rfl h, hW⟩))
 exact hs j hj
theorem Aad {rs : List Nat} {fuel : Nat} {listed : Array Bool} {a : Act} {w : World} (hr : Region.ready md ops listed = rs) (hne : rs ≠ [])
 (h : Aab P md ops Q S F fuel listed a w rs) : Ac3 P md ops Q S F (fuel + 1) listed a w := ⟨fun h0 => absurd (hr ▸ h0) hne, hr ▸ h⟩
theorem Ad7 {id : Nat} {a : Act} {w : World} (F : Nat) (hm : P.follows .mixedOrders = true) (hS : S w.drew)
 (h : S w.drew → Ac3 P .any ops Q S F ops.size (Array.replicate ops.size false) a w.drew) : (Code.region id ops true).wp P Q a w :=
 wp_region_any hm (Ajg _ _ _ _ (h hS))
end
section
variable {P : Program} {ops : Array Oper} {Q : Exit → Act → World → Prop} {md : Region.Mode} {S : World → Prop} {F : Nat}
def TkY (P : Program) (ops : Array Oper) (S : World → Prop) : List Nat → Act → (Act → Prop) → Prop
 | [], a, K => K a
 | i :: is, a, K => ∃ oi v, ops[i]? = some oi ∧ YieldsIf P ops S oi v a ∧ TkY P ops S is (a.put oi.dst v) K
def Adk : List Nat → Array Bool → Array Bool
 | [], l => l
 | i :: is, l => Adk is (l.setIfInBounds i true)
def Bbw : List Nat → Nat → Nat
 | [], n => n
 | _ :: is, n => Bbw is n + 1
def Axd (md : Region.Mode) (ops : Array Oper) (W : Nat → Bool) : List Nat → Array Bool → Bool
 | [], _ => true
 | i :: is, l => Region.free md ops l i && ((Region.ready md ops l).contains i && (W i && Axd md ops W is (l.setIfInBounds i true)))
theorem Bae (hQ : ∀ c (a : Act) t w, Q (.panic c) {a with tmps := t} w → Q (.panic c) a w) (c : _) (a : Act) (d : Option Tmp) (v : Value) (w : World) (h : Q (.panic c) (a.put d v) w) : Q (.panic c) a w := by
 cases d with
 | none => exact h
 | some d => exact hQ c a _ w h
theorem tky {is : List Nat} {i : Nat} {a : Act} {K : Act → Prop} {oi : Oper} {v : Value} (hi : ops[i]? = some oi) (hy : YieldsIf P ops S oi v a) (h : TkY P ops S is (a.put oi.dst v) K) : TkY P ops S (i :: is) a K := ⟨oi, v, hi, hy, h⟩
theorem tk0 {a : Act} {K : Act → Prop} (h : K a) : TkY P ops S [] a K := h
theorem Aoj (hs : Region.noSelect ops = true) (hQ : ∀ c (a : Act) t w, Q (.panic c) {a with tmps := t} w → Q (.panic c) a w) {fuel : Nat} {w : World} (hS : S w) : ∀ (is : List Nat) (listed : Array Bool) (a : Act), Axd md ops (Ajh md ops F) is listed = true → TkY P ops S is a (fun a => Ac3 P md ops Q S F fuel (Adk is listed) a w) → Ac3 P md ops Q S F (Bbw is fuel) listed a w
 | [], _, _, _, h => h
 | i :: is, l, a, hc, ⟨oi, v, hi, hy, h⟩ => by
  simp only [Axd, Bool.and_eq_true] at hc
  exact Am8 hi hs hc.1 hc.2.1 hc.2.2.1 (fun c a w h => Bae hQ c a _ _ w h) hy hS (Aoj hs hQ hS is _ _ hc.2.2.2 h)
theorem Aem {fuel : Nat} {listed : Array Bool} {a : Act} {w : World} (is : List Nat) (hc : (Region.noSelect ops && Axd md ops (Ajh md ops F) is listed) = true) (hQ : ∀ c (a : Act) t w, Q (.panic c) {a with tmps := t} w → Q (.panic c) a w) (hS : S w) (h : TkY P ops S is a (fun a => Ac3 P md ops Q S F fuel (Adk is listed) a w)) : Ac3 P md ops Q S F (Bbw is fuel) listed a w := by
 simp only [Bool.and_eq_true] at hc
 exact Aoj hc.1 hQ hS is listed a hc.2 h
theorem Aoi (hs : Region.noSelect ops = true) (hQ : ∀ c (a : Act) t w, Q (.panic c) {a with tmps := t} w → Q (.panic c) a w) {fuel : Nat} {w : World} (hS : S w) : ∀ (is : List Nat) (listed : Array Bool) (a : Act), Axd md ops (fun _ => true) is listed = true → TkY P ops S is a (fun a => wpAnyH P md ops Q S fuel (Adk is listed) a w) → wpAnyH P md ops Q S (Bbw is fuel) listed a w
 | [], _, _, _, h => h
 | i :: is, l, a, hc, ⟨oi, v, hi, hy, h⟩ => by
  simp only [Axd, Bool.and_eq_true] at hc
  exact wpAnyH_take hi hs hc.1 hc.2.1 (fun c a w h => Bae hQ c a _ _ w h) hy hS (Aoi hs hQ hS is _ _ hc.2.2.2 h)
theorem Az7 {fuel : Nat} {listed : Array Bool} {a : Act} {w : World} (is : List Nat) (hc : (Region.noSelect ops && Axd md ops (fun _ => true) is listed) = true) (hQ : ∀ c (a : Act) t w, Q (.panic c) {a with tmps := t} w → Q (.panic c) a w) (hS : S w) (h : TkY P ops S is a (fun a => wpAnyH P md ops Q S fuel (Adk is listed) a w)) : wpAnyH P md ops Q S (Bbw is fuel) listed a w := by
 simp only [Bool.and_eq_true] at hc
 exact Aoi hc.1 hQ hS is listed a hc.2 h
end
end
section
section
open Go.RowKit
structure Wnd where
 q : Int
 fr : Int
 sl : Int
structure Wym where
 ln : Int
 l : List Wnd
 i : Nat
 b : Int
 mo : Int
 way : List Spt
def Aha (l : List Wnd) (q : Int) : Bool := l.any fun n => n.q == q
def Ab7 (l : List Wnd) (n : Wnd) : List Wnd := if Aha l n.q then l else l ++ [n]
def Ai8 (mo : Int) (l : List Wnd) (n : Wnd) : List Wnd := if (l.length : Int) < mo then Ab7 l n else l
def Aco (b mo : Int) (i : Nat) (q tg : Int) : Nat → List Wnd → List Wnd
 | 0, l => l
 | k + 1, l => Ai8 mo (Aco b mo i q tg k l) ⟨Aa8 q (Aay tg k) b, i, k⟩
def Ab9 (b : Int) (l : List Wnd) : Nat → Int → Int → List Spt → List Spt
 | 0, _, _, acc => acc
 | f + 1, i, s, acc => if i < 0 then acc else match l[i.toNat]? with
   | none => acc
   | some n => Ab9 b l f n.fr n.sl (⟨b, n.q, s⟩ :: acc)
def wyQ (z : Wym) : Int := match z.l[z.i]? with
 | none => 0
 | some n => n.q
def Ag9 (b a c mo : Int) : Wym := if 0 ≤ a ∧ a < Aac b ∧ 0 ≤ c ∧ c < Aac b then ⟨1, Ab7 [⟨a, -1, 0⟩] ⟨c, -1, 0⟩, 0, b, mo, []⟩ else ⟨0, [], 0, 0, 0, []⟩
def Auh (s : AW) (z : Wym) : Int := s.M (Aai z.b (wyQ z))
def Aaw (x : AW × Wym) : AW × Wym :=
 if x.2.ln = 0 then x
 else if 0 ≤ Aa5 (Auh x.1 x.2) then (Aan (Aai x.2.b (wyQ x.2)) x.1, ⟨0, x.2.l, x.2.i, x.2.b, x.2.mo, Ab9 x.2.b x.2.l (x.2.i + 1) x.2.i (Aa5 (Auh x.1 x.2)) []⟩)
 else (Aan (Aai x.2.b (wyQ x.2)) x.1, ⟨if x.2.i + 1 = (Aco x.2.b x.2.mo x.2.i (wyQ x.2) (Auh x.1 x.2) 4 x.2.l).length then 0 else 1, Aco x.2.b x.2.mo x.2.i (wyQ x.2) (Auh x.1 x.2) 4 x.2.l, x.2.i + 1, x.2.b, x.2.mo, []⟩)
structure WyL (b : Int) (l : List Wnd) : Prop where
 nd : (l.map Wnd.q).Nodup
 q : ∀ n ∈ l, 0 ≤ n.q ∧ n.q < Aac b
 fr : ∀ (j : Nat) n, l[j]? = some n → -1 ≤ n.fr ∧ n.fr < j ∧ 0 ≤ n.sl ∧ n.sl ≤ 3
theorem Ar6 : ∀ (n : Nat) (l : List Int), l.Nodup → (∀ x ∈ l, 0 ≤ x ∧ x < n) → l.length ≤ n := by
 intro n
 induction n with
 | zero =>
   intro l _ h
   cases l with
   | nil => simp
   | cons x l => have := h x (by simp); omega
 | succ n ih =>
   intro l hn h
   by_cases hm : (n : Int) ∈ l
   · have h1 := List.length_erase_of_mem hm
     have h2 := ih (l.erase n) (hn.erase _) (fun x hx => by
      have h3 := h x (List.mem_of_mem_erase hx)
      have h4 : x ≠ n := fun e => by subst e; exact (List.Nodup.not_mem_erase hn) hx
      omega)
     have : 0 < l.length := List.length_pos_of_mem hm
     omega
   have := ih l hn (fun x hx => by
    have h3 := h x hx
    have h4 : x ≠ n := fun e => hm (by rw [← e]; exact hx)
    omega)
   omega
theorem WyL.len {b : Int} {l : List Wnd} (h : WyL b l) : l.length ≤ 4096 := by
 have hs := Aah b
 have := Ar6 4096 (l.map Wnd.q) h.nd (fun x hx => by
  obtain ⟨n, hn, rfl⟩ := List.mem_map.1 hx
  have := h.q n hn
  omega)
 simpa using this
theorem Ahv (l : List Wnd) (q : Int) : Aha l q = true ↔ q ∈ l.map Wnd.q := by
 unfold Aha
 rw [List.any_eq_true, List.mem_map]
 constructor
 · rintro ⟨n, hn, h⟩; exact ⟨n, hn, by simpa using h⟩
 rintro ⟨n, hn, h⟩; exact ⟨n, hn, by simpa using h⟩
theorem WyL.node {b : Int} {l : List Wnd} (h : WyL b l) (n : Wnd) (hq : 0 ≤ n.q ∧ n.q < Aac b) (hf : -1 ≤ n.fr ∧ n.fr < l.length) (hs : 0 ≤ n.sl ∧ n.sl ≤ 3) : WyL b (Ab7 l n) := by
 unfold Ab7
 split
 · exact h
 rename_i hh
 have hni : n.q ∉ l.map Wnd.q := fun e => hh ((Ahv l n.q).2 e)
 refine ⟨?_, fun m hm => ?_, fun j m hj => ?_⟩
 · rw [List.map_append]
   refine List.nodup_append.2 ⟨h.nd, by simp, fun x hx y hy e => ?_⟩
   simp at hy
   rw [e, hy] at hx
   exact hni hx
 · rcases List.mem_append.1 hm with g | g
   · exact h.q m g
   rw [List.mem_singleton.1 g]; exact hq
 by_cases g : j < l.length
 · rw [List.getElem?_append_left g] at hj; exact h.fr j m hj
 rw [List.getElem?_append_right (by omega)] at hj
 have h0 := (List.getElem?_eq_some_iff.1 hj).1
 simp at h0
 have e : j - l.length = 0 := by omega
 rw [e] at hj
 simp at hj
 subst hj
 omega
theorem Ajf (l : List Wnd) (n : Wnd) : l.length ≤ (Ab7 l n).length ∧ (Ab7 l n).length ≤ l.length + 1 := by unfold Ab7; split <;> simp
theorem Ari (mo : Int) (l : List Wnd) (n : Wnd) : l.length ≤ (Ai8 mo l n).length ∧ (Ai8 mo l n).length ≤ l.length + 1 := by
 have := Ajf l n
 unfold Ai8; split
 · exact this
 omega
theorem Ae0 (b mo : Int) (i : Nat) (q tg : Int) (k : Nat) (l : List Wnd) : l.length ≤ (Aco b mo i q tg k l).length := by
 induction k with
 | zero => exact Nat.le_refl _
 | succ k ih => unfold Aco; exact Nat.le_trans ih (Ari _ _ _).1
theorem WyL.grow {b : Int} {l : List Wnd} (h : WyL b l) (mo : Int) (i : Nat) (q tg : Int) (hi : i < l.length) (hq : 0 ≤ q ∧ q < Aac b) (hf : Aa5 tg < 0) (k : Nat) (hk : k ≤ 4) : WyL b (Aco b mo i q tg k l) := by
 induction k with
 | zero => exact h
 | succ k ih =>
   unfold Aco Ai8
   split
   · have hl := Ae0 b mo i q tg k l
     have ht : 1 ≤ Aay tg k ∧ Aay tg k ≤ 255 := by
      have hb := Ae1 tg k
      have h0 : Aay tg k ≠ 0 := by
       unfold Aa5 at hf
       have hk4 : k = 0 ∨ k = 1 ∨ k = 2 ∨ k = 3 := by omega
       intro e
       rcases hk4 with rfl | rfl | rfl | rfl
       · rw [if_pos (show Aay tg 0 = 0 from e)] at hf; omega
       · repeat' split at hf
         all_goals first | omega | contradiction
       · repeat' split at hf
         all_goals first | omega | contradiction
       repeat' split at hf
       all_goals first | omega | contradiction
      omega
     refine (ih (by omega)).node _ ?_ ?_ ?_
     · exact Aeb ⟨hq.1, hq.2, ht.1, ht.2⟩
     · dsimp only; omega
     dsimp only; omega
   exact ih (by omega)
end
section
open Go.RowKit
def Abe (tg rf : Int) : Otm := if 1 ≤ tg ∧ tg ≤ 255 ∧ 1 ≤ rf then ⟨0, 0⟩ else ⟨3, 0⟩
structure Hom where
 ln : Int
 k : Int
 way : List Spt
 tag : Int
 ref : Int
 m1 : List Int
 o : Otm
 u : Otm
 m2 : List Int
def Am0 : Spt := ⟨0, 0, 0⟩
def Ag1 (l : List Spt) (i : Int) : Spt := if i < 0 then Am0 else l.getD i.toNat Am0
def Hom.s (z : Hom) : Spt := Ag1 z.way z.k
def Hom.t (z : Hom) : Spt := Ag1 z.way (z.k + 1)
def Acx (l : List Spt) : Hom := ⟨if 2 ≤ l.length then 1 else 0, (l.length : Int) - 2, l, 0, 0, [], ⟨3, 0⟩, ⟨3, 0⟩, []⟩
def Awr (z : Hom) : Hom :=
 if z.ln = 3 ∧ z.m1 = [] then ⟨4, z.k, z.way, z.tag, z.ref, z.m1, z.o, z.u, z.m2⟩
 else if z.ln = 4 ∧ Aa7 z.o = true then ⟨if Aa7 z.u = true then 6 else 5, z.k, z.way, z.tag, z.ref, z.m1, z.o, z.u, z.m2⟩
 else if z.ln = 5 ∧ Aa7 z.u = true then ⟨6, z.k, z.way, z.tag, z.ref, z.m1, z.o, z.u, z.m2⟩
 else if z.ln = 6 ∧ z.m2 = [] then ⟨if z.k - 1 < 0 then 0 else 1, z.k - 1, z.way, z.tag, z.ref, z.m1, z.o, z.u, z.m2⟩
 else z
def Aas (x : AW × Hom) : AW × Hom :=
 if x.2.ln = 1 then (Aan x.2.s.tags x.1, ⟨2, x.2.k, x.2.way, Aay (x.1.M x.2.s.tags) x.2.s.s, x.2.ref, x.2.m1, x.2.o, x.2.u, x.2.m2⟩)
 else if x.2.ln = 2 then (Aan x.2.s.item x.1, ⟨3, x.2.k, x.2.way, x.2.tag, wrap64 (x.1.M x.2.s.item), mk2 x.2.s x.2.t, ⟨0, 0⟩, Abe x.2.tag (wrap64 (x.1.M x.2.s.item)), mk2 x.2.s x.2.t⟩)
 else if x.2.ln = 3 then (Ab0 (x.2.m1.headD 0) 1 x.1, Awr ⟨3, x.2.k, x.2.way, x.2.tag, x.2.ref, x.2.m1.tail, x.2.o, x.2.u, x.2.m2⟩)
 else if x.2.ln = 4 then ((Aaj x.2.s x.1 x.2.o).1, Awr ⟨4, x.2.k, x.2.way, x.2.tag, x.2.ref, x.2.m1, (Aaj x.2.s x.1 x.2.o).2, x.2.u, x.2.m2⟩)
 else if x.2.ln = 5 then ((Aap x.2.t x.2.tag x.2.ref x.1 x.2.u).1, Awr ⟨5, x.2.k, x.2.way, x.2.tag, x.2.ref, x.2.m1, x.2.o, (Aap x.2.t x.2.tag x.2.ref x.1 x.2.u).2, x.2.m2⟩)
 else if x.2.ln = 6 then (Ab0 (x.2.m2.headD 0) 1 x.1, Awr ⟨6, x.2.k, x.2.way, x.2.tag, x.2.ref, x.2.m1, x.2.o, x.2.u, x.2.m2.tail⟩)
 else x
structure Rmm where
 ln : Int
 b : Int
 a : Int
 c : Int
 wy : Wym
 ho : Hom
 p : Spt
 is : Bool
def wy0 : Wym := ⟨0, [], 0, 0, 0, []⟩
def ho0 : Hom := ⟨0, 0, [], 0, 0, [], ⟨3, 0⟩, ⟨3, 0⟩, []⟩
def Afc (b h : Int) : Rmm := if 1 ≤ b ∧ b ≤ 12 then ⟨1, b, Aat h b, Aa8 (Aat h b) (Ab3 h) b, wy0, ho0, Am0, false⟩ else ⟨0, 0, 0, 0, wy0, ho0, Am0, false⟩
def Awn (s : AW) (z : Rmm) (q : Int) : Int := s.M (Aai z.b q)
def Am2 (z : Rmm) (p : Spt) : Rmm := ⟨0, z.b, z.a, z.c, z.wy, z.ho, p, true⟩
def Ab8 (mo : Int) (z : Rmm) : Rmm := ⟨3, z.b, z.a, z.c, Ag9 z.b z.a z.c mo, z.ho, z.p, z.is⟩
def Acv (z : Rmm) : Rmm := match z.wy.way with
 | [] => ⟨0, z.b, z.a, z.c, z.wy, z.ho, z.p, z.is⟩
 | p :: l => ⟨if 2 ≤ (p :: l).length then 4 else 0, z.b, z.a, z.c, z.wy, Acx (p :: l), p, if 2 ≤ (p :: l).length then z.is else true⟩
def Aaq (mo : Int) (x : AW × Rmm) : AW × Rmm :=
 if x.2.ln = 1 then (Aan (Aai x.2.b x.2.a) x.1, if 0 ≤ Aa5 (Awn x.1 x.2 x.2.a) then Am2 x.2 ⟨x.2.b, x.2.a, Aa5 (Awn x.1 x.2 x.2.a)⟩ else if x.2.c = x.2.a then Ab8 mo x.2 else ⟨2, x.2.b, x.2.a, x.2.c, x.2.wy, x.2.ho, x.2.p, x.2.is⟩)
 else if x.2.ln = 2 then (Aan (Aai x.2.b x.2.c) x.1, if 0 ≤ Aa5 (Awn x.1 x.2 x.2.c) then Am2 x.2 ⟨x.2.b, x.2.c, Aa5 (Awn x.1 x.2 x.2.c)⟩ else Ab8 mo x.2)
 else if x.2.ln = 3 then
  if (Aaw (x.1, x.2.wy)).2.ln = 0 then
   (if (Aaw (x.1, x.2.wy)).2.way = [] then Abr 3 0 0 0 0 0 (Aaw (x.1, x.2.wy)).1 else (Aaw (x.1, x.2.wy)).1, Acv ⟨3, x.2.b, x.2.a, x.2.c, (Aaw (x.1, x.2.wy)).2, x.2.ho, x.2.p, x.2.is⟩)
  else ((Aaw (x.1, x.2.wy)).1, ⟨3, x.2.b, x.2.a, x.2.c, (Aaw (x.1, x.2.wy)).2, x.2.ho, x.2.p, x.2.is⟩)
 else if x.2.ln = 4 then ((Aas (x.1, x.2.ho)).1, ⟨if (Aas (x.1, x.2.ho)).2.ln = 0 then 0 else 4, x.2.b, x.2.a, x.2.c, x.2.wy, (Aas (x.1, x.2.ho)).2, x.2.p, if (Aas (x.1, x.2.ho)).2.ln = 0 then true else x.2.is⟩)
 else x
structure Mvm where
 ln : Int
 lost : Int
 now : Int
 p : Spt
 tag : Int
 ref : Int
 rm : Rmm
 d : Spt
 m : List Int
 o : Otm
 u : Otm
def rm0 : Rmm := ⟨0, 0, 0, 0, wy0, ho0, Am0, false⟩
def Af1 (t q : Int) : Mvm := if Aav t = 0 ∨ q < 0 ∨ Aac (Aaz t) ≤ q then ⟨0, 0, Aav t, ⟨Aaz t, q, 0⟩, 0, 0, rm0, Am0, [], ⟨3, 0⟩, ⟨3, 0⟩⟩ else ⟨1, 0, Aav t, ⟨Aaz t, q, 0⟩, 0, 0, rm0, Am0, [], ⟨3, 0⟩, ⟨3, 0⟩⟩
def Abl (z : Mvm) : Mvm := ⟨if z.p.s + 1 = 4 then 0 else 1, z.lost, z.now, ⟨z.p.b, z.p.q, z.p.s + 1⟩, z.tag, z.ref, z.rm, z.d, [], z.o, z.u⟩
def Aqe (it : List It) (r : Int) : List UInt8 := if 1 ≤ r then match it[(r - 1).toNat]? with
 | none => []
 | some x => x.key.data.toList else []
def mv7 (z : Mvm) : Mvm := ⟨7, z.lost, z.now, z.p, z.tag, z.ref, z.rm, z.d, mk2 z.p z.d, z.o, z.u⟩
def Aae (mo : Int) (x : AW × Mvm) : AW × Mvm :=
 if x.2.ln = 1 then (Aan x.2.p.tags x.1, if Aay (x.1.M x.2.p.tags) x.2.p.s = 0 then Abl ⟨1, x.2.lost, x.2.now, x.2.p, 0, x.2.ref, x.2.rm, x.2.d, x.2.m, x.2.o, x.2.u⟩ else ⟨2, x.2.lost, x.2.now, x.2.p, Aay (x.1.M x.2.p.tags) x.2.p.s, x.2.ref, x.2.rm, x.2.d, x.2.m, x.2.o, x.2.u⟩)
 else if x.2.ln = 2 then (Aan x.2.p.item x.1, ⟨3, x.2.lost, x.2.now, x.2.p, x.2.tag, wrap64 (x.1.M x.2.p.item), Afc x.2.now (Acn (Aqe x.1.it (wrap64 (x.1.M x.2.p.item)))), x.2.d, x.2.m, x.2.o, x.2.u⟩)
 else if x.2.ln = 3 then
  ((Aaq mo (x.1, x.2.rm)).1,
    if (Aaq mo (x.1, x.2.rm)).2.ln = 0 then
     if (Aaq mo (x.1, x.2.rm)).2.is = true then ⟨4, x.2.lost, x.2.now, x.2.p, x.2.tag, x.2.ref, (Aaq mo (x.1, x.2.rm)).2, (Aaq mo (x.1, x.2.rm)).2.p, mk2 x.2.p (Aaq mo (x.1, x.2.rm)).2.p, ⟨0, 0⟩, Abe x.2.tag x.2.ref⟩
     else ⟨8, x.2.lost, x.2.now, x.2.p, x.2.tag, x.2.ref, (Aaq mo (x.1, x.2.rm)).2, Am0, [x.2.p.ver], ⟨0, 0⟩, x.2.u⟩
    else ⟨3, x.2.lost, x.2.now, x.2.p, x.2.tag, x.2.ref, (Aaq mo (x.1, x.2.rm)).2, x.2.d, x.2.m, x.2.o, x.2.u⟩)
 else if x.2.ln = 4 then (Ab0 (x.2.m.headD 0) 1 x.1, ⟨if x.2.m.tail = [] then 5 else 4, x.2.lost, x.2.now, x.2.p, x.2.tag, x.2.ref, x.2.rm, x.2.d, x.2.m.tail, x.2.o, x.2.u⟩)
 else if x.2.ln = 5 then ((Aaj x.2.p x.1 x.2.o).1,
  if Aa7 (Aaj x.2.p x.1 x.2.o).2 = true then
   if Aa7 x.2.u = true then mv7 ⟨5, x.2.lost, x.2.now, x.2.p, x.2.tag, x.2.ref, x.2.rm, x.2.d, x.2.m, (Aaj x.2.p x.1 x.2.o).2, x.2.u⟩
   else ⟨6, x.2.lost, x.2.now, x.2.p, x.2.tag, x.2.ref, x.2.rm, x.2.d, x.2.m, (Aaj x.2.p x.1 x.2.o).2, x.2.u⟩
  else ⟨5, x.2.lost, x.2.now, x.2.p, x.2.tag, x.2.ref, x.2.rm, x.2.d, x.2.m, (Aaj x.2.p x.1 x.2.o).2, x.2.u⟩)
 else if x.2.ln = 6 then ((Aap x.2.d x.2.tag x.2.ref x.1 x.2.u).1,
  if Aa7 (Aap x.2.d x.2.tag x.2.ref x.1 x.2.u).2 = true then mv7 ⟨6, x.2.lost, x.2.now, x.2.p, x.2.tag, x.2.ref, x.2.rm, x.2.d, x.2.m, x.2.o, (Aap x.2.d x.2.tag x.2.ref x.1 x.2.u).2⟩
  else ⟨6, x.2.lost, x.2.now, x.2.p, x.2.tag, x.2.ref, x.2.rm, x.2.d, x.2.m, x.2.o, (Aap x.2.d x.2.tag x.2.ref x.1 x.2.u).2⟩)
 else if x.2.ln = 7 then (Ab0 (x.2.m.headD 0) 1 x.1, if x.2.m.tail = [] then Abl x.2 else ⟨7, x.2.lost, x.2.now, x.2.p, x.2.tag, x.2.ref, x.2.rm, x.2.d, x.2.m.tail, x.2.o, x.2.u⟩)
 else if x.2.ln = 8 then (Ab0 x.2.p.ver 1 x.1, ⟨9, x.2.lost, x.2.now, x.2.p, x.2.tag, x.2.ref, x.2.rm, x.2.d, [], ⟨0, 0⟩, x.2.u⟩)
 else if x.2.ln = 9 then
  (if x.2.o.ln = 1 then Abr 1 x.2.ref x.2.p.b x.2.p.q x.2.p.s 0 (Aaj x.2.p x.1 x.2.o).1 else (Aaj x.2.p x.1 x.2.o).1,
    ⟨if x.2.o.ln = 2 then 10 else 9, x.2.lost, x.2.now, x.2.p, x.2.tag, x.2.ref, x.2.rm, x.2.d, if x.2.o.ln = 2 then [x.2.p.ver] else [], (Aaj x.2.p x.1 x.2.o).2, x.2.u⟩)
 else if x.2.ln = 10 then (Ab0 x.2.p.ver 1 x.1, ⟨11, x.2.lost, x.2.now, x.2.p, x.2.tag, x.2.ref, x.2.rm, x.2.d, [], x.2.o, x.2.u⟩)
 else if x.2.ln = 11 then (Abr 2 x.2.ref x.2.p.b x.2.p.q x.2.p.s 0 (Ab0 6 18446744073709551615 x.1), Abl ⟨11, x.2.lost + 1, x.2.now, x.2.p, x.2.tag, x.2.ref, x.2.rm, x.2.d, x.2.m, x.2.o, x.2.u⟩)
 else x
def Abg (z : Mvm) : Bool := z.ln == 0
end
section
open Go.RowKit
def Akb (cs : List Value) (o : Nat) : List Value → List Value
 | [] => cs
 | v :: r => Akb (cs.set o v) (o + 1) r
theorem Arw (vs : List Value) : ∀ (cs : List Value) (o : Nat), (Akb cs o vs).length = cs.length := by
 induction vs with
 | nil => intro cs o; rfl
 | cons v r ih => intro cs o; unfold Akb; rw [ih, List.length_set]
theorem Alm (vs : List Value) : ∀ (cs : List Value) (o j : Nat), (j < o ∨ o + vs.length ≤ j) → (Akb cs o vs)[j]? = cs[j]? := by
 induction vs with
 | nil => intro cs o j _; rfl
 | cons v r ih =>
   intro cs o j h
   rw [List.length_cons] at h
   unfold Akb
   rw [ih _ _ _ (by omega), List.getElem?_set_ne (by omega)]
theorem Auv (vs : List Value) : ∀ (cs : List Value) (o j : Nat), j < vs.length → o + vs.length ≤ cs.length → (Akb cs o vs)[o + j]? = vs[j]? := by
 induction vs with
 | nil => intro cs o j h; simp at h
 | cons v r ih =>
   intro cs o j h hl
   rw [List.length_cons] at h hl
   unfold Akb
   cases j with
   | zero => rw [Alm _ _ _ _ (by omega)]; exact List.getElem?_set_self (by omega)
   | succ j => rw [show o + (j + 1) = (o + 1) + j by omega, ih _ _ _ (by omega) (by rw [List.length_set]; omega)]; rfl
theorem Ob.setCells {O : Om} {g b : Nat} (vs : List Value) : ∀ {w : World} {cs : List Value} (o : Nat), Ob w O g b cs → o + vs.length ≤ cs.length → Ob (w.setCells b o vs) O g b (Akb cs o vs) := by
 induction vs with
 | nil => intro w cs o h _; exact h
 | cons v r ih =>
   intro w cs o h hl
   rw [List.length_cons] at hl
   unfold World.setCells Akb
   exact ih (o + 1) (h.set o v (by omega)) (by rw [List.length_set]; omega)
theorem Ext.setCells {O : Om} {g b : Nat} (hg : g ≠ 0) (vs : List Value) : ∀ {w : World} (o : Nat), (Hh O w) → O b = g → Ext (fun j => j = g) O w O (w.setCells b o vs) := by
 induction vs with
 | nil => intro w o hhi _; exact Ext.refl hhi
 | cons v r ih =>
   intro w o hhi hb
   unfold World.setCells
   have e1 := Ext.of_set (j := o) (v := v) (S := fun j => j = g) hhi hb hg rfl
   exact e1.trans (ih (o + 1) e1.hi hb)
structure Sls (w : World) (O : Om) (g size : Nat) (v : Value) (n : Nat) (xs : List Value) : Prop where
 ex : ∃ (ao : Option Addr) (c : Nat), v = .slice ao n c ∧ n ≤ c ∧ c ≤ maxLen ∧ xs.length = n * size ∧ ((ao = none ∧ n = 0 ∧ c = 0) ∨ ∃ b o cs, ao = some ⟨b, o, none⟩ ∧ Ob w O g b cs ∧ o + c * size ≤ cs.length ∧ (cs.drop o).take (n * size) = xs)
section
variable {S : Nat → Prop} {O O' : Om} {w w' : World} {g size n cp b o : Nat} {v : Value} {xs : List Value}
theorem Sls.nil (w : World) (O : Om) (g size : Nat) : Sls w O g size (.slice none 0 0) 0 [] := ⟨none, 0, rfl, Nat.le_refl _, Nat.zero_le _, by simp, .inl ⟨rfl, rfl, rfl⟩⟩
theorem Sls.ext (h : Sls w O g size v n xs) (e : Ext S O w O' w') (hs : ¬ S g := by omega) : Sls w' O' g size v n xs := by
 obtain ⟨ao, c, h1, h2, h3, h4, h5⟩ := h.ex
 exact ⟨ao, c, h1, h2, h3, h4, h5.imp id fun ⟨b, o, cs, q1, q2, q3⟩ => ⟨b, o, cs, q1, q2.ext e hs, q3⟩⟩
theorem Sls.below (h : Sls w O g size v n xs) (hb : Below w.heap.size w w') : Sls w' O g size v n xs := by
 obtain ⟨ao, c, h1, h2, h3, h4, h5⟩ := h.ex
 exact ⟨ao, c, h1, h2, h3, h4, h5.imp id fun ⟨b, o, cs, q1, q2, q3⟩ => ⟨b, o, cs, q1, q2.below hb, q3⟩⟩
theorem Sls.kept (h : Sls w O g size v n xs) (hk : ∀ g' b' ds, Ob w O g' b' ds → Ob w' O' g' b' ds) : Sls w' O' g size v n xs := by
 obtain ⟨ao, c, h1, h2, h3, h4, h5⟩ := h.ex
 exact ⟨ao, c, h1, h2, h3, h4, h5.imp id fun ⟨b, o, cs, q1, q2, q3⟩ => ⟨b, o, cs, q1, hk _ _ _ q2, q3⟩⟩
theorem Sls.other (h : Sls w O g size v n xs) {b2 j : Nat} {u : Value} {g2 : Nat} (hb : O b2 = g2) (hg : g2 ≠ g) : Sls (w.setCell ⟨b2, j, none⟩ u) O g size v n xs := by
 obtain ⟨ao, c, h1, h2, h3, h4, h5⟩ := h.ex
 exact ⟨ao, c, h1, h2, h3, h4, h5.imp id fun ⟨b, o, cs, q1, q2, q3⟩ => ⟨b, o, cs, q1, q2.other (fun e => hg (by rw [← hb, e]; exact q2.o)), q3⟩⟩
theorem Sls.of_ob {cs : List Value} (h : Ob w O g b cs) (hn : cs.length = n * size) (hm : n ≤ maxLen) : Sls w O g size (.slice (some ⟨b, 0, none⟩) n n) n cs :=
 ⟨_, n, rfl, Nat.le_refl _, hm, hn, .inr ⟨b, 0, cs, rfl, h, by omega, by rw [List.drop_zero, ← hn, List.take_length]⟩⟩
theorem Sls.shape (h : Sls w O g size v n xs) : ∃ ao c, v = .slice ao n c ∧ n ≤ c ∧ c ≤ maxLen := by
 obtain ⟨ao, c, h1, h2, h3, -⟩ := h.ex
 exact ⟨ao, c, h1, h2, h3⟩
theorem Sls.len (h : Sls w O g size v n xs) : xs.length = n * size := by
 obtain ⟨ao, c, h1, h2, h3, h4, -⟩ := h.ex
 exact h4
theorem Sls.open (h : Sls w O g size v n xs) (hn : 0 < n) : ∃ b o c, v = .slice (some ⟨b, o, none⟩) n c ∧ n ≤ c ∧ c ≤ maxLen := by
 obtain ⟨ao, c, h1, h2, h3, h4, h5⟩ := h.ex
 rcases h5 with ⟨_, h, _⟩ | ⟨b, o, cs, rfl, _⟩
 · omega
 exact ⟨b, o, c, h1, h2, h3⟩
theorem Sls.lt (h : Sls w O g size (.slice (some ⟨b, o, none⟩) n cp) n xs) : b < w.heap.size ∧ O b = g := by
 obtain ⟨ao, c', h1, h2, h3, h4, h5⟩ := h.ex
 cases h1
 rcases h5 with ⟨h, _⟩ | ⟨b', o', cs, e, q, _⟩
 · cases h
 cases e; exact ⟨q.lt, q.o⟩
theorem Sls.c (h : Sls w O g size (.slice (some ⟨b, o, none⟩) n cp) n xs) (j : Nat) (u : Value) (hu : xs[j]? = some u) : w.cell? ⟨b, o + j, none⟩ = some u := by
 obtain ⟨ao, c', h1, h2, h3, h4, h5⟩ := h.ex
 cases h1
 rcases h5 with ⟨h, _⟩ | ⟨b', o', cs, e, q, q2, q3⟩
 · cases h
 cases e
 refine q.c _ _ ?_
 rw [← q3] at hu
 have hj : j < n * size := by
  have := (List.getElem?_eq_some_iff.1 hu).1
  simp at this; omega
 rw [List.getElem?_take_of_lt hj, List.getElem?_drop] at hu
 exact hu
theorem Sls.f (h : Sls w O g size (.slice (some ⟨b, o, none⟩) n cp) n xs) (j : Nat) : w.frozen? ⟨b, j, none⟩ = false := by
 obtain ⟨ao, c', h1, h2, h3, h4, h5⟩ := h.ex
 cases h1
 rcases h5 with ⟨h, _⟩ | ⟨b', o', cs, e, q, q2, q3⟩
 · cases h
 cases e; exact q.f j
theorem Sls.tail {o' : Nat} (h : Sls w O g size (.slice (some ⟨b, o, none⟩) (n + 1) cp) (n + 1) xs) (ho : o' = o + size ∨ (cp = 1 ∧ o' = o)) : Sls w O g size (.slice (some ⟨b, o', none⟩) n (cp - 1)) n (xs.drop size) := by
 obtain ⟨ao, c', h1, h2, h3, h4, h5⟩ := h.ex
 cases h1
 rcases h5 with ⟨h, _⟩ | ⟨b', o'', cs, e, q, q2, q3⟩
 · cases h
 cases e
 have hc : cp * size = (cp - 1) * size + size := by
  obtain ⟨d, rfl⟩ : ∃ d, cp = d + 1 := ⟨cp - 1, by omega⟩
  rw [Nat.add_sub_cancel, Nat.add_mul, Nat.one_mul]
 have hn : (n + 1) * size = n * size + size := by rw [Nat.add_mul, Nat.one_mul]
 refine ⟨_, cp - 1, rfl, by omega, by omega, by rw [List.length_drop, h4, hn]; omega, .inr ⟨b, o', cs, rfl, q, ?_, ?_⟩⟩
 · rcases ho with rfl | ⟨rfl, rfl⟩
   · omega
   simp at hc ⊢; omega
 rcases ho with rfl | ⟨rfl, rfl⟩
 · rw [← q3, hn, List.drop_take, List.drop_drop, Nat.add_sub_cancel]
 have hn0 : n = 0 := by omega
 subst hn0
 rw [Nat.zero_mul, List.take_zero, List.drop_eq_nil_of_le (by rw [h4, hn]; omega)]
end
theorem Afj {P : Program} (w : World) (ty ty2 : TypeId) (e : TypeId) (i : TypeInfo) (z : Value) (size bytes : Nat) (ht : P.underlying ty = some (.slice e)) (hi : P.info? e = some i) (hz : i.zero = some z)
 (hsize : i.size = size) (hby : i.bytes = bytes) (hzs : z.cells.size = size) (hsz : 0 < size)
 (O : Om) (t : Nat) (ht0 : t ≠ 0) (hhi : Hh O w)
 (v : Value) (n : Nat) (xs : List Value) (h : Sls w O t size v n xs)
 (m : Nat) (hm : 0 < m) (cs : List Value) (e' : TypeId) (hl : cs.length = m * size) (h1 : ∀ u ∈ cs, u.oneCell' = true)
 (hnm : n + m ≤ maxLen) (hbytes : (n + m) * bytes ≤ 140737488355328) :
 ∃ b' o' c' w' O', (Builtin.append_ #[ty, ty] ty2 #[v, .slice (some ⟨w.heap.size, 0, none⟩) m m]).run P (w.alloc (.cells cs.toArray e')) = .ok (.slice (some ⟨b', o', none⟩) (n + m) c') w' ∧ Ext (fun j => j = t) O w O' w' ∧ Sls w' O' t size (.slice (some ⟨b', o', none⟩) (n + m) c') (n + m) (xs ++ cs) := by
 have E0 : Ext (fun j => j = t) O w O (w.alloc (.cells cs.toArray e')) := Ext.of_below hhi (bal _ _)
 have h' := h.below ((Below.refl _ w).alloc (Nat.le_refl _) (.cells cs.toArray e'))
 have grow : ∀ v' w', w'.ownsRow (w.alloc (.cells cs.toArray e')).heap.size e size v' (n + m) (xs ++ cs) → (w.alloc (.cells cs.toArray e')).grownBy w' none → ∃ b' o' c' O', v' = .slice (some ⟨b', o', none⟩) (n + m) c' ∧ Ext (fun j => j = t) O w O' w' ∧ Sls w' O' t size v' (n + m) (xs ++ cs) := by
  intro v' w' hown hgr
  have hown0 := hown
  obtain ⟨hol, hov⟩ := hown
  rcases hov with ⟨_, h0⟩ | ⟨g, cap, cur, rfl, hbg, hcell, hnc, hcm, hcs, htk⟩
  · omega
  have hw : Aag (fun _ => False) (w.alloc (.cells cs.toArray e')) w' := (Aag.refl _ _).grown hgr fun k hk _ => by cases hk
  have hs' := hw.size
  have hgl : g < w'.heap.size := (Array.getElem?_eq_some_iff.1 hcell).1
  have hfz := hown0.frozenAt
  have hO : Ext (fun j => j = t) O (w.alloc (.cells cs.toArray e')) (fun j => if j = g then t else O j) w' := by
   refine ⟨fun j hj => by rw [if_neg (by omega)], fun j hj => ?_, fun j hj hn => ?_, hw.mono fun _ _ h => h.elim⟩
   · by_cases e : j = g
     · omega
     rw [if_neg e] at hj; have := E0.hi j hj; omega
   by_cases e : j = g
   · rw [if_pos e]
   rw [if_neg e] at hn; have := E0.hi j hn; omega
  refine ⟨g, 0, cap, _, rfl, E0.trans hO, ⟨_, cap, rfl, hnc, hcm, hol, .inr ⟨g, 0, cur.toList, rfl, ⟨by rw [if_pos rfl], hgl, fun j u hu => ?_, fun j => ?_⟩, ?_, ?_⟩⟩⟩
  · unfold World.cell?
    simp only [hcell]
    simpa using hu
  · exact hfz j
  · rw [Nat.zero_add, Array.length_toList, hcs]; exact Nat.le_refl _
  rw [List.drop_zero]; exact htk
 obtain ⟨ao, c, rfl, h2, h3, h4, h5⟩ := h'.ex
 have hsrc : ∀ j u, cs[j]? = some u → (w.alloc (.cells cs.toArray e')).cell? ((⟨w.heap.size, 0, none⟩ : Addr).add j) = some u := by
  intro j u hu
  rw [Addr.add_lit, Nat.zero_add]
  exact Aak w cs.toArray e' _ rfl j u (by simpa using hu)
 rcases h5 with ⟨rfl, rfl, rfl⟩ | ⟨b, of, ds, rfl, hob, hod, htk⟩
 · have hx0 : xs = [] := List.eq_nil_of_length_eq_zero (by rw [h4]; simp)
   subst hx0
   obtain ⟨v', w', hrun, r1, r2, _⟩ := run_append_own (P := P) (w.alloc (.cells cs.toArray e')) (w.alloc (.cells cs.toArray e')).heap.size ty ty2 e i z size bytes ht hi hz hsize hby hzs hsz (.slice none 0 0) 0 [] (World.ownsRow_nil _ _ e size) ⟨w.heap.size, 0, none⟩ m m cs hl hsrc h1 hnm hbytes (Nat.le_refl _)
   obtain ⟨b', o', c', O', rfl, q1, q2⟩ := grow v' w' r1 r2
   exact ⟨b', o', c', w', O', hrun, q1, q2⟩
 have hnm2 : (n + m) * size = n * size + m * size := by rw [Nat.add_mul]
 by_cases hr : n + m ≤ c
 · have hcs : (n + m) * size ≤ c * size := Nat.mul_le_mul_right _ hr
   have hfit : of + n * size + cs.length ≤ ds.length := by omega
   have hsp : ∀ j, j < cs.length → ((w.alloc (.cells cs.toArray e')).cell? ⟨b, of + n * size + j, none⟩).isSome = true ∧ (w.alloc (.cells cs.toArray e')).frozen? ⟨b, of + n * size + j, none⟩ = false := fun j hj =>
    ⟨by rw [hob.c _ _ (List.getElem?_eq_getElem (show of + n * size + j < ds.length by omega))]; rfl, hob.f _⟩
   subst hsize
   have hrun := run_append_room_cells (P := P) (w := w.alloc (.cells cs.toArray e')) ty ty2 e i ht hi b of n c ⟨w.heap.size, 0, none⟩ m m cs hl hsrc h1 hr (fun j hj => (hsp j hj).1) (fun j hj => (hsp j hj).2)
   have e1 := Ext.setCells ht0 cs (w := w.alloc (.cells cs.toArray e')) (of + n * i.size) E0.hi hob.o
   have o1 := hob.setCells cs (of + n * i.size) hfit
   refine ⟨b, of, c, _, O, hrun, E0.trans e1, ⟨_, c, rfl, hr, h3, by rw [List.length_append, h4, hl, hnm2], .inr ⟨b, of, _, rfl, o1, by rw [Arw]; exact hod, ?_⟩⟩⟩
   refine List.ext_getElem? fun j => ?_
   by_cases hj : j < (n + m) * i.size
   · rw [List.getElem?_take_of_lt hj, List.getElem?_drop]
     by_cases hj2 : j < n * i.size
     · rw [Alm _ _ _ _ (by omega), List.getElem?_append_left (by omega), ← htk, List.getElem?_take_of_lt hj2, List.getElem?_drop]
     rw [List.getElem?_append_right (by omega), h4, show of + j = of + n * i.size + (j - n * i.size) by omega, Auv _ _ _ _ (by omega) hfit]
   rw [List.getElem?_eq_none (by rw [List.length_take]; omega), List.getElem?_eq_none (by rw [List.length_append, h4, hl]; omega)]
 obtain ⟨v', w', hrun, r1, r2⟩ := run_append_arg_grows (P := P) (w := w.alloc (.cells cs.toArray e')) ty ty2 e i z size bytes ht hi hz hsize hby hzs hsz ⟨b, of, none⟩ n c xs h4 (fun j u hj => by rw [Addr.add_lit]; exact h'.c j u hj) ⟨w.heap.size, 0, none⟩ m m cs hl hsrc (by omega) hnm hbytes
 obtain ⟨b', o', c', O', rfl, q1, q2⟩ := grow v' w' r1 r2
 exact ⟨b', o', c', w', O', hrun, q1, q2⟩
theorem Ad3 {P : Program} {ops : Array Oper} {rest : List Oper} {o : Oper} {a : Act} {Q : Exit → Act → World → Prop} (w : World) (hgd : o.guard = none) (s x : Operand) (ty : TypeId)
 (ho : o.op = .call { callee := .builtin .append, args := #[s, x], argTypes := #[ty, ty] })
 (e : TypeId) (i : TypeInfo) (z : Value) (size bytes : Nat) (ht : P.underlying ty = some (.slice e)) (hi : P.info? e = some i) (hz : i.zero = some z)
 (hsize : i.size = size) (hby : i.bytes = bytes) (hzs : z.cells.size = size) (hsz : 0 < size)
 (O : Om) (t : Nat) (ht0 : t ≠ 0) (hhi : Hh O w)
 (v : Value) (n : Nat) (xs : List Value) (hs : a.eval s = v) (h : Sls w O t size v n xs)
 (m : Nat) (hm : 0 < m) (cs : List Value) (e' : TypeId) (hx : a.eval x = .slice (some ⟨w.heap.size, 0, none⟩) m m) (hl : cs.length = m * size) (h1 : ∀ u ∈ cs, u.oneCell' = true)
 (hnm : n + m ≤ maxLen) (hbytes : (n + m) * bytes ≤ 140737488355328)
 (hK : ∀ b' o' c' w' O', Ext (fun j => j = t) O w O' w' → Sls w' O' t size (.slice (some ⟨b', o', none⟩) (n + m) c') (n + m) (xs ++ cs) → wpList P ops Q rest (a.put o.dst (.slice (some ⟨b', o', none⟩) (n + m) c')) w') :
 wpList P ops Q (o :: rest) a (w.alloc (.cells cs.toArray e')) := by
 refine wpList_plain hgd fun K hK' => ?_
 obtain ⟨b', o', c', w', O', hrun, q1, q2⟩ := Afj (P := P) w ty o.type e i z size bytes ht hi hz hsize hby hzs hsz O t ht0 hhi v n xs h m hm cs e' hl h1 hnm hbytes
 unfold Oper.wp
 simp [execOp, ho, resolve, invoke, builtin, hs, hx, hrun, Result.andThen]
 exact hK' _ _ (hK b' o' c' w' O' q1 q2)
theorem Acu {P : Program} {ops : Array Oper} {o : Oper} {a : Act} {K : Act → World → Prop} {Q : Exit → Act → World → Prop} {E : Prop} (w : World) (hgd : o.guard = none) (s x : Operand) (ty : TypeId)
 (ho : o.op = .call { callee := .builtin .append, args := #[s, x], argTypes := #[ty, ty] })
 (e : TypeId) (i : TypeInfo) (z : Value) (size bytes : Nat) (ht : P.underlying ty = some (.slice e)) (hi : P.info? e = some i) (hz : i.zero = some z)
 (hsize : i.size = size) (hby : i.bytes = bytes) (hzs : z.cells.size = size) (hsz : 0 < size)
 (O : Om) (t : Nat) (ht0 : t ≠ 0) (hhi : Hh O w)
 (v : Value) (n : Nat) (xs : List Value) (hs : a.eval s = v) (h : Sls w O t size v n xs)
 (m : Nat) (hm : 0 < m) (cs : List Value) (e' : TypeId) (hx : a.eval x = .slice (some ⟨w.heap.size, 0, none⟩) m m) (hl : cs.length = m * size) (h1 : ∀ u ∈ cs, u.oneCell' = true)
 (hnm : n + m ≤ maxLen) (hbytes : (n + m) * bytes ≤ 140737488355328)
 (hK : ∀ b' o' c' w' O', Ext (fun j => j = t) O w O' w' → Sls w' O' t size (.slice (some ⟨b', o', none⟩) (n + m) c') (n + m) (xs ++ cs) → K (a.put o.dst (.slice (some ⟨b', o', none⟩) (n + m) c')) w') :
 if Region.wanted o (yielded ops a.tmps) = true then Oper.wp P o a (w.alloc (.cells cs.toArray e')) K Q else E := by
 have hw : Region.wanted o (yielded ops a.tmps) = true := by simp [Region.wanted, hgd]
 rw [if_pos hw]
 obtain ⟨b', o', c', w', O', hrun, q1, q2⟩ := Afj (P := P) w ty o.type e i z size bytes ht hi hz hsize hby hzs hsz O t ht0 hhi v n xs h m hm cs e' hl h1 hnm hbytes
 unfold Oper.wp
 simp [execOp, ho, resolve, invoke, builtin, hs, hx, hrun, Result.andThen]
 exact hK b' o' c' w' O' q1 q2
end
end
section
section
open Go.RowKit
theorem Ba6 (h : Int) (w : World) (h0 : 0 ≤ h) (h1 : h < 18446744073709551616) :
 Calls Tryz.prog 167 #[.int .u64 h] w fun e w' => e = .returned (.int .i64 (Ab3 h)) ∧ w = w' := by
 by_cases c : h / 72057594037927936 < 1
 · have e : Ab3 h = 1 := by unfold Ab3; rw [if_pos c]
   rw [e]
   go_enter Tryz.func167, Tryz.ntmps167
   go_wp2
   go_ret
   exact ⟨rfl, rfl⟩
 have e : Ab3 h = h / 72057594037927936 := by unfold Ab3; rw [if_neg c]
 rw [e]
 go_enter Tryz.func167, Tryz.ntmps167
 go_wp2
 go_ret
 exact ⟨rfl, rfl⟩
theorem Asy (h b : Int) (w : World) (h0 : 0 ≤ h) (h1 : h < 18446744073709551616) (b0 : -9223372036854775808 ≤ b) (b1 : b ≤ 9223372036854775807) :
 Calls Tryz.prog 165 #[.int .u64 h, .int .i64 b] w fun e w' => e = .returned (.int .i64 (Aat h b)) ∧ w = w' := by
 have hs := Aah b
 by_cases c : 1 ≤ b ∧ b ≤ 12
 · have hp := Abf c.1 c.2
   have hm : wrap64 (bits .and .u64 h (Aac b - 1)) = Aat h b := by
    have := Aby (h := h) c.1 c.2
    rw [Ak6 h0 h1 c.1 c.2, ← Aer c.1 c.2, IntWalk.wrap64_in _ (by omega)]
   have Hm := hQd hm
   clear hm c
   go_enter Tryz.func165, Tryz.ntmps165
   go_wp2_with (go_at_call 38; refine (Acc _ _ b0 b1).mono ?_; rintro e w' ⟨rfl, rfl⟩)
   go_ret
   exact ⟨Aa6 Hm.out, rfl⟩
 have hz : Aac b ≤ 0 := by rw [Acm (by omega)]; omega
 rw [Af6 (by omega)]
 clear c
 go_enter Tryz.func165, Tryz.ntmps165
 go_wp2_with (go_at_call 38; refine (Acc _ _ b0 b1).mono ?_; rintro e w' ⟨rfl, rfl⟩)
 go_ret
 exact ⟨rfl, rfl⟩
theorem Aph (k t b : Int) (w : World) (k0 : -9223372036854775808 ≤ k) (k1 : k ≤ 9223372036854775807) (t0 : -9223372036854775808 ≤ t) (t1 : t ≤ 9223372036854775807) (b0 : -9223372036854775808 ≤ b) (b1 : b ≤ 9223372036854775807) :
 Calls Tryz.prog 166 #[.int .i64 k, .int .i64 t, .int .i64 b] w fun e w' => e = .returned (.int .i64 (Aa8 k t b)) ∧ w = w' := by
 have hs := Aah b
 by_cases c : 0 ≤ k ∧ k < Aac b ∧ 1 ≤ t ∧ t ≤ 255
 · have Hm := hQd (Ara c)
   obtain ⟨c1, c2, c3, c4⟩ := c
   go_enter Tryz.func166, Tryz.ntmps166
   go_wp2_with (go_at_call 38; refine (Acc _ _ b0 b1).mono ?_; rintro e w' ⟨rfl, rfl⟩)
   go_ret
   exact ⟨Aa6 Hm.out, rfl⟩
 rw [Ag2 c]
 by_cases c1 : k < 0
 · clear c
   go_enter Tryz.func166, Tryz.ntmps166
   go_wp2_with (go_at_call 38; refine (Acc _ _ b0 b1).mono ?_; rintro e w' ⟨rfl, rfl⟩)
   go_ret
   exact ⟨rfl, rfl⟩
 by_cases c2 : Aac b ≤ k
 · clear c
   go_enter Tryz.func166, Tryz.ntmps166
   go_wp2_with (go_at_call 38; refine (Acc _ _ b0 b1).mono ?_; rintro e w' ⟨rfl, rfl⟩)
   go_ret
   exact ⟨rfl, rfl⟩
 by_cases c3 : t < 1
 · clear c
   go_enter Tryz.func166, Tryz.ntmps166
   go_wp2_with (go_at_call 38; refine (Acc _ _ b0 b1).mono ?_; rintro e w' ⟨rfl, rfl⟩)
   go_ret
   exact ⟨rfl, rfl⟩
 have c4 : 255 < t := by omega
 clear c
 go_enter Tryz.func166, Tryz.ntmps166
 go_wp2_with (go_at_call 38; refine (Acc _ _ b0 b1).mono ?_; rintro e w' ⟨rfl, rfl⟩)
 go_ret
 exact ⟨rfl, rfl⟩
end
section
open Go.RowKit
end
section
open Go.RowKit
theorem Ax2 {h c : Int} (h0 : 0 ≤ h) (h1 : h < 18446744073709551616) (c0 : 0 ≤ c) (c1 : c < 256) : IntKind.u64.wrap (bits .xor .u64 h c * 1099511628211) = Acz h c := by
 rw [u64_xor h c h0 h1 c0 (by omega), IntKind.wrap_u64]
 unfold Acz
 omega
theorem Bcw (b : Nat) (h c : Int) (w : World) (h0 : 0 ≤ h) (h1 : h < 18446744073709551616) (c0 : 0 ≤ c) (c1 : c < 256) (hc : w.cell? ⟨b, 0, none⟩ = some (.int .u64 h)) (hf : w.frozen? ⟨b, 0, none⟩ = false) :
 Calls Tryz.prog 170 #[.pointer (some ⟨b, 0, none⟩), .int .u8 c] w fun e w' => e = .returned (.tuple #[]) ∧ w.setCell ⟨b, 0, none⟩ (.int .u64 (Acz h c)) = w' := by
 have Hm := hQd (Ax2 h0 h1 c0 c1)
 go_enter Tryz.func170, Tryz.ntmps170
 go_wp2
 go_end0
 exact ⟨rfl, by rw [Hm.out]⟩
theorem Ba7 (s : ByteArray) (w : World) (hs : s.size ≤ maxLen) (h : Int) (h0 : 0 ≤ h) (h1 : h < 18446744073709551616) (T : Nat) :
 Calls Tryz.prog 169 #[.string s, .func (.func 170) #[.pointer (some ⟨w.heap.size, 0, none⟩)] #[]] (w.alloc (.cells #[.int .u64 h] T)) fun e w' => e = .returned (.tuple #[]) ∧ w.alloc (.cells #[.int .u64 (Acb h s.data.toList)] T) = w' := by
 unfold maxLen at hs
 go_enter Tryz.func169, Tryz.ntmps169
 go_wp2
 go_loopw [7] (fun i wr => ∃ k : Nat, k ≤ s.size ∧ i = .int .i64 k ∧ wr = w.alloc (.cells #[.int .u64 (Acb h (s.data.toList.take k))] T)) (fun i _ => s.size - (intOf i).toNat)
 case atStart => exact ⟨0, Nat.zero_le _, rfl, by simp [Aig]⟩
 obtain ⟨k, hk, rfl, rfl⟩ := hrel
 have hb := Agm h (s.data.toList.take k) h0 h1
 by_cases hlt : k < s.size
 · have HS := hQd (show Acb h (s.data.toList.take (k + 1)) = Acz (Acb h (s.data.toList.take k)) (s[k].toNat : Int) by rw [Alh s k hlt, Ag3])
   have hc0 : (0 : Int) ≤ (s[k].toNat : Int) := by omega
   have hc1 : (s[k].toNat : Int) < 256 := by have := s[k].toNat_lt; omega
   have g1 := hQd (show (w.alloc (.cells #[.int .u64 (Acb h (s.data.toList.take k))] T)).cell? ⟨w.heap.size, 0, none⟩ = some (.int .u64 (Acb h (s.data.toList.take k))) by simp)
   have g2 := hQd (show (w.alloc (.cells #[.int .u64 (Acb h (s.data.toList.take k))] T)).frozen? ⟨w.heap.size, 0, none⟩ = false by simp)
   go_wp2_with (go_at_call 170; refine (Bcw _ _ _ _ hb.1 hb.2 hc0 hc1 g1.out g2.out).mono ?_; rintro e w' ⟨rfl, rfl⟩)
   go_roundw
   case rel => exact ⟨k + 1, by omega, by go_num, by rw [HS.out]⟩
   case measure => simp [intOf]; omega
 go_wp2
 go_end0
 exact ⟨rfl, by rw [List.take_of_length_le (by simp; omega)]⟩
theorem Bbu (s : ByteArray) (w : World) (hs : s.size ≤ maxLen) :
 Calls Tryz.prog 157 #[.string s] w fun e w' => e = .returned (.int .u64 (Acn s.data.toList)) ∧ w.alloc (.cells #[.int .u64 (Acn s.data.toList)] 281) = w' := by
 go_enter Tryz.func157, Tryz.ntmps157
 go_wp2_with (go_at_call 169; refine (Ba7 _ _ hs _ (by decide) (by decide) _).mono ?_; rintro e w' ⟨rfl, rfl⟩)
 go_ret
 exact ⟨rfl, rfl⟩
end
end
end Go.Proofs.YthbodknlhkapdaaGreat
